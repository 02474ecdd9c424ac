/-
 Arrays of strings of the abstract machine.
-/
import Derived.Test.YtmgfcjblclanmaaGreatDoorDTO5
import Derived.Test.YtmgfcjblclanmaaGreatDoorDTO3
import Derived.Test.YtmgfcjblclanmaaGreatDoorProg
import Derived.Test.YtmgfcjblclanmaaGreatDoorChecked
import Derived.Handed
import Derived.HandedShaped
import Derived.Shelf.Vars
import Derived.KernelRfl
import Derived.Test.YtmgfcjblclanmaaGreatDoorDTO1
import Derived.Ground.NamesProg
import Derived.Shelf.SlSortCmp.NoneTotal
import Derived.Shelf.SlicesG.Cmp
import Derived.Shelf.Strings.Replace
import Derived.Shelf.Strings.OnBuilder
import Derived.Shelf.Strings.Count
import Derived.Shelf.Small.Strs
import Derived.Shelf.Strconv.Itoa3
import Derived.WalkKit
import Derived.StillTailTactics
import Derived.RegionCalls
import Derived.Deep.RegionWith
import Derived.Test.YtmgfcjblclanmaaGreatDoorDTO4
set_option linter.unusedVariables false
set_option linter.unusedSimpArgs false
set_option maxRecDepth 100000
namespace Go.Proofs.YtmgfcjblclanmaaGreatDoor
open Go.RowKit
def arrS (l : List (List UInt8)) : Option ABlk := some (.arr 9 l.length [.s fun i => l.getD i []])
theorem getD_app1 (l : List (List UInt8)) (x : List UInt8) {n : Nat} (hn : l.length = n) : (fun i => if i < n then l.getD i [] else [x].getD (i - n) []) = fun i => (l ++ [x]).getD i [] := by
 subst hn
 funext i
 simp only [List.getD_eq_getElem?_getD,List.getElem?_append]
 split <;> rfl
theorem getD_setS (l : List (List UInt8)) (x : List UInt8) {I : Nat} (hI : I < l.length) : (fun j => if j = I then x else l.getD j []) = fun j => (l.set I x).getD j [] := by
 funext j
 simp only [List.getD_eq_getElem?_getD,List.getElem?_set]
 by_cases h : j = I
 ·subst h; simp [hI]
 ·rw [if_neg h,if_neg (fun e => h e.symm)]
def ShortRows (m : Nat) (l : List (List UInt8)) : Prop := ∀ r ∈ l,r.length ≤ m
theorem ShortRows.at {m : Nat} {l : List (List UInt8)} (h : ShortRows m l) (i : Nat) : (l.getD i []).length ≤ m := by
 rw [List.getD_eq_getElem?_getD]
 cases hg : l[i]? with
 | none => simp
 | some x => exact h x (List.mem_of_getElem? hg)
theorem ShortRows.set {m : Nat} {l : List (List UInt8)} (h : ShortRows m l) (i : Nat) {x : List UInt8} (hx : x.length ≤ m) : ShortRows m (l.set i x) := fun r hr => by
 rcases List.mem_or_eq_of_mem_set hr with h1 | h1
 ·exact h r h1
 ·rw [h1]; exact hx
theorem ShortRows.snoc {m : Nat} {l : List (List UInt8)} (h : ShortRows m l) {x : List UInt8} (hx : x.length ≤ m) : ShortRows m (l ++ [x]) := fun r hr => by
 rcases List.mem_append.1 hr with h1 | h1
 ·exact h r h1
 ·rw [List.mem_singleton.1 h1]; exact hx
theorem ShortRows.mono {m n : Nat} {l : List (List UInt8)} (h : ShortRows m l) (hn : m ≤ n) : ShortRows n l := fun r hr => Nat.le_trans (h r hr) hn
end Go.Proofs.YtmgfcjblclanmaaGreatDoor
namespace Go.Proofs.YtmgfcjblclanmaaGreatDoor
open Go.RowKit
structure WafSmall (W : Waf) : Prop where
 len : W.rows.length ≤ 6
 row : ShortRows 7 W.rows
 pass : W.pass.length ≤ 2
theorem WafSmall.bd {W : Waf} (h : WafSmall W) : WafBd W := ⟨by have := h.len; omega,fun r hr => by have := h.row r hr; omega,by have := h.pass; omega⟩
set_option maxHeartbeats 4000000 in
theorem waferOfX (s nid : Nat) (nl : Bool) (A : List Int) (p : Nat) (h : s < nid) (hp : p ≤ 1099510000000) (hA : A.length ≤ 17592186044416) :
  ∃ x : Waf × Nat,(WafSmall x.1 ∧ x.2 ≤ p + 60) ∧ ACall Tryz.prog 10 [.ptr s 0] [(s,strmC nl A p)] nid (.agg [.sl nid 0 x.1.rows.length,.str x.1.pass]) [(s,strmC nl A x.2),(nid,arrS x.1.rows)] := by
 obtain ⟨e1,e2,e3,e4,e5,e6,e7,e8,e9⟩ := id_all h
 refine acall_ex c10 (by simp [a10]) ?_
 simp -dsimp only [aqT0,ROp0,aqA,↓seqK,↓blkK,↓loopK,step,stepBin,eqB,Nat.add_assoc nid,↓reduceIte,simprocAttr,LN_succ,e1,e2,e3,e4,e5,e6,e7,e8,e9,a10,strmC_low]
 refine CallX.on (range_c s _ nl A p 1 6 (by omega) (by omega) hA (by omega) (by omega) (by omega)) (subH_get (by simp only [aqA,↓seqK,↓blkK,↓loopK,step,stepBin,eqB,Nat.add_assoc nid,↓reduceIte,simprocAttr,e1,e2,e3,e4,e5,e6,e7,e8,e9])) ?_
 simp -dsimp only [aqT0,ROp0,aqA,↓seqK,↓blkK,↓loopK,step,stepBin,eqB,Nat.add_assoc nid,↓reduceIte,simprocAttr,LN_succ,e1,e2,e3,e4,e5,e6,e7,e8,e9,strmC_low]
 have hwd := rangeV_bd A p (lo := 1) (hi := 6) (by omega)
 obtain ⟨w,hw⟩ : ∃ w : Nat,rangeV A p 1 6 = w := ⟨_,(Int.toNat_of_nonneg (by omega)).symm⟩
 rw [hw] at hwd ⊢
 clear hw
 refine CallX.some_go (T := 9) (nl := nl) (A := A) (p := p + 1) (g := fun i => [[49],[49],[49,50],[49,97],[]].getD i []) (by simp only [aqA,↓seqK,↓blkK,↓loopK,step,stepBin,eqB,Nat.add_assoc nid,↓reduceIte,simprocAttr,e1,e2,e3,e4,e5,e6,e7,e8,e9]) (by simp only [aqA,↓seqK,↓blkK,↓loopK,step,stepBin,eqB,Nat.add_assoc nid,↓reduceIte,simprocAttr,e1,e2,e3,e4,e5,e6,e7,e8,e9]) (by simp only [aqA,↓seqK,↓blkK,↓loopK,step,stepBin,eqB,Nat.add_assoc nid,↓reduceIte,simprocAttr,e1,e2,e3,e4,e5,e6,e7,e8,e9]) (by omega) (by omega) hA (by omega) (by omega) ?_
 simp -dsimp only [aqT0,ROp0,aqA,↓seqK,↓blkK,↓loopK,step,stepBin,eqB,Nat.add_assoc nid,↓reduceIte,simprocAttr,LN_succ,e1,e2,e3,e4,e5,e6,e7,e8,e9,strmC_low]
 have hps := getD_all (P := fun x : List UInt8 => x.length ≤ 2) (l := [[49],[49],[49,50],[49,97],[]]) (d := []) (by simp) (pickI_lt A (p + 1) (n := 5) (by omega))
 generalize ([[49],[49],[49,50],[49,97],[]].getD (pickI A (p + 1) 5) [] : List UInt8) = pass at hps ⊢
 refine CallX.on (range_c s _ nl A (p + 1 + 1) 1 6 (by omega) (by omega) hA (by omega) (by omega) (by omega)) (subH_get (by simp only [aqA,↓seqK,↓blkK,↓loopK,step,stepBin,eqB,Nat.add_assoc nid,↓reduceIte,simprocAttr,e1,e2,e3,e4,e5,e6,e7,e8,e9])) ?_
 simp -dsimp only [aqT0,ROp0,aqA,↓seqK,↓blkK,↓loopK,step,stepBin,eqB,Nat.add_assoc nid,↓reduceIte,simprocAttr,LN_succ,e1,e2,e3,e4,e5,e6,e7,e8,e9,strmC_low]
 have hmd := rangeV_bd A (p + 1 + 1) (lo := 1) (hi := 6) (by omega)
 obtain ⟨m,hm⟩ : ∃ w : Nat,rangeV A (p + 1 + 1) 1 6 = w := ⟨_,(Int.toNat_of_nonneg (by omega)).symm⟩
 rw [hm] at hmd ⊢
 clear hm
 refine LP0.mkP (fun x : List (List UInt8) × Nat => x.1.length ≤ m ∧ ShortRows 6 x.1 ∧ x.2 ≤ p + 3 + 6 * x.1.length) (fun x => ⟨[(14,.int .i64 x.1.length),(13,.int .i64 m),(4,.ptr (nid + 32) 0),(3,.int .i64 w),(2,.ptr nid 0),(0,.ptr s 0)],
  [(s,strmC nl A x.2),(nid,some (.box 28 [.lit true 0 [],.str []])),(nid + 32,some (.box 28 [.sl (nid + 36) 0 x.1.length,.str pass])),(nid + 36,arrS x.1)],nid + 200,nid⟩) (fun x => m + 1 - x.1.length) ([],p + 1 + 1 + 1) ⟨by simp,fun r hr => by simp at hr,by simp⟩ (Cov.go [] [(nid + 36,1)] ?_) (fun x hx => ?_)
 ·simp [cvT,step,res,e1,e2,e3,e4,e5,e6,e7,e8,e9,strmC,arrS]
 obtain ⟨R,q⟩ := x
 obtain ⟨hR1,hR2,hq⟩ := hx
 simp only at hR1 hR2 hq
 unfold arrS
 simp -dsimp only [aqT0,ROp0,aqA,↓seqK,↓blkK,↓loopK,step,stepBin,eqB,Nat.add_assoc nid,↓reduceIte,simprocAttr,LN_succ,e1,e2,e3,e4,e5,e6,e7,e8,e9,strmC_low]
 refine S2.dec (fun h2 => ?_) (fun h2 => ?_) <;> simp -dsimp only [aqT0,ROp0,aqA,↓seqK,↓blkK,↓loopK,step,stepBin,eqB,Nat.add_assoc nid,↓reduceIte,simprocAttr,LN_succ,e1,e2,e3,e4,e5,e6,e7,e8,e9,strmC_low]
 ·refine LP0.mkP (fun x : List UInt8 × Nat => x.1.length ≤ w ∧ x.2 ≤ q + x.1.length) (fun x => ⟨[(17,.int .i64 x.1.length),(16,.int .i64 w),(5,.str x.1),(14,.int .i64 R.length),(13,.int .i64 m),(4,.ptr (nid + 32) 0),(3,.int .i64 w),(2,.ptr nid 0),(0,.ptr s 0)],
   [(s,strmC nl A x.2),(nid,some (.box 28 [.lit true 0 [],.str []])),(nid + 32,some (.box 28 [.sl (nid + 36) 0 R.length,.str pass])),(nid + 36,arrS R)],nid + 400,nid⟩) (fun x => w + 1 - x.1.length) ([],q) ⟨by simp,by simp⟩ (Cov.go [] [] ?_) (fun x hx => ?_)
  ·simp [cvT,step,res,e1,e2,e3,e4,e5,e6,e7,e8,e9,strmC,arrS]
  obtain ⟨t,r⟩ := x
  obtain ⟨ht1,hr⟩ := hx
  simp only at ht1 hr
  unfold arrS
  simp -dsimp only [aqT0,ROp0,aqA,↓seqK,↓blkK,↓loopK,step,stepBin,eqB,Nat.add_assoc nid,↓reduceIte,simprocAttr,LN_succ,e1,e2,e3,e4,e5,e6,e7,e8,e9,strmC_low]
  refine S2.dec (fun h3 => ?_) (fun h3 => ?_) <;> simp -dsimp only [aqT0,ROp0,aqA,↓seqK,↓blkK,↓loopK,step,stepBin,eqB,Nat.add_assoc nid,↓reduceIte,simprocAttr,LN_succ,e1,e2,e3,e4,e5,e6,e7,e8,e9,strmC_low]
  ·refine CallX.some_go (T := 9) (nl := nl) (A := A) (p := r) (g := fun i => [[49],[49],[49],[120],[120],[63],[46],[42],[50],[97]].getD i []) (by simp only [aqA,↓seqK,↓blkK,↓loopK,step,stepBin,eqB,Nat.add_assoc nid,↓reduceIte,simprocAttr,e1,e2,e3,e4,e5,e6,e7,e8,e9]) (by simp only [aqA,↓seqK,↓blkK,↓loopK,step,stepBin,eqB,Nat.add_assoc nid,↓reduceIte,simprocAttr,e1,e2,e3,e4,e5,e6,e7,e8,e9]) (by simp only [aqA,↓seqK,↓blkK,↓loopK,step,stepBin,eqB,Nat.add_assoc nid,↓reduceIte,simprocAttr,e1,e2,e3,e4,e5,e6,e7,e8,e9]) (by omega) (by omega) hA (by omega) (by omega) ?_
   simp -dsimp only [aqT0,ROp0,aqA,↓seqK,↓blkK,↓loopK,step,stepBin,eqB,Nat.add_assoc nid,↓reduceIte,simprocAttr,LN_succ,e1,e2,e3,e4,e5,e6,e7,e8,e9,strmC_low]
   have hb := getD_all (P := fun x : List UInt8 => x.length = 1) (l := [[49],[49],[49],[120],[120],[63],[46],[42],[50],[97]]) (d := []) (by simp) (pickI_lt A r (n := 10) (by omega))
   generalize ([[49],[49],[49],[120],[120],[63],[46],[42],[50],[97]].getD (pickI A r 10) [] : List UInt8) = b at hb ⊢
   have e : (t ++ b).length = t.length + 1 := by rw [List.length_append,hb]
   have e2 : ((t ++ b).length : Int) = (t.length : Int) + 1 := by omega
   refine ⟨by omega,by unfold inI64; omega,(t ++ b,r + 1),⟨⟨by simp only; omega,by simp only; omega⟩,by simp only; omega⟩,Cov.go [] [] ?_⟩
   simp [cvT,step,res,e1,e2,e3,e4,e5,e6,e7,e8,e9,strmC,arrS,e,e2,-List.length_append]
  ·have hl : (R ++ [t]).length = R.length + 1 := by simp
   rw [getD_app1 R t rfl]
   refine ⟨by omega,by unfold inI64; omega,(R ++ [t],r),⟨⟨by simp only; omega,by simp only; exact hR2.snoc (by omega),by simp only; omega⟩,by simp only; omega⟩,Cov.go [(nid + 36,nid + 420)] [] ?_⟩
   simp [cvT,step,res,e1,e2,e3,e4,e5,e6,e7,e8,e9,strmC,arrS,hl]
 have hRm : R.length = m := by omega
 refine CallX.on (flip_c s _ nl A q 12 (by omega) (by omega) hA (by omega)) (subH_get (by simp only [aqA,↓seqK,↓blkK,↓loopK,step,stepBin,eqB,Nat.add_assoc nid,↓reduceIte,simprocAttr,e1,e2,e3,e4,e5,e6,e7,e8,e9])) ?_
 simp -dsimp only [aqT0,ROp0,aqA,↓seqK,↓blkK,↓loopK,step,stepBin,eqB,Nat.add_assoc nid,↓reduceIte,simprocAttr,LN_succ,e1,e2,e3,e4,e5,e6,e7,e8,e9,strmC_low]
 refine S2.intro (fun h3 => ?_) (fun h3 => ?_) <;> simp -dsimp only [aqT0,ROp0,aqA,↓seqK,↓blkK,↓loopK,step,stepBin,eqB,Nat.add_assoc nid,↓reduceIte,simprocAttr,LN_succ,e1,e2,e3,e4,e5,e6,e7,e8,e9,strmC_low]
 ·refine CallX.on (next_c s _ nl A (q + 1) 3 (by omega) (by omega) hA (by omega)) (subH_get (by simp only [aqA,↓seqK,↓blkK,↓loopK,step,stepBin,eqB,Nat.add_assoc nid,↓reduceIte,simprocAttr,e1,e2,e3,e4,e5,e6,e7,e8,e9])) ?_
  simp -dsimp only [aqT0,ROp0,aqA,↓seqK,↓blkK,↓loopK,step,stepBin,eqB,Nat.add_assoc nid,↓reduceIte,simprocAttr,LN_succ,e1,e2,e3,e4,e5,e6,e7,e8,e9,strmC_low]
  refine S2.intro (fun h4 => ?_) (fun h4 => ?_) <;> simp -dsimp only [aqT0,ROp0,aqA,↓seqK,↓blkK,↓loopK,step,stepBin,eqB,Nat.add_assoc nid,↓reduceIte,simprocAttr,LN_succ,e1,e2,e3,e4,e5,e6,e7,e8,e9,strmC_low]
  ·refine CallX.on (next_c s _ nl A (q + 1 + 1) _ (by omega) (by omega) hA (by omega)) (subH_get (by simp only [aqA,↓seqK,↓blkK,↓loopK,step,stepBin,eqB,Nat.add_assoc nid,↓reduceIte,simprocAttr,e1,e2,e3,e4,e5,e6,e7,e8,e9])) ?_
   simp -dsimp only [aqT0,ROp0,aqA,↓seqK,↓blkK,↓loopK,step,stepBin,eqB,Nat.add_assoc nid,↓reduceIte,simprocAttr,LN_succ,e1,e2,e3,e4,e5,e6,e7,e8,e9,strmC_low]
   have hI0 := nextV_bd A (q + 1 + 1) (n := (R.length : Int)) (by omega)
   obtain ⟨I,hI⟩ : ∃ I : Nat,nextV A (q + 1 + 1) (R.length : Int) = I := ⟨_,(Int.toNat_of_nonneg hI0.1).symm⟩
   rw [hI] at hI0 ⊢
   have hIR : I < R.length := by omega
   refine ⟨by omega,?_⟩
   refine CallX.some_go (T := 9) (nl := nl) (A := A) (p := q + 1 + 1 + 1) (g := fun i => [[49],[65]].getD i []) (by simp only [aqA,↓seqK,↓blkK,↓loopK,step,stepBin,eqB,Nat.add_assoc nid,↓reduceIte,simprocAttr,e1,e2,e3,e4,e5,e6,e7,e8,e9]) (by simp only [aqA,↓seqK,↓blkK,↓loopK,step,stepBin,eqB,Nat.add_assoc nid,↓reduceIte,simprocAttr,e1,e2,e3,e4,e5,e6,e7,e8,e9]) (by simp only [aqA,↓seqK,↓blkK,↓loopK,step,stepBin,eqB,Nat.add_assoc nid,↓reduceIte,simprocAttr,e1,e2,e3,e4,e5,e6,e7,e8,e9]) (by omega) (by omega) hA (by omega) (by omega) ?_
   simp -dsimp only [aqT0,ROp0,aqA,↓seqK,↓blkK,↓loopK,step,stepBin,eqB,Nat.add_assoc nid,↓reduceIte,simprocAttr,LN_succ,e1,e2,e3,e4,e5,e6,e7,e8,e9,strmC_low]
   have hb := getD_all (P := fun x : List UInt8 => x.length ≤ 1) (l := [[49],[65]]) (d := []) (by simp) (pickI_lt A (q + 1 + 1 + 1) (n := 2) (by omega))
   generalize ([[49],[65]].getD (pickI A (q + 1 + 1 + 1) 2) [] : List UInt8) = b at hb ⊢
   have hRI := hR2.at I
   have hlb : (R.getD I [] ++ b).length ≤ 7 := by rw [List.length_append]; omega
   rw [getD_setS R _ hIR]
   refine ⟨by rw [← List.length_append]; omega,by omega,?_⟩
   refine CallX.on (flip_c s _ nl A (q + 1 + 1 + 1 + 1) 60 (by omega) (by omega) hA (by omega)) (subH_get (by simp only [aqA,↓seqK,↓blkK,↓loopK,step,stepBin,eqB,Nat.add_assoc nid,↓reduceIte,simprocAttr,e1,e2,e3,e4,e5,e6,e7,e8,e9])) ?_
   simp -dsimp only [aqT0,ROp0,aqA,↓seqK,↓blkK,↓loopK,step,stepBin,eqB,Nat.add_assoc nid,↓reduceIte,simprocAttr,LN_succ,e1,e2,e3,e4,e5,e6,e7,e8,e9,strmC_low]
   refine S2.intro (fun h7 => ?_) (fun h7 => ?_) <;> simp -dsimp only [aqT0,ROp0,aqA,↓seqK,↓blkK,↓loopK,step,stepBin,eqB,Nat.add_assoc nid,↓reduceIte,simprocAttr,LN_succ,e1,e2,e3,e4,e5,e6,e7,e8,e9,strmC_low]
   ·refine EndOK.mk (⟨[],pass⟩,(q + 1 + 1 + 1 + 1) + 1) ⟨⟨by simp,fun r hr => by simp at hr,by simp only; omega⟩,by simp only; omega⟩ ?_
    refine RetOK.go [] [(nid,1)] (.inl rfl) ?_
    simp [a10,cvT,step,res,e1,e2,e3,e4,e5,e6,e7,e8,e9,strmC,arrS]
   ·refine EndOK.mk (⟨R.set I (R.getD I [] ++ b),pass⟩,(q + 1 + 1 + 1 + 1) + 1) ⟨⟨by simp only [List.length_set]; omega,(hR2.mono (by omega)).set I hlb,by simp only; omega⟩,by simp only; omega⟩ ?_
    refine RetOK.go [(nid,nid + 36)] [] (.inl rfl) ?_
    simp [a10,cvT,step,res,e1,e2,e3,e4,e5,e6,e7,e8,e9,strmC,arrS,-List.getD_eq_getElem?_getD]
  refine S2.intro (fun h5 => ?_) (fun h5 => ?_) <;> simp -dsimp only [aqT0,ROp0,aqA,↓seqK,↓blkK,↓loopK,step,stepBin,eqB,Nat.add_assoc nid,↓reduceIte,simprocAttr,LN_succ,e1,e2,e3,e4,e5,e6,e7,e8,e9,strmC_low]
  ·refine CallX.on (next_c s _ nl A (q + 1 + 1) _ (by omega) (by omega) hA (by omega)) (subH_get (by simp only [aqA,↓seqK,↓blkK,↓loopK,step,stepBin,eqB,Nat.add_assoc nid,↓reduceIte,simprocAttr,e1,e2,e3,e4,e5,e6,e7,e8,e9])) ?_
   simp -dsimp only [aqT0,ROp0,aqA,↓seqK,↓blkK,↓loopK,step,stepBin,eqB,Nat.add_assoc nid,↓reduceIte,simprocAttr,LN_succ,e1,e2,e3,e4,e5,e6,e7,e8,e9,strmC_low]
   have hI0 := nextV_bd A (q + 1 + 1) (n := (R.length : Int)) (by omega)
   obtain ⟨I,hI⟩ : ∃ I : Nat,nextV A (q + 1 + 1) (R.length : Int) = I := ⟨_,(Int.toNat_of_nonneg hI0.1).symm⟩
   rw [hI] at hI0 ⊢
   have hIR : I < R.length := by omega
   refine CallX.some_go (T := 9) (nl := nl) (A := A) (p := q + 1 + 1 + 1) (g := fun i => [[],[65],[32]].getD i []) (by simp only [aqA,↓seqK,↓blkK,↓loopK,step,stepBin,eqB,Nat.add_assoc nid,↓reduceIte,simprocAttr,e1,e2,e3,e4,e5,e6,e7,e8,e9]) (by simp only [aqA,↓seqK,↓blkK,↓loopK,step,stepBin,eqB,Nat.add_assoc nid,↓reduceIte,simprocAttr,e1,e2,e3,e4,e5,e6,e7,e8,e9]) (by simp only [aqA,↓seqK,↓blkK,↓loopK,step,stepBin,eqB,Nat.add_assoc nid,↓reduceIte,simprocAttr,e1,e2,e3,e4,e5,e6,e7,e8,e9]) (by omega) (by omega) hA (by omega) (by omega) ?_
   simp -dsimp only [aqT0,ROp0,aqA,↓seqK,↓blkK,↓loopK,step,stepBin,eqB,Nat.add_assoc nid,↓reduceIte,simprocAttr,LN_succ,e1,e2,e3,e4,e5,e6,e7,e8,e9,strmC_low]
   have hb := getD_all (P := fun x : List UInt8 => x.length ≤ 1) (l := [[],[65],[32]]) (d := []) (by simp) (pickI_lt A (q + 1 + 1 + 1) (n := 3) (by omega))
   generalize ([[],[65],[32]].getD (pickI A (q + 1 + 1 + 1) 3) [] : List UInt8) = b at hb ⊢
   rw [getD_setS R _ hIR]
   refine ⟨by omega,?_⟩
   refine CallX.on (flip_c s _ nl A (q + 1 + 1 + 1 + 1) 60 (by omega) (by omega) hA (by omega)) (subH_get (by simp only [aqA,↓seqK,↓blkK,↓loopK,step,stepBin,eqB,Nat.add_assoc nid,↓reduceIte,simprocAttr,e1,e2,e3,e4,e5,e6,e7,e8,e9])) ?_
   simp -dsimp only [aqT0,ROp0,aqA,↓seqK,↓blkK,↓loopK,step,stepBin,eqB,Nat.add_assoc nid,↓reduceIte,simprocAttr,LN_succ,e1,e2,e3,e4,e5,e6,e7,e8,e9,strmC_low]
   refine S2.intro (fun h7 => ?_) (fun h7 => ?_) <;> simp -dsimp only [aqT0,ROp0,aqA,↓seqK,↓blkK,↓loopK,step,stepBin,eqB,Nat.add_assoc nid,↓reduceIte,simprocAttr,LN_succ,e1,e2,e3,e4,e5,e6,e7,e8,e9,strmC_low]
   ·refine EndOK.mk (⟨[],pass⟩,(q + 1 + 1 + 1 + 1) + 1) ⟨⟨by simp,fun r hr => by simp at hr,by simp only; omega⟩,by simp only; omega⟩ ?_
    refine RetOK.go [] [(nid,1)] (.inl rfl) ?_
    simp [a10,cvT,step,res,e1,e2,e3,e4,e5,e6,e7,e8,e9,strmC,arrS]
   ·refine EndOK.mk (⟨R.set I b,pass⟩,(q + 1 + 1 + 1 + 1) + 1) ⟨⟨by simp only [List.length_set]; omega,(hR2.mono (by omega)).set I (by omega),by simp only; omega⟩,by simp only; omega⟩ ?_
    refine RetOK.go [(nid,nid + 36)] [] (.inl rfl) ?_
    simp [a10,cvT,step,res,e1,e2,e3,e4,e5,e6,e7,e8,e9,strmC,arrS,-List.getD_eq_getElem?_getD]
  ·refine CallX.some_go (T := 9) (nl := nl) (A := A) (p := q + 1 + 1) (g := fun i => [[50,49],[49,49],[65],[63]].getD i []) (by simp only [aqA,↓seqK,↓blkK,↓loopK,step,stepBin,eqB,Nat.add_assoc nid,↓reduceIte,simprocAttr,e1,e2,e3,e4,e5,e6,e7,e8,e9]) (by simp only [aqA,↓seqK,↓blkK,↓loopK,step,stepBin,eqB,Nat.add_assoc nid,↓reduceIte,simprocAttr,e1,e2,e3,e4,e5,e6,e7,e8,e9]) (by simp only [aqA,↓seqK,↓blkK,↓loopK,step,stepBin,eqB,Nat.add_assoc nid,↓reduceIte,simprocAttr,e1,e2,e3,e4,e5,e6,e7,e8,e9]) (by omega) (by omega) hA (by omega) (by omega) ?_
   simp -dsimp only [aqT0,ROp0,aqA,↓seqK,↓blkK,↓loopK,step,stepBin,eqB,Nat.add_assoc nid,↓reduceIte,simprocAttr,LN_succ,e1,e2,e3,e4,e5,e6,e7,e8,e9,strmC_low]
   have hb := getD_all (P := fun x : List UInt8 => x.length ≤ 2) (l := [[50,49],[49,49],[65],[63]]) (d := []) (by simp) (pickI_lt A (q + 1 + 1) (n := 4) (by omega))
   generalize ([[50,49],[49,49],[65],[63]].getD (pickI A (q + 1 + 1) 4) [] : List UInt8) = b at hb ⊢
   refine CallX.on (flip_c s _ nl A (q + 1 + 1 + 1) 60 (by omega) (by omega) hA (by omega)) (subH_get (by simp only [aqA,↓seqK,↓blkK,↓loopK,step,stepBin,eqB,Nat.add_assoc nid,↓reduceIte,simprocAttr,e1,e2,e3,e4,e5,e6,e7,e8,e9])) ?_
   simp -dsimp only [aqT0,ROp0,aqA,↓seqK,↓blkK,↓loopK,step,stepBin,eqB,Nat.add_assoc nid,↓reduceIte,simprocAttr,LN_succ,e1,e2,e3,e4,e5,e6,e7,e8,e9,strmC_low]
   refine S2.intro (fun h7 => ?_) (fun h7 => ?_) <;> simp -dsimp only [aqT0,ROp0,aqA,↓seqK,↓blkK,↓loopK,step,stepBin,eqB,Nat.add_assoc nid,↓reduceIte,simprocAttr,LN_succ,e1,e2,e3,e4,e5,e6,e7,e8,e9,strmC_low]
   ·refine EndOK.mk (⟨[],b⟩,(q + 1 + 1 + 1) + 1) ⟨⟨by simp,fun r hr => by simp at hr,by simp only; omega⟩,by simp only; omega⟩ ?_
    refine RetOK.go [] [(nid,1)] (.inl rfl) ?_
    simp [a10,cvT,step,res,e1,e2,e3,e4,e5,e6,e7,e8,e9,strmC,arrS]
   ·refine EndOK.mk (⟨R,b⟩,(q + 1 + 1 + 1) + 1) ⟨⟨by simp only [List.length_set]; omega,hR2.mono (by omega),by simp only; omega⟩,by simp only; omega⟩ ?_
    refine RetOK.go [(nid,nid + 36)] [] (.inl rfl) ?_
    simp [a10,cvT,step,res,e1,e2,e3,e4,e5,e6,e7,e8,e9,strmC,arrS,-List.getD_eq_getElem?_getD]
 ·refine CallX.on (flip_c s _ nl A (q + 1) 60 (by omega) (by omega) hA (by omega)) (subH_get (by simp only [aqA,↓seqK,↓blkK,↓loopK,step,stepBin,eqB,Nat.add_assoc nid,↓reduceIte,simprocAttr,e1,e2,e3,e4,e5,e6,e7,e8,e9])) ?_
  simp -dsimp only [aqT0,ROp0,aqA,↓seqK,↓blkK,↓loopK,step,stepBin,eqB,Nat.add_assoc nid,↓reduceIte,simprocAttr,LN_succ,e1,e2,e3,e4,e5,e6,e7,e8,e9,strmC_low]
  refine S2.intro (fun h7 => ?_) (fun h7 => ?_) <;> simp -dsimp only [aqT0,ROp0,aqA,↓seqK,↓blkK,↓loopK,step,stepBin,eqB,Nat.add_assoc nid,↓reduceIte,simprocAttr,LN_succ,e1,e2,e3,e4,e5,e6,e7,e8,e9,strmC_low]
  ·refine EndOK.mk (⟨[],pass⟩,(q + 1) + 1) ⟨⟨by simp,fun r hr => by simp at hr,by simp only; omega⟩,by simp only; omega⟩ ?_
   refine RetOK.go [] [(nid,1)] (.inl rfl) ?_
   simp [a10,cvT,step,res,e1,e2,e3,e4,e5,e6,e7,e8,e9,strmC,arrS]
  ·refine EndOK.mk (⟨R,pass⟩,(q + 1) + 1) ⟨⟨by simp only [List.length_set]; omega,hR2.mono (by omega),by simp only; omega⟩,by simp only; omega⟩ ?_
   refine RetOK.go [(nid,nid + 36)] [] (.inl rfl) ?_
   simp [a10,cvT,step,res,e1,e2,e3,e4,e5,e6,e7,e8,e9,strmC,arrS,-List.getD_eq_getElem?_getD]
end Go.Proofs.YtmgfcjblclanmaaGreatDoor
namespace Go.Proofs.YtmgfcjblclanmaaGreatDoor
def untB (W : Waf) (p : Pt) : Bool := dieV W p.1 p.2 == 63
def opV (W : Waf) : List Pt := (plV W).filter (untB W)
def touchL (card : List Pt) (at' : Pt) : List Pt := card.map fun p => (at'.1 + p.1,at'.2 + p.2)
def maskT (op : List Pt) (q : List Pt) : Nat := maskB (fun i => q.contains (op.getD i p0)) op.length
def tV (W : Waf) (card : List Pt) (at' : Pt) : List Pt := (touchL card at').filter (untB W)
theorem rowPl_nodup (y n : Nat) : (rowPl y n).Nodup := by
 unfold rowPl
 refine List.Pairwise.map _ (fun a b h e => ?_) List.nodup_range
 have := congrArg Prod.fst e
 simp at this
 exact h (by omega)
theorem plTo_nodup (W : Waf) : ∀ y,(plTo W y).Nodup ∧ ∀ p ∈ plTo W y,p.2 < (y : Int)
 | 0 => ⟨List.Pairwise.nil,fun p hp => by unfold plTo at hp; simp at hp⟩
 | y + 1 => by
  obtain ⟨h1,h2⟩ := plTo_nodup W y
  have hr : ∀ p ∈ rowPl y (W.rows.getD y []).length,p.2 = (y : Int) := fun p hp => by
   unfold rowPl at hp
   obtain ⟨x,_,rfl⟩ := List.mem_map.1 hp
   rfl
  rw [plTo_succ]
  refine ⟨List.nodup_append.2 ⟨h1,rowPl_nodup _ _,fun a ha b hb e => ?_⟩,fun p hp => ?_⟩
  ·have := h2 a ha
   rw [e,hr b hb] at this
   omega
  ·rcases List.mem_append.1 hp with hp | hp
   ·have := h2 p hp; omega
   ·have := hr p hp; omega
theorem plV_nodup (W : Waf) : (plV W).Nodup := (plTo_nodup W _).1
theorem opV_nodup (W : Waf) : (opV W).Nodup := (plV_nodup W).filter _
theorem plTo_has {W : Waf} {x y : Nat} : ∀ {k : Nat},y < k → x < (W.rows.getD y []).length → ((x : Int),(y : Int)) ∈ plTo W k
 | 0,h,_ => absurd h (by omega)
 | k + 1,h,hx => by
  rw [plTo_succ]
  rcases (by omega : y < k ∨ y = k) with h | rfl
  ·exact List.mem_append_left _ (plTo_has h hx)
  ·refine List.mem_append_right _ ?_
   unfold rowPl
   exact List.mem_map.2 ⟨x,List.mem_range.2 hx,rfl⟩
theorem plV_has {W : Waf} (h : WafOk W) {p : Pt} (hp : dieV W p.1 p.2 ≠ 46) : p ∈ plV W := by
 obtain ⟨x,y⟩ := p
 simp only at hp
 unfold dieV outB at hp
 split at hp
 ·exact absurd rfl hp
 ·split at hp
  ·exact absurd rfl hp
  ·rename_i h1 h2
   simp at h1 h2
   obtain ⟨a,rfl⟩ : ∃ a : Nat,x = a := ⟨x.toNat,by omega⟩
   obtain ⟨b,rfl⟩ : ∃ b : Nat,y = b := ⟨y.toNat,by omega⟩
   have hm : W.rows.getD b [] ∈ W.rows := by
    rw [List.getD_eq_getElem?_getD,List.getElem?_eq_getElem (by omega : b < W.rows.length)]; exact List.getElem_mem _
   refine plTo_has (by omega) ?_
   rw [(h.row _ hm).2.2.1]
   omega
theorem opV_mem {W : Waf} (h : WafOk W) {p : Pt} : p ∈ opV W ↔ untB W p = true := by
 unfold opV
 rw [List.mem_filter]
 refine ⟨fun h => h.2,fun hu => ⟨plV_has h ?_,hu⟩⟩
 unfold untB at hu
 rw [beq_iff_eq] at hu
 omega
theorem maskT_test (op q : List Pt) (i : Nat) : (maskT op q).testBit i = true ↔ i < op.length ∧ op.getD i p0 ∈ q := by
 unfold maskT
 rw [maskB_test,Bool.and_eq_true,decide_eq_true_eq,List.contains_iff_mem]
theorem touchL_nodup {card : List Pt} (hc : card.Nodup) (a : Pt) : (touchL card a).Nodup := by
 unfold touchL
 refine List.Pairwise.map _ (fun p q h e => h ?_) hc
 have h1 := congrArg Prod.fst e
 have h2 := congrArg Prod.snd e
 simp only at h1 h2
 exact Prod.ext (by omega) (by omega)
def setT (W : Waf) (card : List Pt) (a : Pt) : Nat := maskT (opV W) (touchL card a)
theorem idx_of {l : List Pt} {p : Pt} (h : p ∈ l) : ∃ i,i < l.length ∧ l.getD i p0 = p := by
 obtain ⟨i,hi,rfl⟩ := List.getElem_of_mem h
 exact ⟨i,hi,by rw [List.getD_eq_getElem?_getD,List.getElem?_eq_getElem hi]; rfl⟩
def downP (card : List Pt) (p : Pt) : Pt := (p.1 - (card.getD 0 p0).1,p.2 - (card.getD 0 p0).2)
def badT (W : Waf) (S : List Pt) (q : Pt) : Bool := testedV (dieV W q.1 q.2) || S.contains q
def rowS (W : Waf) (card : List Pt) (st : List Pt × List Pt × Nat) (p : Pt) : List Pt × List Pt × Nat :=
 if (untB W p && !st.1.contains p) = true then (st.1 ++ tV W card (downP card p),st.2.1 ++ [downP card p],st.2.2 + ((touchL card (downP card p)).filter (badT W st.1)).length) else st
def rowsV (W : Waf) (card : List Pt) : List Pt × List Pt × Nat := (plV W).foldl (rowS W card) ([],[],0)
theorem rowS_skip {W : Waf} {card : List Pt} {st : List Pt × List Pt × Nat} {p : Pt} (h : untB W p = false) : rowS W card st p = st := by
 unfold rowS
 rw [h,Bool.false_and,if_neg (by simp)]
theorem rowsV_op (W : Waf) (card : List Pt) : rowsV W card = (opV W).foldl (rowS W card) ([],[],0) := by
 unfold rowsV opV
 generalize (([],[],0) : List Pt × List Pt × Nat) = st
 induction plV W generalizing st with
 | nil => rfl
 | cons p l ih =>
  rw [List.foldl_cons,ih,List.filter_cons]
  cases hu : untB W p
  ·rw [rowS_skip hu]; simp
  ·simp
def TdOk (W : Waf) (card : List Pt) (L : List Pt) : Prop := ∀ a,a ∈ L ↔ (∃ p ∈ opV W,∃ s ∈ card,a = (p.1 - s.1,p.2 - s.2)) ∧ ∀ q ∈ touchL card a,testedV (dieV W q.1 q.2) = false
theorem getD_map_set {W : Waf} {card L : List Pt} {i : Nat} (hi : i < L.length) : (L.map (setT W card)).getD i 0 = setT W card (L.getD i p0) := by
 rw [List.getD_eq_getElem?_getD,List.getElem?_map,List.getD_eq_getElem?_getD,List.getElem?_eq_getElem hi]
 rfl
end Go.Proofs.YtmgfcjblclanmaaGreatDoor
namespace Go.Proofs.YtmgfcjblclanmaaGreatDoor
theorem firstBad_nil0 {α : Type} {f : α → Int} : ∀ {l : List α},(∀ a ∈ l,f a = 0) → firstBad f l = 0
 | [],_ => rfl
 | a :: l,h => by
  have h0 := h a (by simp)
  have ih := firstBad_nil0 (f := f) (l := l) fun b hb => h b (by simp [hb])
  simp [firstBad,h0,ih]
theorem rowBad_ok {wide : Nat} {r : List UInt8} (h1 : r ≠ []) (h2 : r.length ≤ 60) (h3 : r.length = wide) (h4 : oddB r = false) : rowBad wide r = 0 := by
 unfold rowBad
 rw [if_neg h1,if_neg (by omega),if_neg (by omega),if_neg (by rw [h4]; simp)]
end Go.Proofs.YtmgfcjblclanmaaGreatDoor
namespace Go.Proofs.YtmgfcjblclanmaaGreatDoor
open Go.RowKit
def FewR (w : Nat) (r : List UInt8) : Prop := r.length = w ∧ ∀ b ∈ r,b = 63 ∨ b = 49 ∨ b = 46
structure FewW (W : Waf) : Prop where
 lo : 1 ≤ W.rows.length
 hi : W.rows.length ≤ 3
 row : ∃ w,1 ≤ w ∧ w ≤ 4 ∧ ∀ r ∈ W.rows,FewR w r
 pass : W.pass = [49]
theorem FewW.small {W : Waf} (h : FewW W) : WafSmall W := by
 obtain ⟨w,h1,h2,h3⟩ := h.row
 exact ⟨by have := h.hi; omega,fun r hr => by rw [(h3 r hr).1]; omega,by rw [h.pass]; decide⟩
theorem FewW.right {W : Waf} (h : FewW W) : waferV W = 0 := by
 obtain ⟨w,h1,h2,h3⟩ := h.row
 have hlo := h.lo
 have hhi := h.hi
 have hw : wideOf W = w := by
  unfold wideOf
  rw [List.getD_eq_getElem?_getD,List.getElem?_eq_getElem (by omega)]
  exact (h3 _ (List.getElem_mem _)).1
 have hr : firstBad (rowBad (wideOf W)) W.rows = 0 := firstBad_nil0 fun r hr => by
  obtain ⟨a1,a2⟩ := h3 r hr
  refine rowBad_ok (fun hn => ?_) (by omega) (by rw [hw]; exact a1) ?_
  ·rw [hn] at a1; simp at a1; omega
  ·unfold oddB
   rw [List.any_eq_false]
   intro b hb
   rcases a2 b hb with rfl | rfl | rfl <;> decide
 unfold waferV
 rw [if_neg (by omega),if_neg (by omega),if_neg (by rw [hr]; simp),h.pass]
 decide
theorem FewW.places {W : Waf} (h : FewW W) : (plV W).length ≤ 12 := by
 obtain ⟨w,h1,h2,h3⟩ := h.row
 have hhi := h.hi
 have hk : ∀ k,k ≤ W.rows.length → (plTo W k).length ≤ 4 * k := by
  intro k
  induction k with
  | zero => simp [plTo]
  | succ k ih =>
   intro hk
   have hm : W.rows.getD k [] ∈ W.rows := by
    rw [List.getD_eq_getElem?_getD,List.getElem?_eq_getElem (by omega : k < W.rows.length)]; exact List.getElem_mem _
   have h4 := (h3 _ hm).1
   have h5 := ih (by omega)
   rw [plTo_succ,List.length_append,rowPl_len]
   omega
 have := hk _ (Nat.le_refl _)
 unfold plV
 omega
theorem FewW.few {W : Waf} (h : FewW W) : (opV W).length ≤ 12 := by
 have h1 := h.places
 have h2 := List.length_filter_le (untB W) (plV W)
 unfold opV
 omega
set_option maxHeartbeats 4000000 in
theorem fewX (s nid : Nat) (nl : Bool) (A : List Int) (p : Nat) (h : s < nid) (hp : p ≤ 1099510000000) (hA : A.length ≤ 17592186044416) :
  ∃ x : Waf × Nat,(FewW x.1 ∧ x.2 ≤ p + 60) ∧ ACall Tryz.prog 6 [.ptr s 0] [(s,strmC nl A p)] nid (.agg [.sl nid 0 x.1.rows.length,.str x.1.pass]) [(s,strmC nl A x.2),(nid,arrS x.1.rows)] := by
 obtain ⟨e1,e2,e3,e4,e5,e6,e7,e8,e9⟩ := id_all h
 refine acall_ex c6 (by simp [a6]) ?_
 simp -dsimp only [aqT0,ROp0,aqA,↓seqK,↓blkK,↓loopK,step,stepBin,eqB,Nat.add_assoc nid,↓reduceIte,simprocAttr,LN_succ,e1,e2,e3,e4,e5,e6,e7,e8,e9,a6,strmC_low]
 refine CallX.on (range_c s _ nl A p 1 4 (by omega) (by omega) hA (by omega) (by omega) (by omega)) (subH_get (by simp only [aqA,↓seqK,↓blkK,↓loopK,step,stepBin,eqB,Nat.add_assoc nid,↓reduceIte,simprocAttr,e1,e2,e3,e4,e5,e6,e7,e8,e9])) ?_
 simp -dsimp only [aqT0,ROp0,aqA,↓seqK,↓blkK,↓loopK,step,stepBin,eqB,Nat.add_assoc nid,↓reduceIte,simprocAttr,LN_succ,e1,e2,e3,e4,e5,e6,e7,e8,e9,strmC_low]
 have hwd := rangeV_bd A p (lo := 1) (hi := 4) (by omega)
 obtain ⟨w,hw⟩ : ∃ w : Nat,rangeV A p 1 4 = w := ⟨_,(Int.toNat_of_nonneg (by omega)).symm⟩
 rw [hw] at hwd ⊢
 clear hw
 refine CallX.on (range_c s _ nl A (p + 1) 1 3 (by omega) (by omega) hA (by omega) (by omega) (by omega)) (subH_get (by simp only [aqA,↓seqK,↓blkK,↓loopK,step,stepBin,eqB,Nat.add_assoc nid,↓reduceIte,simprocAttr,e1,e2,e3,e4,e5,e6,e7,e8,e9])) ?_
 simp -dsimp only [aqT0,ROp0,aqA,↓seqK,↓blkK,↓loopK,step,stepBin,eqB,Nat.add_assoc nid,↓reduceIte,simprocAttr,LN_succ,e1,e2,e3,e4,e5,e6,e7,e8,e9,strmC_low]
 have hmd := rangeV_bd A (p + 1) (lo := 1) (hi := 3) (by omega)
 obtain ⟨m,hm⟩ : ∃ w : Nat,rangeV A (p + 1) 1 3 = w := ⟨_,(Int.toNat_of_nonneg (by omega)).symm⟩
 rw [hm] at hmd ⊢
 clear hm
 refine LP0.mkP (fun x : List (List UInt8) × Nat => x.1.length ≤ m ∧ (∀ r ∈ x.1,FewR w r) ∧ x.2 ≤ p + 2 + 4 * x.1.length) (fun x => ⟨[(11,.int .i64 x.1.length),(10,.int .i64 m),(4,.ptr (nid + 20) 0),(3,.int .i64 w),(2,.ptr nid 0),(0,.ptr s 0)],
  [(s,strmC nl A x.2),(nid,some (.box 28 [.lit true 0 [],.str []])),(nid + 20,some (.box 28 [.sl (nid + 24) 0 x.1.length,.str [49]])),(nid + 24,arrS x.1)],nid + 200,nid⟩) (fun x => m + 1 - x.1.length) ([],p + 1 + 1) ⟨by simp,fun r hr => by simp at hr,by simp⟩ (Cov.go [] [(nid + 24,1)] ?_) (fun x hx => ?_)
 ·simp [cvT,step,res,e1,e2,e3,e4,e5,e6,e7,e8,e9,strmC,arrS]
 obtain ⟨R,q⟩ := x
 obtain ⟨hR1,hR2,hq⟩ := hx
 simp only at hR1 hR2 hq
 unfold arrS
 simp -dsimp only [aqT0,ROp0,aqA,↓seqK,↓blkK,↓loopK,step,stepBin,eqB,Nat.add_assoc nid,↓reduceIte,simprocAttr,LN_succ,e1,e2,e3,e4,e5,e6,e7,e8,e9,strmC_low]
 refine S2.dec (fun h2 => ?_) (fun h2 => ?_) <;> simp -dsimp only [aqT0,ROp0,aqA,↓seqK,↓blkK,↓loopK,step,stepBin,eqB,Nat.add_assoc nid,↓reduceIte,simprocAttr,LN_succ,e1,e2,e3,e4,e5,e6,e7,e8,e9,strmC_low]
 ·refine LP0.mkP (fun x : List UInt8 × Nat => x.1.length ≤ w ∧ (∀ b ∈ x.1,b = 63 ∨ b = 49 ∨ b = 46) ∧ x.2 ≤ q + x.1.length) (fun x => ⟨[(14,.int .i64 x.1.length),(13,.int .i64 w),(5,.str x.1),(11,.int .i64 R.length),(10,.int .i64 m),(4,.ptr (nid + 20) 0),(3,.int .i64 w),(2,.ptr nid 0),(0,.ptr s 0)],
   [(s,strmC nl A x.2),(nid,some (.box 28 [.lit true 0 [],.str []])),(nid + 20,some (.box 28 [.sl (nid + 24) 0 R.length,.str [49]])),(nid + 24,arrS R)],nid + 400,nid⟩) (fun x => w + 1 - x.1.length) ([],q) ⟨by simp,by simp,by simp⟩ (Cov.go [] [] ?_) (fun x hx => ?_)
  ·simp [cvT,step,res,e1,e2,e3,e4,e5,e6,e7,e8,e9,strmC,arrS]
  obtain ⟨t,r⟩ := x
  obtain ⟨ht1,ht2,hr⟩ := hx
  simp only at ht1 ht2 hr
  unfold arrS
  simp -dsimp only [aqT0,ROp0,aqA,↓seqK,↓blkK,↓loopK,step,stepBin,eqB,Nat.add_assoc nid,↓reduceIte,simprocAttr,LN_succ,e1,e2,e3,e4,e5,e6,e7,e8,e9,strmC_low]
  refine S2.dec (fun h3 => ?_) (fun h3 => ?_) <;> simp -dsimp only [aqT0,ROp0,aqA,↓seqK,↓blkK,↓loopK,step,stepBin,eqB,Nat.add_assoc nid,↓reduceIte,simprocAttr,LN_succ,e1,e2,e3,e4,e5,e6,e7,e8,e9,strmC_low]
  ·refine CallX.some_go (T := 9) (nl := nl) (A := A) (p := r) (g := fun i => [[63],[63],[63],[63],[49],[46]].getD i []) (by simp only [aqA,↓seqK,↓blkK,↓loopK,step,stepBin,eqB,Nat.add_assoc nid,↓reduceIte,simprocAttr,e1,e2,e3,e4,e5,e6,e7,e8,e9]) (by simp only [aqA,↓seqK,↓blkK,↓loopK,step,stepBin,eqB,Nat.add_assoc nid,↓reduceIte,simprocAttr,e1,e2,e3,e4,e5,e6,e7,e8,e9]) (by simp only [aqA,↓seqK,↓blkK,↓loopK,step,stepBin,eqB,Nat.add_assoc nid,↓reduceIte,simprocAttr,e1,e2,e3,e4,e5,e6,e7,e8,e9]) (by omega) (by omega) hA (by omega) (by omega) ?_
   simp -dsimp only [aqT0,ROp0,aqA,↓seqK,↓blkK,↓loopK,step,stepBin,eqB,Nat.add_assoc nid,↓reduceIte,simprocAttr,LN_succ,e1,e2,e3,e4,e5,e6,e7,e8,e9,strmC_low]
   have hb := getD_all (P := fun x : List UInt8 => x.length = 1 ∧ ∀ b ∈ x,b = 63 ∨ b = 49 ∨ b = 46) (l := [[63],[63],[63],[63],[49],[46]]) (d := []) (by simp) (pickI_lt A r (n := 6) (by omega))
   generalize ([[63],[63],[63],[63],[49],[46]].getD (pickI A r 6) [] : List UInt8) = b at hb ⊢
   have e : (t ++ b).length = t.length + 1 := by rw [List.length_append,hb.1]
   have e2 : ((t ++ b).length : Int) = (t.length : Int) + 1 := by omega
   refine ⟨by omega,by unfold inI64; omega,(t ++ b,r + 1),⟨⟨by simp only; omega,fun c hc => ?_,by simp only; omega⟩,by simp only; omega⟩,Cov.go [] [] ?_⟩
   ·rcases List.mem_append.1 hc with hc | hc
    ·exact ht2 c hc
    ·exact hb.2 c hc
   ·simp [cvT,step,res,e1,e2,e3,e4,e5,e6,e7,e8,e9,strmC,arrS,e,e2,-List.length_append]
  ·have hl : (R ++ [t]).length = R.length + 1 := by simp
   rw [getD_app1 R t rfl]
   refine ⟨by omega,by unfold inI64; omega,(R ++ [t],r),⟨⟨by simp only; omega,fun c hc => ?_,by simp only; omega⟩,by simp only; omega⟩,Cov.go [(nid + 24,nid + 420)] [] ?_⟩
   ·rcases List.mem_append.1 hc with hc | hc
    ·exact hR2 c hc
    ·rw [List.mem_singleton.1 hc]; exact ⟨by omega,ht2⟩
   ·simp [cvT,step,res,e1,e2,e3,e4,e5,e6,e7,e8,e9,strmC,arrS,hl]
 have hRm : R.length = m := by omega
 refine EndOK.mk (⟨R,[49]⟩,q) ⟨⟨by simp only; omega,by simp only; omega,⟨w,by omega,by omega,hR2⟩,rfl⟩,by simp only; omega⟩ ?_
 refine RetOK.go [(nid,nid + 24)] [] (.inl rfl) ?_
 simp [a6,cvT,step,res,e1,e2,e3,e4,e5,e6,e7,e8,e9,strmC,arrS]
end Go.Proofs.YtmgfcjblclanmaaGreatDoor
namespace Go.Proofs.YtmgfcjblclanmaaGreatDoor
open Go.RowKit
theorem first_c (nl : Bool) (l : List Int) (nid : Nat) (hl : l.length ≤ 1000000000) : ACall Tryz.prog 122 [litI nl l] [] nid (.int .i64 (firstBad (fun x : Int => x) l)) [] := by
 refine acall_run c122 (by simp [a122]) ?_
 unfold litI
 simp -dsimp only [aqA,↓seqK,↓blkK,↓loopK,step,stepBin,eqB,Nat.add_assoc nid,↓reduceIte,simprocAttr,a122]
 refine LP.mkP (fun k : Nat => k ≤ l.length ∧ firstBad (fun x : Int => x) (l.take k) = 0) (fun k : Nat => ⟨[(7,.int .i64 k),(6,.int .i64 l.length),(5,litI nl l)],[],nid + 100,nid⟩) (fun k => l.length + 1 - k) 0 ⟨by omega,rfl⟩ (Cov.go [] [] ?_) (fun k hk => ?_)
 ·simp [cvT,step,res,litI]
 unfold litI
 obtain ⟨hk,hb⟩ := hk
 simp -dsimp only [aqA,↓seqK,↓blkK,↓loopK,step,stepBin,eqB,Nat.add_assoc nid,↓reduceIte,simprocAttr,LN_succ]
 refine S2.dec (fun h3 => ?_) (fun h3 => ?_) <;> simp -dsimp only [aqA,↓seqK,↓blkK,↓loopK,step,stepBin,eqB,Nat.add_assoc nid,↓reduceIte,simprocAttr,LN_succ]
 ·have hkl : k < l.length := by omega
  obtain ⟨bad,good⟩ := rowsFB (d := 0) (f := fun x : Int => x) hkl hb
  refine ⟨by omega,S2.intro (fun h4 => ?_) (fun h4 => ?_)⟩ <;> simp -dsimp only [aqA,↓seqK,↓blkK,↓loopK,step,stepBin,eqB,Nat.add_assoc nid,↓reduceIte,simprocAttr,LN_succ]
  ·rw [bad (by simpa using h4)]
   refine RetOK.pure (.inl rfl) rfl ?_
   simp [cvT,step,res]
  ·refine ⟨by unfold inI64; omega,k + 1,⟨⟨by omega,good (by simpa using h4)⟩,by omega⟩,Cov.go [] [] ?_⟩
   simp [cvT,step,res,litI]
 ·have hkn : k = l.length := by omega
  subst hkn
  rw [List.take_length] at hb
  rw [hb]
  refine RetOK.pure (.inl rfl) rfl ?_
  simp [cvT,step,res]
theorem at_all (nl : Bool) (W : Waf) (x y : Int) (nid : Nat) (hW : WafOk W) (hx : inI64 x) (hy : inI64 y) : ACall Tryz.prog 60 [wafP nl W,.agg [.int .i64 x,.int .i64 y]] [] nid (.int .u8 (dieV W x y)) [] := by
 have hp := hW.pos
 have hl := hW.len
 obtain ⟨hw1,hw2⟩ := hW.wide
 have hw0 : wideOf W = (W.rows.getD 0 []).length := rfl
 refine acall_run c60 (by simp [a60]) ?_
 unfold wafP
 simp -dsimp only [a60,aqA,↓seqK,↓blkK,↓loopK,step,stepBin,eqB,Nat.add_assoc nid,↓reduceIte,simprocAttr,LN_succ]
 refine ⟨by unfold inI64; omega,CallX.pure (out_c _ _ _ _) ?_⟩
 simp -dsimp only [aqA,↓seqK,↓blkK,↓loopK,step,stepBin,eqB,Nat.add_assoc nid,↓reduceIte,simprocAttr,LN_succ]
 cases h1 : outB y 0 ((W.rows.length : Int) - 1) <;> simp -dsimp only [aqA,↓seqK,↓blkK,↓loopK,step,stepBin,eqB,Nat.add_assoc nid,↓reduceIte,simprocAttr,LN_succ]
 ·refine ⟨by omega,by unfold inI64; omega,CallX.pure (out_c _ _ _ _) ?_⟩
  simp -dsimp only [aqA,↓seqK,↓blkK,↓loopK,step,stepBin,eqB,Nat.add_assoc nid,↓reduceIte,simprocAttr,LN_succ]
  rw [← hw0]
  cases h2 : outB x 0 ((wideOf W : Int) - 1) <;> simp -dsimp only [aqA,↓seqK,↓blkK,↓loopK,step,stepBin,eqB,Nat.add_assoc nid,↓reduceIte,simprocAttr,LN_succ]
  ·have hy1 : 0 ≤ y ∧ y < W.rows.length := by unfold outB at h1; simp at h1; omega
   have hx1 : 0 ≤ x ∧ x < wideOf W := by unfold outB at h2; simp at h2; omega
   have hr := (hW.at (y := y.toNat) (by omega)).1
   have e : dieV W x y = byteI ((W.rows.getD y.toNat []).getD x.toNat 0) := by unfold dieV; rw [h1,h2,if_neg (by simp),if_neg (by simp)]
   rw [e]
   refine ⟨by omega,by omega,?_⟩
   refine RetOK.pure (.inl rfl) rfl ?_
   simp [cvT,step,res,byteI]
  ·have e : dieV W x y = 46 := by unfold dieV; rw [h1,h2,if_neg (by simp),if_pos rfl]
   rw [e]
   refine RetOK.pure (.inl rfl) rfl ?_
   simp [cvT,step,res]
 ·have e : dieV W x y = 46 := by unfold dieV; rw [h1,if_pos rfl]
  rw [e]
  refine RetOK.pure (.inl rfl) rfl ?_
  simp [cvT,step,res]
def arrPl (l : List Pt) : Option ABlk := some (.arr 34 l.length [.i .i64 fun i => (l.getD i p0).1,.i .i64 fun i => (l.getD i p0).2])
def litPl (nl : Bool) (l : List Pt) : PV := .lit nl l.length [.i .i64 fun i => (l.getD i p0).1,.i .i64 fun i => (l.getD i p0).2]
theorem getD_appP (l : List Pt) (x : Pt) {n : Nat} (hn : l.length = n) (f : Pt → Int) (h0 : f p0 = 0) {v : Int} (hv : v = f x) : (fun i => if i < n then f (l.getD i p0) else [v].getD (i - n) 0) = fun i => f ((l ++ [x]).getD i p0) := by
 subst hn
 subst hv
 funext i
 simp only [List.getD_eq_getElem?_getD,List.getElem?_append]
 split
 ·rfl
 ·cases h : i - l.length with
  | zero => rfl
  | succ k => simp [h0]
end Go.Proofs.YtmgfcjblclanmaaGreatDoor
namespace Go.Proofs.YtmgfcjblclanmaaGreatDoor
open Go.RowKit
theorem plTo_bd {W : Waf} (hW : WafOk W) {y : Nat} (hy : y ≤ W.rows.length) : (plTo W y).length ≤ 60000 := by
 have h := plTo_len (W := W) (fun r hr => by have := (hW.row r hr).2.1; omega) y hy
 have := hW.len
 omega
set_option maxHeartbeats 4000000 in
theorem places_all (nl : Bool) (W : Waf) (nid : Nat) (hW : WafOk W) : ACall Tryz.prog 59 [wafP nl W] [] nid (.sl nid 0 (plV W).length) [(nid,arrPl (plV W))] := by
 have hl := hW.len
 refine acall_run c59 (by simp [a59]) ?_
 unfold wafP
 simp -dsimp only [a59,aqA,↓seqK,↓blkK,↓loopK,step,stepBin,eqB,Nat.add_assoc nid,↓reduceIte,simprocAttr,LN_succ]
 refine LP.mkP (fun y : Nat => y ≤ W.rows.length) (fun y : Nat => ⟨[(10,.int .i64 y),(9,.int .i64 W.rows.length),(8,.lit nl W.rows.length [.s fun i => W.rows.getD i []]),(3,.sl (nid + 8) 0 (plTo W y).length)],[(nid + 8,arrPl (plTo W y))],nid + 100,nid⟩) (fun y => W.rows.length + 1 - y) 0 (by omega) (Cov.go [] [(nid + 8,2)] ?_) (fun y hy => ?_)
 ·simp [cvT,step,res,arrPl,plTo]
 unfold arrPl
 simp -dsimp only [aqA,↓seqK,↓blkK,↓loopK,step,stepBin,eqB,Nat.add_assoc nid,↓reduceIte,simprocAttr,LN_succ]
 refine S2.dec (fun h1 => ?_) (fun h1 => ?_) <;> simp -dsimp only [aqA,↓seqK,↓blkK,↓loopK,step,stepBin,eqB,Nat.add_assoc nid,↓reduceIte,simprocAttr,LN_succ]
 ·have hyl : y < W.rows.length := by omega
  have hrl := (hW.at hyl).1
  have hw2 := hW.wide.2
  have hts := plTo_succ W y
  have htb := plTo_bd hW (y := y) (by omega)
  generalize hr : W.rows.getD y [] = r at *
  generalize plTo W y = T at *
  refine ⟨by omega,LP.mkP (fun x : Nat => x ≤ r.length) (fun x : Nat => ⟨[(17,.int .i64 x),(16,.int .i64 r.length),(4,.int .i64 y),(10,.int .i64 y),(9,.int .i64 W.rows.length),(8,.lit nl W.rows.length [.s fun i => W.rows.getD i []]),(3,.sl (nid + 8) 0 (T ++ rowPl y x).length)],[(nid + 8,arrPl (T ++ rowPl y x))],nid + 300,nid⟩) (fun x => r.length + 1 - x) 0 (by omega) (Cov.go [] [] ?_) (fun x hx => ?_)⟩
  ·simp [cvT,step,res,arrPl,rowPl]
  have hrs := rowPl_succ y x
  have hrx := rowPl_len y x
  have hTl : (T ++ rowPl y x).length = T.length + x := by rw [List.length_append,hrx]
  have hTs : T ++ rowPl y (x + 1) = (T ++ rowPl y x) ++ [((x : Int),(y : Int))] := by rw [hrs,List.append_assoc]
  generalize hLd : T ++ rowPl y x = L at *
  unfold arrPl
  simp -dsimp only [aqA,↓seqK,↓blkK,↓loopK,step,stepBin,eqB,Nat.add_assoc nid,↓reduceIte,simprocAttr,LN_succ]
  refine S2.dec (fun h2 => ?_) (fun h2 => ?_) <;> simp -dsimp only [aqA,↓seqK,↓blkK,↓loopK,step,stepBin,eqB,Nat.add_assoc nid,↓reduceIte,simprocAttr,LN_succ]
  ·rw [getD_appP L ((x : Int),(y : Int)) rfl (fun q => q.1) rfl rfl,getD_appP L ((x : Int),(y : Int)) rfl (fun q => q.2) rfl rfl,← hTs]
   have hl3 : (T ++ rowPl y (x + 1)).length = L.length + 1 := by rw [hTs]; simp
   refine ⟨⟨by omega,by omega⟩,by unfold inI64; omega,x + 1,⟨by omega,by omega⟩,Cov.go [(nid + 8,nid + 332)] [] ?_⟩
   simp [cvT,step,res,hl3,-List.getD_eq_getElem?_getD,-List.length_append]
  ·have hxr : x = r.length := by omega
   subst hxr
   have e : plTo W (y + 1) = L := by rw [hts,hLd]
   refine ⟨by unfold inI64; omega,y + 1,⟨by omega,by omega⟩,Cov.go [] [] ?_⟩
   rw [e]
   simp [cvT,step,res,-List.getD_eq_getElem?_getD]
 ·have hyn : y = W.rows.length := by omega
  subst hyn
  refine RetOK.go [(nid,nid + 8)] [] (.inl rfl) ?_
  simp [cvT,step,res,a59,arrPl,plV,-List.getD_eq_getElem?_getD]
def boxW (nl : Bool) (W : Waf) : Option ABlk := some (.box 28 [.lit nl W.rows.length [.s fun i => W.rows.getD i []],.str W.pass])
end Go.Proofs.YtmgfcjblclanmaaGreatDoor
namespace Go.Proofs.YtmgfcjblclanmaaGreatDoor
open Go.RowKit
theorem ptMem {l : List Pt} {k : Nat} (h : k < l.length) : l.getD k p0 ∈ l := by
 rw [List.getD_eq_getElem?_getD,List.getElem?_eq_getElem h]; exact List.getElem_mem _
def idxP (F : Pt → Bool) (l : List Pt) : Int := match l.findIdx? F with
 | some i => (i : Int)
 | none => -1
theorem idxP_hit {F : Pt → Bool} : ∀ {l : List Pt} {k : Nat},k < l.length → (∀ j,j < k → F (l.getD j p0) = false) → F (l.getD k p0) = true → l.findIdx? F = some k
 | [],k,hk,_,_ => by simp at hk
 | a :: l,0,_,_,h => by
  have h' : F a = true := by simpa using h
  simp [List.findIdx?_cons,h']
 | a :: l,k + 1,hk,hall,h => by
  have h0 : F a = false := by simpa using hall 0 (by omega)
  have := idxP_hit (F := F) (l := l) (k := k) (by simpa using hk) (fun j hj => by simpa using hall (j + 1) (by omega)) (by simpa using h)
  simp [List.findIdx?_cons,h0,this]
theorem idxP_none {F : Pt → Bool} : ∀ {l : List Pt},(∀ j,j < l.length → F (l.getD j p0) = false) → l.findIdx? F = none
 | [],_ => rfl
 | a :: l,hall => by
  have h0 : F a = false := by simpa using hall 0 (by simp)
  have := idxP_none (F := F) (l := l) (fun j hj => by simpa using hall (j + 1) (by simpa using hj))
  simp [List.findIdx?_cons,h0,this]
def keepP (F : Pt → Bool) (l : List Pt) : List Pt := l.filter fun p => !F p
theorem keepP_len (F : Pt → Bool) (l : List Pt) : (keepP F l).length ≤ l.length := List.length_filter_le _ _
theorem keepP_succ {F : Pt → Bool} {l : List Pt} {k : Nat} (h : k < l.length) : keepP F (l.take (k + 1)) = keepP F (l.take k) ++ (if F (l.getD k p0) = true then [] else [l.getD k p0]) := by
 unfold keepP
 rw [List.take_add_one,List.getElem?_eq_getElem h,List.filter_append]
 congr 1
 have e : l.getD k p0 = l[k] := by rw [List.getD_eq_getElem?_getD,List.getElem?_eq_getElem h]; rfl
 rw [e]
 cases hf : F l[k] <;> simp [hf]
theorem keepP_all {F : Pt → Bool} {l : List Pt} {k : Nat} (hk : k ≤ l.length) (h : ∀ j,j < k → F (l.getD j p0) = false) : keepP F (l.take k) = l.take k := by
 unfold keepP
 rw [List.filter_eq_self]
 intro a ha
 obtain ⟨j,hj,rfl⟩ := List.getElem_of_mem ha
 have hj' : j < k := by rw [List.length_take] at hj; omega
 have := h j hj'
 rw [List.getD_eq_getElem?_getD,List.getElem?_eq_getElem (by omega)] at this
 simp only [List.getElem_take]
 simpa using this
def partP (F : Pt → Bool) (l : List Pt) (k : Nat) : List Pt := keepP F (l.take k) ++ l.drop (keepP F (l.take k)).length
theorem partP_len {F : Pt → Bool} {l : List Pt} {k : Nat} (hk : k ≤ l.length) : (partP F l k).length = l.length := by
 have := keepP_len F (l.take k)
 rw [List.length_take] at this
 unfold partP; rw [List.length_append,List.length_drop]; omega
theorem partP_at {F : Pt → Bool} {l : List Pt} {k : Nat} (hk : k < l.length) : (partP F l k).getD k p0 = l.getD k p0 := by
 have := keepP_len F (l.take k)
 rw [List.length_take] at this
 unfold partP
 rw [List.getD_eq_getElem?_getD,List.getElem?_append_right (by omega),List.getElem?_drop,List.getD_eq_getElem?_getD]
 congr 2
 omega
theorem partP_set {F : Pt → Bool} {l : List Pt} {k : Nat} (hk : k < l.length) (h : F (l.getD k p0) = false) : (partP F l k).set (keepP F (l.take k)).length (l.getD k p0) = partP F l (k + 1) ∧ (keepP F (l.take (k + 1))).length = (keepP F (l.take k)).length + 1 := by
 have := keepP_len F (l.take k)
 rw [List.length_take] at this
 have e := keepP_succ (F := F) hk
 rw [if_neg (by rw [h]; simp)] at e
 refine ⟨?_,by rw [e]; simp⟩
 unfold partP
 rw [e,List.set_append_right _ _ (Nat.le_refl _),Nat.sub_self,List.length_append,List.append_assoc]
 congr 1
 rw [List.drop_eq_getElem_cons (by omega : (keepP F (l.take k)).length < l.length)]
 rfl
theorem partP_skip {F : Pt → Bool} {l : List Pt} {k : Nat} (hk : k < l.length) (h : F (l.getD k p0) = true) : partP F l (k + 1) = partP F l k ∧ keepP F (l.take (k + 1)) = keepP F (l.take k) := by
 have e := keepP_succ (F := F) hk
 rw [if_pos h,List.append_nil] at e
 exact ⟨by unfold partP; rw [e],e⟩
def doneP (F : Pt → Bool) (l : List Pt) : List Pt := keepP F l ++ List.replicate (l.length - (keepP F l).length) p0
theorem doneP_len (F : Pt → Bool) (l : List Pt) : (doneP F l).length = l.length := by
 have := keepP_len F l
 unfold doneP; rw [List.length_append,List.length_replicate]; omega
theorem getD_setP (q : List Pt) (x : Pt) {i : Nat} (hi : i < q.length) (f : Pt → Int) {v : Int} (hv : v = f x) : (fun j => if j = i then v else f (q.getD j p0)) = fun j => f ((q.set i x).getD j p0) := by
 subst hv
 funext j
 simp only [List.getD_eq_getElem?_getD,List.getElem?_set]
 by_cases h : j = i
 ·subst h; simp [hi]
 ·rw [if_neg h,if_neg (fun e => h e.symm)]
theorem doneP_at {F : Pt → Bool} {l : List Pt} (g : Pt → Int) (h0 : g p0 = 0) : ∀ j,j < l.length → (if (keepP F l).length ≤ j ∧ j < (keepP F l).length + (l.length - (keepP F l).length) then (0 : Int) else g ((partP F l l.length).getD j p0)) = g ((doneP F l).getD j p0) := fun j hj => by
 have hk := keepP_len F l
 unfold partP doneP
 rw [List.take_length]
 simp only [List.getD_eq_getElem?_getD,List.getElem?_append]
 by_cases h : j < (keepP F l).length
 ·rw [if_neg (by omega),if_pos h,if_pos h]
 ·rw [if_pos ⟨by omega,by omega⟩,if_neg h,List.getElem?_replicate,if_pos (by omega)]
  simp [h0]
end Go.Proofs.YtmgfcjblclanmaaGreatDoor
namespace Go.Proofs.YtmgfcjblclanmaaGreatDoor
open Go.RowKit
theorem handed_shaped {H : Type} {enc : TypeId × Value → H} {a : Assume} {C : Checked} {os : Os} {f : FuncId} {fn : Func} {s : ChangeSpec} {conds : List PathCond} {apart fresh handsOn again : Bool} {X : World → Array Value → Prop}
  (hX : ∀ (w w' : World) (args : Array Value),w.heap = w'.heap → X w args → X w' args)
  (own : ownKnob C.prog.godebug = none) (started : os.Started) (noInit : C.prog.inits.idxOf? f = none) (hfn : C.prog.funcs[f]? = some fn)
  (witness : ∃ (w : World) (tape : Tape) (i : Input),w.os = os ∧ (w.forCall tape i).Shaped C.prog ∧ i.vars = [] ∧ Input.okWide C.prog (w.forCall tape i) .any w.heap.size f i ∧
   ((s.pre enc C.prog fn conds apart (w.forCall tape i).memory i.args ∧ X (w.forCall tape i).memory i.args) ∧ sizedMet enc C.prog fn (OpenSpec.ofChange s) apart (w.forCall tape i).memory i.args) ∧ a.holds C.prog (lone (Frame.enter C.prog f i.args .normal) [] (w.forCall tape i)))
  (contract : ∀ (W : World) (base : Nat) (args : Array Value) (ds gs : List (DataW H)) (before : List MemPlace),
   (∀ (j : Nat) t v,fn.params[j]? = some t → args[j]? = some v → Value.okWide C.prog W .any base t v) →
   DataW.Whole enc C.prog fn.params.toList s.vars apart W args.toList ds gs before →
   conds.all (PathCond.test C.prog ⟨fn.params.toList,ds,s.plain.varTypes C.prog,gs⟩) = true →
   (DataW.weightsEach C.prog (fn.params.toList ++ s.plain.varTypes C.prog) (ds ++ gs)).all (· ≤ reachBytes) = true → X W args → W.ShapedOpen C.prog →
   Calls C.prog f args W fun e W' => ∃ v,e = .returned v ∧ s.post enc C.prog fn apart fresh handsOn again W args v W') :
  ReturnsInHanded a C os f .any (fun w args => (s.pre enc C.prog fn conds apart w args ∧ X w args) ∧ sizedMet enc C.prog fn (OpenSpec.ofChange s) apart w args) (s.post enc C.prog fn apart fresh handsOn again) := by
 refine returnsInHanded_of_calls own started noInit witness ?_
 intro w tape i _ hsh _ hok hpre _
 obtain ⟨_,_,_,fn',hfn',_,_,_,_,hval⟩ := hok
 have e : fn' = fn := Option.some.inj (hfn'.symm.trans hfn)
 subst e
 obtain ⟨⟨⟨ds,gs,before,hw,hc⟩,hx⟩,hz⟩ := hpre
 have hw' := DataW.Whole.of_heap (w' := w.forCall tape i) (by rfl) hw
 refine (contract (w.forCall tape i) w.heap.size i.args ds gs before hval hw' hc (hz.weights hw) (hX _ _ _ (by rfl) hx) hsh).mono fun e W' ⟨v,he,hp⟩ => ?_
 subst he
 exact ChangeSpec.post_blind hp
theorem gok_cell {W : World} {g : Nat} {m : Int} (h : W.cell? ⟨g,0,none⟩ = some (.int .i64 m)) : g < W.heap.size ∧ ∃ o,W.heap[g]? = some o ∧ cell0 o = some (.int .i64 m) := by
 unfold World.cell? at h
 simp only at h
 split at h
 ·rename_i c t f hc
  refine ⟨?_,_,hc,?_⟩
  ·rcases Nat.lt_or_ge g W.heap.size with hl | hl
   ·exact hl
   ·rw [Array.getElem?_eq_none hl] at hc; cases hc
  ·simpa [cell0] using h
 ·cases h
set_option maxRecDepth 1000000 in
theorem gok0_of {W : World} (h : W.ShapedOpen Tryz.prog) : GOK0 (fun b => W.heap[b]?) W.heap.size := by
 obtain ⟨m,hm⟩ := cell_of_shapedOpen_int (g := 0) (t := 3) (zero := #[.int .i64 0]) (k := .i64) h (of_decide_eq_true (by kernel_rfl)) (by kernel_rfl) rfl (by kernel_rfl) (by kernel_rfl) Tryz.underlying3
 obtain ⟨h1,o,h2,h3⟩ := gok_cell hm
 exact ⟨o,m,h1,h2,h3⟩
theorem gok_of {W : World} (h : W.ShapedOpen Tryz.prog) : GOK (fun b => W.heap[b]?) W.heap.size := gok0_of h
end Go.Proofs.YtmgfcjblclanmaaGreatDoor
namespace Go.Proofs.YtmgfcjblclanmaaGreatDoor
open Go.RowKit
structure CardB (l : List Pt) : Prop where
 len : l.length ≤ 4
 bd : ∀ q ∈ l,(-1 ≤ q.1 ∧ q.1 ≤ 60) ∧ -1 ≤ q.2 ∧ q.2 ≤ 60
theorem getD_fst (l : List Pt) : (fun i => (l.map Prod.fst).getD i 0) = fun i => (l.getD i p0).1 := by
 funext i
 rw [List.getD_eq_getElem?_getD,List.getD_eq_getElem?_getD,List.getElem?_map]
 cases l[i]? <;> rfl
theorem getD_snd (l : List Pt) : (fun i => (l.map Prod.snd).getD i 0) = fun i => (l.getD i p0).2 := by
 funext i
 rw [List.getD_eq_getElem?_getD,List.getD_eq_getElem?_getD,List.getElem?_map]
 cases l[i]? <;> rfl
theorem cloneXY_c (n : Nat) (g h : Nat → Int) (nid : Nat) (hn : n ≤ 1000000) : ACall Tryz.prog 44 [.lit false n [.i .i64 g,.i .i64 h]] [] nid (.sl nid 0 n) [(nid,some (.arr 34 n [.i .i64 g,.i .i64 h]))] := by
 refine acall_run c44 (by simp [a44]) ?_
 simp -dsimp only [aqA,↓seqK,↓blkK,↓loopK,step,stepBin,eqB,Nat.add_assoc nid,↓reduceIte,simprocAttr,LN_succ,a44]
 refine ⟨⟨by omega,by omega⟩,RetOK.go [(nid,nid + 20)] [] (.inl rfl) ?_⟩
 simp [a44,cvT,step,res]
theorem cardClone (l : List Pt) (nid : Nat) (hl : l.length ≤ 1000000) : ACall Tryz.prog 44 [.lit false l.length [.i .i64 fun i => (l.map Prod.fst).getD i 0,.i .i64 fun i => (l.map Prod.snd).getD i 0]] [] nid (.sl nid 0 l.length) [(nid,arrPl l)] := by
 rw [getD_fst,getD_snd]
 exact cloneXY_c _ _ _ _ hl
set_option maxHeartbeats 8000000 in
theorem cardX (s nid : Nat) (nl : Bool) (A : List Int) (p : Nat) (h : s < nid) (hp : p ≤ 1099510000000) (hA : A.length ≤ 17592186044416) :
  ACallI Tryz.prog 7 [.ptr s 0] [(s,strmC nl A p)] nid (fun x : List Pt × Nat => CardB x.1 ∧ x.2 ≤ p + 8) (fun x => .sl nid 0 x.1.length) (fun x => [(s,strmC nl A x.2),(nid,arrPl x.1)]) := by
 obtain ⟨e1,e2,e3,e4,e5,e6,e7,e8,e9⟩ := id_all h
 refine acallI_sr c7 (by simp [a7]) ?_
 unfold a7
 refine SR.seq ?_
 simp -dsimp only [aqA,↓seqK,↓blkK,↓loopK,step,stepBin,eqB,Nat.add_assoc nid,↓reduceIte,simprocAttr,LN_succ,e1,e2,e3,e4,e5,e6,e7,e8,e9]
 refine SR.seq ?_
 simp -dsimp only [aqA,↓seqK,↓blkK,↓loopK,step,stepBin,eqB,Nat.add_assoc nid,↓reduceIte,simprocAttr,LN_succ,e1,e2,e3,e4,e5,e6,e7,e8,e9]
 refine SR.seqEx (ι := {l : List Pt // 1 ≤ l.length ∧ CardB l}) (fun l => ⟨[(4,.sl (nid + 8) 0 l.1.length),(0,.ptr s 0)],[(s,strmC nl A (p + 1)),(nid + 8,arrPl l.1)],nid + 500,nid⟩) ?_ (fun ⟨l,hl1,hl⟩ => ?_)
 ·simp -dsimp only [aqA,↓seqK,↓blkK,↓loopK,step,stepBin,eqB,Nat.add_assoc nid,↓reduceIte,simprocAttr,LN_succ,e1,e2,e3,e4,e5,e6,e7,e8,e9]
  refine CallO.on (next_c s _ nl A p 7 (by omega) (by omega) hA (by omega)) (subH_get (by simp only [aqA,↓seqK,↓blkK,↓loopK,step,stepBin,eqB,Nat.add_assoc nid,↓reduceIte,simprocAttr,LN_succ,e1,e2,e3,e4,e5,e6,e7,e8,e9])) ?_
  simp -dsimp only [aqA,↓seqK,↓blkK,↓loopK,step,stepBin,eqB,Nat.add_assoc nid,↓reduceIte,simprocAttr,LN_succ,e1,e2,e3,e4,e5,e6,e7,e8,e9]
  have hI0 := nextV_bd A p (n := 7) (by omega)
  obtain ⟨I,hI⟩ : ∃ I : Nat,nextV A p 7 = I := ⟨_,(Int.toNat_of_nonneg hI0.1).symm⟩
  rw [hI] at hI0 ⊢
  have hI7 : I = 0 ∨ I = 1 ∨ I = 2 ∨ I = 3 ∨ I = 4 ∨ I = 5 ∨ I = 6 := by omega
  clear hI
  refine ⟨by omega,?_⟩
  rcases hI7 with rfl | rfl | rfl | rfl | rfl | rfl | rfl
  ·refine CallO.pure (cardClone [(0,0)] _ (by simp)) ?_
   unfold arrPl
   simp -dsimp only [aqA,↓seqK,↓blkK,↓loopK,step,stepBin,eqB,Nat.add_assoc nid,↓reduceIte,simprocAttr,LN_succ,e1,e2,e3,e4,e5,e6,e7,e8,e9]
   refine ⟨⟨[(0,0)],by simp,⟨by simp,by simp⟩⟩,Cov.go [(nid + 8,nid + 128)] [] ?_⟩
   simp [cvT,step,res,e1,e2,e3,e4,e5,e6,e7,e8,e9,strmC,arrPl,-List.getD_eq_getElem?_getD]
  ·refine CallO.pure (cardClone [(0,0),(1,0)] _ (by simp)) ?_
   unfold arrPl
   simp -dsimp only [aqA,↓seqK,↓blkK,↓loopK,step,stepBin,eqB,Nat.add_assoc nid,↓reduceIte,simprocAttr,LN_succ,e1,e2,e3,e4,e5,e6,e7,e8,e9]
   refine ⟨⟨[(0,0),(1,0)],by simp,⟨by simp,by simp⟩⟩,Cov.go [(nid + 8,nid + 128)] [] ?_⟩
   simp [cvT,step,res,e1,e2,e3,e4,e5,e6,e7,e8,e9,strmC,arrPl,-List.getD_eq_getElem?_getD]
  ·refine CallO.pure (cardClone [(0,0),(0,1)] _ (by simp)) ?_
   unfold arrPl
   simp -dsimp only [aqA,↓seqK,↓blkK,↓loopK,step,stepBin,eqB,Nat.add_assoc nid,↓reduceIte,simprocAttr,LN_succ,e1,e2,e3,e4,e5,e6,e7,e8,e9]
   refine ⟨⟨[(0,0),(0,1)],by simp,⟨by simp,by simp⟩⟩,Cov.go [(nid + 8,nid + 128)] [] ?_⟩
   simp [cvT,step,res,e1,e2,e3,e4,e5,e6,e7,e8,e9,strmC,arrPl,-List.getD_eq_getElem?_getD]
  ·refine CallO.pure (cardClone [(0,0),(1,0),(0,1),(1,1)] _ (by simp)) ?_
   unfold arrPl
   simp -dsimp only [aqA,↓seqK,↓blkK,↓loopK,step,stepBin,eqB,Nat.add_assoc nid,↓reduceIte,simprocAttr,LN_succ,e1,e2,e3,e4,e5,e6,e7,e8,e9]
   refine ⟨⟨[(0,0),(1,0),(0,1),(1,1)],by simp,⟨by simp,by simp⟩⟩,Cov.go [(nid + 8,nid + 128)] [] ?_⟩
   simp [cvT,step,res,e1,e2,e3,e4,e5,e6,e7,e8,e9,strmC,arrPl,-List.getD_eq_getElem?_getD]
  ·refine CallO.pure (cardClone [(0,0),(2,0)] _ (by simp)) ?_
   unfold arrPl
   simp -dsimp only [aqA,↓seqK,↓blkK,↓loopK,step,stepBin,eqB,Nat.add_assoc nid,↓reduceIte,simprocAttr,LN_succ,e1,e2,e3,e4,e5,e6,e7,e8,e9]
   refine ⟨⟨[(0,0),(2,0)],by simp,⟨by simp,by simp⟩⟩,Cov.go [(nid + 8,nid + 128)] [] ?_⟩
   simp [cvT,step,res,e1,e2,e3,e4,e5,e6,e7,e8,e9,strmC,arrPl,-List.getD_eq_getElem?_getD]
  ·refine CallO.pure (cardClone [(1,0),(0,1)] _ (by simp)) ?_
   unfold arrPl
   simp -dsimp only [aqA,↓seqK,↓blkK,↓loopK,step,stepBin,eqB,Nat.add_assoc nid,↓reduceIte,simprocAttr,LN_succ,e1,e2,e3,e4,e5,e6,e7,e8,e9]
   refine ⟨⟨[(1,0),(0,1)],by simp,⟨by simp,by simp⟩⟩,Cov.go [(nid + 8,nid + 128)] [] ?_⟩
   simp [cvT,step,res,e1,e2,e3,e4,e5,e6,e7,e8,e9,strmC,arrPl,-List.getD_eq_getElem?_getD]
  ·refine CallO.pure (cardClone [(0,0),(1,1)] _ (by simp)) ?_
   unfold arrPl
   simp -dsimp only [aqA,↓seqK,↓blkK,↓loopK,step,stepBin,eqB,Nat.add_assoc nid,↓reduceIte,simprocAttr,LN_succ,e1,e2,e3,e4,e5,e6,e7,e8,e9]
   refine ⟨⟨[(0,0),(1,1)],by simp,⟨by simp,by simp⟩⟩,Cov.go [(nid + 8,nid + 128)] [] ?_⟩
   simp [cvT,step,res,e1,e2,e3,e4,e5,e6,e7,e8,e9,strmC,arrPl,-List.getD_eq_getElem?_getD]
 have hlen := hl.len
 refine SR.seqEx (ι := {x : List Pt × Nat // CardB x.1 ∧ x.2 ≤ p + 6}) (fun x => ⟨[(4,.sl (nid + 8) 0 x.1.1.length),(0,.ptr s 0)],[(s,strmC nl A x.1.2),(nid + 8,arrPl x.1.1)],nid + 1000,nid⟩) ?_ (fun ⟨⟨m,q⟩,hm,hq⟩ => ?_)
 ·unfold arrPl
  simp -dsimp only [aqA,↓seqK,↓blkK,↓loopK,step,stepBin,eqB,Nat.add_assoc nid,↓reduceIte,simprocAttr,LN_succ,e1,e2,e3,e4,e5,e6,e7,e8,e9]
  refine CallO.on (flip_c s _ nl A (p + 1) 15 (by omega) (by omega) hA (by omega)) (subH_get (by simp only [aqA,↓seqK,↓blkK,↓loopK,step,stepBin,eqB,Nat.add_assoc nid,↓reduceIte,simprocAttr,LN_succ,e1,e2,e3,e4,e5,e6,e7,e8,e9])) ?_
  simp -dsimp only [aqA,↓seqK,↓blkK,↓loopK,step,stepBin,eqB,Nat.add_assoc nid,↓reduceIte,simprocAttr,LN_succ,e1,e2,e3,e4,e5,e6,e7,e8,e9,strmC_low]
  refine S2.intro (fun h3 => ?_) (fun h3 => ?_) <;> simp -dsimp only [aqA,↓seqK,↓blkK,↓loopK,step,stepBin,eqB,Nat.add_assoc nid,↓reduceIte,simprocAttr,LN_succ,e1,e2,e3,e4,e5,e6,e7,e8,e9,strmC_low]
  ·refine CallO.on (next_c s _ nl A (p + 1 + 1) l.length (by omega) (by omega) hA (by omega)) (subH_get (by simp only [aqA,↓seqK,↓blkK,↓loopK,step,stepBin,eqB,Nat.add_assoc nid,↓reduceIte,simprocAttr,LN_succ,e1,e2,e3,e4,e5,e6,e7,e8,e9])) ?_
   simp -dsimp only [aqA,↓seqK,↓blkK,↓loopK,step,stepBin,eqB,Nat.add_assoc nid,↓reduceIte,simprocAttr,LN_succ,e1,e2,e3,e4,e5,e6,e7,e8,e9,strmC_low]
   have hI0 := nextV_bd A (p + 1 + 1) (n := (l.length : Int)) (by omega)
   obtain ⟨I,hI⟩ : ∃ I : Nat,nextV A (p + 1 + 1) (l.length : Int) = I := ⟨_,(Int.toNat_of_nonneg hI0.1).symm⟩
   rw [hI] at hI0 ⊢
   have hIl : I < l.length := by omega
   clear hI
   have hbd := hl.bd _ (ptMem hIl)
   refine ⟨by omega,?_⟩
   refine CallX.pick_go (T := 3) (nl := nl) (A := A) (p := p + 1 + 1 + 1) (g := fun i => [(l.getD I p0).1,-1,60,1].getD i 0) (by simp only [aqA,↓seqK,↓blkK,↓loopK,step,stepBin,eqB,Nat.add_assoc nid,↓reduceIte,simprocAttr,LN_succ,e1,e2,e3,e4,e5,e6,e7,e8,e9]) (by simp only [aqA,↓seqK,↓blkK,↓loopK,step,stepBin,eqB,Nat.add_assoc nid,↓reduceIte,simprocAttr,LN_succ,e1,e2,e3,e4,e5,e6,e7,e8,e9]) (by simp only [aqA,↓seqK,↓blkK,↓loopK,step,stepBin,eqB,Nat.add_assoc nid,↓reduceIte,simprocAttr,LN_succ,e1,e2,e3,e4,e5,e6,e7,e8,e9]) (by omega) (by omega) hA (by omega) (by omega) ?_
   have hv := getD_all (P := fun x : Int => -1 ≤ x ∧ x ≤ 60) (l := [(l.getD I p0).1,-1,60,1]) (d := 0) (by intro x hx; simp only [List.mem_cons,List.not_mem_nil,or_false] at hx; rcases hx with rfl | rfl | rfl | rfl <;> omega) (pickI_lt A (p + 1 + 1 + 1) (n := 4) (by omega))
   generalize [(l.getD I p0).1,-1,60,1].getD (pickI A (p + 1 + 1 + 1) 4) (0 : Int) = v at *
   simp -dsimp only [aqA,↓seqK,↓blkK,↓loopK,step,stepBin,eqB,Nat.add_assoc nid,↓reduceIte,simprocAttr,LN_succ,e1,e2,e3,e4,e5,e6,e7,e8,e9,strmC_low]
   refine CallX.pick_go (T := 3) (nl := nl) (A := A) (p := p + 1 + 1 + 1 + 1) (g := fun i => [(l.getD I p0).2,2,60].getD i 0) (by simp only [aqA,↓seqK,↓blkK,↓loopK,step,stepBin,eqB,Nat.add_assoc nid,↓reduceIte,simprocAttr,LN_succ,e1,e2,e3,e4,e5,e6,e7,e8,e9]) (by simp only [aqA,↓seqK,↓blkK,↓loopK,step,stepBin,eqB,Nat.add_assoc nid,↓reduceIte,simprocAttr,LN_succ,e1,e2,e3,e4,e5,e6,e7,e8,e9]) (by simp only [aqA,↓seqK,↓blkK,↓loopK,step,stepBin,eqB,Nat.add_assoc nid,↓reduceIte,simprocAttr,LN_succ,e1,e2,e3,e4,e5,e6,e7,e8,e9]) (by omega) (by omega) hA (by omega) (by omega) ?_
   have hw := getD_all (P := fun x : Int => -1 ≤ x ∧ x ≤ 60) (l := [(l.getD I p0).2,2,60]) (d := 0) (by intro x hx; simp only [List.mem_cons,List.not_mem_nil,or_false] at hx; rcases hx with rfl | rfl | rfl <;> omega) (pickI_lt A (p + 1 + 1 + 1 + 1) (n := 3) (by omega))
   generalize [(l.getD I p0).2,2,60].getD (pickI A (p + 1 + 1 + 1 + 1) 3) (0 : Int) = w at *
   simp -dsimp only [aqA,↓seqK,↓blkK,↓loopK,step,stepBin,eqB,Nat.add_assoc nid,↓reduceIte,simprocAttr,LN_succ,e1,e2,e3,e4,e5,e6,e7,e8,e9,strmC_low]
   rw [getD_setP l (v,w) hIl (fun q => q.1) rfl,getD_setP l (v,w) hIl (fun q => q.2) rfl]
   refine ⟨⟨(l.set I (v,w),p + 1 + 1 + 1 + 1 + 1),⟨by simp only [List.length_set]; exact hl.len,fun q hq => ?_⟩,by simp only; omega⟩,Cov.go [] [] ?_⟩
   ·rcases List.mem_or_eq_of_mem_set hq with hq | rfl
    ·exact hl.bd q hq
    ·exact ⟨hv,hw⟩
   ·simp [cvT,step,res,e1,e2,e3,e4,e5,e6,e7,e8,e9,strmC,arrPl,-List.getD_eq_getElem?_getD]
  ·refine ⟨⟨(l,p + 1 + 1),hl,by simp only; omega⟩,Cov.go [] [] ?_⟩
   simp [cvT,step,res,e1,e2,e3,e4,e5,e6,e7,e8,e9,strmC,arrPl,-List.getD_eq_getElem?_getD]
 have hmlen := hm.len
 simp only at hm hq
 refine SR.seqEx (ι := {x : List Pt × Nat // CardB x.1 ∧ x.2 ≤ p + 8}) (fun x => ⟨[(4,.sl (nid + 8) 0 x.1.1.length),(0,.ptr s 0)],[(s,strmC nl A x.1.2),(nid + 8,arrPl x.1.1)],nid + 2000,nid⟩) ?_ (fun ⟨⟨m',q'⟩,hm',hq'⟩ => ?_)
 ·unfold arrPl
  simp -dsimp only [aqA,↓seqK,↓blkK,↓loopK,step,stepBin,eqB,Nat.add_assoc nid,↓reduceIte,simprocAttr,LN_succ,e1,e2,e3,e4,e5,e6,e7,e8,e9]
  refine CallO.on (flip_c s _ nl A q 60 (by omega) (by omega) hA (by omega)) (subH_get (by simp only [aqA,↓seqK,↓blkK,↓loopK,step,stepBin,eqB,Nat.add_assoc nid,↓reduceIte,simprocAttr,LN_succ,e1,e2,e3,e4,e5,e6,e7,e8,e9])) ?_
  simp -dsimp only [aqA,↓seqK,↓blkK,↓loopK,step,stepBin,eqB,Nat.add_assoc nid,↓reduceIte,simprocAttr,LN_succ,e1,e2,e3,e4,e5,e6,e7,e8,e9,strmC_low]
  refine S2.intro (fun h3 => ?_) (fun h3 => ?_) <;> simp -dsimp only [aqA,↓seqK,↓blkK,↓loopK,step,stepBin,eqB,Nat.add_assoc nid,↓reduceIte,simprocAttr,LN_succ,e1,e2,e3,e4,e5,e6,e7,e8,e9,strmC_low]
  ·refine ⟨⟨([],q + 1),⟨by simp,by simp⟩,by simp only; omega⟩,Cov.go [(nid + 8,nid + 1500)] [(nid + 8,2)] ?_⟩
   simp [cvT,step,res,e1,e2,e3,e4,e5,e6,e7,e8,e9,strmC,arrPl,-List.getD_eq_getElem?_getD]
  ·refine ⟨⟨(m,q + 1),hm,by simp only; omega⟩,Cov.go [] [] ?_⟩
   simp [cvT,step,res,e1,e2,e3,e4,e5,e6,e7,e8,e9,strmC,arrPl,-List.getD_eq_getElem?_getD]
 refine SR.run (t := .mk) ?_
 unfold arrPl
 simp -dsimp only [aqA,↓seqK,↓blkK,↓loopK,step,stepBin,eqB,Nat.add_assoc nid,↓reduceIte,simprocAttr,LN_succ,e1,e2,e3,e4,e5,e6,e7,e8,e9]
 refine ⟨(m',q'),⟨hm',hq'⟩,?_⟩
 refine RetOK.go [(nid,nid + 8)] [] (.inl rfl) ?_
 simp [cvT,step,res,e1,e2,e3,e4,e5,e6,e7,e8,e9,a7,strmC,arrPl,-List.getD_eq_getElem?_getD]
end Go.Proofs.YtmgfcjblclanmaaGreatDoor
namespace Go.Proofs.YtmgfcjblclanmaaGreatDoor
open Go.RowKit
def cmpV (a b : Int) : Int := if a < b then -1 else if b < a then 1 else 0
theorem nan_c (a : Int) (nid : Nat) : ACall Tryz.prog 167 [.int .i64 a] [] nid (.bool false) [] := by
 refine acall_run c167 (by simp [a167]) ?_
 simp -dsimp only [a167,aqA,↓seqK,↓blkK,↓loopK,step,stepBin,eqB,Nat.add_assoc nid,↓reduceIte,simprocAttr,LN_succ,bne_self_eq_false]
 refine RetOK.pure (.inl rfl) rfl ?_
 simp [cvT,step,res]
theorem cmpI_c (a b : Int) (nid : Nat) : ACall Tryz.prog 119 [.int .i64 a,.int .i64 b] [] nid (.int .i64 (cmpV a b)) [] := by
 refine acall_run c119 (by simp [a119]) ?_
 simp -dsimp only [aqA,↓seqK,↓blkK,↓loopK,step,stepBin,eqB,Nat.add_assoc nid,↓reduceIte,simprocAttr,LN_succ,a119]
 refine CallO.pure (nan_c _ _) ?_
 simp -dsimp only [aqA,↓seqK,↓blkK,↓loopK,step,stepBin,eqB,Nat.add_assoc nid,↓reduceIte,simprocAttr,LN_succ]
 refine CallO.pure (nan_c _ _) ?_
 simp -dsimp only [aqA,↓seqK,↓blkK,↓loopK,step,stepBin,eqB,Nat.add_assoc nid,↓reduceIte,simprocAttr,LN_succ]
 unfold cmpV
 refine S2.dec (fun h1 => ?_) (fun h1 => ?_) <;> simp -dsimp only [aqA,↓seqK,↓blkK,↓loopK,step,stepBin,eqB,Nat.add_assoc nid,↓reduceIte,simprocAttr,LN_succ]
 ·rw [if_pos h1]
  refine RetOK.pure (.inl rfl) rfl ?_
  simp [cvT,step,res]
 rw [if_neg h1]
 refine S2.dec (fun h2 => ?_) (fun h2 => ?_) <;> simp -dsimp only [aqA,↓seqK,↓blkK,↓loopK,step,stepBin,eqB,Nat.add_assoc nid,↓reduceIte,simprocAttr,LN_succ]
 ·rw [if_pos h2]
  refine RetOK.pure (.inl rfl) rfl ?_
  simp [cvT,step,res]
 ·rw [if_neg h2]
  refine RetOK.pure (.inl rfl) rfl ?_
  simp [cvT,step,res]
theorem orInt_c (nl : Bool) (l : List Int) (nid : Nat) (hl : l.length ≤ 1000000000) : ACall Tryz.prog 118 [litI nl l] [] nid (.int .i64 (firstBad (fun x : Int => x) l)) [] := by
 refine acall_run c118 (by simp [a118]) ?_
 unfold litI
 simp -dsimp only [aqA,↓seqK,↓blkK,↓loopK,step,stepBin,eqB,Nat.add_assoc nid,↓reduceIte,simprocAttr,a118]
 refine LP.mkP (fun k : Nat => k ≤ l.length ∧ firstBad (fun x : Int => x) (l.take k) = 0) (fun k : Nat => ⟨[(8,.int .i64 k),(7,.int .i64 l.length),(6,litI nl l),(3,.int .i64 0)],[],nid + 100,nid⟩) (fun k => l.length + 1 - k) 0 ⟨by omega,rfl⟩ (Cov.go [] [] ?_) (fun k hk => ?_)
 ·simp [cvT,step,res,litI]
 unfold litI
 obtain ⟨hk,hb⟩ := hk
 simp -dsimp only [aqA,↓seqK,↓blkK,↓loopK,step,stepBin,eqB,Nat.add_assoc nid,↓reduceIte,simprocAttr,LN_succ]
 refine S2.dec (fun h3 => ?_) (fun h3 => ?_) <;> simp -dsimp only [aqA,↓seqK,↓blkK,↓loopK,step,stepBin,eqB,Nat.add_assoc nid,↓reduceIte,simprocAttr,LN_succ]
 ·have hkl : k < l.length := by omega
  have bad : l.getD k 0 ≠ 0 → firstBad (fun x : Int => x) l = l.getD k 0 := fun h => firstBad_hit (x := l.getD k 0) (by rw [List.getD_eq_getElem?_getD,List.getElem?_eq_getElem hkl]; rfl) hb h
  have good : l.getD k 0 = 0 → firstBad (fun x : Int => x) (l.take (k + 1)) = 0 := fun h => firstBad_step (x := l.getD k 0) (by rw [List.getD_eq_getElem?_getD,List.getElem?_eq_getElem hkl]; rfl) hb h
  refine ⟨by omega,S2.intro (fun h4 => ?_) (fun h4 => ?_)⟩ <;> simp -dsimp only [aqA,↓seqK,↓blkK,↓loopK,step,stepBin,eqB,Nat.add_assoc nid,↓reduceIte,simprocAttr,LN_succ]
  ·rw [bad (by simpa using h4)]
   refine RetOK.pure (.inl rfl) rfl ?_
   simp [cvT,step,res]
  ·refine ⟨by unfold inI64; omega,k + 1,⟨⟨by omega,good (by simpa using h4)⟩,by omega⟩,Cov.go [] [] ?_⟩
   simp [cvT,step,res,litI]
 ·have hkn : k = l.length := by omega
  subst hkn
  rw [List.take_length] at hb
  rw [hb]
  refine RetOK.pure (.inl rfl) rfl ?_
  simp [cvT,step,res]
end Go.Proofs.YtmgfcjblclanmaaGreatDoor
namespace Go.Proofs.YtmgfcjblclanmaaGreatDoor
open Go.RowKit
set_option maxHeartbeats 4000000 in
theorem indexP1_c (f id ia : Nat) (nla : Bool) (A : Waf) (F : Pt → Bool) (l : List Pt) (nid : Nat) (hid : id < nid) (hia : ia < nid) (n1 : id ≠ ia) (hl : l.length ≤ 1000000)
  (hf : ∀ p ∈ l,∀ nid',ia < nid' → ACall Tryz.prog f [.agg [.int .i64 p.1,.int .i64 p.2],.ptr ia 0] [(ia,boxW nla A)] nid' (.bool (F p)) []) :
  ACall Tryz.prog 123 [.sl id 0 l.length,.fn f [.ptr ia 0]] [(id,arrPl l),(ia,boxW nla A)] nid (.int .i64 (idxP F l)) [] := by
 obtain ⟨a1,a2,a3,a4,a5,a6,a7,a8,a9⟩ := id_all hid
 obtain ⟨b1,b2,b3,b4,b5,b6,b7,b8,b9⟩ := id_all hia
 have g1 : (id == ia) = false := by simpa using n1
 have g2 : (ia == id) = false := by simpa using fun h => n1 h.symm
 have m1 : ¬ ia = id := fun h => n1 h.symm
 refine acall_run c123 (by simp [a123]) ?_
 unfold arrPl boxW
 simp -dsimp only [a123,aqA,↓seqK,↓blkK,↓loopK,step,stepBin,eqB,Nat.add_assoc nid,↓reduceIte,simprocAttr,LN_succ,a1,a2,a3,a4,a5,a6,a7,a8,a9,b1,b2,b3,b4,b5,b6,b7,b8,b9,g1,g2,n1,m1]
 refine LP.mkP (fun k : Nat => k ≤ l.length ∧ ∀ j,j < k → F (l.getD j p0) = false) (fun k : Nat => ⟨[(8,.int .i64 k),(7,.int .i64 l.length),(0,.sl id 0 l.length),(1,.fn f [.ptr ia 0])],[(id,arrPl l),(ia,boxW nla A)],nid + 100,nid⟩) (fun k => l.length + 1 - k) 0 ⟨by omega,fun j hj => by omega⟩ (Cov.go [] [] ?_) (fun k hk => ?_)
 ·simp [cvT,step,res,a1,a2,a3,a4,a5,a6,a7,a8,a9,b1,b2,b3,b4,b5,b6,b7,b8,b9,g1,g2,n1,m1,arrPl,boxW]
 obtain ⟨hk,hall⟩ := hk
 unfold arrPl boxW
 simp -dsimp only [aqA,↓seqK,↓blkK,↓loopK,step,stepBin,eqB,Nat.add_assoc nid,↓reduceIte,simprocAttr,LN_succ,a1,a2,a3,a4,a5,a6,a7,a8,a9,b1,b2,b3,b4,b5,b6,b7,b8,b9,g1,g2,n1,m1]
 refine S2.dec (fun h1 => ?_) (fun h1 => ?_) <;> simp -dsimp only [aqA,↓seqK,↓blkK,↓loopK,step,stepBin,eqB,Nat.add_assoc nid,↓reduceIte,simprocAttr,LN_succ,a1,a2,a3,a4,a5,a6,a7,a8,a9,b1,b2,b3,b4,b5,b6,b7,b8,b9,g1,g2,n1,m1]
 ·have hkl : k < l.length := by omega
  refine ⟨by omega,CallO.on (hf (l.getD k p0) (ptMem hkl) _ (by omega)) (subH_get (by simp only [aqA,↓seqK,↓blkK,↓loopK,step,stepBin,eqB,Nat.add_assoc nid,↓reduceIte,simprocAttr,LN_succ,a1,a2,a3,a4,a5,a6,a7,a8,a9,b1,b2,b3,b4,b5,b6,b7,b8,b9,g1,g2,n1,m1,boxW])) ?_⟩
  simp -dsimp only [aqA,↓seqK,↓blkK,↓loopK,step,stepBin,eqB,Nat.add_assoc nid,↓reduceIte,simprocAttr,LN_succ,a1,a2,a3,a4,a5,a6,a7,a8,a9,b1,b2,b3,b4,b5,b6,b7,b8,b9,g1,g2,n1,m1]
  refine S2.intro (fun h2 => ?_) (fun h2 => ?_) <;> simp -dsimp only [aqA,↓seqK,↓blkK,↓loopK,step,stepBin,eqB,Nat.add_assoc nid,↓reduceIte,simprocAttr,LN_succ,a1,a2,a3,a4,a5,a6,a7,a8,a9,b1,b2,b3,b4,b5,b6,b7,b8,b9,g1,g2,n1,m1]
  ·have e : idxP F l = (k : Int) := by unfold idxP; rw [idxP_hit hkl hall h2]
   rw [e]
   refine RetOK.go [] [] (.inl rfl) ?_
   simp [a123,cvT,step,res,a1,a2,a3,a4,a5,a6,a7,a8,a9,b1,b2,b3,b4,b5,b6,b7,b8,b9,g1,g2,n1,m1,arrPl,boxW]
  ·refine ⟨by unfold inI64; omega,k + 1,⟨⟨by omega,fun j hj => ?_⟩,by omega⟩,Cov.go [] [] ?_⟩
   ·rcases (by omega : j < k ∨ j = k) with hj | hj
    ·exact hall j hj
    ·rw [hj]; exact h2
   ·simp [cvT,step,res,a1,a2,a3,a4,a5,a6,a7,a8,a9,b1,b2,b3,b4,b5,b6,b7,b8,b9,g1,g2,n1,m1,arrPl,boxW]
 ·have hkn : k = l.length := by omega
  subst hkn
  have e : idxP F l = -1 := by unfold idxP; rw [idxP_none hall]
  rw [e]
  refine RetOK.go [] [] (.inl rfl) ?_
  simp [a123,cvT,step,res,a1,a2,a3,a4,a5,a6,a7,a8,a9,b1,b2,b3,b4,b5,b6,b7,b8,b9,g1,g2,n1,m1,arrPl,boxW]
set_option maxHeartbeats 8000000 in
theorem deleteP1_c (f id ia : Nat) (nla : Bool) (A : Waf) (F : Pt → Bool) (l : List Pt) (nid : Nat) (hid : id < nid) (hia : ia < nid) (n1 : id ≠ ia) (hl : l.length ≤ 1000000)
  (hf : ∀ p ∈ l,∀ nid',ia < nid' → ACall Tryz.prog f [.agg [.int .i64 p.1,.int .i64 p.2],.ptr ia 0] [(ia,boxW nla A)] nid' (.bool (F p)) []) :
  ACall Tryz.prog 55 [.sl id 0 l.length,.fn f [.ptr ia 0]] [(id,arrPl l),(ia,boxW nla A)] nid (.sl id 0 (keepP F l).length) [(id,arrPl (doneP F l))] := by
 obtain ⟨a1,a2,a3,a4,a5,a6,a7,a8,a9⟩ := id_all hid
 obtain ⟨b1,b2,b3,b4,b5,b6,b7,b8,b9⟩ := id_all hia
 have g1 : (id == ia) = false := by simpa using n1
 have g2 : (ia == id) = false := by simpa using fun h => n1 h.symm
 have m1 : ¬ ia = id := fun h => n1 h.symm
 refine acall_sr c55 (by simp [a55]) ?_
 unfold a55
 refine SR.seq ?_
 simp -dsimp only [aqA,↓seqK,↓blkK,↓loopK,step,stepBin,eqB,Nat.add_assoc nid,↓reduceIte,simprocAttr,LN_succ,a1,a2,a3,a4,a5,a6,a7,a8,a9,b1,b2,b3,b4,b5,b6,b7,b8,b9,g1,g2,n1,m1]
 refine SR.seqTo ⟨[(5,.int .i64 (idxP F l)),(0,.sl id 0 l.length),(1,.fn f [.ptr ia 0])],[(id,arrPl l),(ia,boxW nla A)],nid + 100,nid⟩ ?_ ?_
 ·simp -dsimp only [aqA,↓seqK,↓blkK,↓loopK,step,stepBin,eqB,Nat.add_assoc nid,↓reduceIte,simprocAttr,LN_succ,a1,a2,a3,a4,a5,a6,a7,a8,a9,b1,b2,b3,b4,b5,b6,b7,b8,b9,g1,g2,n1,m1]
  refine CallO.on (indexP1_c f id ia nla A F l _ (by omega) (by omega) n1 hl hf) (fun _ _ h => h) ?_
  simp -dsimp only [aqA,↓seqK,↓blkK,↓loopK,step,stepBin,eqB,Nat.add_assoc nid,↓reduceIte,simprocAttr,LN_succ,a1,a2,a3,a4,a5,a6,a7,a8,a9,b1,b2,b3,b4,b5,b6,b7,b8,b9,g1,g2,n1,m1]
  refine Cov.go [] [] ?_
  simp [cvT,step,res,a1,a2,a3,a4,a5,a6,a7,a8,a9,b1,b2,b3,b4,b5,b6,b7,b8,b9,g1,g2,n1,m1,arrPl,boxW]
 by_cases hnone : ∀ j,j < l.length → F (l.getD j p0) = false
 ·have e : idxP F l = -1 := by unfold idxP; rw [idxP_none hnone]
  have hk : keepP F l = l := by
   have := keepP_all (F := F) (l := l) (Nat.le_refl _) hnone
   rwa [List.take_length] at this
  have hd : doneP F l = l := by unfold doneP; rw [hk]; simp
  rw [e,hk,hd]
  refine SR.run (t := .mk) ?_
  unfold arrPl boxW
  simp -dsimp only [aqA,↓seqK,↓blkK,↓loopK,step,stepBin,eqB,Nat.add_assoc nid,↓reduceIte,simprocAttr,LN_succ,a1,a2,a3,a4,a5,a6,a7,a8,a9,b1,b2,b3,b4,b5,b6,b7,b8,b9,g1,g2,n1,m1]
  refine RetOK.go [] [] (.inl rfl) ?_
  simp [a55,cvT,step,res,a1,a2,a3,a4,a5,a6,a7,a8,a9,b1,b2,b3,b4,b5,b6,b7,b8,b9,g1,g2,n1,m1,arrPl,boxW]
 obtain ⟨i0,hi0,hi1,hi2⟩ : ∃ i,i < l.length ∧ F (l.getD i p0) = true ∧ ∀ j,j < i → F (l.getD j p0) = false := by
  cases hfi : l.findIdx? F with
  | none =>
   exfalso
   refine hnone fun j hj => ?_
   have := List.findIdx?_eq_none_iff.1 hfi (l.getD j p0) (ptMem hj)
   simpa using this
  | some i =>
   obtain ⟨h1,h2,h3⟩ := List.findIdx?_eq_some_iff_getElem.1 hfi
   refine ⟨i,h1,?_,fun j hj => ?_⟩
   ·rw [List.getD_eq_getElem?_getD,List.getElem?_eq_getElem h1]; exact h2
   ·rw [List.getD_eq_getElem?_getD,List.getElem?_eq_getElem (by omega)]; simpa using h3 j hj
 have e : idxP F l = (i0 : Int) := by unfold idxP; rw [idxP_hit hi0 hi2 hi1]
 rw [e]
 have hne1 : ((i0 : Int) == -1) = false := by rw [beq_eq_false_iff_ne]; omega
 have hk0 : keepP F (l.take (i0 + 1)) = l.take i0 := by rw [(partP_skip hi0 hi1).2,keepP_all (by omega) hi2]
 have hkl0 : (keepP F (l.take (i0 + 1))).length = i0 := by rw [hk0,List.length_take]; omega
 have hp0 : partP F l (i0 + 1) = l := by unfold partP; rw [hkl0,hk0,List.take_append_drop]
 refine SR.seq ?_
 unfold arrPl boxW
 simp -dsimp only [aqA,↓seqK,↓blkK,↓loopK,step,stepBin,eqB,Nat.add_assoc nid,↓reduceIte,simprocAttr,LN_succ,a1,a2,a3,a4,a5,a6,a7,a8,a9,b1,b2,b3,b4,b5,b6,b7,b8,b9,g1,g2,n1,m1,hne1]
 refine SR.seqTo ⟨[(5,.int .i64 ((keepP F l).length : Nat)),(0,.sl id 0 l.length)],[(id,arrPl (partP F l l.length)),(ia,boxW nla A)],nid + 1000,nid⟩ ?_ ?_
 ·simp -dsimp only [aqA,↓seqK,↓blkK,↓loopK,step,stepBin,eqB,Nat.add_assoc nid,↓reduceIte,simprocAttr,LN_succ,a1,a2,a3,a4,a5,a6,a7,a8,a9,b1,b2,b3,b4,b5,b6,b7,b8,b9,g1,g2,n1,m1]
  refine ⟨by unfold inI64; omega,?_⟩
  refine LP.mkP (fun k : Nat => i0 + 1 ≤ k ∧ k ≤ l.length) (fun k : Nat => ⟨[(6,.int .i64 k),(5,.int .i64 ((keepP F (l.take k)).length : Nat)),(0,.sl id 0 l.length),(1,.fn f [.ptr ia 0])],[(id,arrPl (partP F l k)),(ia,boxW nla A)],nid + 300,nid⟩) (fun k => l.length + 1 - k) (i0 + 1) ⟨Nat.le_refl _,by omega⟩ (Cov.go [] [] ?_) (fun k hk => ?_)
  ·rw [hkl0,hp0]
   simp [cvT,step,res,a1,a2,a3,a4,a5,a6,a7,a8,a9,b1,b2,b3,b4,b5,b6,b7,b8,b9,g1,g2,n1,m1,arrPl,boxW]
  obtain ⟨hk1,hk2⟩ := hk
  have hpl := partP_len (F := F) hk2
  have hkl := keepP_len F (l.take k)
  rw [List.length_take] at hkl
  unfold arrPl boxW
  rw [hpl]
  simp -dsimp only [aqA,↓seqK,↓blkK,↓loopK,step,stepBin,eqB,Nat.add_assoc nid,↓reduceIte,simprocAttr,LN_succ,a1,a2,a3,a4,a5,a6,a7,a8,a9,b1,b2,b3,b4,b5,b6,b7,b8,b9,g1,g2,n1,m1]
  refine S2.dec (fun h1 => ?_) (fun h1 => ?_) <;> simp -dsimp only [aqA,↓seqK,↓blkK,↓loopK,step,stepBin,eqB,Nat.add_assoc nid,↓reduceIte,simprocAttr,LN_succ,a1,a2,a3,a4,a5,a6,a7,a8,a9,b1,b2,b3,b4,b5,b6,b7,b8,b9,g1,g2,n1,m1]
  ·have hkn : k < l.length := by omega
   rw [partP_at hkn]
   refine ⟨by omega,CallO.on (hf (l.getD k p0) (ptMem hkn) _ (by omega)) (subH_get (by simp only [aqA,↓seqK,↓blkK,↓loopK,step,stepBin,eqB,Nat.add_assoc nid,↓reduceIte,simprocAttr,LN_succ,a1,a2,a3,a4,a5,a6,a7,a8,a9,b1,b2,b3,b4,b5,b6,b7,b8,b9,g1,g2,n1,m1,boxW])) ?_⟩
   simp -dsimp only [aqA,↓seqK,↓blkK,↓loopK,step,stepBin,eqB,Nat.add_assoc nid,↓reduceIte,simprocAttr,LN_succ,a1,a2,a3,a4,a5,a6,a7,a8,a9,b1,b2,b3,b4,b5,b6,b7,b8,b9,g1,g2,n1,m1]
   cases hF : F (l.getD k p0) <;> simp -dsimp only [aqA,↓seqK,↓blkK,↓loopK,step,stepBin,eqB,Nat.add_assoc nid,↓reduceIte,simprocAttr,LN_succ,a1,a2,a3,a4,a5,a6,a7,a8,a9,b1,b2,b3,b4,b5,b6,b7,b8,b9,g1,g2,n1,m1]
   ·obtain ⟨q1,q2⟩ := partP_set hkn hF
    rw [getD_setP (partP F l k) (l.getD k p0) (by omega) (fun p => p.1) rfl,getD_setP (partP F l k) (l.getD k p0) (by omega) (fun p => p.2) rfl,q1]
    refine ⟨by omega,by unfold inI64; omega,by unfold inI64; omega,k + 1,⟨⟨by omega,by omega⟩,by omega⟩,Cov.go [] [] ?_⟩
    rw [q2]
    simp [cvT,step,res,a1,a2,a3,a4,a5,a6,a7,a8,a9,b1,b2,b3,b4,b5,b6,b7,b8,b9,g1,g2,n1,m1,arrPl,boxW,partP_len (F := F) (l := l) (k := k + 1) (by omega),-List.getD_eq_getElem?_getD]
   ·obtain ⟨q1,q2⟩ := partP_skip hkn hF
    refine ⟨by unfold inI64; omega,k + 1,⟨⟨by omega,by omega⟩,by omega⟩,Cov.go [] [] ?_⟩
    rw [q1,q2]
    simp [cvT,step,res,a1,a2,a3,a4,a5,a6,a7,a8,a9,b1,b2,b3,b4,b5,b6,b7,b8,b9,g1,g2,n1,m1,arrPl,boxW,hpl,-List.getD_eq_getElem?_getD]
  ·have hkn : k = l.length := by omega
   subst hkn
   rw [List.take_length]
   refine Cov.go [] [] ?_
   simp [cvT,step,res,a1,a2,a3,a4,a5,a6,a7,a8,a9,b1,b2,b3,b4,b5,b6,b7,b8,b9,g1,g2,n1,m1,arrPl,boxW,hpl,-List.getD_eq_getElem?_getD]
 have hpl := partP_len (F := F) (l := l) (Nat.le_refl _)
 have hkl := keepP_len F l
 unfold arrPl boxW
 rw [hpl]
 refine SR.run (t := .mk) ?_
 simp -dsimp only [aqA,↓seqK,↓blkK,↓loopK,step,stepBin,eqB,Nat.add_assoc nid,↓reduceIte,simprocAttr,LN_succ,a1,a2,a3,a4,a5,a6,a7,a8,a9,b1,b2,b3,b4,b5,b6,b7,b8,b9,g1,g2,n1,m1,Col.const]
 have hlt : (keepP F l).length < l.length := by
  have e1 : keepP F l = keepP F (l.take (i0 + 1)) ++ keepP F (l.drop (i0 + 1)) := by
   unfold keepP
   rw [← List.filter_append,List.take_append_drop]
  have e2 := keepP_len F (l.drop (i0 + 1))
  rw [List.length_drop] at e2
  rw [e1,List.length_append,hkl0]
  omega
 refine ⟨⟨by omega,by omega⟩,by omega,⟨by omega,by omega⟩,?_⟩
 refine RetOK.go [] [] (.inl rfl) ?_
 simp [a55,cvT,step,res,a1,a2,a3,a4,a5,a6,a7,a8,a9,b1,b2,b3,b4,b5,b6,b7,b8,b9,g1,g2,n1,m1,arrPl,boxW,doneP_len,-List.getD_eq_getElem?_getD]
 exact ⟨ColEq.i (doneP_at (fun p => p.1) rfl),ColEq.i (doneP_at (fun p => p.2) rfl)⟩
end Go.Proofs.YtmgfcjblclanmaaGreatDoor
namespace Go.Proofs.YtmgfcjblclanmaaGreatDoor
open Go.RowKit
def allP (W : Waf) (p : Pt) : Bool := testedV (dieV W p.1 p.2)
theorem WafOk.bd {W : Waf} (h : WafOk W) (hp : W.pass.length ≤ 1000000) : WafBd W := ⟨by have := h.len; omega,fun r hr => by have := (h.row r hr).2.1; omega,hp⟩
end Go.Proofs.YtmgfcjblclanmaaGreatDoor
namespace Go.Proofs.YtmgfcjblclanmaaGreatDoor
open Go.RowKit
def neP (q p : Pt) : Bool := !(q.1 == p.1 && q.2 == p.2)
def rowAr (p : Pt) (j i : Nat) : List Pt := ((List.range i).map fun i => (p.1 - 1 + ((i : Nat) : Int),p.2 - 1 + ((j : Nat) : Int))).filter fun q => neP q p
def arTo (p : Pt) (j : Nat) : List Pt := (List.range j).flatMap fun j => rowAr p j 3
def arV (p : Pt) : List Pt := arTo p 3
def PtBd (p : Pt) : Prop := -1000000 ≤ p.1 ∧ p.1 ≤ 1000000 ∧ -1000000 ≤ p.2 ∧ p.2 ≤ 1000000
theorem arV_mem {p q : Pt} (h : q ∈ arV p) : p.1 - 1 ≤ q.1 ∧ q.1 ≤ p.1 + 1 ∧ p.2 - 1 ≤ q.2 ∧ q.2 ≤ p.2 + 1 := by
 unfold arV arTo rowAr at h
 rw [List.mem_flatMap] at h
 obtain ⟨j,hj,h⟩ := h
 rw [List.mem_filter,List.mem_map] at h
 obtain ⟨⟨i,hi,rfl⟩,_⟩ := h
 have := List.mem_range.1 hi
 have := List.mem_range.1 hj
 simp only
 omega
def badP (W : Waf) (p : Pt) : Bool := failedV W.pass (dieV W p.1 p.2)
theorem PtBd.ar {p q : Pt} (h : PtBd p) (hq : q ∈ arV p) : inI64 q.1 ∧ inI64 q.2 := by
 obtain ⟨h1,h2,h3,h4⟩ := h
 have := arV_mem hq
 unfold inI64
 omega
end Go.Proofs.YtmgfcjblclanmaaGreatDoor
namespace Go.Proofs.YtmgfcjblclanmaaGreatDoor
open Go.RowKit
theorem idxP_any (F : Pt → Bool) (l : List Pt) : decide (0 ≤ idxP F l) = l.any F := by
 have h := List.findIdx?_isSome (xs := l) (p := F)
 unfold idxP
 cases hf : l.findIdx? F with
 | none => rw [hf] at h; rw [← h]; rfl
 | some i => rw [hf] at h; rw [← h]; simp
theorem plV_bd {W : Waf} (hW : WafOk W) {p : Pt} (h : p ∈ plV W) : PtBd p := by
 obtain ⟨x,y,rfl,h1,h2⟩ := plV_mem h
 have := (hW.at h1).1
 have := hW.wide.2
 have := hW.len
 unfold PtBd
 simp only
 omega
end Go.Proofs.YtmgfcjblclanmaaGreatDoor
namespace Go.Proofs.YtmgfcjblclanmaaGreatDoor
open Go.RowKit
def seenD (S : List Pt) (q : MK) : Bool := S.any fun p => decide (q = MK.p p.1 p.2)
theorem seenD_snoc (S : List Pt) (a : Pt) : (fun p => if p = MK.p a.1 a.2 then true else seenD S p) = seenD (S ++ [a]) := by
 funext q
 unfold seenD
 rw [List.any_append]
 by_cases h : q = MK.p a.1 a.2 <;> simp [h]
theorem seenD_nil : (fun _ : MK => false) = seenD [] := by funext q; rfl
theorem seenD_self (S : List Pt) (a : Pt) : seenD (S ++ [a]) (MK.p a.1 a.2) = true := by rw [← seenD_snoc]; simp
theorem seenD_mono (S : List Pt) (a : Pt) {q : MK} (h : seenD S q = true) : seenD (S ++ [a]) q = true := by
 rw [← seenD_snoc]; simp [h]
theorem countP_lt' {F G : Pt → Bool} {q : Pt} (hq : F q = true) (hG : G q = false) (h : ∀ p,G p = true → F p = true) : ∀ {l : List Pt},q ∈ l → l.countP G < l.countP F
 | [],hm => by simp at hm
 | a :: l,hm => by
  have hle : l.countP G ≤ l.countP F := List.countP_mono_left fun p _ => h p
  rw [List.countP_cons,List.countP_cons]
  rcases List.mem_cons.1 hm with rfl | hm
  ·rw [hq,hG]; simp; omega
  ·have := countP_lt' hq hG h hm
   cases hg : G a
   ·simp; omega
   ·rw [h a hg]; simp; omega
def muV (W : Waf) (S : List Pt) : Nat := (plV W).countP fun p => !seenD S (MK.p p.1 p.2)
theorem muV_lt {W : Waf} {S : List Pt} {q : Pt} (hq : q ∈ plV W) (hs : seenD S (MK.p q.1 q.2) = false) : muV W (S ++ [q]) < muV W S := by
 refine countP_lt' (q := q) (by simp [hs]) (by simp [seenD_self]) (fun p hp => ?_) hq
 cases h : seenD S (MK.p p.1 p.2)
 ·rfl
 ·rw [seenD_mono S q h] at hp; cases hp
theorem die_mem {W : Waf} (hW : WafOk W) {q : Pt} (h : dieV W q.1 q.2 ≠ 46) : q ∈ plV W := by
 obtain ⟨x,y⟩ := q
 unfold dieV outB at h
 simp only at h
 split at h
 ·contradiction
 split at h
 ·contradiction
 rename_i h1 h2
 simp at h1 h2
 have hp := hW.pos
 have hr := (hW.at (y := y.toNat) (by omega)).1
 have hw := hW.wide.1
 unfold plV plTo rowPl
 rw [List.mem_flatMap]
 refine ⟨y.toNat,List.mem_range.2 (by omega),?_⟩
 rw [List.mem_map]
 refine ⟨x.toNat,List.mem_range.2 (by omega),?_⟩
 ext <;> simp <;> omega
end Go.Proofs.YtmgfcjblclanmaaGreatDoor
namespace Go.Proofs.YtmgfcjblclanmaaGreatDoor
inductive Rch (W : Waf) : Pt → Pt → Prop
 | refl {p : Pt} (h : badP W p = true) : Rch W p p
 | step {p q r : Pt} (h : Rch W p q) (hr : r ∈ arV q) (hb : badP W r = true) : Rch W p r
theorem arV_iff {p q : Pt} : q ∈ arV p ↔ q ≠ p ∧ p.1 - 1 ≤ q.1 ∧ q.1 ≤ p.1 + 1 ∧ p.2 - 1 ≤ q.2 ∧ q.2 ≤ p.2 + 1 := by
 obtain ⟨x,y⟩ := p
 obtain ⟨a,b⟩ := q
 unfold arV arTo rowAr neP
 simp only [List.mem_flatMap,List.mem_filter,List.mem_map,List.mem_range,Prod.mk.injEq,ne_eq,Bool.not_eq_true',Bool.and_eq_false_iff,beq_eq_false_iff_ne]
 constructor
 ·rintro ⟨j,hj,⟨i,hi,h1,h2⟩,h3⟩
  omega
 ·rintro ⟨h1,h2,h3,h4,h5⟩
  refine ⟨(b - (y - 1)).toNat,by omega,⟨(a - (x - 1)).toNat,by omega,by omega,by omega⟩,by omega⟩
theorem arV_symm {p q : Pt} (h : q ∈ arV p) : p ∈ arV q := by
 rw [arV_iff] at *
 obtain ⟨h1,h2⟩ := h
 exact ⟨fun e => h1 e.symm,by omega⟩
theorem Rch.bad {W : Waf} {p q : Pt} (h : Rch W p q) : badP W q = true := by
 cases h with
 | refl h => exact h
 | step _ _ hb => exact hb
theorem Rch.trans {W : Waf} {p q r : Pt} (h : Rch W p q) (h' : Rch W q r) : Rch W p r := by
 induction h' with
 | refl _ => exact h
 | step _ hr hb ih => exact .step ih hr hb
theorem Rch.symm {W : Waf} {p q : Pt} (h : Rch W p q) : Rch W q p := by
 induction h with
 | refl h => exact .refl h
 | step h hr hb ih => exact (Rch.step (.refl hb) (arV_symm hr) h.bad).trans ih
theorem badP_die {W : Waf} {p : Pt} (h : badP W p = true) : dieV W p.1 p.2 ≠ 46 := by
 intro e
 unfold badP failedV at h
 rw [e] at h
 have : isBinV 46 = false := by decide
 rw [this] at h
 cases h
theorem badP_mem {W : Waf} (hW : WafOk W) {p : Pt} (h : badP W p = true) : p ∈ plV W := die_mem hW (badP_die h)
def ltP (p q : Pt) : Prop := p.2 < q.2 ∨ (p.2 = q.2 ∧ p.1 < q.1)
instance (p q : Pt) : Decidable (ltP p q) := by unfold ltP; exact inferInstance
theorem rowPl_pw (y n : Nat) : (rowPl y n).Pairwise ltP := by
 unfold rowPl
 rw [List.pairwise_map]
 refine (List.pairwise_lt_range (n := n)).imp ?_
 intro a b h
 exact .inr ⟨rfl,by simp only; omega⟩
theorem plTo_pw (W : Waf) : ∀ y,(plTo W y).Pairwise ltP
 | 0 => by simp [plTo]
 | y + 1 => by
  rw [plTo_succ,List.pairwise_append]
  refine ⟨plTo_pw W y,rowPl_pw _ _,?_⟩
  intro a ha b hb
  unfold plTo rowPl at ha
  unfold rowPl at hb
  simp only [List.mem_flatMap,List.mem_range,List.mem_map] at ha hb
  obtain ⟨y',hy',x',_,rfl⟩ := ha
  obtain ⟨x,_,rfl⟩ := hb
  exact .inl (by simp only; omega)
theorem plV_pw (W : Waf) : (plV W).Pairwise ltP := plTo_pw W _
theorem ltP_irrefl (p : Pt) : ¬ ltP p p := by unfold ltP; omega
theorem ltP_asymm {p q : Pt} (h : ltP p q) : ¬ ltP q p := by unfold ltP at *; omega
theorem ltP_total {p q : Pt} (h : ¬ ltP p q) (h' : ¬ ltP q p) : p = q := by
 obtain ⟨a,b⟩ := p
 obtain ⟨c,d⟩ := q
 unfold ltP at *
 simp only at h h'
 ext <;> simp only <;> omega
theorem ltP_trans {p q r : Pt} (h : ltP p q) (h' : ltP q r) : ltP p r := by unfold ltP at *; omega
theorem sorted_eq : ∀ {l m : List Pt},l.Pairwise ltP → m.Pairwise ltP → (∀ p,p ∈ l ↔ p ∈ m) → l = m
 | [],[],_,_,_ => rfl
 | [],b :: m,_,_,h => absurd ((h b).2 (by simp)) (by simp)
 | a :: l,[],_,_,h => absurd ((h a).1 (by simp)) (by simp)
 | a :: l,b :: m,hl,hm,h => by
  rw [List.pairwise_cons] at hl hm
  have hab : a = b := by
   refine ltP_total (fun c => ?_) (fun c => ?_)
   ·rcases List.mem_cons.1 ((h a).1 (by simp)) with e | e
    ·subst e; exact ltP_irrefl _ c
    ·exact ltP_asymm c (hm.1 _ e)
   ·rcases List.mem_cons.1 ((h b).2 (by simp)) with e | e
    ·subst e; exact ltP_irrefl _ c
    ·exact ltP_asymm c (hl.1 _ e)
  subst hab
  congr 1
  refine sorted_eq hl.2 hm.2 (fun p => ⟨fun hp => ?_,fun hp => ?_⟩)
  ·rcases List.mem_cons.1 ((h p).1 (by simp [hp])) with e | e
   ·subst e; exact absurd (hl.1 _ hp) (ltP_irrefl _)
   ·exact e
  ·rcases List.mem_cons.1 ((h p).2 (by simp [hp])) with e | e
   ·subst e; exact absurd (hm.1 _ hp) (ltP_irrefl _)
   ·exact e
open Classical in
noncomputable def compL (W : Waf) (p : Pt) : List Pt := (plV W).filter fun q => decide (Rch W p q)
theorem compL_mem {W : Waf} (hW : WafOk W) {p q : Pt} : q ∈ compL W p ↔ Rch W p q := by
 unfold compL
 rw [List.mem_filter]
 constructor
 ·intro h; simpa using h.2
 ·intro h; exact ⟨badP_mem hW h.bad,by simpa using h⟩
open Classical in
noncomputable def clNext (W : Waf) (c : List (List Pt)) (p : Pt) : List (List Pt) := if badP W p = true ∧ ∀ g ∈ c,p ∉ g then c ++ [compL W p] else c
structure ClOk (W : Waf) (c : List (List Pt)) : Prop where
 comp : ∀ g ∈ c,∃ p,badP W p = true ∧ g = compL W p
 apart : c.Pairwise fun g h => ∀ p,p ∈ g → p ∉ h
theorem ClOk.nil (W : Waf) : ClOk W [] := ⟨by simp,by simp⟩
theorem ClOk.next {W : Waf} (hW : WafOk W) {c : List (List Pt)} (h : ClOk W c) (p : Pt) : ClOk W (clNext W c p) := by
 unfold clNext
 split
 ·rename_i hp
  refine ⟨fun g hg => ?_,?_⟩
  ·rcases List.mem_append.1 hg with hg | hg
   ·exact h.comp g hg
   ·rw [List.mem_singleton.1 hg]; exact ⟨p,hp.1,rfl⟩
  ·rw [List.pairwise_append]
   refine ⟨h.apart,by simp,fun g hg g' hg' q hq hq' => ?_⟩
   rw [List.mem_singleton.1 hg'] at hq'
   obtain ⟨p',_,rfl⟩ := h.comp g hg
   have h1 := (compL_mem hW).1 hq
   have h2 := (compL_mem hW).1 hq'
   exact hp.2 _ hg ((compL_mem hW).2 (h1.trans h2.symm))
 ·exact h
end Go.Proofs.YtmgfcjblclanmaaGreatDoor
namespace Go.Proofs.YtmgfcjblclanmaaGreatDoor
open Go.RowKit
def rowC (p q : Pt) : Int := if cmpV p.2 q.2 = 0 then cmpV p.1 q.1 else cmpV p.2 q.2
theorem rowC_lt (p q : Pt) : rowC p q < 0 ↔ ltP p q := by
 unfold rowC cmpV ltP
 by_cases h1 : p.2 < q.2
 ·simp [h1]
 ·by_cases h2 : q.2 < p.2
  ·simp [h1,h2]; omega
  ·by_cases h3 : p.1 < q.1
   ·simp [h1,h2,h3]; omega
   ·by_cases h4 : q.1 < p.1 <;> simp [h1,h2,h3,h4]
theorem rowC_gt (p q : Pt) : 0 < rowC p q ↔ ltP q p := by
 unfold rowC cmpV ltP
 by_cases h1 : p.2 < q.2
 ·simp [h1]; omega
 ·by_cases h2 : q.2 < p.2
  ·simp [h1,h2]
  ·by_cases h3 : p.1 < q.1
   ·simp [h1,h2,h3]; omega
   ·by_cases h4 : q.1 < p.1
    ·simp [h1,h2,h3,h4]; omega
    ·simp [h1,h2,h3,h4]
theorem byRowC_c (p q : Pt) (nid : Nat) : ACall Tryz.prog 47 [.agg [.int .i64 p.1,.int .i64 p.2],.agg [.int .i64 q.1,.int .i64 q.2]] [] nid (.int .i64 (rowC p q)) [] := by
 have ho := fun nl' k => orInt_c nl' [cmpV p.2 q.2,cmpV p.1 q.1] k (by simp)
 have e : firstBad (fun x : Int => x) [cmpV p.2 q.2,cmpV p.1 q.1] = rowC p q := by rw [firstBad2]; rfl
 rw [e] at ho
 unfold litI at ho
 generalize rowC p q = r at *
 have h1 := fun k => cmpI_c p.2 q.2 k
 have h2 := fun k => cmpI_c p.1 q.1 k
 generalize cmpV p.2 q.2 = a at *
 generalize cmpV p.1 q.1 = b at *
 refine acall_run c47 (by simp [a47]) ?_
 simp -dsimp only [aqA,↓seqK,↓blkK,↓loopK,step,stepBin,eqB,Nat.add_assoc nid,↓reduceIte,simprocAttr,LN_succ,a47]
 refine CallX.pure (h1 _) ?_
 simp -dsimp only [aqA,↓seqK,↓blkK,↓loopK,step,stepBin,eqB,Nat.add_assoc nid,↓reduceIte,simprocAttr,LN_succ]
 refine CallX.pure (h2 _) ?_
 simp -dsimp only [aqA,↓seqK,↓blkK,↓loopK,step,stepBin,eqB,Nat.add_assoc nid,↓reduceIte,simprocAttr,LN_succ]
 refine CallX.lent [nid + 52] (fun nl' => by
  simp only [lends,lend,noOs,aqA,↓seqK,↓blkK,↓loopK,step,stepBin,eqB,Nat.add_assoc nid,↓reduceIte,simprocAttr,LN_succ]
  exact ho _ _) rfl rfl (by simp [getH]) ?_
 simp -dsimp only [aqA,↓seqK,↓blkK,↓loopK,step,stepBin,eqB,Nat.add_assoc nid,↓reduceIte,simprocAttr,LN_succ]
 refine RetOK.go [] [] (.inl rfl) ?_
 simp [a47,cvT,step,res]
theorem byPointC_c (p q : Pt) (nid : Nat) : ACall Tryz.prog 49 [.agg [.int .i64 p.1,.int .i64 p.2],.agg [.int .i64 q.1,.int .i64 q.2]] [] nid (.int .i64 (rowC p q)) [] := by
 have ho := fun nl' k => orInt_c nl' [cmpV p.2 q.2,cmpV p.1 q.1] k (by simp)
 have e : firstBad (fun x : Int => x) [cmpV p.2 q.2,cmpV p.1 q.1] = rowC p q := by rw [firstBad2]; rfl
 rw [e] at ho
 unfold litI at ho
 generalize rowC p q = r at *
 have h1 := fun k => cmpI_c p.2 q.2 k
 have h2 := fun k => cmpI_c p.1 q.1 k
 generalize cmpV p.2 q.2 = a at *
 generalize cmpV p.1 q.1 = b at *
 refine acall_run c49 (by simp [a49]) ?_
 simp -dsimp only [aqA,↓seqK,↓blkK,↓loopK,step,stepBin,eqB,Nat.add_assoc nid,↓reduceIte,simprocAttr,LN_succ,a49]
 refine CallX.pure (h1 _) ?_
 simp -dsimp only [aqA,↓seqK,↓blkK,↓loopK,step,stepBin,eqB,Nat.add_assoc nid,↓reduceIte,simprocAttr,LN_succ]
 refine CallX.pure (h2 _) ?_
 simp -dsimp only [aqA,↓seqK,↓blkK,↓loopK,step,stepBin,eqB,Nat.add_assoc nid,↓reduceIte,simprocAttr,LN_succ]
 refine CallX.lent [nid + 52] (fun nl' => by
  simp only [lends,lend,noOs,aqA,↓seqK,↓blkK,↓loopK,step,stepBin,eqB,Nat.add_assoc nid,↓reduceIte,simprocAttr,LN_succ]
  exact ho _ _) rfl rfl (by simp [getH]) ?_
 simp -dsimp only [aqA,↓seqK,↓blkK,↓loopK,step,stepBin,eqB,Nat.add_assoc nid,↓reduceIte,simprocAttr,LN_succ]
 refine RetOK.go [] [] (.inl rfl) ?_
 simp [a49,cvT,step,res]
def siteBad (card : List Pt) (i : Nat) : Int := if outB (card.getD i p0).1 0 59 = true ∨ outB (card.getD i p0).2 0 59 = true then 1 else if 0 < i ∧ ¬ ltP (card.getD (i - 1) p0) (card.getD i p0) then 7 else 0
def cardV (card : List Pt) : Int := if card.length = 0 then 8 else if 8 < card.length then 2 else if firstBad (siteBad card) (List.range card.length) ≠ 0 then firstBad (siteBad card) (List.range card.length) else if (∃ p ∈ card,p.1 = 0) ∧ ∃ p ∈ card,p.2 = 0 then 0 else 3
theorem take_mem {l : List Pt} {k : Nat} (h : k < l.length) (P : Pt → Prop) : (∃ p ∈ l.take (k + 1),P p) ↔ (∃ p ∈ l.take k,P p) ∨ P (l.getD k p0) := by
 rw [take_snoc (x := l.getD k p0) (by rw [List.getD_eq_getElem?_getD,List.getElem?_eq_getElem h]; rfl)]
 constructor
 ·rintro ⟨p,hp,h2⟩
  rcases List.mem_append.1 hp with hp | hp
  ·exact .inl ⟨p,hp,h2⟩
  ·rw [List.mem_singleton.1 hp] at h2; exact .inr h2
 ·rintro (⟨p,hp,h2⟩ | h2)
  ·exact ⟨p,List.mem_append_left _ hp,h2⟩
  ·exact ⟨_,List.mem_append_right _ (List.mem_singleton.2 rfl),h2⟩
structure LeastC (card : List Pt) (i : Nat) (a b : Int) : Prop where
 zero : i = 0 → a = (card.getD 0 p0).1 ∧ b = (card.getD 0 p0).2
 pos : 0 < i → (0 ≤ a ∧ 0 ≤ b) ∧ (a = 0 ↔ ∃ p ∈ card.take i,p.1 = 0) ∧ (b = 0 ↔ ∃ p ∈ card.take i,p.2 = 0)
theorem outB_no {x lo hi : Int} (h : outB x lo hi = false) : lo ≤ x ∧ x ≤ hi := by
 unfold outB at h; simp at h; omega
theorem LeastC.next {card : List Pt} {i : Nat} {a b : Int} (h : LeastC card i a b) (hi : i < card.length) (h1 : outB (card.getD i p0).1 0 59 = false) (h2 : outB (card.getD i p0).2 0 59 = false) : LeastC card (i + 1) (min a (card.getD i p0).1) (min b (card.getD i p0).2) := by
 have g1 : 0 ≤ (card.getD i p0).1 := (outB_no h1).1
 have g2 : 0 ≤ (card.getD i p0).2 := (outB_no h2).1
 refine ⟨fun e => absurd e (by omega),fun _ => ?_⟩
 rw [take_mem hi,take_mem hi]
 rcases Nat.eq_zero_or_pos i with rfl | hp
 ·obtain ⟨rfl,rfl⟩ := h.zero rfl
  simp only [List.take_zero,List.not_mem_nil,false_and,exists_false,false_or]
  refine ⟨⟨by omega,by omega⟩,⟨by omega,by omega⟩⟩
 ·obtain ⟨⟨k1,k2⟩,k3,k4⟩ := h.pos hp
  rw [← k3,← k4]
  refine ⟨⟨by omega,by omega⟩,⟨by omega,by omega⟩⟩
theorem site_step {card : List Pt} {i : Nat} (hb : firstBad (siteBad card) (List.range i) = 0) : (siteBad card i ≠ 0 → i < card.length → firstBad (siteBad card) (List.range card.length) = siteBad card i) ∧ (siteBad card i = 0 → firstBad (siteBad card) (List.range (i + 1)) = 0) := by
 refine ⟨fun h hi => ?_,fun h => ?_⟩
 ·exact firstBad_hit (k := i) (x := i) (by rw [List.getElem?_range hi]) (by rw [List.take_range,Nat.min_eq_left (by omega)]; exact hb) h
 ·have := firstBad_step (f := siteBad card) (l := List.range (i + 1)) (k := i) (x := i) (by rw [List.getElem?_range (by omega)]) (by rw [List.take_range,Nat.min_eq_left (by omega)]; exact hb) h
  rw [List.take_range,Nat.min_self] at this
  exact this
set_option maxHeartbeats 8000000 in
theorem checkCard_all (nl : Bool) (card : List Pt) (nid : Nat) (hl : card.length ≤ 1000000) : ACall Tryz.prog 11 [litPl nl card] [] nid (.int .i64 (cardV card)) [] := by
 refine acall_run c11 (by simp [a11]) ?_
 unfold litPl
 simp -dsimp only [aqA,↓seqK,↓blkK,↓loopK,step,stepBin,eqB,Nat.add_assoc nid,↓reduceIte,simprocAttr,LN_succ,a11]
 by_cases h0 : card.length = 0
 ·have hb : (((card.length : Nat) : Int) == 0) = true := by simp [h0]
  have e : cardV card = 8 := by unfold cardV; rw [if_pos h0]
  rw [e]
  simp -dsimp only [aqA,↓seqK,↓blkK,↓loopK,step,stepBin,eqB,Nat.add_assoc nid,↓reduceIte,simprocAttr,LN_succ,hb]
  refine RetOK.pure (.inl rfl) rfl ?_
  simp [cvT,step,res]
 have hb : (((card.length : Nat) : Int) == 0) = false := by rw [beq_eq_false_iff_ne]; omega
 simp -dsimp only [aqA,↓seqK,↓blkK,↓loopK,step,stepBin,eqB,Nat.add_assoc nid,↓reduceIte,simprocAttr,LN_succ,hb]
 refine S2.dec (fun h8 => ?_) (fun h8 => ?_) <;> simp -dsimp only [aqA,↓seqK,↓blkK,↓loopK,step,stepBin,eqB,Nat.add_assoc nid,↓reduceIte,simprocAttr,LN_succ]
 ·have e : cardV card = 2 := by unfold cardV; rw [if_neg h0,if_pos (by omega)]
  rw [e]
  refine RetOK.pure (.inl rfl) rfl ?_
  simp [cvT,step,res]
 have e : cardV card = if firstBad (siteBad card) (List.range card.length) ≠ 0 then firstBad (siteBad card) (List.range card.length) else if (∃ p ∈ card,p.1 = 0) ∧ ∃ p ∈ card,p.2 = 0 then 0 else 3 := by unfold cardV; rw [if_neg h0,if_neg (by omega)]
 rw [e]
 refine ⟨by omega,?_⟩
 refine LP.mkP (fun x : Nat × Int × Int => x.1 ≤ card.length ∧ firstBad (siteBad card) (List.range x.1) = 0 ∧ LeastC card x.1 x.2.1 x.2.2) (fun x => ⟨[(19,.int .i64 x.1),(18,.int .i64 card.length),(17,litPl nl card),(0,litPl nl card),(3,.ptr (nid + 8) 0)],[(nid + 8,some (.box 34 [.int .i64 x.2.1,.int .i64 x.2.2]))],nid + 100,nid⟩) (fun x => card.length + 1 - x.1) (0,(card.getD 0 p0).1,(card.getD 0 p0).2) ⟨by omega,rfl,fun _ => ⟨rfl,rfl⟩,fun h => absurd h (by omega)⟩ (Cov.go [(nid + 8,nid + 48)] [] ?_) (fun x hx => ?_)
 ·simp [cvT,step,res,litPl,-List.getD_eq_getElem?_getD]
 obtain ⟨i,a,b⟩ := x
 obtain ⟨hi,hf,hL⟩ := hx
 simp only at hi hf hL
 unfold litPl
 simp -dsimp only [aqA,↓seqK,↓blkK,↓loopK,step,stepBin,eqB,Nat.add_assoc nid,↓reduceIte,simprocAttr,LN_succ]
 refine S2.dec (fun h3 => ?_) (fun h3 => ?_) <;> simp -dsimp only [aqA,↓seqK,↓blkK,↓loopK,step,stepBin,eqB,Nat.add_assoc nid,↓reduceIte,simprocAttr,LN_succ]
 ·have hil : i < card.length := by omega
  obtain ⟨bad,good⟩ := site_step hf
  have hnx := fun h1 h2 => hL.next hil h1 h2
  have hsb : siteBad card i = if outB (card.getD i p0).1 0 59 = true ∨ outB (card.getD i p0).2 0 59 = true then 1 else if 0 < i ∧ ¬ ltP (card.getD (i - 1) p0) (card.getD i p0) then 7 else 0 := rfl
  have hby := fun k => byRowC_c (card.getD i p0) (card.getD (i - 1) p0) k
  have hrc := rowC_gt (card.getD i p0) (card.getD (i - 1) p0)
  generalize rowC (card.getD i p0) (card.getD (i - 1) p0) = rc at *
  generalize hq : card.getD (i - 1) p0 = q at *
  generalize hpd : card.getD i p0 = p at *
  refine ⟨by omega,CallO.pure (out_c _ _ _ _) ?_⟩
  cases h1 : outB p.1 0 59
  ·rw [h1] at hsb
   simp -dsimp only [aqA,↓seqK,↓blkK,↓loopK,step,stepBin,eqB,Nat.add_assoc nid,↓reduceIte,simprocAttr,LN_succ]
   refine CallO.pure (out_c _ _ _ _) ?_
   cases h2 : outB p.2 0 59
   ·rw [h2] at hsb
    have hst : ∀ bb : Bool,True := fun _ => trivial
    rcases Nat.eq_zero_or_pos i with rfl | hip
    ·have hs0 : siteBad card 0 = 0 := by rw [hsb]; simp
     simp -dsimp only [aqA,↓seqK,↓blkK,↓loopK,step,stepBin,eqB,Nat.add_assoc nid,↓reduceIte,simprocAttr,LN_succ]
     refine ⟨by unfold inI64; omega,(0 + 1,min a p.1,min b p.2),⟨⟨by simp only; omega,good hs0,hnx h1 h2⟩,by simp only; omega⟩,Cov.go [] [] ?_⟩
     simp [cvT,step,res,litPl,-List.getD_eq_getElem?_getD]
    ·have hb0 : decide ((0 : Int) < (i : Int)) = true := decide_eq_true (by omega)
     have e1 : ((i : Int) - 1).toNat = i - 1 := by omega
     simp -dsimp only [aqA,↓seqK,↓blkK,↓loopK,step,stepBin,eqB,Nat.add_assoc nid,↓reduceIte,simprocAttr,LN_succ,hb0]
     refine ⟨by unfold inI64; omega,⟨by omega,by omega⟩,?_⟩
     rw [e1,hq]
     refine CallX.pure (hby _) ?_
     by_cases hr : rc ≤ 0
     ·have hb1 : decide (rc ≤ 0) = true := decide_eq_true hr
      have hs7 : siteBad card i = 7 := by rw [hsb,if_neg (by simp),if_pos ⟨hip,fun hh => by have := hrc.2 hh; omega⟩]
      rw [if_pos (by rw [bad (by rw [hs7]; decide) hil,hs7]; decide),bad (by rw [hs7]; decide) hil,hs7]
      simp -dsimp only [aqA,↓seqK,↓blkK,↓loopK,step,stepBin,eqB,Nat.add_assoc nid,↓reduceIte,simprocAttr,LN_succ,hb0,hb1]
      refine RetOK.pure (.inl rfl) rfl ?_
      simp [cvT,step,res]
     ·have hb1 : decide (rc ≤ 0) = false := decide_eq_false hr
      have hs0 : siteBad card i = 0 := by rw [hsb,if_neg (by simp),if_neg (fun hh => hh.2 (hrc.1 (by omega)))]
      simp -dsimp only [aqA,↓seqK,↓blkK,↓loopK,step,stepBin,eqB,Nat.add_assoc nid,↓reduceIte,simprocAttr,LN_succ,hb0,hb1]
      refine ⟨by unfold inI64; omega,(i + 1,min a p.1,min b p.2),⟨⟨by simp only; omega,good hs0,hnx h1 h2⟩,by simp only; omega⟩,Cov.go [] [] ?_⟩
      simp [cvT,step,res,litPl,-List.getD_eq_getElem?_getD]
   ·rw [h2] at hsb
    have hs1 : siteBad card i = 1 := by rw [hsb]; simp
    rw [if_pos (by rw [bad (by rw [hs1]; decide) hil,hs1]; decide),bad (by rw [hs1]; decide) hil,hs1]
    simp -dsimp only [aqA,↓seqK,↓blkK,↓loopK,step,stepBin,eqB,Nat.add_assoc nid,↓reduceIte,simprocAttr,LN_succ]
    refine RetOK.pure (.inl rfl) rfl ?_
    simp [cvT,step,res]
  ·rw [h1] at hsb
   have hs1 : siteBad card i = 1 := by rw [hsb]; simp
   rw [if_pos (by rw [bad (by rw [hs1]; decide) hil,hs1]; decide),bad (by rw [hs1]; decide) hil,hs1]
   simp -dsimp only [aqA,↓seqK,↓blkK,↓loopK,step,stepBin,eqB,Nat.add_assoc nid,↓reduceIte,simprocAttr,LN_succ]
   refine RetOK.pure (.inl rfl) rfl ?_
   simp [cvT,step,res]
 ·obtain rfl : i = card.length := by omega
  obtain ⟨_,k3,k4⟩ := hL.pos (by omega)
  rw [List.take_length] at k3 k4
  rw [if_neg (by rw [hf]; simp)]
  by_cases hz : a = 0 ∧ b = 0
  ·have hb0 : (a == 0 && b == 0) = true := by simp [hz.1,hz.2]
   rw [if_pos ⟨k3.1 hz.1,k4.1 hz.2⟩]
   simp -dsimp only [aqA,↓seqK,↓blkK,↓loopK,step,stepBin,eqB,Nat.add_assoc nid,↓reduceIte,simprocAttr,LN_succ,hb0,Bool.not_true]
   refine RetOK.pure (.inl rfl) rfl ?_
   simp [cvT,step,res]
  ·have hb0 : (a == 0 && b == 0) = false := by
    rw [Bool.and_eq_false_iff]
    by_cases h : a = 0
    ·exact .inr (by simpa using fun h2 => hz ⟨h,h2⟩)
    ·exact .inl (by simpa using h)
   rw [if_neg (fun hh => hz ⟨k3.2 hh.1,k4.2 hh.2⟩)]
   simp -dsimp only [aqA,↓seqK,↓blkK,↓loopK,step,stepBin,eqB,Nat.add_assoc nid,↓reduceIte,simprocAttr,LN_succ,hb0,Bool.not_false]
   refine RetOK.pure (.inl rfl) rfl ?_
   simp [cvT,step,res]
set_option maxHeartbeats 8000000 in
theorem cardFaultR_all (nl : Bool) (card : List Pt) (nid : Nat) (hl : card.length ≤ 1000000) : ACall Tryz.prog 12 [litPl nl card] [] nid (.int .i64 (cardV card)) [] := by
 refine acall_run c12 (by simp [a12]) ?_
 unfold litPl
 simp -dsimp only [aqA,↓seqK,↓blkK,↓loopK,step,stepBin,eqB,Nat.add_assoc nid,↓reduceIte,simprocAttr,LN_succ,a12]
 by_cases h0 : card.length = 0
 ·have hb : (((card.length : Nat) : Int) == 0) = true := by simp [h0]
  have e : cardV card = 8 := by unfold cardV; rw [if_pos h0]
  rw [e]
  simp -dsimp only [aqA,↓seqK,↓blkK,↓loopK,step,stepBin,eqB,Nat.add_assoc nid,↓reduceIte,simprocAttr,LN_succ,hb]
  refine RetOK.pure (.inl rfl) rfl ?_
  simp [cvT,step,res]
 have hb : (((card.length : Nat) : Int) == 0) = false := by rw [beq_eq_false_iff_ne]; omega
 simp -dsimp only [aqA,↓seqK,↓blkK,↓loopK,step,stepBin,eqB,Nat.add_assoc nid,↓reduceIte,simprocAttr,LN_succ,hb]
 refine S2.dec (fun h8 => ?_) (fun h8 => ?_) <;> simp -dsimp only [aqA,↓seqK,↓blkK,↓loopK,step,stepBin,eqB,Nat.add_assoc nid,↓reduceIte,simprocAttr,LN_succ]
 ·have e : cardV card = 2 := by unfold cardV; rw [if_neg h0,if_pos (by omega)]
  rw [e]
  refine RetOK.pure (.inl rfl) rfl ?_
  simp [cvT,step,res]
 have e : cardV card = if firstBad (siteBad card) (List.range card.length) ≠ 0 then firstBad (siteBad card) (List.range card.length) else if (∃ p ∈ card,p.1 = 0) ∧ ∃ p ∈ card,p.2 = 0 then 0 else 3 := by unfold cardV; rw [if_neg h0,if_neg (by omega)]
 rw [e]
 refine LP.mkP (fun x : Nat × Bool × Bool => x.1 ≤ card.length ∧ firstBad (siteBad card) (List.range x.1) = 0 ∧ (x.2.1 = true ↔ ∃ p ∈ card.take x.1,p.1 = 0) ∧ (x.2.2 = true ↔ ∃ p ∈ card.take x.1,p.2 = 0)) (fun x => ⟨[(17,.int .i64 x.1),(16,.int .i64 card.length),(15,litPl nl card),(0,litPl nl card),(3,.bool x.2.1),(4,.bool x.2.2)],[],nid + 100,nid⟩) (fun x => card.length + 1 - x.1) (0,false,false) ⟨by omega,rfl,by simp,by simp⟩ (Cov.go [] [] ?_) (fun x hx => ?_)
 ·simp [cvT,step,res,litPl,-List.getD_eq_getElem?_getD]
 obtain ⟨i,a,b⟩ := x
 obtain ⟨hi,hf,hA,hB⟩ := hx
 simp only at hi hf hA hB
 unfold litPl
 simp -dsimp only [aqA,↓seqK,↓blkK,↓loopK,step,stepBin,eqB,Nat.add_assoc nid,↓reduceIte,simprocAttr,LN_succ]
 refine S2.dec (fun h3 => ?_) (fun h3 => ?_) <;> simp -dsimp only [aqA,↓seqK,↓blkK,↓loopK,step,stepBin,eqB,Nat.add_assoc nid,↓reduceIte,simprocAttr,LN_succ]
 ·have hil : i < card.length := by omega
  obtain ⟨bad,good⟩ := site_step hf
  have hA2 : ((a || ((card.getD i p0).1 == 0)) = true ↔ ∃ p ∈ card.take (i + 1),p.1 = 0) := by rw [take_mem hil,← hA]; simp
  have hB2 : ((b || ((card.getD i p0).2 == 0)) = true ↔ ∃ p ∈ card.take (i + 1),p.2 = 0) := by rw [take_mem hil,← hB]; simp
  have hsb : siteBad card i = if outB (card.getD i p0).1 0 59 = true ∨ outB (card.getD i p0).2 0 59 = true then 1 else if 0 < i ∧ ¬ ltP (card.getD (i - 1) p0) (card.getD i p0) then 7 else 0 := rfl
  have hby := fun k => byPointC_c (card.getD (i - 1) p0) (card.getD i p0) k
  have hrc := rowC_lt (card.getD (i - 1) p0) (card.getD i p0)
  generalize rowC (card.getD (i - 1) p0) (card.getD i p0) = rc at *
  generalize hq : card.getD (i - 1) p0 = q at *
  generalize hpd : card.getD i p0 = p at *
  refine ⟨by omega,CallO.pure (in_c _ _ _ _) ?_⟩
  cases h1 : outB p.1 0 59
  ·rw [h1] at hsb
   simp -dsimp only [aqA,↓seqK,↓blkK,↓loopK,step,stepBin,eqB,Nat.add_assoc nid,↓reduceIte,simprocAttr,LN_succ,Bool.not_not]
   refine CallO.pure (in_c _ _ _ _) ?_
   cases h2 : outB p.2 0 59
   ·rw [h2] at hsb
    have hend : siteBad card i = 0 → ∀ st : ST,Cov st ⟨[(17,.int .i64 ((i + 1 : Nat) : Int)),(16,.int .i64 card.length),(15,litPl nl card),(0,litPl nl card),(3,.bool (a || (p.1 == 0))),(4,.bool (b || (p.2 == 0)))],[],nid + 100,nid⟩ → ∃ y : Nat × Bool × Bool,((y.1 ≤ card.length ∧ firstBad (siteBad card) (List.range y.1) = 0 ∧ (y.2.1 = true ↔ ∃ p ∈ card.take y.1,p.1 = 0) ∧ (y.2.2 = true ↔ ∃ p ∈ card.take y.1,p.2 = 0)) ∧ card.length + 1 - y.1 < card.length + 1 - i) ∧ Cov st ⟨[(17,.int .i64 y.1),(16,.int .i64 card.length),(15,litPl nl card),(0,litPl nl card),(3,.bool y.2.1),(4,.bool y.2.2)],[],nid + 100,nid⟩ := fun hs st hc => ⟨(i + 1,a || (p.1 == 0),b || (p.2 == 0)),⟨⟨by simp only; omega,good hs,hA2,hB2⟩,by simp only; omega⟩,hc⟩
    rcases Nat.eq_zero_or_pos i with hi0 | hip
    ·have hs0 : siteBad card i = 0 := by rw [hsb,if_neg (by simp),if_neg (fun hh => by omega)]
     have hb0 : decide ((0 : Int) < (i : Int)) = false := decide_eq_false (by omega)
     simp -dsimp only [aqA,↓seqK,↓blkK,↓loopK,step,stepBin,eqB,Nat.add_assoc nid,↓reduceIte,simprocAttr,LN_succ,hb0,Bool.not_not]
     cases a <;> cases b <;> simp -dsimp only [aqA,↓seqK,↓blkK,↓loopK,step,stepBin,eqB,Nat.add_assoc nid,↓reduceIte,simprocAttr,LN_succ,Bool.not_not]
     ·refine ⟨by unfold inI64; omega,hend hs0 _ (Cov.go [] [] ?_)⟩
      simp [cvT,step,res,litPl,-List.getD_eq_getElem?_getD]
     ·refine ⟨by unfold inI64; omega,hend hs0 _ (Cov.go [] [] ?_)⟩
      simp [cvT,step,res,litPl,-List.getD_eq_getElem?_getD]
     ·refine ⟨by unfold inI64; omega,hend hs0 _ (Cov.go [] [] ?_)⟩
      simp [cvT,step,res,litPl,-List.getD_eq_getElem?_getD]
     ·refine ⟨by unfold inI64; omega,hend hs0 _ (Cov.go [] [] ?_)⟩
      simp [cvT,step,res,litPl,-List.getD_eq_getElem?_getD]
    ·have hb0 : decide ((0 : Int) < (i : Int)) = true := decide_eq_true (by omega)
     have e1 : ((i : Int) - 1).toNat = i - 1 := by omega
     simp -dsimp only [aqA,↓seqK,↓blkK,↓loopK,step,stepBin,eqB,Nat.add_assoc nid,↓reduceIte,simprocAttr,LN_succ,hb0,Bool.not_not]
     refine ⟨by unfold inI64; omega,⟨by omega,by omega⟩,?_⟩
     rw [e1,hq]
     refine CallX.pure (hby _) ?_
     by_cases hr : 0 ≤ rc
     ·have hb1 : decide (0 ≤ rc) = true := decide_eq_true hr
      have hs7 : siteBad card i = 7 := by rw [hsb,if_neg (by simp),if_pos ⟨hip,fun hh => by have := hrc.2 hh; omega⟩]
      rw [if_pos (by rw [bad (by rw [hs7]; decide) hil,hs7]; decide),bad (by rw [hs7]; decide) hil,hs7]
      simp -dsimp only [aqA,↓seqK,↓blkK,↓loopK,step,stepBin,eqB,Nat.add_assoc nid,↓reduceIte,simprocAttr,LN_succ,hb0,hb1]
      refine RetOK.pure (.inl rfl) rfl ?_
      simp [cvT,step,res]
     ·have hb1 : decide (0 ≤ rc) = false := decide_eq_false hr
      have hs0 : siteBad card i = 0 := by rw [hsb,if_neg (by simp),if_neg (fun hh => hh.2 (hrc.1 (by omega)))]
      simp -dsimp only [aqA,↓seqK,↓blkK,↓loopK,step,stepBin,eqB,Nat.add_assoc nid,↓reduceIte,simprocAttr,LN_succ,hb0,hb1]
      cases a <;> cases b <;> simp -dsimp only [aqA,↓seqK,↓blkK,↓loopK,step,stepBin,eqB,Nat.add_assoc nid,↓reduceIte,simprocAttr,LN_succ,Bool.not_not]
      ·refine ⟨by unfold inI64; omega,hend hs0 _ (Cov.go [] [] ?_)⟩
       simp [cvT,step,res,litPl,-List.getD_eq_getElem?_getD]
      ·refine ⟨by unfold inI64; omega,hend hs0 _ (Cov.go [] [] ?_)⟩
       simp [cvT,step,res,litPl,-List.getD_eq_getElem?_getD]
      ·refine ⟨by unfold inI64; omega,hend hs0 _ (Cov.go [] [] ?_)⟩
       simp [cvT,step,res,litPl,-List.getD_eq_getElem?_getD]
      ·refine ⟨by unfold inI64; omega,hend hs0 _ (Cov.go [] [] ?_)⟩
       simp [cvT,step,res,litPl,-List.getD_eq_getElem?_getD]
   ·rw [h2] at hsb
    have hs1 : siteBad card i = 1 := by rw [hsb]; simp
    rw [if_pos (by rw [bad (by rw [hs1]; decide) hil,hs1]; decide),bad (by rw [hs1]; decide) hil,hs1]
    simp -dsimp only [aqA,↓seqK,↓blkK,↓loopK,step,stepBin,eqB,Nat.add_assoc nid,↓reduceIte,simprocAttr,LN_succ,Bool.not_not]
    refine RetOK.pure (.inl rfl) rfl ?_
    simp [cvT,step,res]
  ·rw [h1] at hsb
   have hs1 : siteBad card i = 1 := by rw [hsb]; simp
   rw [if_pos (by rw [bad (by rw [hs1]; decide) hil,hs1]; decide),bad (by rw [hs1]; decide) hil,hs1]
   simp -dsimp only [aqA,↓seqK,↓blkK,↓loopK,step,stepBin,eqB,Nat.add_assoc nid,↓reduceIte,simprocAttr,LN_succ,Bool.not_not]
   refine RetOK.pure (.inl rfl) rfl ?_
   simp [cvT,step,res]
 ·obtain rfl : i = card.length := by omega
  rw [List.take_length] at hA hB
  rw [if_neg (by rw [hf]; simp)]
  cases a <;> cases b <;> simp -dsimp only [aqA,↓seqK,↓blkK,↓loopK,step,stepBin,eqB,Nat.add_assoc nid,↓reduceIte,simprocAttr,LN_succ,Bool.not_true,Bool.not_false]
  ·rw [if_neg (fun hh => by have := hA.2 hh.1; cases this)]
   refine RetOK.pure (.inl rfl) rfl ?_
   simp [cvT,step,res]
  ·rw [if_neg (fun hh => by have := hA.2 hh.1; cases this)]
   refine RetOK.pure (.inl rfl) rfl ?_
   simp [cvT,step,res]
  ·rw [if_neg (fun hh => by have := hB.2 hh.2; cases this)]
   refine RetOK.pure (.inl rfl) rfl ?_
   simp [cvT,step,res]
  ·rw [if_pos ⟨hA.1 rfl,hB.1 rfl⟩]
   refine RetOK.pure (.inl rfl) rfl ?_
   simp [cvT,step,res]
end Go.Proofs.YtmgfcjblclanmaaGreatDoor
namespace Go.Proofs.YtmgfcjblclanmaaGreatDoor
open Go.RowKit
def cfV (W : Waf) (card : List Pt) : Int := if waferV W = 0 then cardV card else waferV W
theorem cardFault_all (nl nlc : Bool) (W : Waf) (card : List Pt) (nid : Nat) (hW : WafBd W) (hl : card.length ≤ 1000000) : ACall Tryz.prog 54 [wafP nl W,litPl nlc card] [] nid (.int .i64 (cfV W card)) [] := by
 have h1 := fun k => checkWafer_all nl W k hW
 have h2 := fun k => checkCard_all nlc card k hl
 have h3 := fun nl' k => first_c nl' [waferV W,cardV card] k (by simp)
 have e : firstBad (fun x : Int => x) [waferV W,cardV card] = cfV W card := by rw [firstBad2]; rfl
 rw [e] at h3
 unfold litI at h3
 generalize cfV W card = v at *
 generalize waferV W = a at *
 generalize cardV card = b at *
 refine acall_run c54 (by simp [a54]) ?_
 unfold wafP at *
 unfold litPl at *
 simp -dsimp only [aqA,↓seqK,↓blkK,↓loopK,step,stepBin,eqB,Nat.add_assoc nid,↓reduceIte,simprocAttr,LN_succ,a54]
 refine CallO.pure (h1 _) ?_
 simp -dsimp only [aqA,↓seqK,↓blkK,↓loopK,step,stepBin,eqB,Nat.add_assoc nid,↓reduceIte,simprocAttr,LN_succ]
 refine CallO.pure (h2 _) ?_
 simp -dsimp only [aqA,↓seqK,↓blkK,↓loopK,step,stepBin,eqB,Nat.add_assoc nid,↓reduceIte,simprocAttr,LN_succ]
 refine CallO.lent [nid + 24] (fun nl' => by
  simp only [lends,lend,noOs,aqA,↓seqK,↓blkK,↓loopK,step,stepBin,eqB,Nat.add_assoc nid,↓reduceIte,simprocAttr,LN_succ]
  exact h3 _ _) rfl rfl (by simp [getH]) ?_
 simp -dsimp only [aqA,↓seqK,↓blkK,↓loopK,step,stepBin,eqB,Nat.add_assoc nid,↓reduceIte,simprocAttr,LN_succ]
 refine RetOK.go [] [] (.inl rfl) ?_
 simp [a54,cvT,step,res]
theorem touchL_succ (card : List Pt) (a : Pt) {k : Nat} (h : k < card.length) : touchL (card.take (k + 1)) a = touchL (card.take k) a ++ [(a.1 + (card.getD k p0).1,a.2 + (card.getD k p0).2)] := by
 rw [take_snoc (x := card.getD k p0) (by rw [List.getD_eq_getElem?_getD,List.getElem?_eq_getElem h]; rfl)]
 simp [touchL]
theorem touchL_len (card : List Pt) (a : Pt) : (touchL card a).length = card.length := by simp [touchL]
set_option maxHeartbeats 4000000 in
theorem touched_all (nl : Bool) (card : List Pt) (a : Pt) (nid : Nat) (hl : card.length ≤ 1000) (hc : ∀ p ∈ card,PtBd p) (ha : PtBd a) : ACall Tryz.prog 56 [litPl nl card,.agg [.int .i64 a.1,.int .i64 a.2]] [] nid (.sl nid 0 (touchL card a).length) [(nid,arrPl (touchL card a))] := by
 obtain ⟨a1,a2,a3,a4⟩ := ha
 refine acall_run c56 (by simp [a56]) ?_
 unfold litPl
 simp -dsimp only [aqA,↓seqK,↓blkK,↓loopK,step,stepBin,eqB,Nat.add_assoc nid,↓reduceIte,simprocAttr,LN_succ,a56]
 refine LP.mkP (fun k : Nat => k ≤ card.length) (fun k : Nat => ⟨[(10,.int .i64 k),(9,.int .i64 card.length),(8,litPl nl card),(5,.sl (nid + 8) 0 (touchL (card.take k) a).length),(3,.ptr nid 0)],[(nid,some (.box 34 [.int .i64 a.1,.int .i64 a.2])),(nid + 8,arrPl (touchL (card.take k) a))],nid + 100,nid⟩) (fun k => card.length + 1 - k) 0 (by omega) (Cov.go [] [(nid + 8,2)] ?_) (fun k hk => ?_)
 ·simp [cvT,step,res,litPl,arrPl,touchL]
 have hs := fun h => touchL_succ card a (k := k) h
 have htl : (touchL (card.take k) a).length = k := by rw [touchL_len,List.length_take]; omega
 generalize hTd : touchL (card.take k) a = T at *
 unfold litPl arrPl
 simp -dsimp only [aqA,↓seqK,↓blkK,↓loopK,step,stepBin,eqB,Nat.add_assoc nid,↓reduceIte,simprocAttr,LN_succ]
 refine S2.dec (fun h1 => ?_) (fun h1 => ?_) <;> simp -dsimp only [aqA,↓seqK,↓blkK,↓loopK,step,stepBin,eqB,Nat.add_assoc nid,↓reduceIte,simprocAttr,LN_succ]
 ·have hkl : k < card.length := by omega
  obtain ⟨b1,b2,b3,b4⟩ := hc _ (ptMem hkl)
  have hs' := hs hkl
  generalize card.getD k p0 = p at *
  rw [getD_appP T (a.1 + p.1,a.2 + p.2) rfl (fun q => q.1) rfl rfl,getD_appP T (a.1 + p.1,a.2 + p.2) rfl (fun q => q.2) rfl rfl,← hs']
  have hl3 : (touchL (card.take (k + 1)) a).length = T.length + 1 := by rw [hs']; simp
  refine ⟨by omega,by unfold inI64; omega,by unfold inI64; omega,⟨by omega,by omega⟩,by unfold inI64; omega,k + 1,⟨by omega,by omega⟩,Cov.go [(nid + 8,nid + 172)] [] ?_⟩
  simp [cvT,step,res,litPl,arrPl,hl3,-List.getD_eq_getElem?_getD,-List.length_append]
 ·obtain rfl : k = card.length := by omega
  rw [List.take_length] at hTd
  rw [hTd]
  refine RetOK.go [(nid,nid + 8)] [] (.inl rfl) ?_
  simp [cvT,step,res,a56,arrPl,-List.getD_eq_getElem?_getD]
theorem untested_all (nl : Bool) (W : Waf) (p : Pt) (nid : Nat) (hW : WafOk W) (hp : inI64 p.1 ∧ inI64 p.2) : ACall Tryz.prog 58 [wafP nl W,.agg [.int .i64 p.1,.int .i64 p.2]] [] nid (.bool (untB W p)) [] := by
 have hat := fun k => at_all nl W p.1 p.2 k hW hp.1 hp.2
 have e : untB W p = (dieV W p.1 p.2 == 63) := rfl
 rw [e]
 refine acall_run c58 (by simp [a58]) ?_
 unfold wafP at *
 simp -dsimp only [aqA,↓seqK,↓blkK,↓loopK,step,stepBin,eqB,Nat.add_assoc nid,↓reduceIte,simprocAttr,LN_succ,a58]
 refine CallO.pure (hat _) ?_
 simp -dsimp only [aqA,↓seqK,↓blkK,↓loopK,step,stepBin,eqB,Nat.add_assoc nid,↓reduceIte,simprocAttr,LN_succ]
 refine RetOK.go [] [] (.inl rfl) ?_
 simp [cvT,step,res,a58]
theorem keep_unt (W : Waf) (l : List Pt) : keepP (fun p => !untB W p) l = l.filter (untB W) := by
 unfold keepP
 apply List.filter_congr
 intro p _
 rw [Bool.not_not]
theorem unt1_c (ia : Nat) (nl : Bool) (W : Waf) (p : Pt) (nid : Nat) (hia : ia < nid) (hW : WafOk W) (hp : inI64 p.1 ∧ inI64 p.2) : ACall Tryz.prog 57 [.agg [.int .i64 p.1,.int .i64 p.2],.ptr ia 0] [(ia,boxW nl W)] nid (.bool (!untB W p)) [] := by
 obtain ⟨a1,a2,a3,a4,a5,a6,a7,a8,a9⟩ := id_all hia
 have hf := fun m => untested_all nl W p m hW hp
 refine acall_run c57 (by simp [a57]) ?_
 unfold boxW
 unfold wafP at hf
 simp -dsimp only [a57,aqA,↓seqK,↓blkK,↓loopK,step,stepBin,eqB,Nat.add_assoc nid,↓reduceIte,simprocAttr,LN_succ,a1,a2,a3,a4,a5,a6,a7,a8,a9]
 refine CallO.pure (hf _) ?_
 simp -dsimp only [aqA,↓seqK,↓blkK,↓loopK,step,stepBin,eqB,Nat.add_assoc nid,↓reduceIte,simprocAttr,LN_succ,a1,a2,a3,a4,a5,a6,a7,a8,a9]
 refine RetOK.go [] [] (.inl rfl) ?_
 simp [a57,cvT,step,res,a1,a2,a3,a4,a5,a6,a7,a8,a9]
theorem unt2_c (ia : Nat) (nl : Bool) (W : Waf) (p : Pt) (nid : Nat) (hia : ia < nid) (hW : WafOk W) (hp : inI64 p.1 ∧ inI64 p.2) : ACall Tryz.prog 62 [.agg [.int .i64 p.1,.int .i64 p.2],.ptr ia 0] [(ia,boxW nl W)] nid (.bool (!untB W p)) [] := by
 obtain ⟨a1,a2,a3,a4,a5,a6,a7,a8,a9⟩ := id_all hia
 have hf := fun m => untested_all nl W p m hW hp
 refine acall_run c62 (by simp [a62]) ?_
 unfold boxW
 unfold wafP at hf
 simp -dsimp only [a62,aqA,↓seqK,↓blkK,↓loopK,step,stepBin,eqB,Nat.add_assoc nid,↓reduceIte,simprocAttr,LN_succ,a1,a2,a3,a4,a5,a6,a7,a8,a9]
 refine CallO.pure (hf _) ?_
 simp -dsimp only [aqA,↓seqK,↓blkK,↓loopK,step,stepBin,eqB,Nat.add_assoc nid,↓reduceIte,simprocAttr,LN_succ,a1,a2,a3,a4,a5,a6,a7,a8,a9]
 refine RetOK.go [] [] (.inl rfl) ?_
 simp [a62,cvT,step,res,a1,a2,a3,a4,a5,a6,a7,a8,a9]
theorem touchL_in {card : List Pt} {a p : Pt} (hc : ∀ p ∈ card,p.1 ≤ 1000 ∧ -1000 ≤ p.1 ∧ p.2 ≤ 1000 ∧ -1000 ≤ p.2) (ha : a.1 ≤ 1000 ∧ -1000 ≤ a.1 ∧ a.2 ≤ 1000 ∧ -1000 ≤ a.2) (h : p ∈ touchL card a) : inI64 p.1 ∧ inI64 p.2 := by
 unfold touchL at h
 rw [List.mem_map] at h
 obtain ⟨q,hq,rfl⟩ := h
 obtain ⟨b1,b2,b3,b4⟩ := hc q hq
 unfold inI64
 simp only
 omega
def Small (p : Pt) : Prop := p.1 ≤ 1000 ∧ -1000 ≤ p.1 ∧ p.2 ≤ 1000 ∧ -1000 ≤ p.2
theorem Small.bd {p : Pt} (h : Small p) : PtBd p := by unfold Small at h; unfold PtBd; omega
theorem touchedApi_all (nl nlc : Bool) (W : Waf) (card : List Pt) (a : Pt) (nid : Nat) (hWb : WafBd W) (hW : WafOk W) (h0 : cfV W card = 0) (hl : card.length ≤ 1000) (hc : ∀ p ∈ card,Small p) (h1 : outB a.1 (-59) 59 = false) (h2 : outB a.2 (-59) 59 = false) :
  ACall Tryz.prog 15 [wafP nl W,litPl nlc card,.agg [.int .i64 a.1,.int .i64 a.2]] [] nid (.tup [.sl nid 0 (tV W card a).length,.int .i64 ((card.length : Int) - ((tV W card a).length : Nat)),.int .i64 0]) [(nid,arrPl (doneP (fun p => !untB W p) (touchL card a)))] := by
 have ha1 := outB_no h1
 have ha2 := outB_no h2
 have has : Small a := by unfold Small; omega
 have hf := fun k => cardFault_all nl nlc W card k hWb (by omega)
 rw [h0] at hf
 have ht := fun k => touched_all nlc card a k hl (fun p hp => (hc p hp).bd) has.bd
 have hk : keepP (fun p => !untB W p) (touchL card a) = tV W card a := keep_unt W _
 have hkl := keepP_len (fun p => !untB W p) (touchL card a)
 have htl := touchL_len card a
 rw [hk] at hkl
 have hdel := fun id k h3 h4 h5 => deleteP1_c 57 id nid nl W (fun p => !untB W p) (touchL card a) k h3 h4 h5 (by omega) (fun p hp nid' h' => unt1_c nid nl W p nid' h' hW (touchL_in hc has hp))
 rw [hk] at hdel
 have hdl := doneP_len (fun p => !untB W p) (touchL card a)
 generalize doneP (fun p => !untB W p) (touchL card a) = D at *
 generalize tV W card a = t at *
 generalize touchL card a = T at *
 refine acall_run c15 (by simp [a15]) ?_
 unfold wafP litPl at *
 simp -dsimp only [aqA,↓seqK,↓blkK,↓loopK,step,stepBin,eqB,Nat.add_assoc nid,↓reduceIte,simprocAttr,LN_succ,a15]
 refine CallO.pure (hf _) ?_
 simp -dsimp only [aqA,↓seqK,↓blkK,↓loopK,step,stepBin,eqB,Nat.add_assoc nid,↓reduceIte,simprocAttr,LN_succ]
 refine CallO.pure (out_c _ _ _ _) ?_
 rw [h1]
 simp -dsimp only [aqA,↓seqK,↓blkK,↓loopK,step,stepBin,eqB,Nat.add_assoc nid,↓reduceIte,simprocAttr,LN_succ]
 refine CallO.pure (out_c _ _ _ _) ?_
 rw [h2]
 simp -dsimp only [aqA,↓seqK,↓blkK,↓loopK,step,stepBin,eqB,Nat.add_assoc nid,↓reduceIte,simprocAttr,LN_succ]
 refine CallO.pure (ht _) ?_
 unfold arrPl at *
 simp -dsimp only [aqA,↓seqK,↓blkK,↓loopK,step,stepBin,eqB,Nat.add_assoc nid,↓reduceIte,simprocAttr,LN_succ]
 refine CallO.on (hdel _ _ (by omega) (by omega) (by omega)) (subH_cons (by simp only [aqA,↓seqK,↓blkK,↓loopK,step,stepBin,eqB,Nat.add_assoc nid,↓reduceIte,simprocAttr,LN_succ]) (subH_get (by simp only [aqA,↓seqK,↓blkK,↓loopK,step,stepBin,eqB,Nat.add_assoc nid,↓reduceIte,simprocAttr,LN_succ,boxW]))) ?_
 simp -dsimp only [aqA,↓seqK,↓blkK,↓loopK,step,stepBin,eqB,Nat.add_assoc nid,↓reduceIte,simprocAttr,LN_succ]
 refine ⟨by unfold inI64; omega,RetOK.go [(nid,nid + 84)] [] (.inl rfl) ?_⟩
 simp [cvT,step,res,a15,-List.getD_eq_getElem?_getD]
end Go.Proofs.YtmgfcjblclanmaaGreatDoor
namespace Go.Proofs.YtmgfcjblclanmaaGreatDoor
theorem seenD_iff {S : List Pt} {q : Pt} : seenD S (MK.p q.1 q.2) = true ↔ q ∈ S := by
 unfold seenD
 rw [List.any_eq_true]
 constructor
 ·rintro ⟨p,hp,h⟩
  have h' := of_decide_eq_true h
  injection h' with h1 h2
  have : q = p := by obtain ⟨a,b⟩ := q; obtain ⟨c,d⟩ := p; simp only at h1 h2; rw [h1,h2]
  rw [this]; exact hp
 ·intro h
  exact ⟨q,h,by simp⟩
theorem seenD_not {S : List Pt} {q : Pt} : seenD S (MK.p q.1 q.2) = false ↔ q ∉ S := by
 rw [← seenD_iff]
 cases seenD S (MK.p q.1 q.2) <;> simp
structure BfsOk (W : Waf) (p : Pt) (S L : List Pt) : Prop where
 nodup : L.Nodup
 off : ∀ q ∈ L,q ∉ S
 rch : ∀ q ∈ L,Rch W p q
 has : p ∈ L
 sum : L.length + muV W (S ++ L) ≤ muV W S
theorem BfsOk.start {W : Waf} (hW : WafOk W) {p : Pt} {S : List Pt} (hb : badP W p = true) (hs : p ∉ S) : BfsOk W p S [p] := by
 have h := muV_lt (W := W) (S := S) (q := p) (badP_mem hW hb) (seenD_not.2 hs)
 refine ⟨by simp,?_,?_,by simp,by simp only [List.length_singleton]; omega⟩
 ·intro q hq; rw [List.mem_singleton.1 hq]; exact hs
 ·intro q hq; rw [List.mem_singleton.1 hq]; exact .refl hb
theorem BfsOk.add {W : Waf} (hW : WafOk W) {p q r : Pt} {S L : List Pt} (h : BfsOk W p S L) (hq : q ∈ L) (hr : r ∈ arV q) (hb : badP W r = true) (hn : r ∉ S ++ L) : BfsOk W p S (L ++ [r]) := by
 have hlt := muV_lt (W := W) (S := S ++ L) (q := r) (badP_mem hW hb) (seenD_not.2 hn)
 rw [List.append_assoc] at hlt
 have hs := h.sum
 rw [List.mem_append,not_or] at hn
 refine ⟨?_,?_,?_,by simp [h.has],by rw [List.length_append,List.length_singleton]; omega⟩
 ·rw [List.nodup_append]
  refine ⟨h.nodup,by simp,?_⟩
  intro a ha b hb' e
  rw [List.mem_singleton.1 hb'] at e
  rw [e] at ha
  exact hn.2 ha
 ·intro a ha
  rcases List.mem_append.1 ha with ha | ha
  ·exact h.off a ha
  ·rw [List.mem_singleton.1 ha]; exact hn.1
 ·intro a ha
  rcases List.mem_append.1 ha with ha | ha
  ·exact h.rch a ha
  ·rw [List.mem_singleton.1 ha]; exact .step (h.rch q hq) hr hb
end Go.Proofs.YtmgfcjblclanmaaGreatDoor
namespace Go.Proofs.YtmgfcjblclanmaaGreatDoor
open Go.RowKit
def mapDS (D S : List Pt) : Option ABlk := some (.map .p (seenD D) (.b (seenD S)))
theorem seen_and {D S : List Pt} (h : ∀ q ∈ S,q ∈ D) (q : Pt) : (bif seenD D (MK.p q.1 q.2) then seenD S (MK.p q.1 q.2) else false) = S.contains q := by
 cases hd : seenD D (MK.p q.1 q.2)
 ·have h1 := seenD_not.1 hd
  simp only [cond_false]
  symm
  simpa using fun hs => h1 (h q hs)
 ·simp only [cond_true]
  rw [Bool.eq_iff_iff,seenD_iff]
  simp
theorem seen_put (S : List Pt) (q : Pt) : (fun p => if p = MK.p q.1 q.2 then (S.contains q) else seenD S p) = seenD S := by
 funext p
 by_cases h : p = MK.p q.1 q.2
 ·rw [if_pos h,h]
  rw [Bool.eq_iff_iff,seenD_iff]
  simp
 ·rw [if_neg h]
def seenTo (W : Waf) (S T : List Pt) (k : Nat) : List Pt := S ++ (T.take k).filter (untB W)
def againTo (W : Waf) (S T : List Pt) (k : Nat) : Nat := ((T.take k).filter (badT W S)).length
theorem seenTo_succ (W : Waf) (S : List Pt) {T : List Pt} {k : Nat} (h : k < T.length) : seenTo W S T (k + 1) = seenTo W S T k ++ (if untB W (T.getD k p0) = true then [T.getD k p0] else []) := by
 unfold seenTo
 rw [take_snoc (x := T.getD k p0) (by rw [List.getD_eq_getElem?_getD,List.getElem?_eq_getElem h]; rfl),List.filter_append,List.append_assoc]
 congr 2
 generalize T.getD k p0 = q
 cases hh : untB W q <;> simp [hh]
theorem againTo_succ (W : Waf) (S : List Pt) {T : List Pt} {k : Nat} (h : k < T.length) : againTo W S T (k + 1) = againTo W S T k + (if badT W S (T.getD k p0) = true then 1 else 0) := by
 unfold againTo
 rw [take_snoc (x := T.getD k p0) (by rw [List.getD_eq_getElem?_getD,List.getElem?_eq_getElem h]; rfl),List.filter_append,List.length_append]
 congr 1
 generalize T.getD k p0 = q
 cases hh : badT W S q <;> simp [hh]
theorem seenTo_has {W : Waf} {S T : List Pt} (hn : T.Nodup) {k : Nat} (h : k < T.length) : (seenTo W S T k).contains (T.getD k p0) = S.contains (T.getD k p0) := by
 have hno : T.getD k p0 ∉ T.take k := fun hm => by
  obtain ⟨j,hj,e⟩ := List.mem_take_iff_getElem.1 hm
  rw [List.getD_eq_getElem?_getD,List.getElem?_eq_getElem h,Option.getD_some] at e
  exact List.pairwise_iff_getElem.1 hn j k (by omega) h (by omega) e
 unfold seenTo
 rw [Bool.eq_iff_iff,List.contains_iff_mem,List.contains_iff_mem,List.mem_append]
 constructor
 ·rintro (hs | hs)
  ·exact hs
  ·exact absurd (List.mem_filter.1 hs).1 hno
 ·exact fun hs => .inl hs
def rowsTo (W : Waf) (card : List Pt) (k : Nat) : List Pt × List Pt × Nat := ((plV W).take k).foldl (rowS W card) ([],[],0)
theorem rowsTo_succ {W : Waf} {card : List Pt} {k : Nat} (h : k < (plV W).length) : rowsTo W card (k + 1) = rowS W card (rowsTo W card k) ((plV W).getD k p0) := by
 unfold rowsTo
 rw [take_snoc (x := (plV W).getD k p0) (by rw [List.getD_eq_getElem?_getD,List.getElem?_eq_getElem h]; rfl),List.foldl_append]
 rfl
theorem rowsTo_all (W : Waf) (card : List Pt) : rowsTo W card (plV W).length = rowsV W card := by unfold rowsTo rowsV; rw [List.take_length]
theorem rowS_unt {W : Waf} {card : List Pt} {st : List Pt × List Pt × Nat} (h : ∀ q ∈ st.1,untB W q = true) (p : Pt) : ∀ q ∈ (rowS W card st p).1,untB W q = true := by
 unfold rowS
 split
 ·intro q hq
  rcases List.mem_append.1 hq with hq | hq
  ·exact h q hq
  ·exact (List.mem_filter.1 hq).2
 ·exact h
theorem rowS_len {W : Waf} {card : List Pt} {st : List Pt × List Pt × Nat} (p : Pt) : (rowS W card st p).2.1.length ≤ st.2.1.length + 1 ∧ (rowS W card st p).2.2 ≤ st.2.2 + card.length := by
 unfold rowS
 split
 ·have h1 := List.length_filter_le (badT W st.1) (touchL card (downP card p))
  rw [touchL_len] at h1
  simp only [List.length_append,List.length_singleton]
  omega
 ·simp
theorem rowsTo_len {W : Waf} {card : List Pt} : ∀ k,k ≤ (plV W).length → (rowsTo W card k).2.1.length ≤ k ∧ (rowsTo W card k).2.2 ≤ k * card.length
 | 0,_ => by simp [rowsTo]
 | k + 1,h => by
  have h1 := rowsTo_len (W := W) (card := card) k (by omega)
  have h2 := rowS_len (W := W) (card := card) (st := rowsTo W card k) ((plV W).getD k p0)
  rw [rowsTo_succ (by omega),Nat.succ_mul]
  omega
theorem rowsTo_unt {W : Waf} {card : List Pt} : ∀ k,k ≤ (plV W).length → ∀ q ∈ (rowsTo W card k).1,untB W q = true
 | 0,_ => by simp [rowsTo]
 | k + 1,h => by rw [rowsTo_succ (by omega)]; exact rowS_unt (rowsTo_unt k (by omega)) _
set_option maxHeartbeats 8000000 in
theorem rows_all (nl nlc : Bool) (W : Waf) (card : List Pt) (nid : Nat) (hWb : WafBd W) (hW : WafOk W) (h0 : cfV W card = 0) (hcp : 0 < card.length) (hl : card.length ≤ 1000) (hn : card.Nodup) (hc : ∀ p ∈ card,p.1 ≤ 100 ∧ -100 ≤ p.1 ∧ p.2 ≤ 100 ∧ -100 ≤ p.2) :
  ACall Tryz.prog 16 [wafP nl W,litPl nlc card] [] nid (.tup [.sl nid 0 (rowsV W card).2.1.length,.int .i64 ((rowsV W card).2.2 : Nat),.int .i64 0]) [(nid,arrPl (rowsV W card).2.1)] := by
 have hpl := plTo_bd hW (Nat.le_refl _)
 have hplv : (plV W).length ≤ 60000 := hpl
 have hf := fun k => cardFault_all nl nlc W card k hWb (by omega)
 rw [h0] at hf
 have hat := fun (p : Pt) k h1 h2 => at_all nl W p.1 p.2 k hW h1 h2
 have hun := fun (p : Pt) k hp => untested_all nl W p k hW hp
 have hto := fun (a : Pt) k ha => touched_all nlc card a k hl (fun p hp => by obtain ⟨b1,b2,b3,b4⟩ := hc p hp; unfold PtBd; omega) ha
 refine acall_sr c16 (by simp [a16]) ?_
 unfold a16
 unfold wafP litPl at *
 refine SR.seq ?_
 simp -dsimp only [aqA,↓seqK,↓blkK,↓loopK,step,stepBin,eqB,Nat.add_assoc nid,↓reduceIte,simprocAttr,LN_succ]
 refine SR.seqTo ⟨[(1,litPl nlc card),(2,.ptr nid 0)],[(nid,boxW nl W)],nid + 100,nid⟩ ?_ ?_
 ·simp -dsimp only [aqA,↓seqK,↓blkK,↓loopK,step,stepBin,eqB,Nat.add_assoc nid,↓reduceIte,simprocAttr,LN_succ]
  refine CallO.pure (hf _) ?_
  simp -dsimp only [aqA,↓seqK,↓blkK,↓loopK,step,stepBin,eqB,Nat.add_assoc nid,↓reduceIte,simprocAttr,LN_succ]
  refine Cov.go [] [] ?_
  simp [cvT,step,res,boxW,litPl,-List.getD_eq_getElem?_getD]
 unfold boxW litPl
 refine SR.seq ?_
 simp -dsimp only [aqA,↓seqK,↓blkK,↓loopK,step,stepBin,eqB,Nat.add_assoc nid,↓reduceIte,simprocAttr,LN_succ]
 refine SR.seq ?_
 simp -dsimp only [aqA,↓seqK,↓blkK,↓loopK,step,stepBin,eqB,Nat.add_assoc nid,↓reduceIte,simprocAttr,LN_succ]
 refine SR.seq ?_
 simp -dsimp only [aqA,↓seqK,↓blkK,↓loopK,step,stepBin,eqB,Nat.add_assoc nid,↓reduceIte,simprocAttr,LN_succ]
 refine SR.seqW (ι := Unit) (fun _ => ⟨[(9,.sl (nid + 4) 0 (rowsV W card).2.1.length),(10,.int .i64 ((rowsV W card).2.2 : Nat))],[(nid + 4,arrPl (rowsV W card).2.1)],nid + 90000,nid⟩) ?_ (fun _ => ?_)
 ·refine SR.seqTo ⟨[(27,.int .i64 0),(26,.int .i64 (plV W).length),(25,.sl (nid + 12) 0 (plV W).length),(10,.int .i64 0),(9,.lit true 0 []),(8,.mp (nid + 8)),(1,litPl nlc card),(2,.ptr nid 0)],[(nid,boxW nl W),(nid + 8,mapDS [] []),(nid + 12,arrPl (plV W))],nid + 300,nid⟩ ?_ ?_
  ·simp -dsimp only [aqA,↓seqK,↓blkK,↓loopK,step,stepBin,eqB,Nat.add_assoc nid,↓reduceIte,simprocAttr,LN_succ]
   refine CallO.pure (places_all nl W _ hW) ?_
   unfold arrPl
   simp -dsimp only [aqA,↓seqK,↓blkK,↓loopK,step,stepBin,eqB,Nat.add_assoc nid,↓reduceIte,simprocAttr,LN_succ]
   refine Cov.go [(nid + 12,nid + 120),(nid + 8,nid + 100)] [] ?_
   simp [cvT,step,res,boxW,arrPl,mapDS,litPl,← seenD_nil,-List.getD_eq_getElem?_getD]
  refine SR.block ?_
  refine SR.loopP (fun x : Nat × List Pt => x.1 ≤ (plV W).length ∧ ∀ q ∈ (rowsTo W card x.1).1,q ∈ x.2) (fun x : Nat × List Pt => ⟨[(27,.int .i64 x.1),(26,.int .i64 (plV W).length),(25,.sl (nid + 12) 0 (plV W).length),(10,.int .i64 ((rowsTo W card x.1).2.2 : Nat)),(9,.sl (nid + 4) 0 (rowsTo W card x.1).2.1.length),(8,.mp (nid + 8)),(1,litPl nlc card),(2,.ptr nid 0)],[(nid,boxW nl W),(nid + 4,arrPl (rowsTo W card x.1).2.1),(nid + 8,mapDS x.2 (rowsTo W card x.1).1),(nid + 12,arrPl (plV W))],nid + 1000,nid⟩) (fun x => (plV W).length + 1 - x.1) (0,[]) ⟨by omega,by simp [rowsTo]⟩ (Cov.go [] [(nid + 4,2)] ?_) (fun x hx => ?_)
  ·simp [cvT,step,res,boxW,arrPl,mapDS,litPl,rowsTo,-List.getD_eq_getElem?_getD]
  obtain ⟨k,D⟩ := x
  obtain ⟨hk,hD⟩ := hx
  simp only at hk hD ⊢
  have hlen := rowsTo_len (W := W) (card := card) k hk
  have hunt := rowsTo_unt (W := W) (card := card) k hk
  have hsu := fun h => rowsTo_succ (W := W) (card := card) (k := k) h
  have hmul : k * card.length ≤ 60000 * 1000 := Nat.mul_le_mul (by omega) hl
  refine SR.seq ?_
  unfold arrPl boxW mapDS litPl
  simp -dsimp only [aqA,↓seqK,↓blkK,↓loopK,step,stepBin,eqB,Nat.add_assoc nid,↓reduceIte,simprocAttr,LN_succ]
  refine SR.seq ?_
  simp -dsimp only [aqA,↓seqK,↓blkK,↓loopK,step,stepBin,eqB,Nat.add_assoc nid,↓reduceIte,simprocAttr,LN_succ]
  refine S2.dec (fun h3 => ?_) (fun h3 => ?_) <;> simp -dsimp only [aqA,↓seqK,↓blkK,↓loopK,step,stepBin,eqB,Nat.add_assoc nid,↓reduceIte,simprocAttr,LN_succ]
  ·have hkl : k < (plV W).length := by omega
   have hpm := ptMem hkl
   have hpb := plV_bd hW hpm
   have hpsm := plV_mem hpm
   have hsu' := hsu hkl
   refine SR.seqW (ι := {T : List Pt // ∀ q ∈ (rowsTo W card (k + 1)).1,q ∈ T}) (fun T => ⟨[(27,.int .i64 k),(26,.int .i64 (plV W).length),(25,.sl (nid + 12) 0 (plV W).length),(10,.int .i64 ((rowsTo W card (k + 1)).2.2 : Nat)),(9,.sl (nid + 4) 0 (rowsTo W card (k + 1)).2.1.length),(8,.mp (nid + 8)),(1,litPl nlc card),(2,.ptr nid 0)],[(nid,boxW nl W),(nid + 4,arrPl (rowsTo W card (k + 1)).2.1),(nid + 8,mapDS T.1 (rowsTo W card (k + 1)).1),(nid + 12,arrPl (plV W))],nid + 9000,nid⟩) ?_ (fun ⟨T,hT⟩ => ?_)
   ·refine SR.block ?_
    refine SR.seq ?_
    simp -dsimp only [aqA,↓seqK,↓blkK,↓loopK,step,stepBin,eqB,Nat.add_assoc nid,↓reduceIte,simprocAttr,LN_succ]
    refine ⟨by omega,?_⟩
    rw [hsu']
    generalize hrd : rowsTo W card k = st at *
    obtain ⟨S,out,again⟩ := st
    simp only at hlen hunt hD ⊢
    generalize hpd : (plV W).getD k p0 = p at *
    have hpi : inI64 p.1 ∧ inI64 p.2 := by obtain ⟨h1,h2,h3,h4⟩ := hpb; unfold inI64; omega
    have hro : rowS W card (S,out,again) p = if (untB W p && !S.contains p) = true then (S ++ tV W card (downP card p),out ++ [downP card p],again + ((touchL card (downP card p)).filter (badT W S)).length) else (S,out,again) := rfl
    refine SR.cov (t' := .mk) (st' := ⟨[(12,.ptr (nid + 16) 0),(27,.int .i64 k),(26,.int .i64 (plV W).length),(25,.sl (nid + 12) 0 (plV W).length),(10,.int .i64 (again : Nat)),(9,.sl (nid + 4) 0 out.length),(8,.mp (nid + 8)),(1,litPl nlc card),(2,.ptr nid 0)],[(nid,boxW nl W),(nid + 4,arrPl out),(nid + 8,mapDS D S),(nid + 12,arrPl (plV W)),(nid + 16,some (.box 34 [.int .i64 p.1,.int .i64 p.2]))],nid + 2000,nid⟩) (Cov.go [(nid + 16,nid + 1012)] [] ?_) ?_
    ·simp [cvT,step,res,boxW,arrPl,mapDS,litPl,-List.getD_eq_getElem?_getD]
    refine SR.seqEx (ι := PLift ((untB W p && !S.contains p) = true)) (fun _ => ⟨[(12,.ptr (nid + 16) 0),(27,.int .i64 k),(26,.int .i64 (plV W).length),(25,.sl (nid + 12) 0 (plV W).length),(10,.int .i64 (again : Nat)),(9,.sl (nid + 4) 0 out.length),(8,.mp (nid + 8)),(1,litPl nlc card),(2,.ptr nid 0)],[(nid,boxW nl W),(nid + 4,arrPl out),(nid + 8,mapDS D S),(nid + 12,arrPl (plV W)),(nid + 16,some (.box 34 [.int .i64 p.1,.int .i64 p.2]))],nid + 3000,nid⟩) ?_ (fun ⟨hyes⟩ => ?_)
    ·unfold arrPl boxW mapDS litPl
     simp -dsimp only [aqA,↓seqK,↓blkK,↓loopK,step,stepBin,eqB,Nat.add_assoc nid,↓reduceIte,simprocAttr,LN_succ]
     refine CallO.pure (hun p _ hpi) ?_
     have hsa := seen_and hD p
     cases hu : untB W p <;> simp -dsimp only [aqA,↓seqK,↓blkK,↓loopK,step,stepBin,eqB,Nat.add_assoc nid,↓reduceIte,simprocAttr,LN_succ,Bool.not_true,Bool.not_false]
     ·rw [hro,if_neg (by simp [hu])]
      refine ⟨⟨D,hD⟩,Cov.go [] [] ?_⟩
      simp [cvT,step,res,boxW,arrPl,mapDS,litPl,-List.getD_eq_getElem?_getD]
     ·refine ⟨hpi,?_⟩
      rw [hsa]
      cases hs : S.contains p <;> simp -dsimp only [aqA,↓seqK,↓blkK,↓loopK,step,stepBin,eqB,Nat.add_assoc nid,↓reduceIte,simprocAttr,LN_succ]
      ·refine ⟨⟨rfl⟩,Cov.go [] [] ?_⟩
       simp [cvT,step,res,boxW,arrPl,mapDS,litPl,-List.getD_eq_getElem?_getD]
      ·rw [hro,if_neg (by rw [hu,hs]; decide)]
       refine ⟨⟨D,hD⟩,Cov.go [] [] ?_⟩
       simp [cvT,step,res,boxW,arrPl,mapDS,litPl,-List.getD_eq_getElem?_getD]
    rw [hro,if_pos hyes]
    have hpn : p.1 ≤ 100 ∧ 0 ≤ p.1 ∧ p.2 ≤ 100 ∧ 0 ≤ p.2 := by
     obtain ⟨x,y,rfl,h1,h2⟩ := hpsm
     have := (hW.at h1).1
     have := hW.wide.2
     have := hW.len
     simp only
     omega
    have hc0 := hc _ (ptMem hcp)
    have hdb : PtBd (downP card p) ∧ inI64 (p.1 - (card.getD 0 p0).1) ∧ inI64 (p.2 - (card.getD 0 p0).2) := by unfold downP PtBd inI64; simp only; omega
    have hds : (downP card p).1 ≤ 200 ∧ -200 ≤ (downP card p).1 ∧ (downP card p).2 ≤ 200 ∧ -200 ≤ (downP card p).2 := by unfold downP; simp only; omega
    have hd1 : downP card p = (p.1 - (card.getD 0 p0).1,p.2 - (card.getD 0 p0).2) := rfl
    refine SR.seqTo ⟨[(13,.ptr (nid + 20) 0),(27,.int .i64 k),(26,.int .i64 (plV W).length),(25,.sl (nid + 12) 0 (plV W).length),(10,.int .i64 (again : Nat)),(9,.sl (nid + 4) 0 out.length),(8,.mp (nid + 8)),(1,litPl nlc card),(2,.ptr nid 0)],[(nid,boxW nl W),(nid + 4,arrPl out),(nid + 8,mapDS D S),(nid + 12,arrPl (plV W)),(nid + 20,some (.box 34 [.int .i64 (downP card p).1,.int .i64 (downP card p).2]))],nid + 4000,nid⟩ ?_ ?_
    ·unfold arrPl boxW mapDS litPl
     simp -dsimp only [aqA,↓seqK,↓blkK,↓loopK,step,stepBin,eqB,Nat.add_assoc nid,↓reduceIte,simprocAttr,LN_succ]
     refine ⟨by omega,hdb.2.1,by omega,hdb.2.2,Cov.go [(nid + 20,nid + 3060)] [] ?_⟩
     simp [cvT,step,res,hd1,-List.getD_eq_getElem?_getD]
    have htn : (touchL card (downP card p)).Nodup := touchL_nodup hn (downP card p)
    have htl := touchL_len card (downP card p)
    have hin : ∀ q ∈ touchL card (downP card p),inI64 q.1 ∧ inI64 q.2 := fun q hq => touchL_in (card := card) (a := downP card p) (fun r hr => by have := hc r hr; omega) (by omega) hq
    have htd := fun m => hto (downP card p) m hdb.1
    have htv : tV W card (downP card p) = (touchL card (downP card p)).filter (untB W) := rfl
    rw [htv]
    have hS0 : seenTo W S (touchL card (downP card p)) 0 = S := by simp [seenTo]
    have hA0 : againTo W S (touchL card (downP card p)) 0 = 0 := by simp [againTo]
    have hSn : seenTo W S (touchL card (downP card p)) (touchL card (downP card p)).length = S ++ (touchL card (downP card p)).filter (untB W) := by unfold seenTo; rw [List.take_length]
    have hAn : againTo W S (touchL card (downP card p)) (touchL card (downP card p)).length = ((touchL card (downP card p)).filter (badT W S)).length := by unfold againTo; rw [List.take_length]
    have hAl : ∀ j,againTo W S (touchL card (downP card p)) j ≤ (touchL card (downP card p)).length := fun j => by
     have h1 := List.length_filter_le (badT W S) ((touchL card (downP card p)).take j)
     unfold againTo
     rw [List.length_take] at h1
     omega
    generalize downP card p = d at *
    refine SR.seqTo ⟨[(13,.ptr (nid + 20) 0),(27,.int .i64 k),(26,.int .i64 (plV W).length),(25,.sl (nid + 12) 0 (plV W).length),(10,.int .i64 (again : Nat)),(9,.sl (nid + 4) 0 (out ++ [d]).length),(8,.mp (nid + 8)),(1,litPl nlc card),(2,.ptr nid 0)],[(nid,boxW nl W),(nid + 4,arrPl (out ++ [d])),(nid + 8,mapDS D S),(nid + 12,arrPl (plV W)),(nid + 20,some (.box 34 [.int .i64 d.1,.int .i64 d.2]))],nid + 5000,nid⟩ ?_ ?_
    ·unfold arrPl boxW mapDS litPl
     simp -dsimp only [aqA,↓seqK,↓blkK,↓loopK,step,stepBin,eqB,Nat.add_assoc nid,↓reduceIte,simprocAttr,LN_succ]
     rw [getD_appP out d rfl (fun q => q.1) rfl rfl,getD_appP out d rfl (fun q => q.2) rfl rfl]
     have hol : (out ++ [d]).length = out.length + 1 := by simp
     refine ⟨⟨by omega,by omega⟩,Cov.go [(nid + 4,nid + 4012)] [] ?_⟩
     simp [cvT,step,res,hol,-List.getD_eq_getElem?_getD,-List.length_append]
    refine SR.seqTo ⟨[(63,.int .i64 0),(62,.int .i64 (touchL card d).length),(61,.sl (nid + 24) 0 (touchL card d).length),(27,.int .i64 k),(26,.int .i64 (plV W).length),(25,.sl (nid + 12) 0 (plV W).length),(10,.int .i64 (again : Nat)),(9,.sl (nid + 4) 0 (out ++ [d]).length),(8,.mp (nid + 8)),(1,litPl nlc card),(2,.ptr nid 0)],[(nid,boxW nl W),(nid + 4,arrPl (out ++ [d])),(nid + 8,mapDS D S),(nid + 12,arrPl (plV W)),(nid + 24,arrPl (touchL card d))],nid + 6000,nid⟩ ?_ ?_
    ·unfold arrPl boxW mapDS litPl
     unfold arrPl at htd
     simp -dsimp only [aqA,↓seqK,↓blkK,↓loopK,step,stepBin,eqB,Nat.add_assoc nid,↓reduceIte,simprocAttr,LN_succ]
     refine CallO.pure (htd _) ?_
     simp -dsimp only [aqA,↓seqK,↓blkK,↓loopK,step,stepBin,eqB,Nat.add_assoc nid,↓reduceIte,simprocAttr,LN_succ]
     refine Cov.go [(nid + 24,nid + 5008)] [] ?_
     simp [cvT,step,res,-List.getD_eq_getElem?_getD,-List.length_append]
    generalize hTd : touchL card d = T at *
    have hss := fun j h => seenTo_succ W S (T := T) (k := j) h
    have has := fun j h => againTo_succ W S (T := T) (k := j) h
    have hsh := fun j h => seenTo_has (W := W) (S := S) htn (k := j) h
    rw [← hSn,← hAn]
    refine SR.block ?_
    refine SR.loopP (fun x : Nat × List Pt => x.1 ≤ T.length ∧ ∀ q ∈ seenTo W S T x.1,q ∈ x.2) (fun x : Nat × List Pt => ⟨[(63,.int .i64 x.1),(62,.int .i64 T.length),(61,.sl (nid + 24) 0 T.length),(27,.int .i64 k),(26,.int .i64 (plV W).length),(25,.sl (nid + 12) 0 (plV W).length),(10,.int .i64 ((again + againTo W S T x.1 : Nat) : Int)),(9,.sl (nid + 4) 0 (out ++ [d]).length),(8,.mp (nid + 8)),(1,litPl nlc card),(2,.ptr nid 0)],[(nid,boxW nl W),(nid + 4,arrPl (out ++ [d])),(nid + 8,mapDS x.2 (seenTo W S T x.1)),(nid + 12,arrPl (plV W)),(nid + 24,arrPl T)],nid + 6100,nid⟩) (fun x => T.length + 1 - x.1) (0,D) ⟨by omega,by rw [hS0]; exact hD⟩ (Cov.go [] [] ?_) (fun x hx => ?_)
    ·simp [cvT,step,res,boxW,arrPl,mapDS,litPl,hS0,hA0,-List.getD_eq_getElem?_getD,-List.length_append]
    obtain ⟨j,E⟩ := x
    obtain ⟨hj,hE⟩ := hx
    simp only at hj hE ⊢
    have hAj := hAl j
    refine SR.seq ?_
    unfold arrPl boxW mapDS litPl
    simp -dsimp only [aqA,↓seqK,↓blkK,↓loopK,step,stepBin,eqB,Nat.add_assoc nid,↓reduceIte,simprocAttr,LN_succ]
    refine SR.seq ?_
    simp -dsimp only [aqA,↓seqK,↓blkK,↓loopK,step,stepBin,eqB,Nat.add_assoc nid,↓reduceIte,simprocAttr,LN_succ]
    refine S2.dec (fun h5 => ?_) (fun h5 => ?_) <;> simp -dsimp only [aqA,↓seqK,↓blkK,↓loopK,step,stepBin,eqB,Nat.add_assoc nid,↓reduceIte,simprocAttr,LN_succ]
    ·have hjl : j < T.length := by omega
     have hqi := hin _ (ptMem hjl)
     have hsj := hss j hjl
     have haj := has j hjl
     have hhj := hsh j hjl
     have hsa := seen_and hE (T.getD j p0)
     rw [hhj] at hsa
     have hdq : allP W (T.getD j p0) = (isBinV (dieV W (T.getD j p0).1 (T.getD j p0).2) || dieV W (T.getD j p0).1 (T.getD j p0).2 == 42) := rfl
     have hbq : badT W S (T.getD j p0) = (allP W (T.getD j p0) || S.contains (T.getD j p0)) := rfl
     have huq : untB W (T.getD j p0) = (dieV W (T.getD j p0).1 (T.getD j p0).2 == 63) := rfl
     have hSu := fun hh : S.contains (T.getD j p0) = true => hunt (T.getD j p0) (by simpa using hh)
     have hatq := fun m => hat (T.getD j p0) m hqi.1 hqi.2
     have hpu := seen_put (seenTo W S T j) (T.getD j p0)
     have hsn := seenD_snoc (seenTo W S T j) (T.getD j p0)
     have hdn := seenD_snoc E (T.getD j p0)
     rw [hhj] at hpu
     generalize hqd : T.getD j p0 = q at *
     generalize dieV W q.1 q.2 = c at *
     generalize hSc : S.contains q = sc at *
     refine SR.seqW (ι := Unit) (fun _ => ⟨[(63,.int .i64 j),(62,.int .i64 T.length),(61,.sl (nid + 24) 0 T.length),(27,.int .i64 k),(26,.int .i64 (plV W).length),(25,.sl (nid + 12) 0 (plV W).length),(10,.int .i64 ((again + againTo W S T (j + 1) : Nat) : Int)),(9,.sl (nid + 4) 0 (out ++ [d]).length),(8,.mp (nid + 8)),(1,litPl nlc card),(2,.ptr nid 0)],[(nid,boxW nl W),(nid + 4,arrPl (out ++ [d])),(nid + 8,mapDS (E ++ [q]) (seenTo W S T (j + 1))),(nid + 12,arrPl (plV W)),(nid + 24,arrPl T)],nid + 8000,nid⟩) ?_ (fun _ => ?_)
     ·refine SR.block ?_
      refine SR.seq ?_
      simp -dsimp only [aqA,↓seqK,↓blkK,↓loopK,step,stepBin,eqB,Nat.add_assoc nid,↓reduceIte,simprocAttr,LN_succ]
      refine ⟨by omega,?_⟩
      rw [hqd]
      refine SR.seqTo ⟨[(16,.int .u8 c),(15,.ptr (nid + 28) 0),(63,.int .i64 j),(62,.int .i64 T.length),(61,.sl (nid + 24) 0 T.length),(27,.int .i64 k),(26,.int .i64 (plV W).length),(25,.sl (nid + 12) 0 (plV W).length),(10,.int .i64 ((again + againTo W S T j : Nat) : Int)),(9,.sl (nid + 4) 0 (out ++ [d]).length),(8,.mp (nid + 8)),(1,litPl nlc card),(2,.ptr nid 0)],[(nid,boxW nl W),(nid + 4,arrPl (out ++ [d])),(nid + 8,mapDS E (seenTo W S T j)),(nid + 12,arrPl (plV W)),(nid + 24,arrPl T),(nid + 28,some (.box 34 [.int .i64 q.1,.int .i64 q.2]))],nid + 6400,nid⟩ ?_ ?_
      ·simp -dsimp only [aqA,↓seqK,↓blkK,↓loopK,step,stepBin,eqB,Nat.add_assoc nid,↓reduceIte,simprocAttr,LN_succ]
       refine CallO.pure (hatq _) ?_
       simp -dsimp only [aqA,↓seqK,↓blkK,↓loopK,step,stepBin,eqB,Nat.add_assoc nid,↓reduceIte,simprocAttr,LN_succ]
       refine Cov.go [(nid + 28,nid + 6112)] [] ?_
       simp [cvT,step,res,boxW,arrPl,mapDS,litPl,-List.getD_eq_getElem?_getD,-List.length_append]
      refine SR.seqTo ⟨[(16,.int .u8 c),(15,.ptr (nid + 28) 0),(63,.int .i64 j),(62,.int .i64 T.length),(61,.sl (nid + 24) 0 T.length),(27,.int .i64 k),(26,.int .i64 (plV W).length),(25,.sl (nid + 12) 0 (plV W).length),(10,.int .i64 ((again + againTo W S T (j + 1) : Nat) : Int)),(9,.sl (nid + 4) 0 (out ++ [d]).length),(8,.mp (nid + 8)),(1,litPl nlc card),(2,.ptr nid 0)],[(nid,boxW nl W),(nid + 4,arrPl (out ++ [d])),(nid + 8,mapDS E (seenTo W S T j)),(nid + 12,arrPl (plV W)),(nid + 24,arrPl T),(nid + 28,some (.box 34 [.int .i64 q.1,.int .i64 q.2]))],nid + 6600,nid⟩ ?_ ?_
      ·unfold arrPl boxW mapDS litPl
       simp -dsimp only [aqA,↓seqK,↓blkK,↓loopK,step,stepBin,eqB,Nat.add_assoc nid,↓reduceIte,simprocAttr,LN_succ]
       refine CallO.pure (tested_c _ _) ?_
       rw [← hdq]
       cases ht : allP W q <;> rw [ht] at hbq <;> simp -dsimp only [aqA,↓seqK,↓blkK,↓loopK,step,stepBin,eqB,Nat.add_assoc nid,↓reduceIte,simprocAttr,LN_succ]
       ·refine ⟨hqi,?_⟩
        rw [hsa]
        cases sc <;> rw [hbq] at haj <;> simp -dsimp only [aqA,↓seqK,↓blkK,↓loopK,step,stepBin,eqB,Nat.add_assoc nid,↓reduceIte,simprocAttr,LN_succ]
        ·simp only [Bool.or_self,Bool.false_eq_true,if_false,Nat.add_zero] at haj
         refine Cov.go [] [] ?_
         simp [cvT,step,res,boxW,arrPl,mapDS,litPl,haj,-List.getD_eq_getElem?_getD,-List.length_append]
        ·simp only [Bool.false_or,if_true] at haj
         refine ⟨by unfold inI64; omega,Cov.go [] [] ?_⟩
         simp [cvT,step,res,boxW,arrPl,mapDS,litPl,haj,-List.getD_eq_getElem?_getD,-List.length_append]
         try omega
       ·rw [hbq] at haj
        simp only [Bool.true_or,if_true] at haj
        refine ⟨by unfold inI64; omega,Cov.go [] [] ?_⟩
        simp [cvT,step,res,boxW,arrPl,mapDS,litPl,haj,-List.getD_eq_getElem?_getD,-List.length_append]
        try omega
      refine SR.run (t := .mk) ?_
      unfold arrPl boxW mapDS litPl
      simp -dsimp only [aqA,↓seqK,↓blkK,↓loopK,step,stepBin,eqB,Nat.add_assoc nid,↓reduceIte,simprocAttr,LN_succ]
      refine ⟨hqi,?_⟩
      rw [hsa]
      cases sc
      ·simp -dsimp only [aqA,↓seqK,↓blkK,↓loopK,step,stepBin,eqB,Nat.add_assoc nid,↓reduceIte,simprocAttr,LN_succ]
       rw [← huq]
       cases hu : untB W q <;> rw [hu] at hsj
       ·rw [if_neg (by simp),List.append_nil] at hsj
        refine ⟨hqi,?_⟩
        rw [hdn,hpu]
        refine ⟨(),Cov.go [] [] ?_⟩
        simp [cvT,step,res,hsj,-List.getD_eq_getElem?_getD,-List.length_append]
       ·rw [if_pos rfl] at hsj
        refine ⟨hqi,?_⟩
        rw [hdn,hsn]
        refine ⟨(),Cov.go [] [] ?_⟩
        simp [cvT,step,res,hsj,-List.getD_eq_getElem?_getD,-List.length_append]
      ·rw [hSu rfl,if_pos rfl] at hsj
       simp -dsimp only [aqA,↓seqK,↓blkK,↓loopK,step,stepBin,eqB,Nat.add_assoc nid,↓reduceIte,simprocAttr,LN_succ]
       refine ⟨hqi,?_⟩
       rw [hdn,hsn]
       refine ⟨(),Cov.go [] [] ?_⟩
       simp [cvT,step,res,hsj,-List.getD_eq_getElem?_getD,-List.length_append]
     ·refine SR.run (t := .mk) ?_
      unfold arrPl boxW mapDS litPl
      simp -dsimp only [aqA,↓seqK,↓blkK,↓loopK,step,stepBin,eqB,Nat.add_assoc nid,↓reduceIte,simprocAttr,LN_succ]
      refine ⟨by unfold inI64; omega,(j + 1,E ++ [q]),⟨⟨by omega,fun r hr => ?_⟩,by simp only; omega⟩,Cov.go [] [] ?_⟩
      ·simp only at hr ⊢
       rw [hsj] at hr
       rcases List.mem_append.1 hr with hr | hr
       ·exact List.mem_append_left _ (hE r hr)
       ·refine List.mem_append_right _ ?_
        split at hr
        ·exact hr
        ·cases hr
      ·simp [cvT,step,res,boxW,arrPl,mapDS,litPl,-List.getD_eq_getElem?_getD,-List.length_append]
    ·obtain rfl : j = T.length := by omega
     refine ⟨⟨E,hE⟩,Cov.go [] [] ?_⟩
     simp [cvT,step,res,boxW,arrPl,mapDS,litPl,-List.getD_eq_getElem?_getD,-List.length_append]
   ·refine SR.run (t := .mk) ?_
    unfold arrPl boxW mapDS litPl
    simp -dsimp only [aqA,↓seqK,↓blkK,↓loopK,step,stepBin,eqB,Nat.add_assoc nid,↓reduceIte,simprocAttr,LN_succ]
    refine ⟨by unfold inI64; omega,(k + 1,T),⟨⟨by omega,hT⟩,by simp only; omega⟩,Cov.go [] [] ?_⟩
    simp [cvT,step,res,boxW,arrPl,mapDS,litPl,-List.getD_eq_getElem?_getD,-List.length_append]
  ·obtain rfl : k = (plV W).length := by omega
   rw [rowsTo_all]
   refine ⟨(),Cov.go [] [] ?_⟩
   simp [cvT,step,res,boxW,arrPl,mapDS,litPl,-List.getD_eq_getElem?_getD,-List.length_append]
 ·refine SR.run (t := .mk) ?_
  unfold arrPl
  simp -dsimp only [aqA,↓seqK,↓blkK,↓loopK,step,stepBin,eqB,Nat.add_assoc nid,↓reduceIte,simprocAttr,LN_succ]
  refine RetOK.go [(nid,nid + 4)] [] (.inl rfl) ?_
  simp [a16,cvT,step,res,-List.getD_eq_getElem?_getD]
end Go.Proofs.YtmgfcjblclanmaaGreatDoor
namespace Go.Proofs
open Go.Shelf
def Tryz.lays156_ren : Go.Shelf.Ren := ⟨fun | 156 => 76 | 165 => 128 | 166 => 86 | 169 => 89 | 240 => 141 | 241 => 170 | 276 => 185 | 277 => 209 | n => n,fun | 31 => 26 | 9 => 9 | 3 => 3 | 4 => 4 | 0 => 0 | 20 => 20 | 72 => 127 | 76 => 130 | 70 => 125 | 37 => 90 | 75 => 129 | 127 => 167 | 164 => 196 | 5 => 5 | 80 => 62 | n => n,fun | n => n⟩
theorem Tryz.lays156 : Go.Proofs.Lays.n156 Tryz.prog Tryz.lays156_ren := {
 mixed := by kernel_rfl
 f156 := Tryz.func76.trans (congrArg some (by kernel_rfl))
 f165 := Tryz.func128.trans (congrArg some (by kernel_rfl))
 f166 := Tryz.func86.trans (congrArg some (by kernel_rfl))
 f169 := Tryz.func89.trans (congrArg some (by kernel_rfl))
 f240 := Tryz.func141.trans (congrArg some (by kernel_rfl))
 f241 := Tryz.func170.trans (congrArg some (by kernel_rfl))
 f276 := Tryz.func185.trans (congrArg some (by kernel_rfl))
 f277 := Tryz.func209.trans (congrArg some (by kernel_rfl))
 t0 := Tryz.underlying0
 a0 := Tryz.isAgg0
 z0 := Tryz.sizeOf0
 v0 := Tryz.zeroValue0
 t3 := Tryz.underlying3
 a3 := Tryz.isAgg3
 z3 := Tryz.sizeOf3
 v3 := Tryz.zeroValue3
 t4 := Tryz.underlying4
 a4 := Tryz.isAgg4
 z4 := Tryz.sizeOf4
 v4 := Tryz.zeroValue4
 t9 := Tryz.underlying9
 a9 := Tryz.isAgg9
 z9 := Tryz.sizeOf9
 v9 := Tryz.zeroValue9
 t20 := Tryz.underlying20
 a20 := Tryz.isAgg20
 z20 := Tryz.sizeOf20
 v20 := Tryz.zeroValue20
 t31 := Tryz.underlying26
 a31 := Tryz.isAgg26
 z31 := Tryz.sizeOf26
 v31 := Tryz.zeroValue26
 t37 := Tryz.underlying90
 a37 := Tryz.isAgg90
 z37 := Tryz.sizeOf90
 v37 := Tryz.zeroValue90
 t70 := Tryz.underlying125
 a70 := Tryz.isAgg125
 z70 := Tryz.sizeOf125
 v70 := Tryz.zeroValue125
 t72 := Tryz.underlying127
 a72 := Tryz.isAgg127
 z72 := Tryz.sizeOf127
 v72 := Tryz.zeroValue127
 t75 := Tryz.underlying129
 a75 := Tryz.isAgg129
 z75 := Tryz.sizeOf129
 v75 := Tryz.zeroValue129
 t76 := Tryz.underlying130
 a76 := Tryz.isAgg130
 z76 := Tryz.sizeOf130
 v76 := Tryz.zeroValue130
 t127 := Tryz.underlying167
 a127 := Tryz.isAgg167
 z127 := Tryz.sizeOf167
 v127 := Tryz.zeroValue167
 t164 := Tryz.underlying196
 a164 := Tryz.isAgg196
 z164 := Tryz.sizeOf196
 v164 := Tryz.zeroValue196 }
def Tryz.lays138_ren : Go.Shelf.Ren := ⟨fun | 138 => 77 | 195 => 129 | 218 => 130 | 143 => 131 | 219 => 171 | 217 => 168 | 225 => 210 | 224 => 211 | 267 => 212 | 266 => 200 | 314 => 247 | n => n,fun | 9 => 9 | 3 => 3 | 4 => 4 | 5 => 5 | 0 => 0 | 46 => 104 | 146 => 235 | 51 => 192 | n => n,fun | 1 => 0 | n => n⟩
theorem Tryz.lays138 : Go.Proofs.Lays.n138 Tryz.prog Tryz.lays138_ren := {
 mixed := by kernel_rfl
 f138 := Tryz.func77.trans (congrArg some (by kernel_rfl))
 f143 := Tryz.func131.trans (congrArg some (by kernel_rfl))
 f195 := Tryz.func129.trans (congrArg some (by kernel_rfl))
 f217 := Tryz.func168.trans (congrArg some (by kernel_rfl))
 f218 := Tryz.func130.trans (congrArg some (by kernel_rfl))
 f219 := Tryz.func171.trans (congrArg some (by kernel_rfl))
 f224 := Tryz.func211.trans (congrArg some (by kernel_rfl))
 f225 := Tryz.func210.trans (congrArg some (by kernel_rfl))
 f266 := Tryz.func200.trans (congrArg some (by kernel_rfl))
 f267 := Tryz.func212.trans (congrArg some (by kernel_rfl))
 f314 := Tryz.func247.trans (congrArg some (by kernel_rfl))
 t0 := Tryz.underlying0
 a0 := Tryz.isAgg0
 z0 := Tryz.sizeOf0
 v0 := Tryz.zeroValue0
 t3 := Tryz.underlying3
 a3 := Tryz.isAgg3
 z3 := Tryz.sizeOf3
 v3 := Tryz.zeroValue3
 t4 := Tryz.underlying4
 a4 := Tryz.isAgg4
 z4 := Tryz.sizeOf4
 v4 := Tryz.zeroValue4
 t5 := Tryz.underlying5
 a5 := Tryz.isAgg5
 z5 := Tryz.sizeOf5
 v5 := Tryz.zeroValue5
 t9 := Tryz.underlying9
 a9 := Tryz.isAgg9
 z9 := Tryz.sizeOf9
 v9 := Tryz.zeroValue9
 t46 := Tryz.underlying104
 a46 := Tryz.isAgg104
 z46 := Tryz.sizeOf104
 v46 := Tryz.zeroValue104
 t51 := Tryz.underlying192
 a51 := Tryz.isAgg192
 z51 := Tryz.sizeOf192
 v51 := Tryz.zeroValue192
 t146 := Tryz.underlying235
 a146 := Tryz.isAgg235
 z146 := Tryz.sizeOf235
 v146 := Tryz.zeroValue235
 g1 := by kernel_rfl }
def Tryz.lays171_ren : Go.Shelf.Ren := ⟨fun | 171 => 78 | 243 => 132 | 246 => 172 | 283 => 213 | 284 => 214 | 285 => 215 | 286 => 216 | 129 => 182 | 317 => 248 | 318 => 249 | 319 => 250 | 320 => 251 | 337 => 266 | 338 => 267 | n => n,fun | 3 => 3 | 9 => 9 | 2 => 2 | 4 => 4 | 171 => 209 | 0 => 0 | 53 => 194 | 37 => 90 | 5 => 5 | 173 => 211 | 212 => 242 | 51 => 192 | 20 => 20 | 213 => 243 | 46 => 104 | 232 => 265 | 233 => 266 | n => n,fun | 17 => 1 | 18 => 4 | 19 => 5 | n => n⟩
theorem Tryz.lays171 : Go.Proofs.Lays.n171 Tryz.prog Tryz.lays171_ren := {
 mixed := by kernel_rfl
 f129 := Tryz.func182.trans (congrArg some (by kernel_rfl))
 f171 := Tryz.func78.trans (congrArg some (by kernel_rfl))
 f243 := Tryz.func132.trans (congrArg some (by kernel_rfl))
 f246 := Tryz.func172.trans (congrArg some (by kernel_rfl))
 f283 := Tryz.func213.trans (congrArg some (by kernel_rfl))
 f284 := Tryz.func214.trans (congrArg some (by kernel_rfl))
 f285 := Tryz.func215.trans (congrArg some (by kernel_rfl))
 f286 := Tryz.func216.trans (congrArg some (by kernel_rfl))
 f317 := Tryz.func248.trans (congrArg some (by kernel_rfl))
 f318 := Tryz.func249.trans (congrArg some (by kernel_rfl))
 f319 := Tryz.func250.trans (congrArg some (by kernel_rfl))
 f320 := Tryz.func251.trans (congrArg some (by kernel_rfl))
 f337 := Tryz.func266.trans (congrArg some (by kernel_rfl))
 f338 := Tryz.func267.trans (congrArg some (by kernel_rfl))
 t0 := Tryz.underlying0
 a0 := Tryz.isAgg0
 z0 := Tryz.sizeOf0
 v0 := Tryz.zeroValue0
 t2 := Tryz.underlying2
 a2 := Tryz.isAgg2
 z2 := Tryz.sizeOf2
 v2 := Tryz.zeroValue2
 t3 := Tryz.underlying3
 a3 := Tryz.isAgg3
 z3 := Tryz.sizeOf3
 v3 := Tryz.zeroValue3
 t4 := Tryz.underlying4
 a4 := Tryz.isAgg4
 z4 := Tryz.sizeOf4
 v4 := Tryz.zeroValue4
 t5 := Tryz.underlying5
 a5 := Tryz.isAgg5
 z5 := Tryz.sizeOf5
 v5 := Tryz.zeroValue5
 t9 := Tryz.underlying9
 a9 := Tryz.isAgg9
 z9 := Tryz.sizeOf9
 v9 := Tryz.zeroValue9
 t20 := Tryz.underlying20
 a20 := Tryz.isAgg20
 z20 := Tryz.sizeOf20
 v20 := Tryz.zeroValue20
 t37 := Tryz.underlying90
 a37 := Tryz.isAgg90
 z37 := Tryz.sizeOf90
 v37 := Tryz.zeroValue90
 t46 := Tryz.underlying104
 a46 := Tryz.isAgg104
 z46 := Tryz.sizeOf104
 v46 := Tryz.zeroValue104
 t51 := Tryz.underlying192
 a51 := Tryz.isAgg192
 z51 := Tryz.sizeOf192
 v51 := Tryz.zeroValue192
 t53 := Tryz.underlying194
 a53 := Tryz.isAgg194
 z53 := Tryz.sizeOf194
 v53 := Tryz.zeroValue194
 t171 := Tryz.underlying209
 a171 := Tryz.isAgg209
 z171 := Tryz.sizeOf209
 v171 := Tryz.zeroValue209
 t173 := Tryz.underlying211
 a173 := Tryz.isAgg211
 z173 := Tryz.sizeOf211
 v173 := Tryz.zeroValue211
 t212 := Tryz.underlying242
 a212 := Tryz.isAgg242
 z212 := Tryz.sizeOf242
 v212 := Tryz.zeroValue242
 t213 := Tryz.underlying243
 a213 := Tryz.isAgg243
 z213 := Tryz.sizeOf243
 t232 := Tryz.underlying265
 a232 := Tryz.isAgg265
 z232 := Tryz.sizeOf265
 v232 := Tryz.zeroValue265
 t233 := Tryz.underlying266
 a233 := Tryz.isAgg266
 z233 := Tryz.sizeOf266
 v233 := Tryz.zeroValue266
 g17 := by kernel_rfl
 g18 := by kernel_rfl
 g19 := by kernel_rfl }
def Tryz.lays106_ren : Go.Shelf.Ren := ⟨fun | 106 => 81 | 213 => 135 | 265 => 183 | n => n,fun | 9 => 9 | 3 => 3 | n => n,fun | n => n⟩
theorem Tryz.lays106 : Go.Proofs.Lays.n106 Tryz.prog Tryz.lays106_ren := {
 mixed := by kernel_rfl
 f106 := Tryz.func81.trans (congrArg some (by kernel_rfl))
 f213 := Tryz.func135.trans (congrArg some (by kernel_rfl))
 f265 := Tryz.func183.trans (congrArg some (by kernel_rfl))
 t3 := Tryz.underlying3
 a3 := Tryz.isAgg3
 z3 := Tryz.sizeOf3
 v3 := Tryz.zeroValue3
 t9 := Tryz.underlying9
 a9 := Tryz.isAgg9
 z9 := Tryz.sizeOf9
 v9 := Tryz.zeroValue9 }
def Tryz.sortP_ren : Go.Shelf.Ren := ⟨fun | 6 => 124 | 15 => 134 | 14 => 169 | 28 => 181 | 29 => 182 | 20 => 201 | 21 => 202 | 22 => 203 | 23 => 204 | 24 => 205 | 25 => 206 | 26 => 207 | 27 => 208 | 46 => 244 | 47 => 218 | 48 => 219 | 49 => 245 | 50 => 246 | 57 => 265 | n => n,fun | 22 => 30 | 24 => 34 | 25 => 87 | 3 => 3 | 39 => 104 | 0 => 0 | 53 => 192 | 55 => 194 | 4 => 4 | 46 => 186 | 45 => 185 | 50 => 133 | 5 => 5 | 9 => 9 | 66 => 213 | 70 => 217 | 76 => 244 | 77 => 145 | n => n,fun | n => n⟩
theorem Tryz.sortP : Go.Proofs.SlLaysF0.n6 Tryz.prog Tryz.sortP_ren := {
 mixed := by kernel_rfl
 f6 := ⟨Tryz.f124.name,by decide,Tryz.func124.trans (congrArg some (by kernel_rfl))⟩
 f14 := ⟨Tryz.f169.name,by decide,Tryz.func169.trans (congrArg some (by kernel_rfl))⟩
 f15 := Tryz.func134.trans (congrArg some (by kernel_rfl))
 f20 := ⟨Tryz.f201.name,by decide,Tryz.func201.trans (congrArg some (by kernel_rfl))⟩
 f21 := ⟨Tryz.f202.name,by decide,Tryz.func202.trans (congrArg some (by kernel_rfl))⟩
 f22 := ⟨Tryz.f203.name,by decide,Tryz.func203.trans (congrArg some (by kernel_rfl))⟩
 f23 := ⟨Tryz.f204.name,by decide,Tryz.func204.trans (congrArg some (by kernel_rfl))⟩
 f24 := ⟨Tryz.f205.name,by decide,Tryz.func205.trans (congrArg some (by kernel_rfl))⟩
 f25 := ⟨Tryz.f206.name,by decide,Tryz.func206.trans (congrArg some (by kernel_rfl))⟩
 f26 := ⟨Tryz.f207.name,by decide,Tryz.func207.trans (congrArg some (by kernel_rfl))⟩
 f27 := ⟨Tryz.f208.name,by decide,Tryz.func208.trans (congrArg some (by kernel_rfl))⟩
 f28 := Tryz.func181.trans (congrArg some (by kernel_rfl))
 f29 := Tryz.func182.trans (congrArg some (by kernel_rfl))
 f46 := ⟨Tryz.f244.name,by decide,Tryz.func244.trans (congrArg some (by kernel_rfl))⟩
 f47 := Tryz.func218.trans (congrArg some (by kernel_rfl))
 f48 := Tryz.func219.trans (congrArg some (by kernel_rfl))
 f49 := ⟨Tryz.f245.name,by decide,Tryz.func245.trans (congrArg some (by kernel_rfl))⟩
 f50 := ⟨Tryz.f246.name,by decide,Tryz.func246.trans (congrArg some (by kernel_rfl))⟩
 f57 := ⟨Tryz.f265.name,by decide,Tryz.func265.trans (congrArg some (by kernel_rfl))⟩
 t0 := Tryz.underlying0
 a0 := Tryz.isAgg0
 z0 := Tryz.sizeOf0
 v0 := Tryz.zeroValue0
 t3 := Tryz.underlying3
 a3 := Tryz.isAgg3
 z3 := Tryz.sizeOf3
 v3 := Tryz.zeroValue3
 t4 := Tryz.underlying4
 a4 := Tryz.isAgg4
 z4 := Tryz.sizeOf4
 v4 := Tryz.zeroValue4
 t5 := Tryz.underlying5
 a5 := Tryz.isAgg5
 z5 := Tryz.sizeOf5
 v5 := Tryz.zeroValue5
 t9 := Tryz.underlying9
 a9 := Tryz.isAgg9
 z9 := Tryz.sizeOf9
 v9 := Tryz.zeroValue9
 t22 := Tryz.underlying30
 a22 := Tryz.isAgg30
 z22 := Tryz.sizeOf30
 v22 := Tryz.zeroValue30
 t25 := Tryz.underlying87
 a25 := Tryz.isAgg87
 z25 := Tryz.sizeOf87
 v25 := Tryz.zeroValue87
 t39 := Tryz.underlying104
 a39 := Tryz.isAgg104
 z39 := Tryz.sizeOf104
 v39 := Tryz.zeroValue104
 t45 := Tryz.underlying185
 a45 := Tryz.isAgg185
 z45 := Tryz.sizeOf185
 v45 := Tryz.zeroValue185
 t46 := Tryz.underlying186
 a46 := Tryz.isAgg186
 z46 := Tryz.sizeOf186
 v46 := Tryz.zeroValue186
 t50 := Tryz.underlying133
 a50 := Tryz.isAgg133
 z50 := Tryz.sizeOf133
 v50 := Tryz.zeroValue133
 t53 := Tryz.underlying192
 a53 := Tryz.isAgg192
 z53 := Tryz.sizeOf192
 v53 := Tryz.zeroValue192
 t55 := Tryz.underlying194
 a55 := Tryz.isAgg194
 z55 := Tryz.sizeOf194
 v55 := Tryz.zeroValue194
 t66 := Tryz.underlying213
 a66 := Tryz.isAgg213
 z66 := Tryz.sizeOf213
 v66 := Tryz.zeroValue213
 t70 := Tryz.underlying217
 a70 := Tryz.isAgg217
 z70 := Tryz.sizeOf217
 v70 := Tryz.zeroValue217
 t76 := Tryz.underlying244
 a76 := Tryz.isAgg244
 z76 := Tryz.sizeOf244
 v76 := Tryz.zeroValue244
 t77 := Tryz.underlying145
 a77 := Tryz.isAgg145
 z77 := Tryz.sizeOf145
 v77 := Tryz.zeroValue145 }
def Tryz.sortD_ren : Go.Shelf.Ren := ⟨fun | 6 => 138 | 15 => 134 | 14 => 184 | 28 => 181 | 29 => 182 | 20 => 222 | 21 => 223 | 22 => 224 | 23 => 225 | 24 => 226 | 25 => 227 | 26 => 228 | 27 => 229 | 46 => 253 | 47 => 218 | 48 => 219 | 49 => 254 | 50 => 255 | 57 => 268 | n => n,fun | 22 => 118 | 24 => 123 | 25 => 165 | 3 => 3 | 39 => 104 | 0 => 0 | 53 => 192 | 55 => 194 | 4 => 4 | 46 => 186 | 45 => 185 | 50 => 133 | 5 => 5 | 9 => 9 | 66 => 213 | 70 => 217 | 76 => 244 | 77 => 145 | n => n,fun | n => n⟩
theorem Tryz.sortD : Go.Proofs.SlLaysF0.n6 Tryz.prog Tryz.sortD_ren := {
 mixed := by kernel_rfl
 f6 := ⟨Tryz.f138.name,by decide,Tryz.func138.trans (congrArg some (by kernel_rfl))⟩
 f14 := ⟨Tryz.f184.name,by decide,Tryz.func184.trans (congrArg some (by kernel_rfl))⟩
 f15 := Tryz.func134.trans (congrArg some (by kernel_rfl))
 f20 := ⟨Tryz.f222.name,by decide,Tryz.func222.trans (congrArg some (by kernel_rfl))⟩
 f21 := ⟨Tryz.f223.name,by decide,Tryz.func223.trans (congrArg some (by kernel_rfl))⟩
 f22 := ⟨Tryz.f224.name,by decide,Tryz.func224.trans (congrArg some (by kernel_rfl))⟩
 f23 := ⟨Tryz.f225.name,by decide,Tryz.func225.trans (congrArg some (by kernel_rfl))⟩
 f24 := ⟨Tryz.f226.name,by decide,Tryz.func226.trans (congrArg some (by kernel_rfl))⟩
 f25 := ⟨Tryz.f227.name,by decide,Tryz.func227.trans (congrArg some (by kernel_rfl))⟩
 f26 := ⟨Tryz.f228.name,by decide,Tryz.func228.trans (congrArg some (by kernel_rfl))⟩
 f27 := ⟨Tryz.f229.name,by decide,Tryz.func229.trans (congrArg some (by kernel_rfl))⟩
 f28 := Tryz.func181.trans (congrArg some (by kernel_rfl))
 f29 := Tryz.func182.trans (congrArg some (by kernel_rfl))
 f46 := ⟨Tryz.f253.name,by decide,Tryz.func253.trans (congrArg some (by kernel_rfl))⟩
 f47 := Tryz.func218.trans (congrArg some (by kernel_rfl))
 f48 := Tryz.func219.trans (congrArg some (by kernel_rfl))
 f49 := ⟨Tryz.f254.name,by decide,Tryz.func254.trans (congrArg some (by kernel_rfl))⟩
 f50 := ⟨Tryz.f255.name,by decide,Tryz.func255.trans (congrArg some (by kernel_rfl))⟩
 f57 := ⟨Tryz.f268.name,by decide,Tryz.func268.trans (congrArg some (by kernel_rfl))⟩
 t0 := Tryz.underlying0
 a0 := Tryz.isAgg0
 z0 := Tryz.sizeOf0
 v0 := Tryz.zeroValue0
 t3 := Tryz.underlying3
 a3 := Tryz.isAgg3
 z3 := Tryz.sizeOf3
 v3 := Tryz.zeroValue3
 t4 := Tryz.underlying4
 a4 := Tryz.isAgg4
 z4 := Tryz.sizeOf4
 v4 := Tryz.zeroValue4
 t5 := Tryz.underlying5
 a5 := Tryz.isAgg5
 z5 := Tryz.sizeOf5
 v5 := Tryz.zeroValue5
 t9 := Tryz.underlying9
 a9 := Tryz.isAgg9
 z9 := Tryz.sizeOf9
 v9 := Tryz.zeroValue9
 t22 := Tryz.underlying118
 a22 := Tryz.isAgg118
 z22 := Tryz.sizeOf118
 v22 := Tryz.zeroValue118
 t25 := Tryz.underlying165
 a25 := Tryz.isAgg165
 z25 := Tryz.sizeOf165
 v25 := Tryz.zeroValue165
 t39 := Tryz.underlying104
 a39 := Tryz.isAgg104
 z39 := Tryz.sizeOf104
 v39 := Tryz.zeroValue104
 t45 := Tryz.underlying185
 a45 := Tryz.isAgg185
 z45 := Tryz.sizeOf185
 v45 := Tryz.zeroValue185
 t46 := Tryz.underlying186
 a46 := Tryz.isAgg186
 z46 := Tryz.sizeOf186
 v46 := Tryz.zeroValue186
 t50 := Tryz.underlying133
 a50 := Tryz.isAgg133
 z50 := Tryz.sizeOf133
 v50 := Tryz.zeroValue133
 t53 := Tryz.underlying192
 a53 := Tryz.isAgg192
 z53 := Tryz.sizeOf192
 v53 := Tryz.zeroValue192
 t55 := Tryz.underlying194
 a55 := Tryz.isAgg194
 z55 := Tryz.sizeOf194
 v55 := Tryz.zeroValue194
 t66 := Tryz.underlying213
 a66 := Tryz.isAgg213
 z66 := Tryz.sizeOf213
 v66 := Tryz.zeroValue213
 t70 := Tryz.underlying217
 a70 := Tryz.isAgg217
 z70 := Tryz.sizeOf217
 v70 := Tryz.zeroValue217
 t76 := Tryz.underlying244
 a76 := Tryz.isAgg244
 z76 := Tryz.sizeOf244
 v76 := Tryz.zeroValue244
 t77 := Tryz.underlying145
 a77 := Tryz.isAgg145
 z77 := Tryz.sizeOf145
 v77 := Tryz.zeroValue145 }
def Tryz.sortPr_ren : Go.Shelf.Ren := ⟨fun | 6 => 79 | 15 => 134 | 14 => 133 | 28 => 181 | 29 => 182 | 20 => 173 | 21 => 174 | 22 => 175 | 23 => 176 | 24 => 177 | 25 => 178 | 26 => 179 | 27 => 180 | 46 => 217 | 47 => 218 | 48 => 219 | 49 => 220 | 50 => 221 | 57 => 252 | n => n,fun | 22 => 51 | 24 => 78 | 25 => 117 | 3 => 3 | 39 => 104 | 0 => 0 | 53 => 192 | 55 => 194 | 4 => 4 | 46 => 186 | 45 => 185 | 50 => 133 | 5 => 5 | 9 => 9 | 66 => 213 | 70 => 217 | 76 => 244 | 77 => 145 | n => n,fun | n => n⟩
theorem Tryz.sortPr : Go.Proofs.SlLaysF0.n6 Tryz.prog Tryz.sortPr_ren := {
 mixed := by kernel_rfl
 f6 := ⟨Tryz.f79.name,by decide,Tryz.func79.trans (congrArg some (by kernel_rfl))⟩
 f14 := ⟨Tryz.f133.name,by decide,Tryz.func133.trans (congrArg some (by kernel_rfl))⟩
 f15 := Tryz.func134.trans (congrArg some (by kernel_rfl))
 f20 := ⟨Tryz.f173.name,by decide,Tryz.func173.trans (congrArg some (by kernel_rfl))⟩
 f21 := ⟨Tryz.f174.name,by decide,Tryz.func174.trans (congrArg some (by kernel_rfl))⟩
 f22 := ⟨Tryz.f175.name,by decide,Tryz.func175.trans (congrArg some (by kernel_rfl))⟩
 f23 := ⟨Tryz.f176.name,by decide,Tryz.func176.trans (congrArg some (by kernel_rfl))⟩
 f24 := ⟨Tryz.f177.name,by decide,Tryz.func177.trans (congrArg some (by kernel_rfl))⟩
 f25 := ⟨Tryz.f178.name,by decide,Tryz.func178.trans (congrArg some (by kernel_rfl))⟩
 f26 := ⟨Tryz.f179.name,by decide,Tryz.func179.trans (congrArg some (by kernel_rfl))⟩
 f27 := ⟨Tryz.f180.name,by decide,Tryz.func180.trans (congrArg some (by kernel_rfl))⟩
 f28 := Tryz.func181.trans (congrArg some (by kernel_rfl))
 f29 := Tryz.func182.trans (congrArg some (by kernel_rfl))
 f46 := ⟨Tryz.f217.name,by decide,Tryz.func217.trans (congrArg some (by kernel_rfl))⟩
 f47 := Tryz.func218.trans (congrArg some (by kernel_rfl))
 f48 := Tryz.func219.trans (congrArg some (by kernel_rfl))
 f49 := ⟨Tryz.f220.name,by decide,Tryz.func220.trans (congrArg some (by kernel_rfl))⟩
 f50 := ⟨Tryz.f221.name,by decide,Tryz.func221.trans (congrArg some (by kernel_rfl))⟩
 f57 := ⟨Tryz.f252.name,by decide,Tryz.func252.trans (congrArg some (by kernel_rfl))⟩
 t0 := Tryz.underlying0
 a0 := Tryz.isAgg0
 z0 := Tryz.sizeOf0
 v0 := Tryz.zeroValue0
 t3 := Tryz.underlying3
 a3 := Tryz.isAgg3
 z3 := Tryz.sizeOf3
 v3 := Tryz.zeroValue3
 t4 := Tryz.underlying4
 a4 := Tryz.isAgg4
 z4 := Tryz.sizeOf4
 v4 := Tryz.zeroValue4
 t5 := Tryz.underlying5
 a5 := Tryz.isAgg5
 z5 := Tryz.sizeOf5
 v5 := Tryz.zeroValue5
 t9 := Tryz.underlying9
 a9 := Tryz.isAgg9
 z9 := Tryz.sizeOf9
 v9 := Tryz.zeroValue9
 t22 := Tryz.underlying51
 a22 := Tryz.isAgg51
 z22 := Tryz.sizeOf51
 v22 := Tryz.zeroValue51
 t25 := Tryz.underlying117
 a25 := Tryz.isAgg117
 z25 := Tryz.sizeOf117
 v25 := Tryz.zeroValue117
 t39 := Tryz.underlying104
 a39 := Tryz.isAgg104
 z39 := Tryz.sizeOf104
 v39 := Tryz.zeroValue104
 t45 := Tryz.underlying185
 a45 := Tryz.isAgg185
 z45 := Tryz.sizeOf185
 v45 := Tryz.zeroValue185
 t46 := Tryz.underlying186
 a46 := Tryz.isAgg186
 z46 := Tryz.sizeOf186
 v46 := Tryz.zeroValue186
 t50 := Tryz.underlying133
 a50 := Tryz.isAgg133
 z50 := Tryz.sizeOf133
 v50 := Tryz.zeroValue133
 t53 := Tryz.underlying192
 a53 := Tryz.isAgg192
 z53 := Tryz.sizeOf192
 v53 := Tryz.zeroValue192
 t55 := Tryz.underlying194
 a55 := Tryz.isAgg194
 z55 := Tryz.sizeOf194
 v55 := Tryz.zeroValue194
 t66 := Tryz.underlying213
 a66 := Tryz.isAgg213
 z66 := Tryz.sizeOf213
 v66 := Tryz.zeroValue213
 t70 := Tryz.underlying217
 a70 := Tryz.isAgg217
 z70 := Tryz.sizeOf217
 v70 := Tryz.zeroValue217
 t76 := Tryz.underlying244
 a76 := Tryz.isAgg244
 z76 := Tryz.sizeOf244
 v76 := Tryz.zeroValue244
 t77 := Tryz.underlying145
 a77 := Tryz.isAgg145
 z77 := Tryz.sizeOf145
 v77 := Tryz.zeroValue145 }
def Tryz.cmpI_ren : Go.Shelf.Ren := ⟨fun | 5 => 119 | 7 => 167 | n => n,fun | 22 => 3 | 3 => 3 | 4 => 4 | n => n,fun | n => n⟩
theorem Tryz.cmpI : Go.Proofs.SlLaysC2.n5 Tryz.prog Tryz.cmpI_ren := {
 mixed := by kernel_rfl
 f5 := ⟨Tryz.f119.name,by decide,Tryz.func119.trans (congrArg some (by kernel_rfl))⟩
 f7 := ⟨Tryz.f167.name,by decide,Tryz.func167.trans (congrArg some (by kernel_rfl))⟩
 t3 := Tryz.underlying3
 a3 := Tryz.isAgg3
 z3 := Tryz.sizeOf3
 v3 := Tryz.zeroValue3
 t4 := Tryz.underlying4
 a4 := Tryz.isAgg4
 z4 := Tryz.sizeOf4
 v4 := Tryz.zeroValue4
 t22 := Tryz.underlying3
 a22 := Tryz.isAgg3
 z22 := Tryz.sizeOf3
 v22 := Tryz.zeroValue3 }
end Go.Proofs
namespace Go.Proofs.YtmgfcjblclanmaaGreatDoor
open Go.RowKit Go.Shelf Go.Lib Go.Sort
set_option maxHeartbeats 2000000
theorem cmpOr_calls (x y r : Int) (b : Nat) (w : World) (hr0 : x = 0 → r = y) (hr1 : x ≠ 0 → r = x) (h0 : w.cell? ⟨b,0,none⟩ = some (.int .i64 x)) (h1 : w.cell? ⟨b,1,none⟩ = some (.int .i64 y)) :
  Calls Tryz.prog 118 #[.slice (some ⟨b,0,none⟩) 2 2] w fun e w' => e = .returned (.int .i64 r) ∧ w' = w := by
 go_enter Tryz.func118,Tryz.ntmps118
 go_wp2
 refine wp_loop_rounds 3 ?_
 rw [rounds_succ]
 go_wp2
 ·have hx : x ≠ 0 := by rename_i hx; simpa using hx
  rw [hr1 hx]
  go_ret
  exact ⟨rfl,rfl⟩
 have hx : x = 0 := by rename_i hx; simpa using hx
 have hr := hr0 hx
 subst hr
 clear hr0 hr1
 rw [rounds_succ]
 go_wp2
 ·go_ret
  exact ⟨rfl,rfl⟩
 have hy : r = 0 := by rename_i hy; simpa using hy
 rw [rounds_succ]
 go_wp2
 subst hy
 go_ret
 exact ⟨rfl,rfl⟩
def Kept (p : Prop) : Prop := p
def byRowV (p q : Pt) : Int := if Lib.compareInt p.2 q.2 = 0 then Lib.compareInt p.1 q.1 else Lib.compareInt p.2 q.2
set_option maxRecDepth 20000 in
set_option maxHeartbeats 4000000 in
theorem byRow_calls (p q : Pt) (W : World) : Calls Tryz.prog 47 #[.agg #[.int .i64 p.1,.int .i64 p.2],.agg #[.int .i64 q.1,.int .i64 q.2]] W fun e w' => e = .returned (.int .i64 (byRowV p q)) ∧ ∃ n os',w' = grow (W.drewN n) os' := by
 obtain ⟨px,py⟩ := p
 obtain ⟨qx,qy⟩ := q
 have hC := fun a b W' => AnyG.cmp_Compare_int Tryz.cmpI a b W'
 change ∀ a b W',Calls Tryz.prog 119 _ _ _ at hC
 unfold byRowV
 simp only
 generalize Lib.compareInt = F at *
 have hO : ∀ b w,w.cell? ⟨b,0,none⟩ = some (.int .i64 (F py qy)) → w.cell? ⟨b,1,none⟩ = some (.int .i64 (F px qx)) → Calls Tryz.prog 118 #[.slice (some ⟨b,0,none⟩) 2 2] w fun e w' => e = .returned (.int .i64 (if F py qy = 0 then F px qx else F py qy)) ∧ w' = w :=
  fun b w h0 h1 => cmpOr_calls (F py qy) (F px qx) _ b w (fun h => by rw [if_pos h]) (fun h => by rw [if_neg h]) h0 h1
 generalize (if F py qy = 0 then F px qx else F py qy) = r at *
 go_enter Tryz.func47,Tryz.ntmps47
 go_wp2
 have c1 : ((W.alloc (.cells #[.int .i64 px,.int .i64 py] 34)).alloc (.cells #[.int .i64 qx,.int .i64 qy] 34)).drew.cell? ⟨W.heap.size,0,none⟩ = some (.int .i64 px) := by simp
 have c2 : ((W.alloc (.cells #[.int .i64 px,.int .i64 py] 34)).alloc (.cells #[.int .i64 qx,.int .i64 qy] 34)).drew.cell? ⟨W.heap.size,1,none⟩ = some (.int .i64 py) := by simp
 have c3 : ((W.alloc (.cells #[.int .i64 px,.int .i64 py] 34)).alloc (.cells #[.int .i64 qx,.int .i64 qy] 34)).drew.cell? ⟨W.heap.size + 1,0,none⟩ = some (.int .i64 qx) := by simp
 have c4 : ((W.alloc (.cells #[.int .i64 px,.int .i64 py] 34)).alloc (.cells #[.int .i64 qx,.int .i64 qy] 34)).drew.cell? ⟨W.heap.size + 1,1,none⟩ = some (.int .i64 qy) := by simp
 have hg : Kept ((W.alloc (.cells #[.int .i64 px,.int .i64 py] 34)).alloc (.cells #[.int .i64 qx,.int .i64 qy] 34) = grow W #[.cells #[.int .i64 px,.int .i64 py] 34 (0,0),.cells #[.int .i64 qx,.int .i64 qy] 34 (0,0)]) := by
  unfold Kept
  rw [alloc_eq_grow,alloc_eq_grow,grow_grow]
  rfl
 generalize (W.alloc (.cells #[.int .i64 px,.int .i64 py] 34)).alloc (.cells #[.int .i64 qx,.int .i64 qy] 34) = W2 at *
 refine wp_region_still_tail 10 (by kernel_rfl) (by kernel_rfl) ?_
 simp only [List.take_succ_cons,List.take_zero,List.drop_succ_cons,List.drop_zero]
 change wpStill _ _ W2.drew _ _ _
 generalize hw3 : W2.drew = w3 at c1 c2 c3 c4
 have hk : Kept (w3 = W2.drew) := hw3.symm
 clear hw3
 still_step
 still_step
 still_step
 still_step
 still_call (hC _ _ _)
 still_step
 still_step
 still_step
 still_step
 still_call (hC _ _ _)
 refine wpStill_nil ?_
 change wpList _ _ _ _ _ W2.drew
 have hk2 := hk
 unfold Kept at hk2
 rw [← hk2]
 clear hk2
 have hN := hO w3.heap.size (w3.alloc (.cells #[.int .i64 (F py qy),.int .i64 (F px qx)] 3)) (by simp) (by simp)
 go_wp2_with (go_at_call 118; refine hN.mono ?_; rintro e w' ⟨rfl,rfl⟩)
 go_ret
 have e : ∀ o,w3.alloc o = grow (W.drewN 1) (#[.cells #[.int .i64 px,.int .i64 py] 34 (0,0),.cells #[.int .i64 qx,.int .i64 qy] 34 (0,0)] ++ #[o]) := by
  intro o
  unfold Kept at hk hg
  rw [hk,hg,alloc_eq_grow,← grow_grow]
  rfl
 exact ⟨rfl,1,_,e _⟩
theorem cmpI_lt (a b : Int) : Lib.compareInt a b = if a < b then -1 else if b < a then 1 else 0 := by
 unfold Lib.compareInt
 by_cases h1 : a < b
 ·simp [h1]
 ·by_cases h2 : b < a <;> simp [h1,h2]
theorem byRow_lt (p q : Pt) : ltOf byRowV p q = decide (ltP p q) := by
 unfold ltOf byRowV
 rw [cmpI_lt,cmpI_lt]
 rw [Bool.eq_iff_iff,decide_eq_true_eq,decide_eq_true_eq]
 unfold ltP
 by_cases h1 : p.2 < q.2
 ·simp [h1]
 ·by_cases h2 : q.2 < p.2
  ·simp [h1,h2]; omega
  ·by_cases h3 : p.1 < q.1
   ·simp [h1,h2,h3]; omega
   ·by_cases h4 : q.1 < p.1 <;> simp [h1,h2,h3,h4]
theorem byRow_swo : SWO (ltOf byRowV) where
 irrefl x := by rw [byRow_lt]; simpa using ltP_irrefl x
 trans x y z h1 h2 := by rw [byRow_lt] at *; simp only [decide_eq_true_eq] at *; exact ltP_trans h1 h2
 ntrans x y z h1 h2 := by rw [byRow_lt] at *; simp only [decide_eq_false_iff_not] at *; unfold ltP at *; omega
def sortV (l : List Pt) : List Pt := l.mergeSort fun x y => !(ltOf byRowV) y x
theorem sortV_perm (l : List Pt) : (sortV l).Perm l := List.mergeSort_perm _ _
theorem sortV_len (l : List Pt) : (sortV l).length = l.length := (sortV_perm l).length_eq
theorem sortV_le (l : List Pt) : (sortV l).Pairwise fun a b => ¬ ltP b a := by
 have h := List.pairwise_mergeSort (le := fun x y : Pt => !(ltOf byRowV) y x) (fun a b c h1 h2 => by
   simp only [byRow_lt,Bool.not_eq_true',decide_eq_false_iff_not] at *
   unfold ltP at *; omega) (fun a b => by
   simp only [byRow_lt,Bool.or_eq_true,Bool.not_eq_true',decide_eq_false_iff_not]
   unfold ltP; omega) l
 refine h.imp ?_
 intro a b h
 simpa [byRow_lt] using h
set_option maxRecDepth 20000 in
theorem sort_c (ix : Nat) (l : List Pt) (nid : Nat) (hpos : 0 < l.length) (hl : l.length < 4611686018427387904) :
  ACall Tryz.prog 124 [.sl ix 0 l.length,.fn 47 []] [(ix,arrP2 34 l)] nid (.tup []) [(ix,arrP2 34 (sortV l))] :=
 acall_turned ix nid Tryz.func124 (by kernel_rfl) (by kernel_rfl) (by decide) hpos (sortV_len l) (fun w blk off cap hH hblk => by
  have eg : ∀ args w,(callFunc 47 args).run Tryz.prog w = .ok (.enter 47 args) w := enters_of Tryz.func47 (by kernel_rfl) rfl
  have h := AnyQ.slices_SortFunc_total Tryz.sortP 2 Tryz.isAgg34 Tryz.sizeOf34 encP (fun _ => rfl) (fun x v hv => by simp [encP] at hv; rcases hv with rfl | rfl <;> rfl) byRowV byRow_swo 47 #[] blk off cap l.toArray w eg (fun _ _ _ _ x y => byRow_calls x y _) hH hblk (by simpa using hl) (fun x y h1 h2 => ltP_total (by simpa [byRow_lt] using h1) (by simpa [byRow_lt] using h2))
  have hf : Tryz.sortP_ren.f 6 = 124 := by kernel_rfl
  rw [hf] at h
  exact h)
end Go.Proofs.YtmgfcjblclanmaaGreatDoor
namespace Go.Proofs.YtmgfcjblclanmaaGreatDoor
open Go.RowKit
theorem sort_cc (ix : Nat) (l : List Pt) (nid : Nat) (hpos : 0 < l.length) (hl : l.length < 4611686018427387904) :
  ACall Tryz.prog 124 [.sl ix 0 l.length,.fn 47 []] [(ix,arrPl l)] nid (.tup []) [(ix,arrPl (sortV l))] := sort_c ix l nid hpos hl
end Go.Proofs.YtmgfcjblclanmaaGreatDoor
namespace Go.Proofs.YtmgfcjblclanmaaGreatDoor
def ptsV (W : Waf) (card : List Pt) : List Pt := (opV W).flatMap fun p => card.map fun s => (p.1 - s.1,p.2 - s.2)
def newB (l : List Pt) (j : Nat) : Bool := j == 0 || !(l.getD j p0 == l.getD (j - 1) p0)
def compTo (l : List Pt) (k : Nat) : List Pt := ((List.range k).filter (newB l)).map fun j => l.getD j p0
theorem compTo_succ (l : List Pt) (k : Nat) : compTo l (k + 1) = if newB l k = true then compTo l k ++ [l.getD k p0] else compTo l k := by
 unfold compTo
 rw [List.range_succ,List.filter_append,List.map_append]
 cases h : newB l k
 ·simp [h]
 ·simp [h]
theorem compTo_len (l : List Pt) (k : Nat) : (compTo l k).length ≤ k := by
 unfold compTo
 rw [List.length_map]
 exact Nat.le_trans (List.length_filter_le _ _) (by simp)
theorem compTo_has (l : List Pt) : ∀ j k,j < k → l.getD j p0 ∈ compTo l k
 | 0,k,h => List.mem_map.2 ⟨0,List.mem_filter.2 ⟨List.mem_range.2 h,rfl⟩,rfl⟩
 | j + 1,k,h => by
  by_cases e : l.getD (j + 1) p0 = l.getD j p0
  ·rw [e]
   exact compTo_has l j k (by omega)
  ·refine List.mem_map.2 ⟨j + 1,List.mem_filter.2 ⟨List.mem_range.2 h,?_⟩,rfl⟩
   unfold newB
   rw [Nat.add_sub_cancel]
   have : (l.getD (j + 1) p0 == l.getD j p0) = false := by rw [beq_eq_false_iff_ne]; exact e
   rw [this]
   simp
theorem compTo_mem {l : List Pt} {p : Pt} : p ∈ compTo l l.length ↔ p ∈ l := by
 constructor
 ·intro h
  obtain ⟨j,hj,rfl⟩ := List.mem_map.1 h
  have := List.mem_range.1 (List.mem_filter.1 hj).1
  rw [List.getD_eq_getElem?_getD,List.getElem?_eq_getElem this]
  exact List.getElem_mem _
 ·intro h
  obtain ⟨i,hi,rfl⟩ := idx_of h
  exact compTo_has l i _ hi
def mayT (W : Waf) (card : List Pt) (a : Pt) : Bool := (touchL card a).all fun q => !testedV (dieV W q.1 q.2)
theorem tdOk {W : Waf} {card l : List Pt} (hl : l.Perm (ptsV W card)) : TdOk W card ((compTo l l.length).filter (mayT W card)) := by
 intro a
 rw [List.mem_filter,compTo_mem,hl.mem_iff]
 refine and_congr ?_ ?_
 ·unfold ptsV
  rw [List.mem_flatMap]
  constructor
  ·rintro ⟨p,hp,h⟩
   obtain ⟨s,hs,e⟩ := List.mem_map.1 h
   exact ⟨p,hp,s,hs,e.symm⟩
  ·rintro ⟨p,hp,s,hs,e⟩
   exact ⟨p,hp,List.mem_map.2 ⟨s,hs,e.symm⟩⟩
 ·unfold mayT
  rw [List.all_eq_true]
  refine forall_congr' fun q => forall_congr' fun _ => ?_
  rw [Bool.not_eq_true']
theorem ptsV_len (W : Waf) (card : List Pt) : (ptsV W card).length = (opV W).length * card.length := by
 unfold ptsV
 induction opV W with
 | nil => simp
 | cons p l ih => rw [List.flatMap_cons,List.length_append,List.length_map,ih,List.length_cons,Nat.succ_mul,Nat.add_comm]
def orT (op : List Pt) (q : List Pt) (k : Nat) : Nat := (q.take k).foldl (fun s p => match op.findIdx? (· == p) with
 | some i => s ||| 1 <<< i
 | none => s) 0
theorem orT_test {op : List Pt} (hn : op.Nodup) (q : List Pt) (i : Nat) : (orT op q q.length).testBit i = (maskT op q).testBit i := by
 unfold orT
 rw [List.take_of_length_le (Nat.le_refl _)]
 have key : ∀ (q : List Pt) (s : Nat),((q.foldl (fun s p => match op.findIdx? (· == p) with
   | some i => s ||| 1 <<< i
   | none => s) s).testBit i = true ↔ s.testBit i = true ∨ (i < op.length ∧ op.getD i p0 ∈ q)) := by
  intro q
  induction q with
  | nil => intro s; simp
  | cons p q ih =>
   intro s
   rw [List.foldl_cons,ih]
   cases hf : op.findIdx? (· == p) with
   | none =>
    have hno := List.findIdx?_eq_none_iff.1 hf
    refine or_congr Iff.rfl (and_congr_right fun hi => ?_)
    rw [List.mem_cons]
    refine ⟨.inr,fun h => h.resolve_left fun e => ?_⟩
    have hm : op.getD i p0 ∈ op := by
     rw [List.getD_eq_getElem?_getD,List.getElem?_eq_getElem hi]; exact List.getElem_mem _
    have := hno _ hm
    rw [e] at this
    simp at this
   | some j =>
    obtain ⟨hj,hp,_⟩ := List.findIdx?_eq_some_iff_getElem.1 hf
    have hp : op[j] = p := by simpa using hp
    show (s ||| 1 <<< j).testBit i = true ∨ _ ↔ _
    rw [Nat.testBit_or,Nat.one_shiftLeft,Nat.testBit_two_pow,Bool.or_eq_true,decide_eq_true_eq,List.mem_cons]
    have hji : (i < op.length ∧ op.getD i p0 = p) ↔ j = i := by
     constructor
     ·rintro ⟨hi,e⟩
      rw [List.getD_eq_getElem?_getD,List.getElem?_eq_getElem hi] at e
      exact (List.getElem_inj hn).1 (hp.trans e.symm)
     ·rintro rfl
      exact ⟨hj,by rw [List.getD_eq_getElem?_getD,List.getElem?_eq_getElem hj]; exact hp⟩
    rw [← hji]
    constructor
    ·rintro ((h | ⟨h1,h2⟩) | ⟨h1,h2⟩)
     ·exact .inl h
     ·exact .inr ⟨h1,.inl h2⟩
     ·exact .inr ⟨h1,.inr h2⟩
    ·rintro (h | ⟨h1,h2 | h2⟩)
     ·exact .inl (.inl h)
     ·exact .inl (.inr ⟨h1,h2⟩)
     ·exact .inr ⟨h1,h2⟩
 rw [Bool.eq_iff_iff,key,maskT_test,Nat.zero_testBit]
 simp
theorem orT_all {op : List Pt} (hn : op.Nodup) (q : List Pt) : orT op q q.length = maskT op q := Nat.eq_of_testBit_eq fun i => orT_test hn q i
end Go.Proofs.YtmgfcjblclanmaaGreatDoor
namespace Go.Proofs.YtmgfcjblclanmaaGreatDoor
open Go.RowKit
theorem len64P_0 (nid : Nat) : ACall Tryz.prog 182 [.int .u64 0] [] nid (.int .i64 0) [] := by
 refine acall_run c182 (by simp [a182]) ?_
 simp -dsimp only [aqA,↓seqK,↓blkK,↓loopK,step,stepBin,eqB,Nat.add_assoc nid,↓reduceIte,simprocAttr,LN_succ,a182]
 simp only [show IntKind.u8.wrap 0 = 0 from by decide,Int.toNat_zero,List.getD_cons_zero,show ((0 : UInt8).toNat : Int) = 0 from rfl,show IntKind.i64.wrap 0 = 0 from by decide,Int.add_zero]
 refine ⟨⟨by decide,by decide⟩,by unfold inI64; omega,?_⟩
 refine RetOK.go [] [] (.inl rfl) ?_
 simp [a182,cvT,step,res]
theorem lenP_0 (nid : Nat) : ACall Tryz.prog 134 [.int .u64 0] [] nid (.int .i64 0) [] := by
 refine acall_run c134 (by simp [a134]) ?_
 simp -dsimp only [aqA,↓seqK,↓blkK,↓loopK,step,stepBin,eqB,Nat.add_assoc nid,↓reduceIte,simprocAttr,LN_succ,a134]
 refine CallO.pure (len64P_0 _) ?_
 simp -dsimp only [aqA,↓seqK,↓blkK,↓loopK,step,stepBin,eqB,Nat.add_assoc nid,↓reduceIte,simprocAttr,LN_succ]
 refine RetOK.pure (.inl rfl) rfl ?_
 simp [cvT,step,res]
theorem insertP_0 (ix nid : Nat) (h : ix < nid) : ACall Tryz.prog 201 [.sl ix 0 0,.int .i64 0,.int .i64 0,.fn 47 []] [(ix,arrPl [])] nid (.tup []) [(ix,arrPl [])] := by
 obtain ⟨e1,e2,e3,e4,e5,e6,e7,e8,e9⟩ := id_all h
 refine acall_run c201 (by simp [a201]) ?_
 unfold arrPl
 simp -dsimp only [aqA,↓seqK,↓blkK,↓loopK,step,stepBin,eqB,Nat.add_assoc nid,↓reduceIte,simprocAttr,LN_succ,a201,e1,e2,e3,e4,e5,e6,e7,e8,e9]
 refine ⟨by unfold inI64; omega,?_⟩
 refine LP.mkP (fun _ : Unit => True) (fun _ => ⟨[(8,.int .i64 1),(2,.int .i64 0)],[(ix,arrPl [])],nid + 50,nid⟩) (fun _ => 0) () trivial (Cov.go [] [] ?_) (fun _ _ => ?_)
 ·simp [cvT,step,res,e1,e2,e3,e4,e5,e6,e7,e8,e9,arrPl,-List.getD_eq_getElem?_getD]
 unfold arrPl
 simp -dsimp only [aqA,↓seqK,↓blkK,↓loopK,step,stepBin,eqB,Nat.add_assoc nid,↓reduceIte,simprocAttr,LN_succ,e1,e2,e3,e4,e5,e6,e7,e8,e9]
 refine RetOK.go [] [] (.inr rfl) ?_
 simp [a201,cvT,step,res,e1,e2,e3,e4,e5,e6,e7,e8,e9,arrPl,ColsEq.refl,-List.getD_eq_getElem?_getD]
theorem pdqP_0 (ix nid : Nat) (h : ix < nid) : ACall Tryz.prog 169 [.sl ix 0 0,.int .i64 0,.int .i64 0,.int .i64 0,.fn 47 []] [(ix,arrPl [])] nid (.tup []) [(ix,arrPl [])] := by
 obtain ⟨e1,e2,e3,e4,e5,e6,e7,e8,e9⟩ := id_all h
 refine acall_run c169 (by simp [a169]) ?_
 unfold arrPl
 simp -dsimp only [aqA,↓seqK,↓blkK,↓loopK,step,stepBin,eqB,Nat.add_assoc nid,↓reduceIte,simprocAttr,LN_succ,a169,e1,e2,e3,e4,e5,e6,e7,e8,e9]
 refine LP.mkP (fun _ : Unit => True) (fun _ => ⟨[(0,.sl ix 0 0),(1,.int .i64 0),(2,.int .i64 0),(4,.fn 47 [])],[(ix,arrPl [])],nid + 50,nid⟩) (fun _ => 0) () trivial (Cov.go [] [] ?_) (fun _ _ => ?_)
 ·simp [cvT,step,res,e1,e2,e3,e4,e5,e6,e7,e8,e9,arrPl,-List.getD_eq_getElem?_getD]
 unfold arrPl
 simp -dsimp only [aqA,↓seqK,↓blkK,↓loopK,step,stepBin,eqB,Nat.add_assoc nid,↓reduceIte,simprocAttr,LN_succ,e1,e2,e3,e4,e5,e6,e7,e8,e9]
 refine ⟨by unfold inI64; omega,?_⟩
 refine CallO.on (insertP_0 ix _ (by omega)) (subH_get (by simp only [aqA,↓seqK,↓blkK,↓loopK,step,stepBin,eqB,Nat.add_assoc nid,↓reduceIte,simprocAttr,LN_succ,arrPl])) ?_
 unfold arrPl
 simp -dsimp only [aqA,↓seqK,↓blkK,↓loopK,step,stepBin,eqB,Nat.add_assoc nid,↓reduceIte,simprocAttr,LN_succ,e1,e2,e3,e4,e5,e6,e7,e8,e9]
 refine RetOK.go [] [] (.inl rfl) ?_
 simp [a169,cvT,step,res,e1,e2,e3,e4,e5,e6,e7,e8,e9,arrPl,ColsEq.refl,-List.getD_eq_getElem?_getD]
theorem sortP_0 (ix nid : Nat) (h : ix < nid) : ACall Tryz.prog 124 [.sl ix 0 0,.fn 47 []] [(ix,arrPl [])] nid (.tup []) [(ix,arrPl [])] := by
 obtain ⟨e1,e2,e3,e4,e5,e6,e7,e8,e9⟩ := id_all h
 refine acall_run c124 (by simp [a124]) ?_
 unfold arrPl
 simp -dsimp only [aqA,↓seqK,↓blkK,↓loopK,step,stepBin,eqB,Nat.add_assoc nid,↓reduceIte,simprocAttr,LN_succ,a124,e1,e2,e3,e4,e5,e6,e7,e8,e9]
 rw [show IntKind.u64.wrap 0 = 0 from by decide]
 refine CallO.pure (lenP_0 _) ?_
 simp -dsimp only [aqA,↓seqK,↓blkK,↓loopK,step,stepBin,eqB,Nat.add_assoc nid,↓reduceIte,simprocAttr,LN_succ,e1,e2,e3,e4,e5,e6,e7,e8,e9]
 refine CallO.on (pdqP_0 ix _ (by omega)) (subH_get (by simp only [aqA,↓seqK,↓blkK,↓loopK,step,stepBin,eqB,Nat.add_assoc nid,↓reduceIte,simprocAttr,LN_succ,arrPl])) ?_
 unfold arrPl
 simp -dsimp only [aqA,↓seqK,↓blkK,↓loopK,step,stepBin,eqB,Nat.add_assoc nid,↓reduceIte,simprocAttr,LN_succ,e1,e2,e3,e4,e5,e6,e7,e8,e9]
 refine RetOK.go [] [] (.inr rfl) ?_
 simp [a124,cvT,step,res,e1,e2,e3,e4,e5,e6,e7,e8,e9,arrPl,ColsEq.refl,-List.getD_eq_getElem?_getD]
theorem sort_any (ix : Nat) (l : List Pt) (nid : Nat) (h : ix < nid) (hl : l.length < 4611686018427387904) :
  ACall Tryz.prog 124 [.sl ix 0 l.length,.fn 47 []] [(ix,arrPl l)] nid (.tup []) [(ix,arrPl (sortV l))] := by
 rcases Nat.eq_zero_or_pos l.length with h0 | h0
 ·have e := List.length_eq_zero_iff.1 h0
  subst e
  have e2 : sortV [] = [] := by simp [sortV]
  rw [e2]
  exact sortP_0 ix nid h
 ·exact sort_cc ix l nid h0 hl
def partC (l : List Pt) (m : Nat) : List Pt := compTo l m ++ l.drop (compTo l m).length
theorem partC_len {l : List Pt} {m : Nat} (hm : m ≤ l.length) : (partC l m).length = l.length := by
 have := compTo_len l m
 unfold partC
 rw [List.length_append,List.length_drop]
 omega
theorem partC_at {l : List Pt} {m j : Nat} (h : (compTo l m).length ≤ j) : (partC l m).getD j p0 = l.getD j p0 := by
 unfold partC
 rw [List.getD_eq_getElem?_getD,List.getElem?_append_right h,List.getElem?_drop,List.getD_eq_getElem?_getD]
 congr 2
 omega
theorem partC_set {l : List Pt} {m : Nat} (hm : m < l.length) (h : newB l m = true) : (partC l m).set (compTo l m).length (l.getD m p0) = partC l (m + 1) ∧ (compTo l (m + 1)).length = (compTo l m).length + 1 := by
 have hc := compTo_len l m
 have e : compTo l (m + 1) = compTo l m ++ [l.getD m p0] := by rw [compTo_succ,if_pos h]
 refine ⟨?_,by rw [e]; simp⟩
 unfold partC
 rw [e,List.set_append_right _ _ (Nat.le_refl _),Nat.sub_self,List.length_append,List.length_singleton,List.append_assoc,List.drop_eq_getElem_cons (by omega : (compTo l m).length < l.length)]
 rfl
theorem partC_skip {l : List Pt} {m : Nat} (h : newB l m = false) : partC l (m + 1) = partC l m ∧ compTo l (m + 1) = compTo l m := by
 have e : compTo l (m + 1) = compTo l m := by rw [compTo_succ,if_neg (by simp [h])]
 exact ⟨by unfold partC; rw [e],e⟩
theorem compTo_take {l : List Pt} : ∀ {i : Nat},i ≤ l.length → (∀ j,j < i → newB l j = true) → compTo l i = l.take i
 | 0,_,_ => by simp [compTo]
 | i + 1,hi,h => by
  rw [compTo_succ,if_pos (h i (by omega)),compTo_take (by omega) (fun j hj => h j (by omega)),take_snoc (x := l.getD i p0) (by rw [List.getD_eq_getElem?_getD,List.getElem?_eq_getElem (by omega)]; rfl)]
def doneC (l : List Pt) : List Pt := compTo l l.length ++ List.replicate (l.length - (compTo l l.length).length) p0
theorem doneC_at {l : List Pt} (g : Pt → Int) (h0 : g p0 = 0) : ∀ j,j < l.length → (if (compTo l l.length).length ≤ j ∧ j < (compTo l l.length).length + (l.length - (compTo l l.length).length) then (0 : Int) else g ((partC l l.length).getD j p0)) = g ((doneC l).getD j p0) := fun j hj => by
 unfold doneC partC
 by_cases h : j < (compTo l l.length).length
 ·rw [if_neg (by omega),List.getD_eq_getElem?_getD,List.getElem?_append_left h,List.getD_eq_getElem?_getD,List.getElem?_append_left h]
 ·rw [if_pos (by omega),List.getD_eq_getElem?_getD,List.getElem?_append_right (by omega),List.getElem?_replicate]
  split
  ·exact h0.symm
  ·exact h0.symm
theorem newB_first (l : List Pt) {j : Nat} (h : j = 0) : newB l j = true := by
 subst h
 rfl
theorem newB_eq (l : List Pt) {j : Nat} (h : 0 < j) : newB l j = !((l.getD j p0).1 == (l.getD (j - 1) p0).1 && (l.getD j p0).2 == (l.getD (j - 1) p0).2) := by
 unfold newB
 have e : (j == 0) = false := by rw [beq_eq_false_iff_ne]; omega
 rw [e,Bool.false_or]
 rfl
set_option maxHeartbeats 8000000 in
theorem compactP_c (id : Nat) (l : List Pt) (nid : Nat) (hid : id < nid) (hl : l.length ≤ 1000000) : ACall Tryz.prog 125 [.sl id 0 l.length] [(id,arrPl l)] nid (.sl id 0 (compTo l l.length).length) [(id,arrPl (doneC l))] := by
 obtain ⟨e1,e2,e3,e4,e5,e6,e7,e8,e9⟩ := id_all hid
 refine acall_run c125 (by simp [a125]) ?_
 unfold arrPl
 simp -dsimp only [aqA,↓seqK,↓blkK,↓loopK,step,stepBin,eqB,Nat.add_assoc nid,↓reduceIte,simprocAttr,LN_succ,a125,e1,e2,e3,e4,e5,e6,e7,e8,e9]
 have hsame : (∀ j,j < l.length → newB l j = true) → compTo l l.length = l ∧ doneC l = l := fun h => by
  have e := compTo_take (Nat.le_refl _) h
  rw [List.take_length] at e
  refine ⟨e,?_⟩
  unfold doneC
  rw [e]
  simp
 refine S2.dec (fun h2 => ?_) (fun h2 => ?_) <;> simp -dsimp only [aqA,↓seqK,↓blkK,↓loopK,step,stepBin,eqB,Nat.add_assoc nid,↓reduceIte,simprocAttr,LN_succ,e1,e2,e3,e4,e5,e6,e7,e8,e9]
 ·obtain ⟨k1,k2⟩ := hsame (fun j hj => newB_first l (show j = 0 by omega))
  rw [k1,k2]
  refine RetOK.go [] [] (.inl rfl) ?_
  simp [a125,cvT,step,res,e1,e2,e3,e4,e5,e6,e7,e8,e9,arrPl,-List.getD_eq_getElem?_getD]
 refine LP.mkP (fun i : Nat => (1 ≤ i ∧ i ≤ l.length) ∧ ∀ j,j < i → newB l j = true) (fun i : Nat => ⟨[(3,.int .i64 i),(0,.sl id 0 l.length)],[(id,arrPl l)],nid + 100,nid⟩) (fun i => l.length + 1 - i) 1 ⟨⟨by omega,by omega⟩,fun j hj => newB_first l (show j = 0 by omega)⟩ (Cov.go [] [] ?_) (fun i hi => ?_)
 ·simp [cvT,step,res,e1,e2,e3,e4,e5,e6,e7,e8,e9,arrPl,-List.getD_eq_getElem?_getD]
 obtain ⟨⟨hi1,hi⟩,hb⟩ := hi
 unfold arrPl
 simp -dsimp only [aqA,↓seqK,↓blkK,↓loopK,step,stepBin,eqB,Nat.add_assoc nid,↓reduceIte,simprocAttr,LN_succ,e1,e2,e3,e4,e5,e6,e7,e8,e9]
 refine S2.dec (fun h3 => ?_) (fun h3 => ?_) <;> simp -dsimp only [aqA,↓seqK,↓blkK,↓loopK,step,stepBin,eqB,Nat.add_assoc nid,↓reduceIte,simprocAttr,LN_succ,e1,e2,e3,e4,e5,e6,e7,e8,e9]
 ·have hil : i < l.length := by omega
  have e1' : ((i : Int) - 1).toNat = i - 1 := by omega
  have hnb := newB_eq l (j := i) (by omega)
  refine ⟨by omega,by unfold inI64; omega,⟨by omega,by omega⟩,?_⟩
  rw [e1']
  have hx : ((l.getD i p0).1 == (l.getD (i - 1) p0).1 && (l.getD i p0).2 == (l.getD (i - 1) p0).2) = !newB l i := by rw [hnb,Bool.not_not]
  rw [hx]
  cases hq : newB l i
  ·have c0 : compTo l i = l.take i := compTo_take hi hb
   have c1 : compTo l (i + 1) = compTo l i := (partC_skip hq).2
   have c2 : (compTo l (i + 1)).length = i := by rw [c1,c0,List.length_take]; omega
   have c3 : partC l (i + 1) = l := by
    unfold partC
    rw [c2,c1,c0,List.take_append_drop]
   simp -dsimp only [aqA,↓seqK,↓blkK,↓loopK,step,stepBin,eqB,Nat.add_assoc nid,↓reduceIte,simprocAttr,LN_succ,e1,e2,e3,e4,e5,e6,e7,e8,e9]
   refine ⟨by omega,?_⟩
   refine LP.mkP (fun m : Nat => (i + 1 ≤ m ∧ m ≤ l.length) ∧ (compTo l m).length + 1 ≤ m) (fun m : Nat => ⟨[(0,.sl id 0 l.length),(3,.int .i64 (compTo l m).length),(4,.sl id i (l.length - i)),(5,.int .i64 (m - i : Nat))],[(id,arrPl (partC l m))],nid + 1000,nid⟩) (fun m => l.length + 1 - m) (i + 1) ⟨⟨by omega,by omega⟩,by omega⟩ (Cov.go [] [] ?_) (fun m hm => ?_)
   ·rw [c2,c3,show i + 1 - i = 1 from by omega]
    simp [cvT,step,res,e1,e2,e3,e4,e5,e6,e7,e8,e9,arrPl,-List.getD_eq_getElem?_getD]
   obtain ⟨⟨hm1,hm2⟩,hm3⟩ := hm
   have hpl := partC_len hm2
   unfold arrPl
   rw [hpl]
   simp -dsimp only [aqA,↓seqK,↓blkK,↓loopK,step,stepBin,eqB,Nat.add_assoc nid,↓reduceIte,simprocAttr,LN_succ,e1,e2,e3,e4,e5,e6,e7,e8,e9]
   refine S2.dec (fun h5 => ?_) (fun h5 => ?_) <;> simp -dsimp only [aqA,↓seqK,↓blkK,↓loopK,step,stepBin,eqB,Nat.add_assoc nid,↓reduceIte,simprocAttr,LN_succ,e1,e2,e3,e4,e5,e6,e7,e8,e9]
   ·have hml : m < l.length := by omega
    have f1 : i + (m - i) = m := by omega
    have f2 : i + ((m - i : Nat) - 1 : Int).toNat = m - 1 := by omega
    have f3 : (partC l m).getD m p0 = l.getD m p0 := partC_at (by omega)
    have f4 : (partC l m).getD (m - 1) p0 = l.getD (m - 1) p0 := partC_at (by omega)
    refine ⟨by omega,by unfold inI64; omega,by omega,?_⟩
    rw [f1,f2,f3,f4,← newB_eq l (by omega)]
    cases hq2 : newB l m
    ·obtain ⟨g1,g2⟩ := partC_skip hq2
     simp -dsimp only [aqA,↓seqK,↓blkK,↓loopK,step,stepBin,eqB,Nat.add_assoc nid,↓reduceIte,simprocAttr,LN_succ,e1,e2,e3,e4,e5,e6,e7,e8,e9]
     refine ⟨by unfold inI64; omega,m + 1,⟨⟨⟨by omega,by omega⟩,by rw [g2]; omega⟩,by omega⟩,Cov.go [] [] ?_⟩
     rw [g1,g2,show ((m + 1 - i : Nat) : Int) = (m - i : Nat) + 1 from by omega]
     simp [cvT,step,res,e1,e2,e3,e4,e5,e6,e7,e8,e9,arrPl,hpl,-List.getD_eq_getElem?_getD]
    ·obtain ⟨g1,g2⟩ := partC_set hml hq2
     simp -dsimp only [aqA,↓seqK,↓blkK,↓loopK,step,stepBin,eqB,Nat.add_assoc nid,↓reduceIte,simprocAttr,LN_succ,e1,e2,e3,e4,e5,e6,e7,e8,e9]
     rw [f1,f3,getD_setP (partC l m) (l.getD m p0) (by omega) (fun p => p.1) rfl,getD_setP (partC l m) (l.getD m p0) (by omega) (fun p => p.2) rfl,g1]
     refine ⟨by omega,by omega,by unfold inI64; omega,by unfold inI64; omega,m + 1,⟨⟨⟨by omega,by omega⟩,by rw [g2]; omega⟩,by omega⟩,Cov.go [] [] ?_⟩
     rw [g2,show ((m + 1 - i : Nat) : Int) = (m - i : Nat) + 1 from by omega]
     simp [cvT,step,res,e1,e2,e3,e4,e5,e6,e7,e8,e9,arrPl,partC_len (l := l) (m := m + 1) (by omega),-List.getD_eq_getElem?_getD]
   ·obtain rfl : m = l.length := by omega
    simp -dsimp only [aqA,↓seqK,↓blkK,↓loopK,step,stepBin,eqB,Nat.add_assoc nid,↓reduceIte,simprocAttr,LN_succ,Col.const,e1,e2,e3,e4,e5,e6,e7,e8,e9]
    refine ⟨⟨by omega,by omega⟩,by omega,⟨by omega,by omega⟩,?_⟩
    refine RetOK.go [] [] (.inl rfl) ?_
    have hdl : (doneC l).length = l.length := by unfold doneC; rw [List.length_append,List.length_replicate]; omega
    simp [a125,cvT,step,res,e1,e2,e3,e4,e5,e6,e7,e8,e9,arrPl,hdl,-List.getD_eq_getElem?_getD]
    exact ⟨ColEq.i (doneC_at (fun p => p.1) rfl),ColEq.i (doneC_at (fun p => p.2) rfl)⟩
  ·simp -dsimp only [aqA,↓seqK,↓blkK,↓loopK,step,stepBin,eqB,Nat.add_assoc nid,↓reduceIte,simprocAttr,LN_succ,e1,e2,e3,e4,e5,e6,e7,e8,e9]
   refine ⟨by unfold inI64; omega,i + 1,⟨⟨⟨by omega,by omega⟩,fun j hj => ?_⟩,by omega⟩,Cov.go [] [] ?_⟩
   ·rcases Nat.lt_succ_iff_lt_or_eq.1 hj with h | h
    ·exact hb j h
    ·rw [h]; exact hq
   ·simp [cvT,step,res,e1,e2,e3,e4,e5,e6,e7,e8,e9,arrPl,-List.getD_eq_getElem?_getD]
 ·obtain rfl : i = l.length := by omega
  obtain ⟨k1,k2⟩ := hsame hb
  rw [k1,k2]
  refine RetOK.go [] [] (.inl rfl) ?_
  simp [a125,cvT,step,res,e1,e2,e3,e4,e5,e6,e7,e8,e9,arrPl,-List.getD_eq_getElem?_getD]
end Go.Proofs.YtmgfcjblclanmaaGreatDoor
namespace Go.Proofs.YtmgfcjblclanmaaGreatDoor
open Go.RowKit Go.Lib
theorem getD_appQ (l : List Nat) (x : Nat) : (fun i => if i < l.length then ((l.getD i 0 : Nat) : Int) else [((x : Nat) : Int)].getD (i - l.length) 0) = fun i => (((l ++ [x]).getD i 0 : Nat) : Int) := by
 funext i
 simp only [List.getD_eq_getElem?_getD,List.getElem?_append]
 by_cases h : i < l.length
 ·rw [if_pos h,if_pos h]
 ·rw [if_neg h,if_neg h]
  rcases hk : i - l.length with _ | k
  ·rfl
  ·simp
end Go.Proofs.YtmgfcjblclanmaaGreatDoor
namespace Go.Proofs.YtmgfcjblclanmaaGreatDoor
open Go.RowKit
def numF (op : List Pt) : Nat → MK → Int
 | 0 => fun _ => 0
 | k + 1 => fun q => if q = MK.p (op.getD k p0).1 (op.getD k p0).2 then (k : Int) else numF op k q
theorem numF_get {op : List Pt} (hn : op.Nodup) {i : Nat} (hi : i < op.length) : ∀ k,i < k → k ≤ op.length → numF op k (MK.p (op.getD i p0).1 (op.getD i p0).2) = i
 | 0,h,_ => by omega
 | k + 1,h,hk => by
  unfold numF
  by_cases e : k = i
  ·subst e
   rw [if_pos rfl]
  ·have hne : op.getD i p0 ≠ op.getD k p0 := fun hh => by
    rw [List.getD_eq_getElem?_getD,List.getElem?_eq_getElem hi,List.getD_eq_getElem?_getD,List.getElem?_eq_getElem (by omega)] at hh
    exact e ((List.getElem_inj hn).1 hh).symm
   rw [if_neg (fun hh => hne (by
    injection hh with h1 h2
    exact Prod.ext h1 h2))]
   exact numF_get hn hi k (by omega) (by omega)
def mapN (op : List Pt) (k : Nat) : Option ABlk := some (.map .p (seenD (op.take k)) (.i .i64 (numF op k)))
theorem seenD_take (op : List Pt) {k : Nat} (h : k < op.length) : (fun p => if p = MK.p (op.getD k p0).1 (op.getD k p0).2 then true else seenD (op.take k) p) = seenD (op.take (k + 1)) := by
 rw [seenD_snoc,take_snoc (x := op.getD k p0) (by rw [List.getD_eq_getElem?_getD,List.getElem?_eq_getElem h]; rfl)]
def pfT (card : List Pt) (p : Pt) : List Pt := card.map fun s => (p.1 - s.1,p.2 - s.2)
def ptTo (card op : List Pt) (k : Nat) : List Pt := (op.take k).flatMap (pfT card)
theorem ptTo_succ (card op : List Pt) {k : Nat} (h : k < op.length) : ptTo card op (k + 1) = ptTo card op k ++ pfT card (op.getD k p0) := by
 unfold ptTo
 rw [take_snoc (x := op.getD k p0) (by rw [List.getD_eq_getElem?_getD,List.getElem?_eq_getElem h]; rfl),List.flatMap_append]
 simp
theorem ptTo_len (card op : List Pt) (k : Nat) : (ptTo card op k).length = (min k op.length) * card.length := by
 unfold ptTo
 rw [← List.length_take]
 induction op.take k with
 | nil => simp
 | cons p l ih => rw [List.flatMap_cons,List.length_append,ih,List.length_cons,Nat.succ_mul,Nat.add_comm]; simp [pfT]
theorem ptTo_all (W : Waf) (card : List Pt) : ptTo card (opV W) (opV W).length = ptsV W card := by
 unfold ptTo
 rw [List.take_length]
 rfl
theorem pfT_snoc (card : List Pt) (p : Pt) {j : Nat} (h : j < card.length) : pfT (card.take (j + 1)) p = pfT (card.take j) p ++ [(p.1 - (card.getD j p0).1,p.2 - (card.getD j p0).2)] := by
 rw [take_snoc (x := card.getD j p0) (by rw [List.getD_eq_getElem?_getD,List.getElem?_eq_getElem h]; rfl)]
 simp [pfT]
theorem pfT_len (card : List Pt) (p : Pt) : (pfT card p).length = card.length := by simp [pfT]
def mayTo (W : Waf) (T : List Pt) (k : Nat) : Bool := (T.take k).all fun q => !testedV (dieV W q.1 q.2)
theorem mayTo_succ (W : Waf) {T : List Pt} {k : Nat} (h : k < T.length) : mayTo W T (k + 1) = (mayTo W T k && !testedV (dieV W (T.getD k p0).1 (T.getD k p0).2)) := by
 unfold mayTo
 rw [take_snoc (x := T.getD k p0) (by rw [List.getD_eq_getElem?_getD,List.getElem?_eq_getElem h]; rfl),List.all_append]
 simp
theorem orT_succ (op : List Pt) {q : List Pt} {k : Nat} (h : k < q.length) : orT op q (k + 1) = match op.findIdx? (· == q.getD k p0) with
 | some i => orT op q k ||| 1 <<< i
 | none => orT op q k := by
 unfold orT
 rw [take_snoc (x := q.getD k p0) (by rw [List.getD_eq_getElem?_getD,List.getElem?_eq_getElem h]; rfl),List.foldl_append]
 rfl
theorem orT_lt (op : List Pt) {q : List Pt} : ∀ {k : Nat},k ≤ q.length → orT op q k < 2 ^ op.length
 | 0,_ => Nat.pow_pos (by omega)
 | k + 1,h => by
  have ih := orT_lt op (q := q) (k := k) (by omega)
  rw [orT_succ op (by omega)]
  split
  ·rename_i i hi
   obtain ⟨h1,_⟩ := List.findIdx?_eq_some_iff_getElem.1 hi
   refine Nat.or_lt_two_pow ih ?_
   rw [Nat.one_shiftLeft]
   exact Nat.pow_lt_pow_right (by omega) h1
  ·exact ih
theorem num_look {op : List Pt} (hn : op.Nodup) (q : Pt) : (op.findIdx? (· == q) = none ∧ seenD op (MK.p q.1 q.2) = false) ∨ ∃ i,i < op.length ∧ op.findIdx? (· == q) = some i ∧ seenD op (MK.p q.1 q.2) = true ∧ numF op op.length (MK.p q.1 q.2) = i := by
 cases h : op.findIdx? (· == q) with
 | none =>
  refine .inl ⟨rfl,seenD_not.2 fun hq => ?_⟩
  have := List.findIdx?_eq_none_iff.1 h q hq
  simp at this
 | some i =>
  obtain ⟨h1,h2,_⟩ := List.findIdx?_eq_some_iff_getElem.1 h
  have e : op.getD i p0 = q := by
   rw [List.getD_eq_getElem?_getD,List.getElem?_eq_getElem h1]
   simpa using h2
  refine .inr ⟨i,h1,rfl,seenD_iff.2 (e ▸ ptMem h1),?_⟩
  rw [← e]
  exact numF_get hn h1 _ (by omega) (Nat.le_refl _)
def tdP (W : Waf) (card : List Pt) : List Pt := sortV (ptsV W card)
def tdC (W : Waf) (card : List Pt) : List Pt := compTo (tdP W card) (tdP W card).length
def tdV (W : Waf) (card : List Pt) : List Pt := (tdC W card).filter (mayT W card)
def arrTd (W : Waf) (card : List Pt) (L : List Pt) : Option ABlk := some (.arr 107 L.length [.i .i64 fun j => (L.getD j p0).1,.i .i64 fun j => (L.getD j p0).2,.i .u64 fun j => (((L.map (setT W card)).getD j 0 : Nat) : Int)])
def boxTd (p : Pt) (s : Nat) : Option ABlk := some (.box 107 [.int .i64 p.1,.int .i64 p.2,.int .u64 (s : Nat)])
theorem op_small {W : Waf} (hW : WafOk W) {p : Pt} (hp : p ∈ opV W) : p.1 ≤ 100 ∧ 0 ≤ p.1 ∧ p.2 ≤ 100 ∧ 0 ≤ p.2 := by
 obtain ⟨x,y,rfl,h1,h2⟩ := plV_mem (List.mem_filter.1 hp).1
 have := (hW.at h1).1
 have := hW.wide.2
 have := hW.len
 simp only
 omega
theorem doneC_get {l : List Pt} {j : Nat} (h : j < (compTo l l.length).length) : (doneC l).getD j p0 = (compTo l l.length).getD j p0 := by
 unfold doneC
 rw [List.getD_eq_getElem?_getD,List.getElem?_append_left h,List.getD_eq_getElem?_getD]
theorem getD_appS (l : List Nat) (x : Nat) {n : Nat} (hn : l.length = n) : (fun i => if i < n then ((l.getD i 0 : Nat) : Int) else [((x : Nat) : Int)].getD (i - n) 0) = fun i => (((l ++ [x]).getD i 0 : Nat) : Int) := by
 subst hn
 exact getD_appQ l x
set_option maxHeartbeats 8000000 in
theorem touchdowns_c (nl nlc nlo : Bool) (W : Waf) (card : List Pt) (nid : Nat) (hW : WafOk W) (hl : card.length ≤ 1000) (hc : ∀ p ∈ card,p.1 ≤ 100 ∧ -100 ≤ p.1 ∧ p.2 ≤ 100 ∧ -100 ≤ p.2) (hk : (opV W).length ≤ 14) :
  ACall Tryz.prog 63 [wafP nl W,litPl nlc card,litPl nlo (opV W)] [] nid (.sl nid 0 (tdV W card).length) [(nid,arrTd W card (tdV W card))] := by
 have hat := fun (p : Pt) k h1 h2 => at_all nl W p.1 p.2 k hW h1 h2
 have hto := fun (a : Pt) k ha => touched_all nlc card a k hl (fun p hp => by obtain ⟨b1,b2,b3,b4⟩ := hc p hp; unfold PtBd; omega) ha
 have hnd := opV_nodup W
 have hsm := fun (p : Pt) (hp : p ∈ opV W) => op_small hW hp
 have hpa := ptTo_all W card
 have hsets : ∀ a,setT W card a = orT (opV W) (touchL card a) (touchL card a).length := fun a => (orT_all hnd _).symm
 generalize hop : opV W = op at *
 refine acall_sr c63 (by simp [a63]) ?_
 unfold a63
 unfold wafP litPl at *
 refine SR.seq ?_
 simp -dsimp only [aqA,↓seqK,↓blkK,↓loopK,step,stepBin,eqB,Nat.add_assoc nid,↓reduceIte,simprocAttr,LN_succ]
 refine SR.seq ?_
 simp -dsimp only [aqA,↓seqK,↓blkK,↓loopK,step,stepBin,eqB,Nat.add_assoc nid,↓reduceIte,simprocAttr,LN_succ]
 refine SR.seqW (ι := Unit) (fun _ => ⟨[(7,.mp (nid + 8)),(1,litPl nlc card),(2,litPl nlo op),(3,.ptr nid 0)],[(nid,boxW nl W),(nid + 8,mapN op op.length)],nid + 1000,nid⟩) ?_ (fun _ => ?_)
 ·refine SR.seq ?_
  simp -dsimp only [aqA,↓seqK,↓blkK,↓loopK,step,stepBin,eqB,Nat.add_assoc nid,↓reduceIte,simprocAttr,LN_succ]
  refine SR.block ?_
  refine SR.loopP (fun k : Nat => k ≤ op.length) (fun k : Nat => ⟨[(27,.int .i64 k),(26,.int .i64 op.length),(25,litPl nlo op),(7,.mp (nid + 8)),(1,litPl nlc card),(2,litPl nlo op),(3,.ptr nid 0)],[(nid,boxW nl W),(nid + 8,mapN op k)],nid + 100,nid⟩) (fun k => op.length + 1 - k) 0 (Nat.zero_le _) (Cov.go [] [] ?_) (fun k hk' => ?_)
  ·simp [cvT,step,res,boxW,mapN,numF,litPl,← seenD_nil,-List.getD_eq_getElem?_getD]
  refine SR.seq ?_
  unfold mapN boxW litPl
  simp -dsimp only [aqA,↓seqK,↓blkK,↓loopK,step,stepBin,eqB,Nat.add_assoc nid,↓reduceIte,simprocAttr,LN_succ]
  refine SR.seq ?_
  simp -dsimp only [aqA,↓seqK,↓blkK,↓loopK,step,stepBin,eqB,Nat.add_assoc nid,↓reduceIte,simprocAttr,LN_succ]
  refine S2.dec (fun h3 => ?_) (fun h3 => ?_) <;> simp -dsimp only [aqA,↓seqK,↓blkK,↓loopK,step,stepBin,eqB,Nat.add_assoc nid,↓reduceIte,simprocAttr,LN_succ]
  ·have hkl : k < op.length := by omega
   have hpb := hsm _ (ptMem hkl)
   have hst := seenD_take op hkl
   have hnf : (fun q => if q = MK.p (op.getD k p0).1 (op.getD k p0).2 then (k : Int) else numF op k q) = numF op (k + 1) := rfl
   refine SR.run (t := .mk) ?_
   simp -dsimp only [aqA,↓seqK,↓blkK,↓loopK,step,stepBin,eqB,Nat.add_assoc nid,↓reduceIte,simprocAttr,LN_succ]
   rw [hst,hnf]
   refine ⟨by omega,by unfold inI64; omega,by unfold inI64; omega,k + 1,⟨by omega,by omega⟩,Cov.go [] [] ?_⟩
   simp [cvT,step,res,boxW,mapN,litPl,-List.getD_eq_getElem?_getD]
  ·obtain rfl : k = op.length := by omega
   refine ⟨(),Cov.go [] [] ?_⟩
   simp [cvT,step,res,boxW,mapN,litPl,-List.getD_eq_getElem?_getD]
 refine SR.seq ?_
 unfold boxW mapN litPl
 simp -dsimp only [aqA,↓seqK,↓blkK,↓loopK,step,stepBin,eqB,Nat.add_assoc nid,↓reduceIte,simprocAttr,LN_succ]
 refine SR.seqW (ι := Unit) (fun _ => ⟨[(10,.sl (nid + 12) 0 (ptsV W card).length),(7,.mp (nid + 8)),(1,litPl nlc card),(3,.ptr nid 0)],[(nid,boxW nl W),(nid + 8,mapN op op.length),(nid + 12,arrPl (ptsV W card))],nid + 3000,nid⟩) ?_ (fun _ => ?_)
 ·refine SR.seq ?_
  simp -dsimp only [aqA,↓seqK,↓blkK,↓loopK,step,stepBin,eqB,Nat.add_assoc nid,↓reduceIte,simprocAttr,LN_succ]
  refine SR.block ?_
  refine SR.loopP (fun k : Nat => k ≤ op.length) (fun k : Nat => ⟨[(38,.int .i64 k),(37,.int .i64 op.length),(36,litPl nlo op),(10,.sl (nid + 12) 0 (ptTo card op k).length),(7,.mp (nid + 8)),(1,litPl nlc card),(3,.ptr nid 0)],[(nid,boxW nl W),(nid + 8,mapN op op.length),(nid + 12,arrPl (ptTo card op k))],nid + 1100,nid⟩) (fun k => op.length + 1 - k) 0 (Nat.zero_le _) (Cov.go [] [(nid + 12,2)] ?_) (fun k hk' => ?_)
  ·simp [cvT,step,res,boxW,mapN,litPl,arrPl,ptTo,-List.getD_eq_getElem?_getD]
  refine SR.seq ?_
  unfold mapN boxW litPl arrPl
  simp -dsimp only [aqA,↓seqK,↓blkK,↓loopK,step,stepBin,eqB,Nat.add_assoc nid,↓reduceIte,simprocAttr,LN_succ]
  refine SR.seq ?_
  simp -dsimp only [aqA,↓seqK,↓blkK,↓loopK,step,stepBin,eqB,Nat.add_assoc nid,↓reduceIte,simprocAttr,LN_succ]
  refine S2.dec (fun h3 => ?_) (fun h3 => ?_) <;> simp -dsimp only [aqA,↓seqK,↓blkK,↓loopK,step,stepBin,eqB,Nat.add_assoc nid,↓reduceIte,simprocAttr,LN_succ]
  ·have hkl : k < op.length := by omega
   have hpb := hsm _ (ptMem hkl)
   have hps := ptTo_succ card op hkl
   have hpl1 := ptTo_len card op k
   have hpl2 := ptTo_len card op (k + 1)
   refine SR.seqW (ι := Unit) (fun _ => ⟨[(38,.int .i64 k),(37,.int .i64 op.length),(36,litPl nlo op),(10,.sl (nid + 12) 0 (ptTo card op (k + 1)).length),(7,.mp (nid + 8)),(1,litPl nlc card),(3,.ptr nid 0)],[(nid,boxW nl W),(nid + 8,mapN op op.length),(nid + 12,arrPl (ptTo card op (k + 1)))],nid + 1500,nid⟩) ?_ (fun _ => ?_)
   ·refine SR.block ?_
    refine SR.seq ?_
    simp -dsimp only [aqA,↓seqK,↓blkK,↓loopK,step,stepBin,eqB,Nat.add_assoc nid,↓reduceIte,simprocAttr,LN_succ]
    refine ⟨by omega,?_⟩
    refine SR.seq ?_
    simp -dsimp only [aqA,↓seqK,↓blkK,↓loopK,step,stepBin,eqB,Nat.add_assoc nid,↓reduceIte,simprocAttr,LN_succ]
    rw [hps]
    generalize op.getD k p0 = p at *
    refine SR.block ?_
    refine SR.loopP (fun j : Nat => j ≤ card.length) (fun j : Nat => ⟨[(44,.int .i64 j),(43,.int .i64 card.length),(42,litPl nlc card),(12,.ptr (nid + 16) 0),(38,.int .i64 k),(37,.int .i64 op.length),(36,litPl nlo op),(10,.sl (nid + 12) 0 (ptTo card op k ++ pfT (card.take j) p).length),(7,.mp (nid + 8)),(1,litPl nlc card),(3,.ptr nid 0)],[(nid,boxW nl W),(nid + 8,mapN op op.length),(nid + 12,arrPl (ptTo card op k ++ pfT (card.take j) p)),(nid + 16,some (.box 34 [.int .i64 p.1,.int .i64 p.2]))],nid + 1300,nid⟩) (fun j => card.length + 1 - j) 0 (Nat.zero_le _) (Cov.go [(nid + 16,nid + 1112)] [] ?_) (fun j hj => ?_)
    ·simp [cvT,step,res,boxW,mapN,litPl,arrPl,pfT,-List.getD_eq_getElem?_getD]
    refine SR.seq ?_
    unfold mapN boxW litPl arrPl
    simp -dsimp only [aqA,↓seqK,↓blkK,↓loopK,step,stepBin,eqB,Nat.add_assoc nid,↓reduceIte,simprocAttr,LN_succ]
    refine SR.seq ?_
    simp -dsimp only [aqA,↓seqK,↓blkK,↓loopK,step,stepBin,eqB,Nat.add_assoc nid,↓reduceIte,simprocAttr,LN_succ]
    refine S2.dec (fun h4 => ?_) (fun h4 => ?_) <;> simp -dsimp only [aqA,↓seqK,↓blkK,↓loopK,step,stepBin,eqB,Nat.add_assoc nid,↓reduceIte,simprocAttr,LN_succ]
    ·have hjl : j < card.length := by omega
     have hcb := hc _ (ptMem hjl)
     have hpj := pfT_snoc card p hjl
     have hmul : k * card.length ≤ 14 * 1000 := Nat.mul_le_mul (by omega) hl
     have hpjl := pfT_len (card.take j) p
     have hpl3 : (ptTo card op k ++ pfT (card.take j) p).length ≤ 20000 := by
      rw [List.length_append,hpjl,hpl1,List.length_take,Nat.min_eq_left (by omega)]
      omega
     have hap : ptTo card op k ++ pfT (card.take (j + 1)) p = (ptTo card op k ++ pfT (card.take j) p) ++ [(p.1 - (card.getD j p0).1,p.2 - (card.getD j p0).2)] := by rw [hpj,List.append_assoc]
     refine SR.run (t := .mk) ?_
     simp -dsimp only [aqA,↓seqK,↓blkK,↓loopK,step,stepBin,eqB,Nat.add_assoc nid,↓reduceIte,simprocAttr,LN_succ]
     generalize card.getD j p0 = c at *
     generalize ptTo card op k ++ pfT (card.take j) p = A at *
     rw [getD_appP A (p.1 - c.1,p.2 - c.2) rfl (fun q => q.1) rfl rfl,getD_appP A (p.1 - c.1,p.2 - c.2) rfl (fun q => q.2) rfl rfl,← hap]
     have hal : (ptTo card op k ++ pfT (card.take (j + 1)) p).length = A.length + 1 := by rw [hap]; simp
     refine ⟨by omega,by unfold inI64; omega,by unfold inI64; omega,⟨by omega,by omega⟩,by unfold inI64; omega,j + 1,⟨by omega,by omega⟩,Cov.go [(nid + 12,nid + 1372)] [] ?_⟩
     simp [cvT,step,res,boxW,mapN,litPl,arrPl,hal,-List.getD_eq_getElem?_getD,-List.length_append]
    ·obtain rfl : j = card.length := by omega
     rw [List.take_length]
     refine ⟨(),Cov.go [] [] ?_⟩
     simp [cvT,step,res,boxW,mapN,litPl,arrPl,-List.getD_eq_getElem?_getD]
   ·refine SR.run (t := .mk) ?_
    simp -dsimp only [aqA,↓seqK,↓blkK,↓loopK,step,stepBin,eqB,Nat.add_assoc nid,↓reduceIte,simprocAttr,LN_succ]
    refine ⟨by unfold inI64; omega,k + 1,⟨by omega,by omega⟩,Cov.go [] [] ?_⟩
    simp [cvT,step,res,boxW,mapN,litPl,arrPl,-List.getD_eq_getElem?_getD]
  ·obtain rfl : k = op.length := by omega
   rw [hpa]
   refine ⟨(),Cov.go [] [] ?_⟩
   simp [cvT,step,res,boxW,mapN,litPl,arrPl,-List.getD_eq_getElem?_getD]
 have hP : (tdP W card).length = (ptsV W card).length := by unfold tdP; exact List.length_mergeSort ..
 have hpn : (ptsV W card).length ≤ 20000 := by
  have h1 := ptTo_len card op op.length
  rw [hpa,Nat.min_self] at h1
  have : op.length * card.length ≤ 14 * 1000 := Nat.mul_le_mul hk hl
  omega
 have hsort := fun k (h : nid + 12 < k) => sort_any (nid + 12) (ptsV W card) k h (by omega)
 have hcomp := fun k (h : nid + 12 < k) => compactP_c (nid + 12) (tdP W card) k h (by omega)
 rw [show sortV (ptsV W card) = tdP W card from rfl] at hsort
 rw [show compTo (tdP W card) (tdP W card).length = tdC W card from rfl,hP] at hcomp
 have hdg : ∀ j,j < (tdC W card).length → (doneC (tdP W card)).getD j p0 = (tdC W card).getD j p0 := fun j hj => doneC_get hj
 have hdl : (doneC (tdP W card)).length = (ptsV W card).length := by
  have := compTo_len (tdP W card) (tdP W card).length
  unfold doneC
  rw [List.length_append,List.length_replicate]
  omega
 have hcl : (tdC W card).length ≤ (ptsV W card).length := by rw [← hP]; exact compTo_len _ _
 have hcs : ∀ a ∈ tdC W card,a.1 ≤ 200 ∧ -200 ≤ a.1 ∧ a.2 ≤ 200 ∧ -200 ≤ a.2 := fun a ha => by
  have h1 := (List.mergeSort_perm (ptsV W card) _).mem_iff.1 (compTo_mem.1 ha)
  unfold ptsV at h1
  obtain ⟨p,hp,h2⟩ := List.mem_flatMap.1 h1
  obtain ⟨s,hs,rfl⟩ := List.mem_map.1 h2
  have h3 := hsm p (hop ▸ hp)
  have h4 := hc s hs
  simp only
  omega
 have htd : tdV W card = (tdC W card).filter (mayT W card) := rfl
 rw [htd]
 unfold arrPl at hsort hcomp
 rw [hP] at hsort
 rw [hP,hdl] at hcomp
 generalize tdP W card = P at *
 generalize doneC P = D at *
 generalize tdC W card = C at *
 generalize ptsV W card = I at *
 refine SR.seqTo ⟨[(10,.sl (nid + 12) 0 I.length),(7,.mp (nid + 8)),(1,litPl nlc card),(3,.ptr nid 0)],[(nid,boxW nl W),(nid + 8,mapN op op.length),(nid + 12,arrPl P)],nid + 3100,nid⟩ ?_ ?_
 ·unfold boxW mapN litPl arrPl
  simp -dsimp only [aqA,↓seqK,↓blkK,↓loopK,step,stepBin,eqB,Nat.add_assoc nid,↓reduceIte,simprocAttr,LN_succ]
  refine CallO.on (hsort _ (by omega)) (subH_get (by simp only [aqA,↓seqK,↓blkK,↓loopK,step,stepBin,eqB,Nat.add_assoc nid,↓reduceIte,simprocAttr,LN_succ])) ?_
  simp -dsimp only [aqA,↓seqK,↓blkK,↓loopK,step,stepBin,eqB,Nat.add_assoc nid,↓reduceIte,simprocAttr,LN_succ]
  refine Cov.go [] [] ?_
  simp [cvT,step,res,boxW,mapN,litPl,arrPl,hP,-List.getD_eq_getElem?_getD]
 refine SR.seq ?_
 unfold boxW mapN litPl arrPl
 rw [hP]
 simp -dsimp only [aqA,↓seqK,↓blkK,↓loopK,step,stepBin,eqB,Nat.add_assoc nid,↓reduceIte,simprocAttr,LN_succ]
 refine SR.seqW (ι := Unit) (fun _ => ⟨[(15,.sl (nid + 20) 0 (C.filter (mayT W card)).length)],[(nid + 20,arrTd W card (C.filter (mayT W card)))],nid + 90000,nid⟩) ?_ (fun _ => ?_)
 ·refine SR.seqTo ⟨[(69,.int .i64 0),(68,.int .i64 C.length),(67,.sl (nid + 12) 0 C.length),(15,.sl (nid + 20) 0 0),(7,.mp (nid + 8)),(1,litPl nlc card),(3,.ptr nid 0)],[(nid,boxW nl W),(nid + 8,mapN op op.length),(nid + 12,arrPl D),(nid + 20,arrTd W card [])],nid + 3200,nid⟩ ?_ ?_
  ·simp -dsimp only [aqA,↓seqK,↓blkK,↓loopK,step,stepBin,eqB,Nat.add_assoc nid,↓reduceIte,simprocAttr,LN_succ]
   refine CallO.on (hcomp _ (by omega)) (subH_get (by simp only [aqA,↓seqK,↓blkK,↓loopK,step,stepBin,eqB,Nat.add_assoc nid,↓reduceIte,simprocAttr,LN_succ])) ?_
   simp -dsimp only [aqA,↓seqK,↓blkK,↓loopK,step,stepBin,eqB,Nat.add_assoc nid,↓reduceIte,simprocAttr,LN_succ]
   refine Cov.go [] [(nid + 20,3)] ?_
   simp [cvT,step,res,boxW,mapN,litPl,arrPl,arrTd,hdl,-List.getD_eq_getElem?_getD]
  refine SR.block ?_
  refine SR.loopP (fun k : Nat => k ≤ C.length) (fun k : Nat => ⟨[(69,.int .i64 k),(68,.int .i64 C.length),(67,.sl (nid + 12) 0 C.length),(15,.sl (nid + 20) 0 ((C.take k).filter (mayT W card)).length),(7,.mp (nid + 8)),(1,litPl nlc card),(3,.ptr nid 0)],[(nid,boxW nl W),(nid + 8,mapN op op.length),(nid + 12,arrPl D),(nid + 20,arrTd W card ((C.take k).filter (mayT W card)))],nid + 3300,nid⟩) (fun k => C.length + 1 - k) 0 (Nat.zero_le _) (Cov.go [] [] ?_) (fun k hk' => ?_)
  ·simp [cvT,step,res,boxW,mapN,litPl,arrPl,arrTd,-List.getD_eq_getElem?_getD]
  refine SR.seq ?_
  unfold mapN boxW litPl arrPl arrTd
  rw [hdl]
  simp -dsimp only [aqA,↓seqK,↓blkK,↓loopK,step,stepBin,eqB,Nat.add_assoc nid,↓reduceIte,simprocAttr,LN_succ]
  refine SR.seq ?_
  simp -dsimp only [aqA,↓seqK,↓blkK,↓loopK,step,stepBin,eqB,Nat.add_assoc nid,↓reduceIte,simprocAttr,LN_succ]
  refine S2.dec (fun h3 => ?_) (fun h3 => ?_) <;> simp -dsimp only [aqA,↓seqK,↓blkK,↓loopK,step,stepBin,eqB,Nat.add_assoc nid,↓reduceIte,simprocAttr,LN_succ]
  ·have hkl : k < C.length := by omega
   have has := hcs _ (ptMem hkl)
   have hda := hdg k hkl
   have hfs : (C.take (k + 1)).filter (mayT W card) = (C.take k).filter (mayT W card) ++ (if mayT W card (C.getD k p0) = true then [C.getD k p0] else []) := by
    rw [take_snoc (x := C.getD k p0) (by rw [List.getD_eq_getElem?_getD,List.getElem?_eq_getElem hkl]; rfl),List.filter_append]
    congr 1
    generalize C.getD k p0 = a
    cases hh : mayT W card a <;> simp [hh]
   have hfl : ((C.take k).filter (mayT W card)).length ≤ k := Nat.le_trans (List.length_filter_le _ _) (by rw [List.length_take]; omega)
   refine SR.seqW (ι := Unit) (fun _ => ⟨[(69,.int .i64 k),(68,.int .i64 C.length),(67,.sl (nid + 12) 0 C.length),(15,.sl (nid + 20) 0 ((C.take (k + 1)).filter (mayT W card)).length),(7,.mp (nid + 8)),(1,litPl nlc card),(3,.ptr nid 0)],[(nid,boxW nl W),(nid + 8,mapN op op.length),(nid + 12,arrPl D),(nid + 20,arrTd W card ((C.take (k + 1)).filter (mayT W card)))],nid + 9000,nid⟩) ?_ (fun _ => ?_)
   ·refine SR.block ?_
    refine SR.seq ?_
    simp -dsimp only [aqA,↓seqK,↓blkK,↓loopK,step,stepBin,eqB,Nat.add_assoc nid,↓reduceIte,simprocAttr,LN_succ]
    refine ⟨by omega,?_⟩
    rw [hda]
    refine SR.seq ?_
    simp -dsimp only [aqA,↓seqK,↓blkK,↓loopK,step,stepBin,eqB,Nat.add_assoc nid,↓reduceIte,simprocAttr,LN_succ]
    refine SR.seq ?_
    simp -dsimp only [aqA,↓seqK,↓blkK,↓loopK,step,stepBin,eqB,Nat.add_assoc nid,↓reduceIte,simprocAttr,LN_succ]
    rw [hfs]
    generalize hL : (C.take k).filter (mayT W card) = L at *
    have hsa := hsets (C.getD k p0)
    have hma : mayT W card (C.getD k p0) = mayTo W (touchL card (C.getD k p0)) (touchL card (C.getD k p0)).length := by unfold mayT mayTo; rw [List.take_length]
    rw [hma]
    generalize C.getD k p0 = a at *
    have htl := touchL_len card a
    have hto' := fun m => hto a m (by unfold PtBd; omega)
    have hin : ∀ q ∈ touchL card a,inI64 q.1 ∧ inI64 q.2 := fun q hq => touchL_in (card := card) (a := a) (fun r hr => by have := hc r hr; omega) (by omega) hq
    unfold arrPl at hto'
    generalize touchL card a = T at *
    refine SR.seqW (ι := Unit) (fun _ => ⟨[(19,.bool (mayTo W T T.length)),(18,.ptr (nid + 28) 0),(69,.int .i64 k),(68,.int .i64 C.length),(67,.sl (nid + 12) 0 C.length),(15,.sl (nid + 20) 0 L.length),(7,.mp (nid + 8)),(1,litPl nlc card),(3,.ptr nid 0)],[(nid,boxW nl W),(nid + 8,mapN op op.length),(nid + 12,arrPl D),(nid + 20,arrTd W card L),(nid + 28,boxTd a (orT op T T.length))],nid + 5000,nid⟩) ?_ (fun _ => ?_)
    ·refine SR.seqTo ⟨[(79,.int .i64 0),(78,.int .i64 T.length),(77,.sl (nid + 32) 0 T.length),(19,.bool true),(18,.ptr (nid + 28) 0),(69,.int .i64 k),(68,.int .i64 C.length),(67,.sl (nid + 12) 0 C.length),(15,.sl (nid + 20) 0 L.length),(7,.mp (nid + 8)),(1,litPl nlc card),(3,.ptr nid 0)],[(nid,boxW nl W),(nid + 8,mapN op op.length),(nid + 12,arrPl D),(nid + 20,arrTd W card L),(nid + 28,boxTd a 0),(nid + 32,arrPl T)],nid + 3500,nid⟩ ?_ ?_
     ·simp -dsimp only [aqA,↓seqK,↓blkK,↓loopK,step,stepBin,eqB,Nat.add_assoc nid,↓reduceIte,simprocAttr,LN_succ]
      refine CallO.pure (hto' _) ?_
      simp -dsimp only [aqA,↓seqK,↓blkK,↓loopK,step,stepBin,eqB,Nat.add_assoc nid,↓reduceIte,simprocAttr,LN_succ]
      refine Cov.go [(nid + 28,nid + 3328),(nid + 32,nid + 3348)] [] ?_
      simp [cvT,step,res,boxW,mapN,litPl,arrPl,arrTd,boxTd,hdl,-List.getD_eq_getElem?_getD]
     refine SR.block ?_
     refine SR.loopP (fun j : Nat => j ≤ T.length) (fun j : Nat => ⟨[(79,.int .i64 j),(78,.int .i64 T.length),(77,.sl (nid + 32) 0 T.length),(19,.bool (mayTo W T j)),(18,.ptr (nid + 28) 0),(69,.int .i64 k),(68,.int .i64 C.length),(67,.sl (nid + 12) 0 C.length),(15,.sl (nid + 20) 0 L.length),(7,.mp (nid + 8)),(1,litPl nlc card),(3,.ptr nid 0)],[(nid,boxW nl W),(nid + 8,mapN op op.length),(nid + 12,arrPl D),(nid + 20,arrTd W card L),(nid + 28,boxTd a (orT op T j)),(nid + 32,arrPl T)],nid + 3600,nid⟩) (fun j => T.length + 1 - j) 0 (Nat.zero_le _) (Cov.go [] [] ?_) (fun j hj => ?_)
     ·simp [cvT,step,res,boxW,mapN,litPl,arrPl,arrTd,boxTd,mayTo,orT,-List.getD_eq_getElem?_getD]
     refine SR.seq ?_
     unfold mapN boxW litPl arrPl arrTd boxTd
     rw [hdl]
     simp -dsimp only [aqA,↓seqK,↓blkK,↓loopK,step,stepBin,eqB,Nat.add_assoc nid,↓reduceIte,simprocAttr,LN_succ]
     refine SR.seq ?_
     simp -dsimp only [aqA,↓seqK,↓blkK,↓loopK,step,stepBin,eqB,Nat.add_assoc nid,↓reduceIte,simprocAttr,LN_succ]
     refine S2.dec (fun h4 => ?_) (fun h4 => ?_) <;> simp -dsimp only [aqA,↓seqK,↓blkK,↓loopK,step,stepBin,eqB,Nat.add_assoc nid,↓reduceIte,simprocAttr,LN_succ]
     ·have hjl : j < T.length := by omega
      have hqi := hin _ (ptMem hjl)
      have hms := mayTo_succ W hjl
      have hos := orT_succ op hjl
      have hol := orT_lt op (q := T) hj
      have hlk := num_look hnd (T.getD j p0)
      have hatq := fun m => hat (T.getD j p0) m hqi.1 hqi.2
      have hpw : (2 : Nat) ^ op.length ≤ 2 ^ 14 := Nat.pow_le_pow_right (by omega) hk
      generalize hqd : T.getD j p0 = q at *
      have hdq : testedV (dieV W q.1 q.2) = (isBinV (dieV W q.1 q.2) || dieV W q.1 q.2 == 42) := rfl
      generalize dieV W q.1 q.2 = c at *
      refine SR.seqW (ι := Unit) (fun _ => ⟨[(79,.int .i64 j),(78,.int .i64 T.length),(77,.sl (nid + 32) 0 T.length),(19,.bool (mayTo W T (j + 1))),(18,.ptr (nid + 28) 0),(69,.int .i64 k),(68,.int .i64 C.length),(67,.sl (nid + 12) 0 C.length),(15,.sl (nid + 20) 0 L.length),(7,.mp (nid + 8)),(1,litPl nlc card),(3,.ptr nid 0)],[(nid,boxW nl W),(nid + 8,mapN op op.length),(nid + 12,arrPl D),(nid + 20,arrTd W card L),(nid + 28,boxTd a (orT op T (j + 1))),(nid + 32,arrPl T)],nid + 4600,nid⟩) ?_ (fun _ => ?_)
      ·refine SR.block ?_
       refine SR.seq ?_
       simp -dsimp only [aqA,↓seqK,↓blkK,↓loopK,step,stepBin,eqB,Nat.add_assoc nid,↓reduceIte,simprocAttr,LN_succ]
       refine ⟨by omega,?_⟩
       rw [hqd]
       refine SR.seqTo ⟨[(21,.ptr (nid + 36) 0),(79,.int .i64 j),(78,.int .i64 T.length),(77,.sl (nid + 32) 0 T.length),(19,.bool (mayTo W T (j + 1))),(18,.ptr (nid + 28) 0),(69,.int .i64 k),(68,.int .i64 C.length),(67,.sl (nid + 12) 0 C.length),(15,.sl (nid + 20) 0 L.length),(7,.mp (nid + 8)),(1,litPl nlc card),(3,.ptr nid 0)],[(nid,boxW nl W),(nid + 8,mapN op op.length),(nid + 12,arrPl D),(nid + 20,arrTd W card L),(nid + 28,boxTd a (orT op T j)),(nid + 32,arrPl T),(nid + 36,some (.box 34 [.int .i64 q.1,.int .i64 q.2]))],nid + 4000,nid⟩ ?_ ?_
       ·rw [hms]
        cases hm : mayTo W T j <;> simp -dsimp only [aqA,↓seqK,↓blkK,↓loopK,step,stepBin,eqB,Nat.add_assoc nid,↓reduceIte,simprocAttr,LN_succ]
        ·refine Cov.go [(nid + 36,nid + 3612)] [] ?_
         simp [cvT,step,res,boxW,mapN,litPl,arrPl,arrTd,boxTd,hdl,-List.getD_eq_getElem?_getD]
        ·refine CallO.pure (hatq _) ?_
         simp -dsimp only [aqA,↓seqK,↓blkK,↓loopK,step,stepBin,eqB,Nat.add_assoc nid,↓reduceIte,simprocAttr,LN_succ]
         refine CallO.pure (tested_c _ _) ?_
         rw [← hdq]
         simp -dsimp only [aqA,↓seqK,↓blkK,↓loopK,step,stepBin,eqB,Nat.add_assoc nid,↓reduceIte,simprocAttr,LN_succ]
         refine Cov.go [(nid + 36,nid + 3612)] [] ?_
         simp [cvT,step,res,boxW,mapN,litPl,arrPl,arrTd,boxTd,hdl,-List.getD_eq_getElem?_getD]
       unfold mapN boxW litPl arrPl arrTd boxTd
       refine SR.seqTo ⟨[(22,.int .i64 (bif seenD op (MK.p q.1 q.2) then numF op op.length (MK.p q.1 q.2) else 0)),(23,.bool (seenD op (MK.p q.1 q.2))),(79,.int .i64 j),(78,.int .i64 T.length),(77,.sl (nid + 32) 0 T.length),(19,.bool (mayTo W T (j + 1))),(18,.ptr (nid + 28) 0),(69,.int .i64 k),(68,.int .i64 C.length),(67,.sl (nid + 12) 0 C.length),(15,.sl (nid + 20) 0 L.length),(7,.mp (nid + 8)),(1,litPl nlc card),(3,.ptr nid 0)],[(nid,boxW nl W),(nid + 8,mapN op op.length),(nid + 12,arrPl D),(nid + 20,arrTd W card L),(nid + 28,boxTd a (orT op T j)),(nid + 32,arrPl T)],nid + 4100,nid⟩ ?_ ?_
       ·simp -dsimp only [aqA,↓seqK,↓blkK,↓loopK,step,stepBin,eqB,Nat.add_assoc nid,↓reduceIte,simprocAttr,LN_succ]
        refine ⟨hqi,?_⟩
        refine Cov.go [] [] ?_
        simp [cvT,step,res,boxW,mapN,litPl,arrPl,arrTd,boxTd,hdl,-List.getD_eq_getElem?_getD]
       rcases hlk with ⟨l1,l2⟩ | ⟨i,l0,l1,l2,l3⟩
       ·rw [l2]
        rw [l1] at hos
        unfold mapN boxW litPl arrPl arrTd boxTd
        refine SR.run (t := .mk) ?_
        simp -dsimp only [aqA,↓seqK,↓blkK,↓loopK,step,stepBin,eqB,Nat.add_assoc nid,↓reduceIte,simprocAttr,LN_succ]
        refine ⟨(),Cov.go [] [] ?_⟩
        simp [cvT,step,res,boxW,mapN,litPl,arrPl,arrTd,boxTd,hdl,hos,-List.getD_eq_getElem?_getD]
       ·rw [l2,l3]
        rw [l1] at hos
        unfold mapN boxW litPl arrPl arrTd boxTd
        refine SR.run (t := .mk) ?_
        simp -dsimp only [aqA,↓seqK,↓blkK,↓loopK,step,stepBin,eqB,Nat.add_assoc nid,↓reduceIte,simprocAttr,LN_succ]
        have hsh : (1 <<< i : Nat) < 2 ^ 14 := by
         rw [Nat.one_shiftLeft]
         exact Nat.pow_lt_pow_right (by omega) (by omega)
        rw [shl64u i (by omega),or64u _ _ (by omega) (by omega)]
        refine ⟨by omega,(),Cov.go [] [] ?_⟩
        simp [cvT,step,res,boxW,mapN,litPl,arrPl,arrTd,boxTd,hdl,hos,-List.getD_eq_getElem?_getD]
      ·refine SR.run (t := .mk) ?_
       simp -dsimp only [aqA,↓seqK,↓blkK,↓loopK,step,stepBin,eqB,Nat.add_assoc nid,↓reduceIte,simprocAttr,LN_succ]
       refine ⟨by unfold inI64; omega,j + 1,⟨by omega,by omega⟩,Cov.go [] [] ?_⟩
       simp [cvT,step,res,boxW,mapN,litPl,arrPl,arrTd,boxTd,hdl,-List.getD_eq_getElem?_getD]
     ·obtain rfl : j = T.length := by omega
      refine ⟨(),Cov.go [] [] ?_⟩
      simp [cvT,step,res,boxW,mapN,litPl,arrPl,arrTd,boxTd,hdl,-List.getD_eq_getElem?_getD]
    ·rw [← hsa]
     unfold mapN boxW litPl arrPl arrTd boxTd
     cases hm : mayTo W T T.length
     ·refine SR.run (t := .mk) ?_
      simp -dsimp only [aqA,↓seqK,↓blkK,↓loopK,step,stepBin,eqB,Nat.add_assoc nid,↓reduceIte,simprocAttr,LN_succ]
      refine ⟨(),Cov.go [] [] ?_⟩
      simp [cvT,step,res,boxW,mapN,litPl,arrPl,arrTd,boxTd,hdl,-List.getD_eq_getElem?_getD]
     ·refine SR.run (t := .mk) ?_
      simp -dsimp only [aqA,↓seqK,↓blkK,↓loopK,step,stepBin,eqB,Nat.add_assoc nid,↓reduceIte,simprocAttr,LN_succ]
      rw [getD_appP L a rfl (fun q => q.1) rfl rfl,getD_appP L a rfl (fun q => q.2) rfl rfl,getD_appS (L.map (setT W card)) (setT W card a) (List.length_map ..)]
      have hal : (L ++ [a]).length = L.length + 1 := by simp
      have ham : (L ++ [a]).map (setT W card) = L.map (setT W card) ++ [setT W card a] := by simp
      refine ⟨⟨by omega,by omega⟩,(),Cov.go [(nid + 20,nid + 5016)] [] ?_⟩
      simp [cvT,step,res,boxW,mapN,litPl,arrPl,arrTd,boxTd,hdl,hal,ham,-List.getD_eq_getElem?_getD,-List.length_append,-List.map_append]
   ·refine SR.run (t := .mk) ?_
    simp -dsimp only [aqA,↓seqK,↓blkK,↓loopK,step,stepBin,eqB,Nat.add_assoc nid,↓reduceIte,simprocAttr,LN_succ]
    refine ⟨by unfold inI64; omega,k + 1,⟨by omega,by omega⟩,Cov.go [] [] ?_⟩
    simp [cvT,step,res,boxW,mapN,litPl,arrPl,arrTd,hdl,-List.getD_eq_getElem?_getD]
  ·obtain rfl : k = C.length := by omega
   rw [List.take_length]
   refine ⟨(),Cov.go [] [] ?_⟩
   simp [cvT,step,res,boxW,mapN,litPl,arrPl,arrTd,-List.getD_eq_getElem?_getD]
 ·refine SR.run (t := .mk) ?_
  unfold arrTd
  simp -dsimp only [aqA,↓seqK,↓blkK,↓loopK,step,stepBin,eqB,Nat.add_assoc nid,↓reduceIte,simprocAttr,LN_succ]
  refine RetOK.go [(nid,nid + 20)] [] (.inl rfl) ?_
  simp [a63,cvT,step,res,-List.getD_eq_getElem?_getD]
end Go.Proofs.YtmgfcjblclanmaaGreatDoor
