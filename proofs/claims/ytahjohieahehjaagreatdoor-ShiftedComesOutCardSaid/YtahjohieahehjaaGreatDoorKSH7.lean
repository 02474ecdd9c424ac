/-
 Devices that the stream makes,by the abstract machine.
-/
import Derived.Test.YtahjohieahehjaaGreatDoorKSH5
import Derived.Test.YtahjohieahehjaaGreatDoorKSH6
import Derived.Test.YtahjohieahehjaaGreatDoorKSH4
import Derived.Test.YtahjohieahehjaaGreatDoorKSH3
import Derived.Lib.SlTrimSet
set_option linter.unusedVariables false
set_option linter.unusedSimpArgs false
set_option maxRecDepth 100000
namespace Go.Proofs.YtahjohieahehjaaGreatDoor
open Go.RowKit
def arrRg (l:List (Bs × Int)):Option ABlk:=some (.arr 70 l.length [.s fun j=>(l.getD j reg0).1,.i .i64 fun j=>(l.getD j reg0).2])
def arrIn (l:List (Bs × Bs)):Option ABlk:=some (.arr 68 l.length [.s fun j=>(l.getD j ins0).1,.s fun j=>(l.getD j ins0).2])
def arrD (b:Nat) (D:List Dev):Option ABlk:=some (.arr 57 D.length [.s fun i=>(D.getD i dev0).name,.i .i64 fun i=>(D.getD i dev0).long,.i .i64 fun i=>(D.getD i dev0).id,.o (fun k=>b+(100+2 * k)) (fun k=>(D.getD k dev0).regs.length),.o (fun k=>b+(101+2 * k)) (fun k=>(D.getD k dev0).ins.length)])
def boxDv (d:Dev) (r i:PV):Option ABlk:=some (.box 57 [.str d.name,.int .i64 d.long,.int .i64 d.id,r,i])
structure DevG (d:Dev):Prop where
 nm:d.name.length=2
 lg:2≤d.long∧d.long≤4
 idb:0≤d.id∧d.id≤4294967295
 rl:d.regs.length≤2
 rs:∀ x∈d.regs,x.1.length≤10∧1≤x.2∧x.2≤5
 il:d.ins.length≤3
 is:∀ x∈d.ins,x.1.length≤10∧x.2.length≤10
def dropV:Nat→ACode→ACode
 | 0,c=>c
 | k+1,.seq _ b=>dropV k b
 | _+1,c=>c
def headV:ACode→ACode
 | .seq a _=>a
 | c=>c
def roundV:ACode→ACode
 | .seq _ (.block _ (.loop (.seq _ (.seq _ (.seq x _)))))=>x
 | c=>c
def u3L:List Bs:=[[117,49],[117,50],[117,51]]
def d2L:List Bs:=[[100,97,116,97],[115,99,97,110]]
def blockV:ACode→ACode
 | .block _ c=>c
 | c=>c
def idsL:List Int:=[0,5,19088743,4294967295,1]
theorem id_ok (i:Nat):0≤idsL.getD i 0∧idsL.getD i 0≤4294967295:=by
 unfold idsL
 rcases i with _ | _ | _ | _ | _ | i <;> simp
theorem u3_len {k:Nat} (h:k<3):(u3L.getD k []).length=2:=by
 unfold u3L
 rcases k with _ | _ | _ | k <;> first | rfl | omega
theorem rep1 (b:UInt8):∀ z,(Lib.repeatL [b] z).length=z
 | 0=>rfl
 | z+1=>by simp [Lib.repeatL,rep1 b z]
theorem snocR1 (R:List (Bs × Int)) (x:Bs × Int):∀ j,j<R.length+1→(if j<R.length then (R.getD j reg0).1 else [x.1].getD (j - R.length) [])=((R++[x]).getD j reg0).1:=fun j hj=>by
 by_cases h:j<R.length
 ·rw [if_pos h,List.getD_eq_getElem?_getD,List.getD_eq_getElem?_getD,List.getElem?_append_left h]
 ·obtain rfl:j=R.length:=by omega
  rw [if_neg h]
  simp
theorem snocR2 (R:List (Bs × Int)) (x:Bs × Int):∀ j,j<R.length+1→(if j<R.length then (R.getD j reg0).2 else [x.2].getD (j - R.length) 0)=((R++[x]).getD j reg0).2:=fun j hj=>by
 by_cases h:j<R.length
 ·rw [if_pos h,List.getD_eq_getElem?_getD,List.getD_eq_getElem?_getD,List.getElem?_append_left h]
 ·obtain rfl:j=R.length:=by omega
  rw [if_neg h]
  simp
theorem snocI1 (R:List (Bs × Bs)) (x:Bs × Bs):∀ j,j<R.length+1→(if j<R.length then (R.getD j ins0).1 else [x.1].getD (j - R.length) [])=((R++[x]).getD j ins0).1:=fun j hj=>by
 by_cases h:j<R.length
 ·rw [if_pos h,List.getD_eq_getElem?_getD,List.getD_eq_getElem?_getD,List.getElem?_append_left h]
 ·obtain rfl:j=R.length:=by omega
  rw [if_neg h]
  simp
theorem snocI2 (R:List (Bs × Bs)) (x:Bs × Bs):∀ j,j<R.length+1→(if j<R.length then (R.getD j ins0).2 else [x.2].getD (j - R.length) [])=((R++[x]).getD j ins0).2:=fun j hj=>by
 by_cases h:j<R.length
 ·rw [if_pos h,List.getD_eq_getElem?_getD,List.getD_eq_getElem?_getD,List.getElem?_append_left h]
 ·obtain rfl:j=R.length:=by omega
  rw [if_neg h]
  simp
set_option maxHeartbeats 8000000 in
theorem dev_round (s nid:Nat) (nl n0:Bool) (A:List Int) (q k n:Nat) (Hs:Heap) (h:s<nid) (hq:q≤1099500001000) (hA:A.length≤17592186044416) (hk:k<n) (hn:n≤3) (hs:Scoped (nid+200) Hs) (hsk:s ∉ keys Hs) (K:ST→Prop) (Q:AEx→ST→Prop)
  (hK:∀ (d:Dev) (q':Nat),DevG d→q'≤q+12→SR Tryz.prog (dropV 4 (blockV (roundV (headV (dropV 2 a11.body))))) ⟨[(8,.ptr (nid+1300) 0),(20,.int .i64 k),(19,.int .i64 n),(18,.lit n0 n [.s fun i=>u3L.getD i []]),(5,.sl (nid+24) 0 k),(0,.ptr s 0)],
   [(s,strmC nl A q'),(nid+1300,boxDv d (.sl (nid+1304) 0 d.regs.length) (.sl (nid+1308) 0 d.ins.length)),(nid+1304,arrRg d.regs),(nid+1308,arrIn d.ins)]++Hs,nid+9000,nid⟩ (blkK 1 (seqK K Q)) .mk) :
  SR Tryz.prog (roundV (headV (dropV 2 a11.body))) ⟨[(20,.int .i64 k),(19,.int .i64 n),(18,.lit n0 n [.s fun i=>u3L.getD i []]),(5,.sl (nid+24) 0 k),(0,.ptr s 0)],[(s,strmC nl A q)]++Hs,nid+1200,nid⟩ (seqK K Q) .mk:=by
 obtain ⟨e1,e2,e3,e4,e5,e6,e7,e8,e9⟩:=id_all h
 simp only [a11,dropV,headV,roundV,blockV] at hK ⊢
 refine SR.block ?_
 refine SR.seq ?_
 simp -dsimp only [aqA,↓seqK,↓blkK,↓loopK,step,stepBin,eqB,Nat.add_assoc nid,↓reduceIte,simprocAttr,LN_succ,e1,e2,e3,e4,e5,e6,e7,e8,e9,strmC_low]
 refine ⟨⟨by omega,by omega⟩,?_⟩
 refine SR.seqEx (ι:={x:Int × Int // (2≤x.1∧x.1≤4)∧0≤x.2∧x.2≤4294967295}) (fun x=>⟨[(8,.ptr (nid+1300) 0),(20,.int .i64 k),(19,.int .i64 n),(18,.lit n0 n [.s fun i=>u3L.getD i []]),(5,.sl (nid+24) 0 k),(0,.ptr s 0)],
   [(s,strmC nl A (q+1+1)),(nid+1300,some (.box 57 [.str (u3L.getD k []),.int .i64 x.1.1,.int .i64 x.1.2,.lit true 0 [],.lit true 0 []]))]++Hs,nid+2000,nid⟩) ?_ (fun ⟨⟨lg,id⟩,hlg,hid⟩=>?_)
 ·simp -dsimp only [aqA,↓seqK,↓blkK,↓loopK,step,stepBin,eqB,Nat.add_assoc nid,↓reduceIte,simprocAttr,LN_succ,e1,e2,e3,e4,e5,e6,e7,e8,e9,strmC_low]
  refine CallO.pick_go (T:=3) (nl:=nl) (A:=A) (p:=q) (g:=fun i=>[2,3,4].getD i 0) (by simp only [aqA,↓seqK,↓blkK,↓loopK,step,stepBin,eqB,Nat.add_assoc nid,↓reduceIte,simprocAttr,LN_succ,e1,e2,e3,e4,e5,e6,e7,e8,e9]) (by simp only [aqA,↓seqK,↓blkK,↓loopK,step,stepBin,eqB,Nat.add_assoc nid,↓reduceIte,simprocAttr,LN_succ,e1,e2,e3,e4,e5,e6,e7,e8,e9]) (by simp only [aqA,↓seqK,↓blkK,↓loopK,step,stepBin,eqB,Nat.add_assoc nid,↓reduceIte,simprocAttr,LN_succ,e1,e2,e3,e4,e5,e6,e7,e8,e9]) (by omega) (by omega) hA (by omega) (by omega) ?_
  have hl:2≤([2,3,4].getD (pickI A q 3) 0:Int)∧([2,3,4].getD (pickI A q 3) 0:Int)≤4:=getD_all (P:=fun x:Int=>2≤x∧x≤4) (l:=[2,3,4]) (d:=0) (by simp) (pickI_lt A q (n:=3) (by omega))
  generalize [2,3,4].getD (pickI A q 3) (0:Int)=lg at *
  simp -dsimp only [aqA,↓seqK,↓blkK,↓loopK,step,stepBin,eqB,Nat.add_assoc nid,↓reduceIte,simprocAttr,LN_succ,e1,e2,e3,e4,e5,e6,e7,e8,e9,strmC_low]
  refine CallO.pick_go (T:=3) (nl:=nl) (A:=A) (p:=q+1) (g:=fun i=>[0,5,19088743,4294967295,1].getD i 0) (by simp only [aqA,↓seqK,↓blkK,↓loopK,step,stepBin,eqB,Nat.add_assoc nid,↓reduceIte,simprocAttr,LN_succ,e1,e2,e3,e4,e5,e6,e7,e8,e9]) (by simp only [aqA,↓seqK,↓blkK,↓loopK,step,stepBin,eqB,Nat.add_assoc nid,↓reduceIte,simprocAttr,LN_succ,e1,e2,e3,e4,e5,e6,e7,e8,e9]) (by simp only [aqA,↓seqK,↓blkK,↓loopK,step,stepBin,eqB,Nat.add_assoc nid,↓reduceIte,simprocAttr,LN_succ,e1,e2,e3,e4,e5,e6,e7,e8,e9]) (by omega) (by omega) hA (by omega) (by omega) ?_
  have hi:=id_ok (pickI A (q+1) 5)
  unfold idsL at hi
  generalize [0,5,19088743,4294967295,1].getD (pickI A (q+1) 5) (0:Int)=id at *
  simp -dsimp only [aqA,↓seqK,↓blkK,↓loopK,step,stepBin,eqB,Nat.add_assoc nid,↓reduceIte,simprocAttr,LN_succ,e1,e2,e3,e4,e5,e6,e7,e8,e9,strmC_low]
  refine ⟨⟨(lg,id),hl,hi⟩,?_⟩
  first | refine Cov.goG (nid+200) Hs [_] [_,_] [(nid+1300,nid+1244)] [] (by omega) hs (by simp [kOK,hsk]) (by simp) ?_ | refine Cov.goG (nid+200) Hs [_,_] [_,_] [(nid+1300,nid+1244)] [] (by omega) hs (by simp [kOK,hsk]) (by simp) ?_ | refine Cov.goG (nid+200) Hs [_,_,_] [_,_] [(nid+1300,nid+1244)] [] (by omega) hs (by simp [kOK,hsk]) (by simp) ?_ | refine Cov.goG (nid+200) Hs [_,_,_,_] [_,_] [(nid+1300,nid+1244)] [] (by omega) hs (by simp [kOK,hsk]) (by simp) ?_ | refine Cov.goG (nid+200) Hs [_,_,_,_,_] [_,_] [(nid+1300,nid+1244)] [] (by omega) hs (by simp [kOK,hsk]) (by simp) ?_ | refine Cov.goG (nid+200) Hs [_,_,_,_,_,_] [_,_] [(nid+1300,nid+1244)] [] (by omega) hs (by simp [kOK,hsk]) (by simp) ?_ | refine Cov.goG (nid+200) Hs [_,_,_,_,_,_,_] [_,_] [(nid+1300,nid+1244)] [] (by omega) hs (by simp [kOK,hsk]) (by simp) ?_ | refine Cov.goG (nid+200) Hs [_,_,_,_,_,_,_,_] [_,_] [(nid+1300,nid+1244)] [] (by omega) hs (by simp [kOK,hsk]) (by simp) ?_ | refine Cov.goG (nid+200) Hs [_,_,_,_,_,_,_,_,_] [_,_] [(nid+1300,nid+1244)] [] (by omega) hs (by simp [kOK,hsk]) (by simp) ?_ | refine Cov.goG (nid+200) Hs [_,_,_,_,_,_,_,_,_,_] [_,_] [(nid+1300,nid+1244)] [] (by omega) hs (by simp [kOK,hsk]) (by simp) ?_ | refine Cov.goG (nid+200) Hs [_,_,_,_,_,_,_,_,_,_,_] [_,_] [(nid+1300,nid+1244)] [] (by omega) hs (by simp [kOK,hsk]) (by simp) ?_ | refine Cov.goG (nid+200) Hs [_,_,_,_,_,_,_,_,_,_,_,_] [_,_] [(nid+1300,nid+1244)] [] (by omega) hs (by simp [kOK,hsk]) (by simp) ?_ | refine Cov.goG (nid+200) Hs [_,_,_,_,_,_,_,_,_,_,_,_,_] [_,_] [(nid+1300,nid+1244)] [] (by omega) hs (by simp [kOK,hsk]) (by simp) ?_ | refine Cov.goG (nid+200) Hs [_,_,_,_,_,_,_,_,_,_,_,_,_,_] [_,_] [(nid+1300,nid+1244)] [] (by omega) hs (by simp [kOK,hsk]) (by simp) ?_ | refine Cov.goG (nid+200) Hs [_,_,_,_,_,_,_,_,_,_,_,_,_,_,_] [_,_] [(nid+1300,nid+1244)] [] (by omega) hs (by simp [kOK,hsk]) (by simp) ?_ | refine Cov.goG (nid+200) Hs [_,_,_,_,_,_,_,_,_,_,_,_,_,_,_,_] [_,_] [(nid+1300,nid+1244)] [] (by omega) hs (by simp [kOK,hsk]) (by simp) ?_ | refine Cov.goG (nid+200) Hs [_,_,_,_,_,_,_,_,_,_,_,_,_,_,_,_,_] [_,_] [(nid+1300,nid+1244)] [] (by omega) hs (by simp [kOK,hsk]) (by simp) ?_ | refine Cov.goG (nid+200) Hs [_,_,_,_,_,_,_,_,_,_,_,_,_,_,_,_,_,_] [_,_] [(nid+1300,nid+1244)] [] (by omega) hs (by simp [kOK,hsk]) (by simp) ?_ | refine Cov.goG (nid+200) Hs [_,_,_,_,_,_,_,_,_,_,_,_,_,_,_,_,_,_,_] [_,_] [(nid+1300,nid+1244)] [] (by omega) hs (by simp [kOK,hsk]) (by simp) ?_ | refine Cov.goG (nid+200) Hs [_,_,_,_,_,_,_,_,_,_,_,_,_,_,_,_,_,_,_,_] [_,_] [(nid+1300,nid+1244)] [] (by omega) hs (by simp [kOK,hsk]) (by simp) ?_ | refine Cov.goG (nid+200) Hs [_,_,_,_,_,_,_,_,_,_,_,_,_,_,_,_,_,_,_,_,_] [_,_] [(nid+1300,nid+1244)] [] (by omega) hs (by simp [kOK,hsk]) (by simp) ?_ | refine Cov.goG (nid+200) Hs [_,_,_,_,_,_,_,_,_,_,_,_,_,_,_,_,_,_,_,_,_,_] [_,_] [(nid+1300,nid+1244)] [] (by omega) hs (by simp [kOK,hsk]) (by simp) ?_ | refine Cov.goG (nid+200) Hs [_,_,_,_,_,_,_,_,_,_,_,_,_,_,_,_,_,_,_,_,_,_,_] [_,_] [(nid+1300,nid+1244)] [] (by omega) hs (by simp [kOK,hsk]) (by simp) ?_
  simp [cvT,step,res,e1,e2,e3,e4,e5,e6,e7,e8,e9,strmC,-List.getD_eq_getElem?_getD]
 simp only at hlg hid
 have hu3:=u3_len (k:=k) (by omega)
 generalize u3L.getD k []=nm at *
 -- the registers
 refine SR.seqW (ι:={x:List (Bs × Int) × Nat // x.1.length≤2∧(∀ y∈x.1,y.1.length≤10∧1≤y.2∧y.2≤5)∧x.2≤q+5}) (fun x=>⟨[(8,.ptr (nid+1300) 0),(20,.int .i64 k),(19,.int .i64 n),(18,.lit n0 n [.s fun i=>u3L.getD i []]),(5,.sl (nid+24) 0 k),(0,.ptr s 0)],
   [(s,strmC nl A x.1.2),(nid+1300,some (.box 57 [.str nm,.int .i64 lg,.int .i64 id,.sl (nid+1304) 0 x.1.1.length,.lit true 0 []])),(nid+1304,arrRg x.1.1)]++Hs,nid+4000,nid⟩) ?_ (fun ⟨⟨R,q1⟩,hR1,hR2,hq1⟩=>?_)
 ·refine SR.seqEx (ι:={m:Nat // m≤2}) (fun m=>⟨[(35,.sl (nid+1312) 0 m.1),(36,.int .i64 m.1),(37,.int .i64 0),(8,.ptr (nid+1300) 0),(20,.int .i64 k),(19,.int .i64 n),(18,.lit n0 n [.s fun i=>u3L.getD i []]),(5,.sl (nid+24) 0 k),(0,.ptr s 0)],
   [(s,strmC nl A (q+1+1+1)),(nid+1300,some (.box 57 [.str nm,.int .i64 lg,.int .i64 id,.lit true 0 [],.lit true 0 []])),(nid+1312,some (.arr 9 2 [.s fun i=>d2L.getD i []]))]++Hs,nid+2200,nid⟩) ?_ (fun ⟨m,hm⟩=>?_)
  ·simp -dsimp only [aqA,↓seqK,↓blkK,↓loopK,step,stepBin,eqB,Nat.add_assoc nid,↓reduceIte,simprocAttr,LN_succ,e1,e2,e3,e4,e5,e6,e7,e8,e9,strmC_low]
   have hnd:=rangeV_bd A (q+1+1) (lo:=0) (hi:=2) (by omega)
   obtain ⟨m,hm⟩:∃ m:Nat,rangeV A (q+1+1) 0 2=m:=⟨_,(Int.toNat_of_nonneg (by omega)).symm⟩
   rw [hm] at hnd
   refine CallO.on (range_c s _ nl A (q+1+1) 0 2 (by omega) (by omega) hA (by omega) (by omega) (by omega)) (subH_get (by simp only [aqA,↓seqK,↓blkK,↓loopK,step,stepBin,eqB,Nat.add_assoc nid,↓reduceIte,simprocAttr,LN_succ,e1,e2,e3,e4,e5,e6,e7,e8,e9])) ?_
   rw [hm]
   simp -dsimp only [aqA,↓seqK,↓blkK,↓loopK,step,stepBin,eqB,Nat.add_assoc nid,↓reduceIte,simprocAttr,LN_succ,e1,e2,e3,e4,e5,e6,e7,e8,e9,strmC_low]
   refine ⟨⟨by omega,by omega⟩,⟨m,by omega⟩,?_⟩
   first | refine Cov.goG (nid+200) Hs [_] [_,_,_] [(nid+1312,nid+2000)] [] (by omega) hs (by simp [kOK,hsk]) (by simp) ?_ | refine Cov.goG (nid+200) Hs [_,_] [_,_,_] [(nid+1312,nid+2000)] [] (by omega) hs (by simp [kOK,hsk]) (by simp) ?_ | refine Cov.goG (nid+200) Hs [_,_,_] [_,_,_] [(nid+1312,nid+2000)] [] (by omega) hs (by simp [kOK,hsk]) (by simp) ?_ | refine Cov.goG (nid+200) Hs [_,_,_,_] [_,_,_] [(nid+1312,nid+2000)] [] (by omega) hs (by simp [kOK,hsk]) (by simp) ?_ | refine Cov.goG (nid+200) Hs [_,_,_,_,_] [_,_,_] [(nid+1312,nid+2000)] [] (by omega) hs (by simp [kOK,hsk]) (by simp) ?_ | refine Cov.goG (nid+200) Hs [_,_,_,_,_,_] [_,_,_] [(nid+1312,nid+2000)] [] (by omega) hs (by simp [kOK,hsk]) (by simp) ?_ | refine Cov.goG (nid+200) Hs [_,_,_,_,_,_,_] [_,_,_] [(nid+1312,nid+2000)] [] (by omega) hs (by simp [kOK,hsk]) (by simp) ?_ | refine Cov.goG (nid+200) Hs [_,_,_,_,_,_,_,_] [_,_,_] [(nid+1312,nid+2000)] [] (by omega) hs (by simp [kOK,hsk]) (by simp) ?_ | refine Cov.goG (nid+200) Hs [_,_,_,_,_,_,_,_,_] [_,_,_] [(nid+1312,nid+2000)] [] (by omega) hs (by simp [kOK,hsk]) (by simp) ?_ | refine Cov.goG (nid+200) Hs [_,_,_,_,_,_,_,_,_,_] [_,_,_] [(nid+1312,nid+2000)] [] (by omega) hs (by simp [kOK,hsk]) (by simp) ?_ | refine Cov.goG (nid+200) Hs [_,_,_,_,_,_,_,_,_,_,_] [_,_,_] [(nid+1312,nid+2000)] [] (by omega) hs (by simp [kOK,hsk]) (by simp) ?_ | refine Cov.goG (nid+200) Hs [_,_,_,_,_,_,_,_,_,_,_,_] [_,_,_] [(nid+1312,nid+2000)] [] (by omega) hs (by simp [kOK,hsk]) (by simp) ?_ | refine Cov.goG (nid+200) Hs [_,_,_,_,_,_,_,_,_,_,_,_,_] [_,_,_] [(nid+1312,nid+2000)] [] (by omega) hs (by simp [kOK,hsk]) (by simp) ?_ | refine Cov.goG (nid+200) Hs [_,_,_,_,_,_,_,_,_,_,_,_,_,_] [_,_,_] [(nid+1312,nid+2000)] [] (by omega) hs (by simp [kOK,hsk]) (by simp) ?_ | refine Cov.goG (nid+200) Hs [_,_,_,_,_,_,_,_,_,_,_,_,_,_,_] [_,_,_] [(nid+1312,nid+2000)] [] (by omega) hs (by simp [kOK,hsk]) (by simp) ?_ | refine Cov.goG (nid+200) Hs [_,_,_,_,_,_,_,_,_,_,_,_,_,_,_,_] [_,_,_] [(nid+1312,nid+2000)] [] (by omega) hs (by simp [kOK,hsk]) (by simp) ?_ | refine Cov.goG (nid+200) Hs [_,_,_,_,_,_,_,_,_,_,_,_,_,_,_,_,_] [_,_,_] [(nid+1312,nid+2000)] [] (by omega) hs (by simp [kOK,hsk]) (by simp) ?_ | refine Cov.goG (nid+200) Hs [_,_,_,_,_,_,_,_,_,_,_,_,_,_,_,_,_,_] [_,_,_] [(nid+1312,nid+2000)] [] (by omega) hs (by simp [kOK,hsk]) (by simp) ?_ | refine Cov.goG (nid+200) Hs [_,_,_,_,_,_,_,_,_,_,_,_,_,_,_,_,_,_,_] [_,_,_] [(nid+1312,nid+2000)] [] (by omega) hs (by simp [kOK,hsk]) (by simp) ?_ | refine Cov.goG (nid+200) Hs [_,_,_,_,_,_,_,_,_,_,_,_,_,_,_,_,_,_,_,_] [_,_,_] [(nid+1312,nid+2000)] [] (by omega) hs (by simp [kOK,hsk]) (by simp) ?_ | refine Cov.goG (nid+200) Hs [_,_,_,_,_,_,_,_,_,_,_,_,_,_,_,_,_,_,_,_,_] [_,_,_] [(nid+1312,nid+2000)] [] (by omega) hs (by simp [kOK,hsk]) (by simp) ?_ | refine Cov.goG (nid+200) Hs [_,_,_,_,_,_,_,_,_,_,_,_,_,_,_,_,_,_,_,_,_,_] [_,_,_] [(nid+1312,nid+2000)] [] (by omega) hs (by simp [kOK,hsk]) (by simp) ?_ | refine Cov.goG (nid+200) Hs [_,_,_,_,_,_,_,_,_,_,_,_,_,_,_,_,_,_,_,_,_,_,_] [_,_,_] [(nid+1312,nid+2000)] [] (by omega) hs (by simp [kOK,hsk]) (by simp) ?_
   simp [cvT,step,res,e1,e2,e3,e4,e5,e6,e7,e8,e9,strmC,d2L,-List.getD_eq_getElem?_getD]
  refine SR.block ?_
  refine SR.loopP (fun x:List (Bs × Int) × Nat=>x.1.length≤m∧(∀ y∈x.1,y.1.length≤10∧1≤y.2∧y.2≤5)∧x.2≤q+3+x.1.length) (fun x=>⟨[(37,.int .i64 x.1.length),(35,.sl (nid+1312) 0 m),(36,.int .i64 m),(8,.ptr (nid+1300) 0),(20,.int .i64 k),(19,.int .i64 n),(18,.lit n0 n [.s fun i=>u3L.getD i []]),(5,.sl (nid+24) 0 k),(0,.ptr s 0)],
   [(s,strmC nl A x.2),(nid+1300,some (.box 57 [.str nm,.int .i64 lg,.int .i64 id,.sl (nid+1304) 0 x.1.length,.lit true 0 []])),(nid+1304,arrRg x.1),(nid+1312,some (.arr 9 2 [.s fun i=>d2L.getD i []]))]++Hs,nid+2400,nid⟩) (fun x=>m+1 - x.1.length) ([],q+1+1+1) ⟨by simp,by simp,by simp⟩ ?_ (fun ⟨R,q1⟩ hR=>?_)
  ·first | refine Cov.goG (nid+200) Hs [_] [_,_,_,_] [] [(nid+1304,2)] (by omega) hs (by simp [kOK,hsk]) (by simp) ?_ | refine Cov.goG (nid+200) Hs [_,_] [_,_,_,_] [] [(nid+1304,2)] (by omega) hs (by simp [kOK,hsk]) (by simp) ?_ | refine Cov.goG (nid+200) Hs [_,_,_] [_,_,_,_] [] [(nid+1304,2)] (by omega) hs (by simp [kOK,hsk]) (by simp) ?_ | refine Cov.goG (nid+200) Hs [_,_,_,_] [_,_,_,_] [] [(nid+1304,2)] (by omega) hs (by simp [kOK,hsk]) (by simp) ?_ | refine Cov.goG (nid+200) Hs [_,_,_,_,_] [_,_,_,_] [] [(nid+1304,2)] (by omega) hs (by simp [kOK,hsk]) (by simp) ?_ | refine Cov.goG (nid+200) Hs [_,_,_,_,_,_] [_,_,_,_] [] [(nid+1304,2)] (by omega) hs (by simp [kOK,hsk]) (by simp) ?_ | refine Cov.goG (nid+200) Hs [_,_,_,_,_,_,_] [_,_,_,_] [] [(nid+1304,2)] (by omega) hs (by simp [kOK,hsk]) (by simp) ?_ | refine Cov.goG (nid+200) Hs [_,_,_,_,_,_,_,_] [_,_,_,_] [] [(nid+1304,2)] (by omega) hs (by simp [kOK,hsk]) (by simp) ?_ | refine Cov.goG (nid+200) Hs [_,_,_,_,_,_,_,_,_] [_,_,_,_] [] [(nid+1304,2)] (by omega) hs (by simp [kOK,hsk]) (by simp) ?_ | refine Cov.goG (nid+200) Hs [_,_,_,_,_,_,_,_,_,_] [_,_,_,_] [] [(nid+1304,2)] (by omega) hs (by simp [kOK,hsk]) (by simp) ?_ | refine Cov.goG (nid+200) Hs [_,_,_,_,_,_,_,_,_,_,_] [_,_,_,_] [] [(nid+1304,2)] (by omega) hs (by simp [kOK,hsk]) (by simp) ?_ | refine Cov.goG (nid+200) Hs [_,_,_,_,_,_,_,_,_,_,_,_] [_,_,_,_] [] [(nid+1304,2)] (by omega) hs (by simp [kOK,hsk]) (by simp) ?_ | refine Cov.goG (nid+200) Hs [_,_,_,_,_,_,_,_,_,_,_,_,_] [_,_,_,_] [] [(nid+1304,2)] (by omega) hs (by simp [kOK,hsk]) (by simp) ?_ | refine Cov.goG (nid+200) Hs [_,_,_,_,_,_,_,_,_,_,_,_,_,_] [_,_,_,_] [] [(nid+1304,2)] (by omega) hs (by simp [kOK,hsk]) (by simp) ?_ | refine Cov.goG (nid+200) Hs [_,_,_,_,_,_,_,_,_,_,_,_,_,_,_] [_,_,_,_] [] [(nid+1304,2)] (by omega) hs (by simp [kOK,hsk]) (by simp) ?_ | refine Cov.goG (nid+200) Hs [_,_,_,_,_,_,_,_,_,_,_,_,_,_,_,_] [_,_,_,_] [] [(nid+1304,2)] (by omega) hs (by simp [kOK,hsk]) (by simp) ?_ | refine Cov.goG (nid+200) Hs [_,_,_,_,_,_,_,_,_,_,_,_,_,_,_,_,_] [_,_,_,_] [] [(nid+1304,2)] (by omega) hs (by simp [kOK,hsk]) (by simp) ?_ | refine Cov.goG (nid+200) Hs [_,_,_,_,_,_,_,_,_,_,_,_,_,_,_,_,_,_] [_,_,_,_] [] [(nid+1304,2)] (by omega) hs (by simp [kOK,hsk]) (by simp) ?_ | refine Cov.goG (nid+200) Hs [_,_,_,_,_,_,_,_,_,_,_,_,_,_,_,_,_,_,_] [_,_,_,_] [] [(nid+1304,2)] (by omega) hs (by simp [kOK,hsk]) (by simp) ?_ | refine Cov.goG (nid+200) Hs [_,_,_,_,_,_,_,_,_,_,_,_,_,_,_,_,_,_,_,_] [_,_,_,_] [] [(nid+1304,2)] (by omega) hs (by simp [kOK,hsk]) (by simp) ?_ | refine Cov.goG (nid+200) Hs [_,_,_,_,_,_,_,_,_,_,_,_,_,_,_,_,_,_,_,_,_] [_,_,_,_] [] [(nid+1304,2)] (by omega) hs (by simp [kOK,hsk]) (by simp) ?_ | refine Cov.goG (nid+200) Hs [_,_,_,_,_,_,_,_,_,_,_,_,_,_,_,_,_,_,_,_,_,_] [_,_,_,_] [] [(nid+1304,2)] (by omega) hs (by simp [kOK,hsk]) (by simp) ?_ | refine Cov.goG (nid+200) Hs [_,_,_,_,_,_,_,_,_,_,_,_,_,_,_,_,_,_,_,_,_,_,_] [_,_,_,_] [] [(nid+1304,2)] (by omega) hs (by simp [kOK,hsk]) (by simp) ?_
   simp [cvT,step,res,e1,e2,e3,e4,e5,e6,e7,e8,e9,strmC,arrRg,-List.getD_eq_getElem?_getD]
  obtain ⟨hR1,hR2,hq1⟩:=hR
  simp only at hR1 hR2 hq1
  refine SR.seq ?_
  simp -dsimp only [aqA,↓seqK,↓blkK,↓loopK,step,stepBin,eqB,Nat.add_assoc nid,↓reduceIte,simprocAttr,LN_succ,e1,e2,e3,e4,e5,e6,e7,e8,e9,strmC_low]
  refine SR.seq ?_
  simp -dsimp only [aqA,↓seqK,↓blkK,↓loopK,step,stepBin,eqB,Nat.add_assoc nid,↓reduceIte,simprocAttr,LN_succ,e1,e2,e3,e4,e5,e6,e7,e8,e9,strmC_low]
  refine S2.dec (fun h3=>?_) (fun h3=>?_) <;> simp -dsimp only [aqA,↓seqK,↓blkK,↓loopK,step,stepBin,eqB,Nat.add_assoc nid,↓reduceIte,simprocAttr,LN_succ,e1,e2,e3,e4,e5,e6,e7,e8,e9,strmC_low]
  ·have hRm:R.length<m:=by omega
   have hdl:(d2L.getD R.length []).length≤10:=by
    unfold d2L
    rcases R.length with _ | _ | j <;> simp
   unfold arrRg
   refine SR.run (t:=.mk) ?_
   simp -dsimp only [aqA,↓seqK,↓blkK,↓loopK,step,stepBin,eqB,Nat.add_assoc nid,↓reduceIte,simprocAttr,LN_succ,e1,e2,e3,e4,e5,e6,e7,e8,e9,strmC_low]
   refine ⟨⟨by omega,by omega⟩,?_⟩
   refine CallX.pick_go (T:=3) (nl:=nl) (A:=A) (p:=q1) (g:=fun i=>[1,2,3,5].getD i 0) (by simp only [aqA,↓seqK,↓blkK,↓loopK,step,stepBin,eqB,Nat.add_assoc nid,↓reduceIte,simprocAttr,LN_succ,e1,e2,e3,e4,e5,e6,e7,e8,e9]) (by simp only [aqA,↓seqK,↓blkK,↓loopK,step,stepBin,eqB,Nat.add_assoc nid,↓reduceIte,simprocAttr,LN_succ,e1,e2,e3,e4,e5,e6,e7,e8,e9]) (by simp only [aqA,↓seqK,↓blkK,↓loopK,step,stepBin,eqB,Nat.add_assoc nid,↓reduceIte,simprocAttr,LN_succ,e1,e2,e3,e4,e5,e6,e7,e8,e9]) (by omega) (by omega) hA (by omega) (by omega) ?_
   have hl:1≤([1,2,3,5].getD (pickI A q1 4) 0:Int)∧([1,2,3,5].getD (pickI A q1 4) 0:Int)≤5:=getD_all (P:=fun x:Int=>1≤x∧x≤5) (l:=[1,2,3,5]) (d:=0) (by simp) (pickI_lt A q1 (n:=4) (by omega))
   generalize [1,2,3,5].getD (pickI A q1 4) (0:Int)=rl at *
   simp -dsimp only [aqA,↓seqK,↓blkK,↓loopK,step,stepBin,eqB,Nat.add_assoc nid,↓reduceIte,simprocAttr,LN_succ,e1,e2,e3,e4,e5,e6,e7,e8,e9,strmC_low]
   generalize d2L.getD R.length []=rn at *
   have hll:(R++[(rn,rl)]).length=R.length+1:=by simp
   have hs1:=snocR1 R (rn,rl)
   have hs2:=snocR2 R (rn,rl)
   refine ⟨⟨by omega,by omega⟩,by unfold inI64; omega,(R++[(rn,rl)],q1+1),⟨⟨by simp only [hll]; omega,fun y hy=>?_,by simp only [hll]; omega⟩,by simp only [hll]; omega⟩,?_⟩
   ·rcases List.mem_append.1 hy with hy | hy
    ·exact hR2 y hy
    ·rw [List.mem_singleton.1 hy]; exact ⟨hdl,hl⟩
   generalize R++[(rn,rl)]=R2 at *
   first | refine Cov.goG (nid+200) Hs [_] [_,_,_,_] [(nid+1304,nid+2448)] [] (by omega) hs (by simp [kOK,hsk]) (by simp) ?_ | refine Cov.goG (nid+200) Hs [_,_] [_,_,_,_] [(nid+1304,nid+2448)] [] (by omega) hs (by simp [kOK,hsk]) (by simp) ?_ | refine Cov.goG (nid+200) Hs [_,_,_] [_,_,_,_] [(nid+1304,nid+2448)] [] (by omega) hs (by simp [kOK,hsk]) (by simp) ?_ | refine Cov.goG (nid+200) Hs [_,_,_,_] [_,_,_,_] [(nid+1304,nid+2448)] [] (by omega) hs (by simp [kOK,hsk]) (by simp) ?_ | refine Cov.goG (nid+200) Hs [_,_,_,_,_] [_,_,_,_] [(nid+1304,nid+2448)] [] (by omega) hs (by simp [kOK,hsk]) (by simp) ?_ | refine Cov.goG (nid+200) Hs [_,_,_,_,_,_] [_,_,_,_] [(nid+1304,nid+2448)] [] (by omega) hs (by simp [kOK,hsk]) (by simp) ?_ | refine Cov.goG (nid+200) Hs [_,_,_,_,_,_,_] [_,_,_,_] [(nid+1304,nid+2448)] [] (by omega) hs (by simp [kOK,hsk]) (by simp) ?_ | refine Cov.goG (nid+200) Hs [_,_,_,_,_,_,_,_] [_,_,_,_] [(nid+1304,nid+2448)] [] (by omega) hs (by simp [kOK,hsk]) (by simp) ?_ | refine Cov.goG (nid+200) Hs [_,_,_,_,_,_,_,_,_] [_,_,_,_] [(nid+1304,nid+2448)] [] (by omega) hs (by simp [kOK,hsk]) (by simp) ?_ | refine Cov.goG (nid+200) Hs [_,_,_,_,_,_,_,_,_,_] [_,_,_,_] [(nid+1304,nid+2448)] [] (by omega) hs (by simp [kOK,hsk]) (by simp) ?_ | refine Cov.goG (nid+200) Hs [_,_,_,_,_,_,_,_,_,_,_] [_,_,_,_] [(nid+1304,nid+2448)] [] (by omega) hs (by simp [kOK,hsk]) (by simp) ?_ | refine Cov.goG (nid+200) Hs [_,_,_,_,_,_,_,_,_,_,_,_] [_,_,_,_] [(nid+1304,nid+2448)] [] (by omega) hs (by simp [kOK,hsk]) (by simp) ?_ | refine Cov.goG (nid+200) Hs [_,_,_,_,_,_,_,_,_,_,_,_,_] [_,_,_,_] [(nid+1304,nid+2448)] [] (by omega) hs (by simp [kOK,hsk]) (by simp) ?_ | refine Cov.goG (nid+200) Hs [_,_,_,_,_,_,_,_,_,_,_,_,_,_] [_,_,_,_] [(nid+1304,nid+2448)] [] (by omega) hs (by simp [kOK,hsk]) (by simp) ?_ | refine Cov.goG (nid+200) Hs [_,_,_,_,_,_,_,_,_,_,_,_,_,_,_] [_,_,_,_] [(nid+1304,nid+2448)] [] (by omega) hs (by simp [kOK,hsk]) (by simp) ?_ | refine Cov.goG (nid+200) Hs [_,_,_,_,_,_,_,_,_,_,_,_,_,_,_,_] [_,_,_,_] [(nid+1304,nid+2448)] [] (by omega) hs (by simp [kOK,hsk]) (by simp) ?_ | refine Cov.goG (nid+200) Hs [_,_,_,_,_,_,_,_,_,_,_,_,_,_,_,_,_] [_,_,_,_] [(nid+1304,nid+2448)] [] (by omega) hs (by simp [kOK,hsk]) (by simp) ?_ | refine Cov.goG (nid+200) Hs [_,_,_,_,_,_,_,_,_,_,_,_,_,_,_,_,_,_] [_,_,_,_] [(nid+1304,nid+2448)] [] (by omega) hs (by simp [kOK,hsk]) (by simp) ?_ | refine Cov.goG (nid+200) Hs [_,_,_,_,_,_,_,_,_,_,_,_,_,_,_,_,_,_,_] [_,_,_,_] [(nid+1304,nid+2448)] [] (by omega) hs (by simp [kOK,hsk]) (by simp) ?_ | refine Cov.goG (nid+200) Hs [_,_,_,_,_,_,_,_,_,_,_,_,_,_,_,_,_,_,_,_] [_,_,_,_] [(nid+1304,nid+2448)] [] (by omega) hs (by simp [kOK,hsk]) (by simp) ?_ | refine Cov.goG (nid+200) Hs [_,_,_,_,_,_,_,_,_,_,_,_,_,_,_,_,_,_,_,_,_] [_,_,_,_] [(nid+1304,nid+2448)] [] (by omega) hs (by simp [kOK,hsk]) (by simp) ?_ | refine Cov.goG (nid+200) Hs [_,_,_,_,_,_,_,_,_,_,_,_,_,_,_,_,_,_,_,_,_,_] [_,_,_,_] [(nid+1304,nid+2448)] [] (by omega) hs (by simp [kOK,hsk]) (by simp) ?_ | refine Cov.goG (nid+200) Hs [_,_,_,_,_,_,_,_,_,_,_,_,_,_,_,_,_,_,_,_,_,_,_] [_,_,_,_] [(nid+1304,nid+2448)] [] (by omega) hs (by simp [kOK,hsk]) (by simp) ?_
   simp [cvT,step,res,e1,e2,e3,e4,e5,e6,e7,e8,e9,strmC,arrRg,hll,-List.getD_eq_getElem?_getD]
   exact ⟨ColEq.s hs1,ColEq.i hs2⟩
  ·refine ⟨⟨(R,q1),by simp only; omega,hR2,by simp only; omega⟩,?_⟩
   first | refine Cov.goG (nid+200) Hs [_] [_,_,_] [] [] (by omega) hs (by simp [kOK,hsk]) (by simp) ?_ | refine Cov.goG (nid+200) Hs [_,_] [_,_,_] [] [] (by omega) hs (by simp [kOK,hsk]) (by simp) ?_ | refine Cov.goG (nid+200) Hs [_,_,_] [_,_,_] [] [] (by omega) hs (by simp [kOK,hsk]) (by simp) ?_ | refine Cov.goG (nid+200) Hs [_,_,_,_] [_,_,_] [] [] (by omega) hs (by simp [kOK,hsk]) (by simp) ?_ | refine Cov.goG (nid+200) Hs [_,_,_,_,_] [_,_,_] [] [] (by omega) hs (by simp [kOK,hsk]) (by simp) ?_ | refine Cov.goG (nid+200) Hs [_,_,_,_,_,_] [_,_,_] [] [] (by omega) hs (by simp [kOK,hsk]) (by simp) ?_ | refine Cov.goG (nid+200) Hs [_,_,_,_,_,_,_] [_,_,_] [] [] (by omega) hs (by simp [kOK,hsk]) (by simp) ?_ | refine Cov.goG (nid+200) Hs [_,_,_,_,_,_,_,_] [_,_,_] [] [] (by omega) hs (by simp [kOK,hsk]) (by simp) ?_ | refine Cov.goG (nid+200) Hs [_,_,_,_,_,_,_,_,_] [_,_,_] [] [] (by omega) hs (by simp [kOK,hsk]) (by simp) ?_ | refine Cov.goG (nid+200) Hs [_,_,_,_,_,_,_,_,_,_] [_,_,_] [] [] (by omega) hs (by simp [kOK,hsk]) (by simp) ?_ | refine Cov.goG (nid+200) Hs [_,_,_,_,_,_,_,_,_,_,_] [_,_,_] [] [] (by omega) hs (by simp [kOK,hsk]) (by simp) ?_ | refine Cov.goG (nid+200) Hs [_,_,_,_,_,_,_,_,_,_,_,_] [_,_,_] [] [] (by omega) hs (by simp [kOK,hsk]) (by simp) ?_ | refine Cov.goG (nid+200) Hs [_,_,_,_,_,_,_,_,_,_,_,_,_] [_,_,_] [] [] (by omega) hs (by simp [kOK,hsk]) (by simp) ?_ | refine Cov.goG (nid+200) Hs [_,_,_,_,_,_,_,_,_,_,_,_,_,_] [_,_,_] [] [] (by omega) hs (by simp [kOK,hsk]) (by simp) ?_ | refine Cov.goG (nid+200) Hs [_,_,_,_,_,_,_,_,_,_,_,_,_,_,_] [_,_,_] [] [] (by omega) hs (by simp [kOK,hsk]) (by simp) ?_ | refine Cov.goG (nid+200) Hs [_,_,_,_,_,_,_,_,_,_,_,_,_,_,_,_] [_,_,_] [] [] (by omega) hs (by simp [kOK,hsk]) (by simp) ?_ | refine Cov.goG (nid+200) Hs [_,_,_,_,_,_,_,_,_,_,_,_,_,_,_,_,_] [_,_,_] [] [] (by omega) hs (by simp [kOK,hsk]) (by simp) ?_ | refine Cov.goG (nid+200) Hs [_,_,_,_,_,_,_,_,_,_,_,_,_,_,_,_,_,_] [_,_,_] [] [] (by omega) hs (by simp [kOK,hsk]) (by simp) ?_ | refine Cov.goG (nid+200) Hs [_,_,_,_,_,_,_,_,_,_,_,_,_,_,_,_,_,_,_] [_,_,_] [] [] (by omega) hs (by simp [kOK,hsk]) (by simp) ?_ | refine Cov.goG (nid+200) Hs [_,_,_,_,_,_,_,_,_,_,_,_,_,_,_,_,_,_,_,_] [_,_,_] [] [] (by omega) hs (by simp [kOK,hsk]) (by simp) ?_ | refine Cov.goG (nid+200) Hs [_,_,_,_,_,_,_,_,_,_,_,_,_,_,_,_,_,_,_,_,_] [_,_,_] [] [] (by omega) hs (by simp [kOK,hsk]) (by simp) ?_ | refine Cov.goG (nid+200) Hs [_,_,_,_,_,_,_,_,_,_,_,_,_,_,_,_,_,_,_,_,_,_] [_,_,_] [] [] (by omega) hs (by simp [kOK,hsk]) (by simp) ?_ | refine Cov.goG (nid+200) Hs [_,_,_,_,_,_,_,_,_,_,_,_,_,_,_,_,_,_,_,_,_,_,_] [_,_,_] [] [] (by omega) hs (by simp [kOK,hsk]) (by simp) ?_
   simp [cvT,step,res,e1,e2,e3,e4,e5,e6,e7,e8,e9,strmC,arrRg,-List.getD_eq_getElem?_getD]
 simp only at hR1 hR2 hq1
 -- the instructions
 refine SR.seqW (ι:={x:List (Bs × Bs) × Nat // x.1.length≤3∧(∀ y∈x.1,y.1.length≤10∧y.2.length≤10)∧x.2≤q+12}) (fun x=>⟨[(8,.ptr (nid+1300) 0),(20,.int .i64 k),(19,.int .i64 n),(18,.lit n0 n [.s fun i=>u3L.getD i []]),(5,.sl (nid+24) 0 k),(0,.ptr s 0)],
   [(s,strmC nl A x.1.2),(nid+1300,some (.box 57 [.str nm,.int .i64 lg,.int .i64 id,.sl (nid+1304) 0 R.length,.sl (nid+1308) 0 x.1.1.length])),(nid+1304,arrRg R),(nid+1308,arrIn x.1.1)]++Hs,nid+9000,nid⟩) ?_ (fun ⟨⟨I,q2⟩,hI1,hI2,hq2⟩=>?_)
 ·refine SR.seqEx (ι:={m:Nat // m≤3}) (fun m=>⟨[(53,.int .i64 m.1),(54,.int .i64 0),(8,.ptr (nid+1300) 0),(20,.int .i64 k),(19,.int .i64 n),(18,.lit n0 n [.s fun i=>u3L.getD i []]),(5,.sl (nid+24) 0 k),(0,.ptr s 0)],
   [(s,strmC nl A (q1+1)),(nid+1300,some (.box 57 [.str nm,.int .i64 lg,.int .i64 id,.sl (nid+1304) 0 R.length,.lit true 0 []])),(nid+1304,arrRg R)]++Hs,nid+4200,nid⟩) ?_ (fun ⟨m,hm⟩=>?_)
  ·unfold arrRg
   simp -dsimp only [aqA,↓seqK,↓blkK,↓loopK,step,stepBin,eqB,Nat.add_assoc nid,↓reduceIte,simprocAttr,LN_succ,e1,e2,e3,e4,e5,e6,e7,e8,e9,strmC_low]
   have hnd:=rangeV_bd A q1 (lo:=0) (hi:=3) (by omega)
   obtain ⟨m,hm⟩:∃ m:Nat,rangeV A q1 0 3=m:=⟨_,(Int.toNat_of_nonneg (by omega)).symm⟩
   rw [hm] at hnd
   refine CallO.on (range_c s _ nl A q1 0 3 (by omega) (by omega) hA (by omega) (by omega) (by omega)) (subH_get (by simp only [aqA,↓seqK,↓blkK,↓loopK,step,stepBin,eqB,Nat.add_assoc nid,↓reduceIte,simprocAttr,LN_succ,e1,e2,e3,e4,e5,e6,e7,e8,e9])) ?_
   rw [hm]
   simp -dsimp only [aqA,↓seqK,↓blkK,↓loopK,step,stepBin,eqB,Nat.add_assoc nid,↓reduceIte,simprocAttr,LN_succ,e1,e2,e3,e4,e5,e6,e7,e8,e9,strmC_low]
   refine ⟨⟨m,by omega⟩,?_⟩
   first | refine Cov.goG (nid+200) Hs [_] [_,_,_] [] [] (by omega) hs (by simp [kOK,hsk]) (by simp) ?_ | refine Cov.goG (nid+200) Hs [_,_] [_,_,_] [] [] (by omega) hs (by simp [kOK,hsk]) (by simp) ?_ | refine Cov.goG (nid+200) Hs [_,_,_] [_,_,_] [] [] (by omega) hs (by simp [kOK,hsk]) (by simp) ?_ | refine Cov.goG (nid+200) Hs [_,_,_,_] [_,_,_] [] [] (by omega) hs (by simp [kOK,hsk]) (by simp) ?_ | refine Cov.goG (nid+200) Hs [_,_,_,_,_] [_,_,_] [] [] (by omega) hs (by simp [kOK,hsk]) (by simp) ?_ | refine Cov.goG (nid+200) Hs [_,_,_,_,_,_] [_,_,_] [] [] (by omega) hs (by simp [kOK,hsk]) (by simp) ?_ | refine Cov.goG (nid+200) Hs [_,_,_,_,_,_,_] [_,_,_] [] [] (by omega) hs (by simp [kOK,hsk]) (by simp) ?_ | refine Cov.goG (nid+200) Hs [_,_,_,_,_,_,_,_] [_,_,_] [] [] (by omega) hs (by simp [kOK,hsk]) (by simp) ?_ | refine Cov.goG (nid+200) Hs [_,_,_,_,_,_,_,_,_] [_,_,_] [] [] (by omega) hs (by simp [kOK,hsk]) (by simp) ?_ | refine Cov.goG (nid+200) Hs [_,_,_,_,_,_,_,_,_,_] [_,_,_] [] [] (by omega) hs (by simp [kOK,hsk]) (by simp) ?_ | refine Cov.goG (nid+200) Hs [_,_,_,_,_,_,_,_,_,_,_] [_,_,_] [] [] (by omega) hs (by simp [kOK,hsk]) (by simp) ?_ | refine Cov.goG (nid+200) Hs [_,_,_,_,_,_,_,_,_,_,_,_] [_,_,_] [] [] (by omega) hs (by simp [kOK,hsk]) (by simp) ?_ | refine Cov.goG (nid+200) Hs [_,_,_,_,_,_,_,_,_,_,_,_,_] [_,_,_] [] [] (by omega) hs (by simp [kOK,hsk]) (by simp) ?_ | refine Cov.goG (nid+200) Hs [_,_,_,_,_,_,_,_,_,_,_,_,_,_] [_,_,_] [] [] (by omega) hs (by simp [kOK,hsk]) (by simp) ?_ | refine Cov.goG (nid+200) Hs [_,_,_,_,_,_,_,_,_,_,_,_,_,_,_] [_,_,_] [] [] (by omega) hs (by simp [kOK,hsk]) (by simp) ?_ | refine Cov.goG (nid+200) Hs [_,_,_,_,_,_,_,_,_,_,_,_,_,_,_,_] [_,_,_] [] [] (by omega) hs (by simp [kOK,hsk]) (by simp) ?_ | refine Cov.goG (nid+200) Hs [_,_,_,_,_,_,_,_,_,_,_,_,_,_,_,_,_] [_,_,_] [] [] (by omega) hs (by simp [kOK,hsk]) (by simp) ?_ | refine Cov.goG (nid+200) Hs [_,_,_,_,_,_,_,_,_,_,_,_,_,_,_,_,_,_] [_,_,_] [] [] (by omega) hs (by simp [kOK,hsk]) (by simp) ?_ | refine Cov.goG (nid+200) Hs [_,_,_,_,_,_,_,_,_,_,_,_,_,_,_,_,_,_,_] [_,_,_] [] [] (by omega) hs (by simp [kOK,hsk]) (by simp) ?_ | refine Cov.goG (nid+200) Hs [_,_,_,_,_,_,_,_,_,_,_,_,_,_,_,_,_,_,_,_] [_,_,_] [] [] (by omega) hs (by simp [kOK,hsk]) (by simp) ?_ | refine Cov.goG (nid+200) Hs [_,_,_,_,_,_,_,_,_,_,_,_,_,_,_,_,_,_,_,_,_] [_,_,_] [] [] (by omega) hs (by simp [kOK,hsk]) (by simp) ?_ | refine Cov.goG (nid+200) Hs [_,_,_,_,_,_,_,_,_,_,_,_,_,_,_,_,_,_,_,_,_,_] [_,_,_] [] [] (by omega) hs (by simp [kOK,hsk]) (by simp) ?_ | refine Cov.goG (nid+200) Hs [_,_,_,_,_,_,_,_,_,_,_,_,_,_,_,_,_,_,_,_,_,_,_] [_,_,_] [] [] (by omega) hs (by simp [kOK,hsk]) (by simp) ?_
   simp [cvT,step,res,e1,e2,e3,e4,e5,e6,e7,e8,e9,strmC,-List.getD_eq_getElem?_getD]
  refine SR.block ?_
  refine SR.loopP (fun x:List (Bs × Bs) × Nat=>x.1.length≤m∧(∀ y∈x.1,y.1.length≤10∧y.2.length≤10)∧x.2≤q+6+2 * x.1.length) (fun x=>⟨[(53,.int .i64 m),(54,.int .i64 x.1.length),(8,.ptr (nid+1300) 0),(20,.int .i64 k),(19,.int .i64 n),(18,.lit n0 n [.s fun i=>u3L.getD i []]),(5,.sl (nid+24) 0 k),(0,.ptr s 0)],
   [(s,strmC nl A x.2),(nid+1300,some (.box 57 [.str nm,.int .i64 lg,.int .i64 id,.sl (nid+1304) 0 R.length,.sl (nid+1308) 0 x.1.length])),(nid+1304,arrRg R),(nid+1308,arrIn x.1)]++Hs,nid+4400,nid⟩) (fun x=>m+1 - x.1.length) ([],q1+1) ⟨by simp,by simp,by simp only [List.length_nil]; omega⟩ ?_ (fun ⟨I,q2⟩ hI=>?_)
  ·first | refine Cov.goG (nid+200) Hs [_] [_,_,_,_] [] [(nid+1308,2)] (by omega) hs (by simp [kOK,hsk]) (by simp) ?_ | refine Cov.goG (nid+200) Hs [_,_] [_,_,_,_] [] [(nid+1308,2)] (by omega) hs (by simp [kOK,hsk]) (by simp) ?_ | refine Cov.goG (nid+200) Hs [_,_,_] [_,_,_,_] [] [(nid+1308,2)] (by omega) hs (by simp [kOK,hsk]) (by simp) ?_ | refine Cov.goG (nid+200) Hs [_,_,_,_] [_,_,_,_] [] [(nid+1308,2)] (by omega) hs (by simp [kOK,hsk]) (by simp) ?_ | refine Cov.goG (nid+200) Hs [_,_,_,_,_] [_,_,_,_] [] [(nid+1308,2)] (by omega) hs (by simp [kOK,hsk]) (by simp) ?_ | refine Cov.goG (nid+200) Hs [_,_,_,_,_,_] [_,_,_,_] [] [(nid+1308,2)] (by omega) hs (by simp [kOK,hsk]) (by simp) ?_ | refine Cov.goG (nid+200) Hs [_,_,_,_,_,_,_] [_,_,_,_] [] [(nid+1308,2)] (by omega) hs (by simp [kOK,hsk]) (by simp) ?_ | refine Cov.goG (nid+200) Hs [_,_,_,_,_,_,_,_] [_,_,_,_] [] [(nid+1308,2)] (by omega) hs (by simp [kOK,hsk]) (by simp) ?_ | refine Cov.goG (nid+200) Hs [_,_,_,_,_,_,_,_,_] [_,_,_,_] [] [(nid+1308,2)] (by omega) hs (by simp [kOK,hsk]) (by simp) ?_ | refine Cov.goG (nid+200) Hs [_,_,_,_,_,_,_,_,_,_] [_,_,_,_] [] [(nid+1308,2)] (by omega) hs (by simp [kOK,hsk]) (by simp) ?_ | refine Cov.goG (nid+200) Hs [_,_,_,_,_,_,_,_,_,_,_] [_,_,_,_] [] [(nid+1308,2)] (by omega) hs (by simp [kOK,hsk]) (by simp) ?_ | refine Cov.goG (nid+200) Hs [_,_,_,_,_,_,_,_,_,_,_,_] [_,_,_,_] [] [(nid+1308,2)] (by omega) hs (by simp [kOK,hsk]) (by simp) ?_ | refine Cov.goG (nid+200) Hs [_,_,_,_,_,_,_,_,_,_,_,_,_] [_,_,_,_] [] [(nid+1308,2)] (by omega) hs (by simp [kOK,hsk]) (by simp) ?_ | refine Cov.goG (nid+200) Hs [_,_,_,_,_,_,_,_,_,_,_,_,_,_] [_,_,_,_] [] [(nid+1308,2)] (by omega) hs (by simp [kOK,hsk]) (by simp) ?_ | refine Cov.goG (nid+200) Hs [_,_,_,_,_,_,_,_,_,_,_,_,_,_,_] [_,_,_,_] [] [(nid+1308,2)] (by omega) hs (by simp [kOK,hsk]) (by simp) ?_ | refine Cov.goG (nid+200) Hs [_,_,_,_,_,_,_,_,_,_,_,_,_,_,_,_] [_,_,_,_] [] [(nid+1308,2)] (by omega) hs (by simp [kOK,hsk]) (by simp) ?_ | refine Cov.goG (nid+200) Hs [_,_,_,_,_,_,_,_,_,_,_,_,_,_,_,_,_] [_,_,_,_] [] [(nid+1308,2)] (by omega) hs (by simp [kOK,hsk]) (by simp) ?_ | refine Cov.goG (nid+200) Hs [_,_,_,_,_,_,_,_,_,_,_,_,_,_,_,_,_,_] [_,_,_,_] [] [(nid+1308,2)] (by omega) hs (by simp [kOK,hsk]) (by simp) ?_ | refine Cov.goG (nid+200) Hs [_,_,_,_,_,_,_,_,_,_,_,_,_,_,_,_,_,_,_] [_,_,_,_] [] [(nid+1308,2)] (by omega) hs (by simp [kOK,hsk]) (by simp) ?_ | refine Cov.goG (nid+200) Hs [_,_,_,_,_,_,_,_,_,_,_,_,_,_,_,_,_,_,_,_] [_,_,_,_] [] [(nid+1308,2)] (by omega) hs (by simp [kOK,hsk]) (by simp) ?_ | refine Cov.goG (nid+200) Hs [_,_,_,_,_,_,_,_,_,_,_,_,_,_,_,_,_,_,_,_,_] [_,_,_,_] [] [(nid+1308,2)] (by omega) hs (by simp [kOK,hsk]) (by simp) ?_ | refine Cov.goG (nid+200) Hs [_,_,_,_,_,_,_,_,_,_,_,_,_,_,_,_,_,_,_,_,_,_] [_,_,_,_] [] [(nid+1308,2)] (by omega) hs (by simp [kOK,hsk]) (by simp) ?_ | refine Cov.goG (nid+200) Hs [_,_,_,_,_,_,_,_,_,_,_,_,_,_,_,_,_,_,_,_,_,_,_] [_,_,_,_] [] [(nid+1308,2)] (by omega) hs (by simp [kOK,hsk]) (by simp) ?_
   simp [cvT,step,res,e1,e2,e3,e4,e5,e6,e7,e8,e9,strmC,arrRg,arrIn,-List.getD_eq_getElem?_getD]
  obtain ⟨hI1,hI2,hq2⟩:=hI
  simp only at hI1 hI2 hq2
  refine SR.seq ?_
  unfold arrRg arrIn
  simp -dsimp only [aqA,↓seqK,↓blkK,↓loopK,step,stepBin,eqB,Nat.add_assoc nid,↓reduceIte,simprocAttr,LN_succ,e1,e2,e3,e4,e5,e6,e7,e8,e9,strmC_low]
  refine SR.seq ?_
  simp -dsimp only [aqA,↓seqK,↓blkK,↓loopK,step,stepBin,eqB,Nat.add_assoc nid,↓reduceIte,simprocAttr,LN_succ,e1,e2,e3,e4,e5,e6,e7,e8,e9,strmC_low]
  refine S2.dec (fun h3=>?_) (fun h3=>?_) <;> simp -dsimp only [aqA,↓seqK,↓blkK,↓loopK,step,stepBin,eqB,Nat.add_assoc nid,↓reduceIte,simprocAttr,LN_succ,e1,e2,e3,e4,e5,e6,e7,e8,e9,strmC_low]
  ·have hIm:I.length<m:=by omega
   refine SR.seqW (ι:={x:List (Bs × Bs) × Nat // x.1.length=I.length+1∧(∀ y∈x.1,y.1.length≤10∧y.2.length≤10)∧x.2≤q2+2}) (fun x=>⟨[(53,.int .i64 m),(54,.int .i64 I.length),(8,.ptr (nid+1300) 0),(20,.int .i64 k),(19,.int .i64 n),(18,.lit n0 n [.s fun i=>u3L.getD i []]),(5,.sl (nid+24) 0 k),(0,.ptr s 0)],
    [(s,strmC nl A x.1.2),(nid+1300,some (.box 57 [.str nm,.int .i64 lg,.int .i64 id,.sl (nid+1304) 0 R.length,.sl (nid+1308) 0 x.1.1.length])),(nid+1304,arrRg R),(nid+1308,arrIn x.1.1)]++Hs,nid+8000,nid⟩) ?_ (fun ⟨⟨I2,q3⟩,hJ1,hJ2,hq3⟩=>?_)
   ·refine SR.block ?_
    refine SR.seq ?_
    simp -dsimp only [aqA,↓seqK,↓blkK,↓loopK,step,stepBin,eqB,Nat.add_assoc nid,↓reduceIte,simprocAttr,LN_succ,e1,e2,e3,e4,e5,e6,e7,e8,e9,strmC_low]
    refine SR.seq ?_
    simp -dsimp only [aqA,↓seqK,↓blkK,↓loopK,step,stepBin,eqB,Nat.add_assoc nid,↓reduceIte,simprocAttr,LN_succ,e1,e2,e3,e4,e5,e6,e7,e8,e9,strmC_low]
    refine SR.seqEx (ι:={x:Bs × Nat // x.1.length≤10∧x.2≤q2+1}) (fun x=>⟨[(12,.str x.1.1),(11,.int .i64 I.length),(53,.int .i64 m),(54,.int .i64 I.length),(8,.ptr (nid+1300) 0),(20,.int .i64 k),(19,.int .i64 n),(18,.lit n0 n [.s fun i=>u3L.getD i []]),(5,.sl (nid+24) 0 k),(0,.ptr s 0)],
     [(s,strmC nl A x.1.2),(nid+1300,some (.box 57 [.str nm,.int .i64 lg,.int .i64 id,.sl (nid+1304) 0 R.length,.sl (nid+1308) 0 I.length])),(nid+1304,arrRg R),(nid+1308,arrIn I)]++Hs,nid+5000,nid⟩) ?_ (fun ⟨⟨rg,q4⟩,hrg,hq4⟩=>?_)
    ·simp -dsimp only [aqA,↓seqK,↓blkK,↓loopK,step,stepBin,eqB,Nat.add_assoc nid,↓reduceIte,simprocAttr,LN_succ,e1,e2,e3,e4,e5,e6,e7,e8,e9,strmC_low]
     refine S2.dec (fun h4=>?_) (fun h4=>?_) <;> simp -dsimp only [aqA,↓seqK,↓blkK,↓loopK,step,stepBin,eqB,Nat.add_assoc nid,↓reduceIte,simprocAttr,LN_succ,e1,e2,e3,e4,e5,e6,e7,e8,e9,strmC_low]
     ·have hnd:=nextV_bd A q2 (n:=(R.length:Nat)) (by omega)
      obtain ⟨J,hJ⟩:∃ J:Nat,nextV A q2 ((R.length:Nat):Int)=J:=⟨_,(Int.toNat_of_nonneg hnd.1).symm⟩
      rw [hJ] at hnd
      refine CallX.on (next_c s _ nl A q2 _ (by omega) (by omega) hA (by omega)) (subH_get (by simp only [aqA,↓seqK,↓blkK,↓loopK,step,stepBin,eqB,Nat.add_assoc nid,↓reduceIte,simprocAttr,LN_succ,e1,e2,e3,e4,e5,e6,e7,e8,e9])) ?_
      rw [hJ]
      simp -dsimp only [aqA,↓seqK,↓blkK,↓loopK,step,stepBin,eqB,Nat.add_assoc nid,↓reduceIte,simprocAttr,LN_succ,e1,e2,e3,e4,e5,e6,e7,e8,e9,strmC_low]
      have hJR:J<R.length:=by omega
      have hm2:R.getD J reg0∈R:=by rw [List.getD_eq_getElem?_getD,List.getElem?_eq_getElem hJR]; exact List.getElem_mem _
      refine ⟨⟨by omega,by omega⟩,⟨((R.getD J reg0).1,q2+1),(hR2 _ hm2).1,Nat.le_refl _⟩,?_⟩
      first | refine Cov.goG (nid+200) Hs [_] [_,_,_,_] [] [] (by omega) hs (by simp [kOK,hsk]) (by simp) ?_ | refine Cov.goG (nid+200) Hs [_,_] [_,_,_,_] [] [] (by omega) hs (by simp [kOK,hsk]) (by simp) ?_ | refine Cov.goG (nid+200) Hs [_,_,_] [_,_,_,_] [] [] (by omega) hs (by simp [kOK,hsk]) (by simp) ?_ | refine Cov.goG (nid+200) Hs [_,_,_,_] [_,_,_,_] [] [] (by omega) hs (by simp [kOK,hsk]) (by simp) ?_ | refine Cov.goG (nid+200) Hs [_,_,_,_,_] [_,_,_,_] [] [] (by omega) hs (by simp [kOK,hsk]) (by simp) ?_ | refine Cov.goG (nid+200) Hs [_,_,_,_,_,_] [_,_,_,_] [] [] (by omega) hs (by simp [kOK,hsk]) (by simp) ?_ | refine Cov.goG (nid+200) Hs [_,_,_,_,_,_,_] [_,_,_,_] [] [] (by omega) hs (by simp [kOK,hsk]) (by simp) ?_ | refine Cov.goG (nid+200) Hs [_,_,_,_,_,_,_,_] [_,_,_,_] [] [] (by omega) hs (by simp [kOK,hsk]) (by simp) ?_ | refine Cov.goG (nid+200) Hs [_,_,_,_,_,_,_,_,_] [_,_,_,_] [] [] (by omega) hs (by simp [kOK,hsk]) (by simp) ?_ | refine Cov.goG (nid+200) Hs [_,_,_,_,_,_,_,_,_,_] [_,_,_,_] [] [] (by omega) hs (by simp [kOK,hsk]) (by simp) ?_ | refine Cov.goG (nid+200) Hs [_,_,_,_,_,_,_,_,_,_,_] [_,_,_,_] [] [] (by omega) hs (by simp [kOK,hsk]) (by simp) ?_ | refine Cov.goG (nid+200) Hs [_,_,_,_,_,_,_,_,_,_,_,_] [_,_,_,_] [] [] (by omega) hs (by simp [kOK,hsk]) (by simp) ?_ | refine Cov.goG (nid+200) Hs [_,_,_,_,_,_,_,_,_,_,_,_,_] [_,_,_,_] [] [] (by omega) hs (by simp [kOK,hsk]) (by simp) ?_ | refine Cov.goG (nid+200) Hs [_,_,_,_,_,_,_,_,_,_,_,_,_,_] [_,_,_,_] [] [] (by omega) hs (by simp [kOK,hsk]) (by simp) ?_ | refine Cov.goG (nid+200) Hs [_,_,_,_,_,_,_,_,_,_,_,_,_,_,_] [_,_,_,_] [] [] (by omega) hs (by simp [kOK,hsk]) (by simp) ?_ | refine Cov.goG (nid+200) Hs [_,_,_,_,_,_,_,_,_,_,_,_,_,_,_,_] [_,_,_,_] [] [] (by omega) hs (by simp [kOK,hsk]) (by simp) ?_ | refine Cov.goG (nid+200) Hs [_,_,_,_,_,_,_,_,_,_,_,_,_,_,_,_,_] [_,_,_,_] [] [] (by omega) hs (by simp [kOK,hsk]) (by simp) ?_ | refine Cov.goG (nid+200) Hs [_,_,_,_,_,_,_,_,_,_,_,_,_,_,_,_,_,_] [_,_,_,_] [] [] (by omega) hs (by simp [kOK,hsk]) (by simp) ?_ | refine Cov.goG (nid+200) Hs [_,_,_,_,_,_,_,_,_,_,_,_,_,_,_,_,_,_,_] [_,_,_,_] [] [] (by omega) hs (by simp [kOK,hsk]) (by simp) ?_ | refine Cov.goG (nid+200) Hs [_,_,_,_,_,_,_,_,_,_,_,_,_,_,_,_,_,_,_,_] [_,_,_,_] [] [] (by omega) hs (by simp [kOK,hsk]) (by simp) ?_ | refine Cov.goG (nid+200) Hs [_,_,_,_,_,_,_,_,_,_,_,_,_,_,_,_,_,_,_,_,_] [_,_,_,_] [] [] (by omega) hs (by simp [kOK,hsk]) (by simp) ?_ | refine Cov.goG (nid+200) Hs [_,_,_,_,_,_,_,_,_,_,_,_,_,_,_,_,_,_,_,_,_,_] [_,_,_,_] [] [] (by omega) hs (by simp [kOK,hsk]) (by simp) ?_ | refine Cov.goG (nid+200) Hs [_,_,_,_,_,_,_,_,_,_,_,_,_,_,_,_,_,_,_,_,_,_,_] [_,_,_,_] [] [] (by omega) hs (by simp [kOK,hsk]) (by simp) ?_
      simp [cvT,step,res,e1,e2,e3,e4,e5,e6,e7,e8,e9,strmC,arrRg,arrIn,-List.getD_eq_getElem?_getD]
     ·refine ⟨⟨([98,121,112,97,115,115],q2),by simp,by simp⟩,?_⟩
      first | refine Cov.goG (nid+200) Hs [_] [_,_,_,_] [] [] (by omega) hs (by simp [kOK,hsk]) (by simp) ?_ | refine Cov.goG (nid+200) Hs [_,_] [_,_,_,_] [] [] (by omega) hs (by simp [kOK,hsk]) (by simp) ?_ | refine Cov.goG (nid+200) Hs [_,_,_] [_,_,_,_] [] [] (by omega) hs (by simp [kOK,hsk]) (by simp) ?_ | refine Cov.goG (nid+200) Hs [_,_,_,_] [_,_,_,_] [] [] (by omega) hs (by simp [kOK,hsk]) (by simp) ?_ | refine Cov.goG (nid+200) Hs [_,_,_,_,_] [_,_,_,_] [] [] (by omega) hs (by simp [kOK,hsk]) (by simp) ?_ | refine Cov.goG (nid+200) Hs [_,_,_,_,_,_] [_,_,_,_] [] [] (by omega) hs (by simp [kOK,hsk]) (by simp) ?_ | refine Cov.goG (nid+200) Hs [_,_,_,_,_,_,_] [_,_,_,_] [] [] (by omega) hs (by simp [kOK,hsk]) (by simp) ?_ | refine Cov.goG (nid+200) Hs [_,_,_,_,_,_,_,_] [_,_,_,_] [] [] (by omega) hs (by simp [kOK,hsk]) (by simp) ?_ | refine Cov.goG (nid+200) Hs [_,_,_,_,_,_,_,_,_] [_,_,_,_] [] [] (by omega) hs (by simp [kOK,hsk]) (by simp) ?_ | refine Cov.goG (nid+200) Hs [_,_,_,_,_,_,_,_,_,_] [_,_,_,_] [] [] (by omega) hs (by simp [kOK,hsk]) (by simp) ?_ | refine Cov.goG (nid+200) Hs [_,_,_,_,_,_,_,_,_,_,_] [_,_,_,_] [] [] (by omega) hs (by simp [kOK,hsk]) (by simp) ?_ | refine Cov.goG (nid+200) Hs [_,_,_,_,_,_,_,_,_,_,_,_] [_,_,_,_] [] [] (by omega) hs (by simp [kOK,hsk]) (by simp) ?_ | refine Cov.goG (nid+200) Hs [_,_,_,_,_,_,_,_,_,_,_,_,_] [_,_,_,_] [] [] (by omega) hs (by simp [kOK,hsk]) (by simp) ?_ | refine Cov.goG (nid+200) Hs [_,_,_,_,_,_,_,_,_,_,_,_,_,_] [_,_,_,_] [] [] (by omega) hs (by simp [kOK,hsk]) (by simp) ?_ | refine Cov.goG (nid+200) Hs [_,_,_,_,_,_,_,_,_,_,_,_,_,_,_] [_,_,_,_] [] [] (by omega) hs (by simp [kOK,hsk]) (by simp) ?_ | refine Cov.goG (nid+200) Hs [_,_,_,_,_,_,_,_,_,_,_,_,_,_,_,_] [_,_,_,_] [] [] (by omega) hs (by simp [kOK,hsk]) (by simp) ?_ | refine Cov.goG (nid+200) Hs [_,_,_,_,_,_,_,_,_,_,_,_,_,_,_,_,_] [_,_,_,_] [] [] (by omega) hs (by simp [kOK,hsk]) (by simp) ?_ | refine Cov.goG (nid+200) Hs [_,_,_,_,_,_,_,_,_,_,_,_,_,_,_,_,_,_] [_,_,_,_] [] [] (by omega) hs (by simp [kOK,hsk]) (by simp) ?_ | refine Cov.goG (nid+200) Hs [_,_,_,_,_,_,_,_,_,_,_,_,_,_,_,_,_,_,_] [_,_,_,_] [] [] (by omega) hs (by simp [kOK,hsk]) (by simp) ?_ | refine Cov.goG (nid+200) Hs [_,_,_,_,_,_,_,_,_,_,_,_,_,_,_,_,_,_,_,_] [_,_,_,_] [] [] (by omega) hs (by simp [kOK,hsk]) (by simp) ?_ | refine Cov.goG (nid+200) Hs [_,_,_,_,_,_,_,_,_,_,_,_,_,_,_,_,_,_,_,_,_] [_,_,_,_] [] [] (by omega) hs (by simp [kOK,hsk]) (by simp) ?_ | refine Cov.goG (nid+200) Hs [_,_,_,_,_,_,_,_,_,_,_,_,_,_,_,_,_,_,_,_,_,_] [_,_,_,_] [] [] (by omega) hs (by simp [kOK,hsk]) (by simp) ?_ | refine Cov.goG (nid+200) Hs [_,_,_,_,_,_,_,_,_,_,_,_,_,_,_,_,_,_,_,_,_,_,_] [_,_,_,_] [] [] (by omega) hs (by simp [kOK,hsk]) (by simp) ?_
      simp [cvT,step,res,e1,e2,e3,e4,e5,e6,e7,e8,e9,strmC,arrRg,arrIn,-List.getD_eq_getElem?_getD]
    simp only at hrg hq4
    refine SR.seqEx (ι:={x:Bs × Nat // x.1.length≤10∧x.2≤q2+2}) (fun x=>⟨[(12,.str x.1.1),(11,.int .i64 I.length),(53,.int .i64 m),(54,.int .i64 I.length),(8,.ptr (nid+1300) 0),(20,.int .i64 k),(19,.int .i64 n),(18,.lit n0 n [.s fun i=>u3L.getD i []]),(5,.sl (nid+24) 0 k),(0,.ptr s 0)],
     [(s,strmC nl A x.1.2),(nid+1300,some (.box 57 [.str nm,.int .i64 lg,.int .i64 id,.sl (nid+1304) 0 R.length,.sl (nid+1308) 0 I.length])),(nid+1304,arrRg R),(nid+1308,arrIn I)]++Hs,nid+6000,nid⟩) ?_ (fun ⟨⟨rg2,q5⟩,hrg2,hq5⟩=>?_)
    ·unfold arrRg arrIn
     simp -dsimp only [aqA,↓seqK,↓blkK,↓loopK,step,stepBin,eqB,Nat.add_assoc nid,↓reduceIte,simprocAttr,LN_succ,e1,e2,e3,e4,e5,e6,e7,e8,e9,strmC_low]
     by_cases hid0:id=0
     ·have b1:(id != 0)=false:=by simp [hid0]
      simp -dsimp only [aqA,↓seqK,↓blkK,↓loopK,step,stepBin,eqB,Nat.add_assoc nid,↓reduceIte,simprocAttr,LN_succ,e1,e2,e3,e4,e5,e6,e7,e8,e9,strmC_low,b1]
      refine ⟨⟨(rg,q4),hrg,by simp only; omega⟩,?_⟩
      first | refine Cov.goG (nid+200) Hs [_] [_,_,_,_] [] [] (by omega) hs (by simp [kOK,hsk]) (by simp) ?_ | refine Cov.goG (nid+200) Hs [_,_] [_,_,_,_] [] [] (by omega) hs (by simp [kOK,hsk]) (by simp) ?_ | refine Cov.goG (nid+200) Hs [_,_,_] [_,_,_,_] [] [] (by omega) hs (by simp [kOK,hsk]) (by simp) ?_ | refine Cov.goG (nid+200) Hs [_,_,_,_] [_,_,_,_] [] [] (by omega) hs (by simp [kOK,hsk]) (by simp) ?_ | refine Cov.goG (nid+200) Hs [_,_,_,_,_] [_,_,_,_] [] [] (by omega) hs (by simp [kOK,hsk]) (by simp) ?_ | refine Cov.goG (nid+200) Hs [_,_,_,_,_,_] [_,_,_,_] [] [] (by omega) hs (by simp [kOK,hsk]) (by simp) ?_ | refine Cov.goG (nid+200) Hs [_,_,_,_,_,_,_] [_,_,_,_] [] [] (by omega) hs (by simp [kOK,hsk]) (by simp) ?_ | refine Cov.goG (nid+200) Hs [_,_,_,_,_,_,_,_] [_,_,_,_] [] [] (by omega) hs (by simp [kOK,hsk]) (by simp) ?_ | refine Cov.goG (nid+200) Hs [_,_,_,_,_,_,_,_,_] [_,_,_,_] [] [] (by omega) hs (by simp [kOK,hsk]) (by simp) ?_ | refine Cov.goG (nid+200) Hs [_,_,_,_,_,_,_,_,_,_] [_,_,_,_] [] [] (by omega) hs (by simp [kOK,hsk]) (by simp) ?_ | refine Cov.goG (nid+200) Hs [_,_,_,_,_,_,_,_,_,_,_] [_,_,_,_] [] [] (by omega) hs (by simp [kOK,hsk]) (by simp) ?_ | refine Cov.goG (nid+200) Hs [_,_,_,_,_,_,_,_,_,_,_,_] [_,_,_,_] [] [] (by omega) hs (by simp [kOK,hsk]) (by simp) ?_ | refine Cov.goG (nid+200) Hs [_,_,_,_,_,_,_,_,_,_,_,_,_] [_,_,_,_] [] [] (by omega) hs (by simp [kOK,hsk]) (by simp) ?_ | refine Cov.goG (nid+200) Hs [_,_,_,_,_,_,_,_,_,_,_,_,_,_] [_,_,_,_] [] [] (by omega) hs (by simp [kOK,hsk]) (by simp) ?_ | refine Cov.goG (nid+200) Hs [_,_,_,_,_,_,_,_,_,_,_,_,_,_,_] [_,_,_,_] [] [] (by omega) hs (by simp [kOK,hsk]) (by simp) ?_ | refine Cov.goG (nid+200) Hs [_,_,_,_,_,_,_,_,_,_,_,_,_,_,_,_] [_,_,_,_] [] [] (by omega) hs (by simp [kOK,hsk]) (by simp) ?_ | refine Cov.goG (nid+200) Hs [_,_,_,_,_,_,_,_,_,_,_,_,_,_,_,_,_] [_,_,_,_] [] [] (by omega) hs (by simp [kOK,hsk]) (by simp) ?_ | refine Cov.goG (nid+200) Hs [_,_,_,_,_,_,_,_,_,_,_,_,_,_,_,_,_,_] [_,_,_,_] [] [] (by omega) hs (by simp [kOK,hsk]) (by simp) ?_ | refine Cov.goG (nid+200) Hs [_,_,_,_,_,_,_,_,_,_,_,_,_,_,_,_,_,_,_] [_,_,_,_] [] [] (by omega) hs (by simp [kOK,hsk]) (by simp) ?_ | refine Cov.goG (nid+200) Hs [_,_,_,_,_,_,_,_,_,_,_,_,_,_,_,_,_,_,_,_] [_,_,_,_] [] [] (by omega) hs (by simp [kOK,hsk]) (by simp) ?_ | refine Cov.goG (nid+200) Hs [_,_,_,_,_,_,_,_,_,_,_,_,_,_,_,_,_,_,_,_,_] [_,_,_,_] [] [] (by omega) hs (by simp [kOK,hsk]) (by simp) ?_ | refine Cov.goG (nid+200) Hs [_,_,_,_,_,_,_,_,_,_,_,_,_,_,_,_,_,_,_,_,_,_] [_,_,_,_] [] [] (by omega) hs (by simp [kOK,hsk]) (by simp) ?_ | refine Cov.goG (nid+200) Hs [_,_,_,_,_,_,_,_,_,_,_,_,_,_,_,_,_,_,_,_,_,_,_] [_,_,_,_] [] [] (by omega) hs (by simp [kOK,hsk]) (by simp) ?_
      simp [cvT,step,res,e1,e2,e3,e4,e5,e6,e7,e8,e9,strmC,-List.getD_eq_getElem?_getD]
     ·have b1:(id != 0)=true:=by simp [hid0]
      simp -dsimp only [aqA,↓seqK,↓blkK,↓loopK,step,stepBin,eqB,Nat.add_assoc nid,↓reduceIte,simprocAttr,LN_succ,e1,e2,e3,e4,e5,e6,e7,e8,e9,strmC_low,b1]
      refine CallO.on (flip_c s _ nl A q4 4 (by omega) (by omega) hA (by omega)) (subH_get (by simp only [aqA,↓seqK,↓blkK,↓loopK,step,stepBin,eqB,Nat.add_assoc nid,↓reduceIte,simprocAttr,LN_succ,e1,e2,e3,e4,e5,e6,e7,e8,e9])) ?_
      simp -dsimp only [aqA,↓seqK,↓blkK,↓loopK,step,stepBin,eqB,Nat.add_assoc nid,↓reduceIte,simprocAttr,LN_succ,e1,e2,e3,e4,e5,e6,e7,e8,e9,strmC_low]
      refine S2.intro (fun h=>?_) (fun h=>?_) <;> simp -dsimp only [aqA,↓seqK,↓blkK,↓loopK,step,stepBin,eqB,Nat.add_assoc nid,↓reduceIte,simprocAttr,LN_succ,e1,e2,e3,e4,e5,e6,e7,e8,e9,strmC_low]
      ·refine ⟨⟨([105,100,99,111,100,101],q4+1),by simp,by simp only; omega⟩,?_⟩
       first | refine Cov.goG (nid+200) Hs [_] [_,_,_,_] [] [] (by omega) hs (by simp [kOK,hsk]) (by simp) ?_ | refine Cov.goG (nid+200) Hs [_,_] [_,_,_,_] [] [] (by omega) hs (by simp [kOK,hsk]) (by simp) ?_ | refine Cov.goG (nid+200) Hs [_,_,_] [_,_,_,_] [] [] (by omega) hs (by simp [kOK,hsk]) (by simp) ?_ | refine Cov.goG (nid+200) Hs [_,_,_,_] [_,_,_,_] [] [] (by omega) hs (by simp [kOK,hsk]) (by simp) ?_ | refine Cov.goG (nid+200) Hs [_,_,_,_,_] [_,_,_,_] [] [] (by omega) hs (by simp [kOK,hsk]) (by simp) ?_ | refine Cov.goG (nid+200) Hs [_,_,_,_,_,_] [_,_,_,_] [] [] (by omega) hs (by simp [kOK,hsk]) (by simp) ?_ | refine Cov.goG (nid+200) Hs [_,_,_,_,_,_,_] [_,_,_,_] [] [] (by omega) hs (by simp [kOK,hsk]) (by simp) ?_ | refine Cov.goG (nid+200) Hs [_,_,_,_,_,_,_,_] [_,_,_,_] [] [] (by omega) hs (by simp [kOK,hsk]) (by simp) ?_ | refine Cov.goG (nid+200) Hs [_,_,_,_,_,_,_,_,_] [_,_,_,_] [] [] (by omega) hs (by simp [kOK,hsk]) (by simp) ?_ | refine Cov.goG (nid+200) Hs [_,_,_,_,_,_,_,_,_,_] [_,_,_,_] [] [] (by omega) hs (by simp [kOK,hsk]) (by simp) ?_ | refine Cov.goG (nid+200) Hs [_,_,_,_,_,_,_,_,_,_,_] [_,_,_,_] [] [] (by omega) hs (by simp [kOK,hsk]) (by simp) ?_ | refine Cov.goG (nid+200) Hs [_,_,_,_,_,_,_,_,_,_,_,_] [_,_,_,_] [] [] (by omega) hs (by simp [kOK,hsk]) (by simp) ?_ | refine Cov.goG (nid+200) Hs [_,_,_,_,_,_,_,_,_,_,_,_,_] [_,_,_,_] [] [] (by omega) hs (by simp [kOK,hsk]) (by simp) ?_ | refine Cov.goG (nid+200) Hs [_,_,_,_,_,_,_,_,_,_,_,_,_,_] [_,_,_,_] [] [] (by omega) hs (by simp [kOK,hsk]) (by simp) ?_ | refine Cov.goG (nid+200) Hs [_,_,_,_,_,_,_,_,_,_,_,_,_,_,_] [_,_,_,_] [] [] (by omega) hs (by simp [kOK,hsk]) (by simp) ?_ | refine Cov.goG (nid+200) Hs [_,_,_,_,_,_,_,_,_,_,_,_,_,_,_,_] [_,_,_,_] [] [] (by omega) hs (by simp [kOK,hsk]) (by simp) ?_ | refine Cov.goG (nid+200) Hs [_,_,_,_,_,_,_,_,_,_,_,_,_,_,_,_,_] [_,_,_,_] [] [] (by omega) hs (by simp [kOK,hsk]) (by simp) ?_ | refine Cov.goG (nid+200) Hs [_,_,_,_,_,_,_,_,_,_,_,_,_,_,_,_,_,_] [_,_,_,_] [] [] (by omega) hs (by simp [kOK,hsk]) (by simp) ?_ | refine Cov.goG (nid+200) Hs [_,_,_,_,_,_,_,_,_,_,_,_,_,_,_,_,_,_,_] [_,_,_,_] [] [] (by omega) hs (by simp [kOK,hsk]) (by simp) ?_ | refine Cov.goG (nid+200) Hs [_,_,_,_,_,_,_,_,_,_,_,_,_,_,_,_,_,_,_,_] [_,_,_,_] [] [] (by omega) hs (by simp [kOK,hsk]) (by simp) ?_ | refine Cov.goG (nid+200) Hs [_,_,_,_,_,_,_,_,_,_,_,_,_,_,_,_,_,_,_,_,_] [_,_,_,_] [] [] (by omega) hs (by simp [kOK,hsk]) (by simp) ?_ | refine Cov.goG (nid+200) Hs [_,_,_,_,_,_,_,_,_,_,_,_,_,_,_,_,_,_,_,_,_,_] [_,_,_,_] [] [] (by omega) hs (by simp [kOK,hsk]) (by simp) ?_ | refine Cov.goG (nid+200) Hs [_,_,_,_,_,_,_,_,_,_,_,_,_,_,_,_,_,_,_,_,_,_,_] [_,_,_,_] [] [] (by omega) hs (by simp [kOK,hsk]) (by simp) ?_
       simp [cvT,step,res,e1,e2,e3,e4,e5,e6,e7,e8,e9,strmC,-List.getD_eq_getElem?_getD]
      ·refine ⟨⟨(rg,q4+1),hrg,by simp only; omega⟩,?_⟩
       first | refine Cov.goG (nid+200) Hs [_] [_,_,_,_] [] [] (by omega) hs (by simp [kOK,hsk]) (by simp) ?_ | refine Cov.goG (nid+200) Hs [_,_] [_,_,_,_] [] [] (by omega) hs (by simp [kOK,hsk]) (by simp) ?_ | refine Cov.goG (nid+200) Hs [_,_,_] [_,_,_,_] [] [] (by omega) hs (by simp [kOK,hsk]) (by simp) ?_ | refine Cov.goG (nid+200) Hs [_,_,_,_] [_,_,_,_] [] [] (by omega) hs (by simp [kOK,hsk]) (by simp) ?_ | refine Cov.goG (nid+200) Hs [_,_,_,_,_] [_,_,_,_] [] [] (by omega) hs (by simp [kOK,hsk]) (by simp) ?_ | refine Cov.goG (nid+200) Hs [_,_,_,_,_,_] [_,_,_,_] [] [] (by omega) hs (by simp [kOK,hsk]) (by simp) ?_ | refine Cov.goG (nid+200) Hs [_,_,_,_,_,_,_] [_,_,_,_] [] [] (by omega) hs (by simp [kOK,hsk]) (by simp) ?_ | refine Cov.goG (nid+200) Hs [_,_,_,_,_,_,_,_] [_,_,_,_] [] [] (by omega) hs (by simp [kOK,hsk]) (by simp) ?_ | refine Cov.goG (nid+200) Hs [_,_,_,_,_,_,_,_,_] [_,_,_,_] [] [] (by omega) hs (by simp [kOK,hsk]) (by simp) ?_ | refine Cov.goG (nid+200) Hs [_,_,_,_,_,_,_,_,_,_] [_,_,_,_] [] [] (by omega) hs (by simp [kOK,hsk]) (by simp) ?_ | refine Cov.goG (nid+200) Hs [_,_,_,_,_,_,_,_,_,_,_] [_,_,_,_] [] [] (by omega) hs (by simp [kOK,hsk]) (by simp) ?_ | refine Cov.goG (nid+200) Hs [_,_,_,_,_,_,_,_,_,_,_,_] [_,_,_,_] [] [] (by omega) hs (by simp [kOK,hsk]) (by simp) ?_ | refine Cov.goG (nid+200) Hs [_,_,_,_,_,_,_,_,_,_,_,_,_] [_,_,_,_] [] [] (by omega) hs (by simp [kOK,hsk]) (by simp) ?_ | refine Cov.goG (nid+200) Hs [_,_,_,_,_,_,_,_,_,_,_,_,_,_] [_,_,_,_] [] [] (by omega) hs (by simp [kOK,hsk]) (by simp) ?_ | refine Cov.goG (nid+200) Hs [_,_,_,_,_,_,_,_,_,_,_,_,_,_,_] [_,_,_,_] [] [] (by omega) hs (by simp [kOK,hsk]) (by simp) ?_ | refine Cov.goG (nid+200) Hs [_,_,_,_,_,_,_,_,_,_,_,_,_,_,_,_] [_,_,_,_] [] [] (by omega) hs (by simp [kOK,hsk]) (by simp) ?_ | refine Cov.goG (nid+200) Hs [_,_,_,_,_,_,_,_,_,_,_,_,_,_,_,_,_] [_,_,_,_] [] [] (by omega) hs (by simp [kOK,hsk]) (by simp) ?_ | refine Cov.goG (nid+200) Hs [_,_,_,_,_,_,_,_,_,_,_,_,_,_,_,_,_,_] [_,_,_,_] [] [] (by omega) hs (by simp [kOK,hsk]) (by simp) ?_ | refine Cov.goG (nid+200) Hs [_,_,_,_,_,_,_,_,_,_,_,_,_,_,_,_,_,_,_] [_,_,_,_] [] [] (by omega) hs (by simp [kOK,hsk]) (by simp) ?_ | refine Cov.goG (nid+200) Hs [_,_,_,_,_,_,_,_,_,_,_,_,_,_,_,_,_,_,_,_] [_,_,_,_] [] [] (by omega) hs (by simp [kOK,hsk]) (by simp) ?_ | refine Cov.goG (nid+200) Hs [_,_,_,_,_,_,_,_,_,_,_,_,_,_,_,_,_,_,_,_,_] [_,_,_,_] [] [] (by omega) hs (by simp [kOK,hsk]) (by simp) ?_ | refine Cov.goG (nid+200) Hs [_,_,_,_,_,_,_,_,_,_,_,_,_,_,_,_,_,_,_,_,_,_] [_,_,_,_] [] [] (by omega) hs (by simp [kOK,hsk]) (by simp) ?_ | refine Cov.goG (nid+200) Hs [_,_,_,_,_,_,_,_,_,_,_,_,_,_,_,_,_,_,_,_,_,_,_] [_,_,_,_] [] [] (by omega) hs (by simp [kOK,hsk]) (by simp) ?_
       simp [cvT,step,res,e1,e2,e3,e4,e5,e6,e7,e8,e9,strmC,-List.getD_eq_getElem?_getD]
    simp only at hrg2 hq5
    unfold arrRg arrIn
    refine SR.seq ?_
    simp -dsimp only [aqA,↓seqK,↓blkK,↓loopK,step,stepBin,eqB,Nat.add_assoc nid,↓reduceIte,simprocAttr,LN_succ,e1,e2,e3,e4,e5,e6,e7,e8,e9,strmC_low]
    have hcl:(numV I.length (I.length.log2+1)).length≤2:=by
     rw [numV_len]
     have:I.length=0∨I.length=1∨I.length=2:=by omega
     rcases this with e | e | e <;> rw [e] <;> decide
    refine CallO.pure (formatIntS_c I.length _ (by omega)) ?_
    generalize numV I.length (I.length.log2+1)=code at *
    obtain ⟨z,hz⟩:∃ z:Nat,lg - min lg ((code.length:Nat):Int)=z:=⟨_,(Int.toNat_of_nonneg (by omega)).symm⟩
    simp -dsimp only [aqA,↓seqK,↓blkK,↓loopK,step,stepBin,eqB,Nat.add_assoc nid,↓reduceIte,simprocAttr,LN_succ,e1,e2,e3,e4,e5,e6,e7,e8,e9,strmC_low]
    refine SR.run (t:=.mk) ?_
    simp -dsimp only [aqA,↓seqK,↓blkK,↓loopK,step,stepBin,eqB,Nat.add_assoc nid,↓reduceIte,simprocAttr,LN_succ,e1,e2,e3,e4,e5,e6,e7,e8,e9,strmC_low]
    rw [hz]
    have hz4:z≤4:=by omega
    have hrl:=rep1 48 z
    refine ⟨by unfold inI64; omega,?_⟩
    refine CallX.pure (repeat_cc [48] z _ (by omega) (by simp; omega)) ?_
    generalize Lib.repeatL [48] z=zs at *
    simp -dsimp only [aqA,↓seqK,↓blkK,↓loopK,step,stepBin,eqB,Nat.add_assoc nid,↓reduceIte,simprocAttr,LN_succ,e1,e2,e3,e4,e5,e6,e7,e8,e9,strmC_low]
    have hll:(I++[(zs++code,rg2)]).length=I.length+1:=by simp
    have hs1:=snocI1 I (zs++code,rg2)
    have hs2:=snocI2 I (zs++code,rg2)
    have hcz:(zs++code).length≤10:=by rw [List.length_append]; omega
    refine ⟨by omega,⟨by omega,by omega⟩,⟨(I++[(zs++code,rg2)],q5),hll,fun y hy=>?_,by simp only; omega⟩,?_⟩
    ·rcases List.mem_append.1 hy with hy | hy
     ·exact hI2 y hy
     ·rw [List.mem_singleton.1 hy]; exact ⟨hcz,hrg2⟩
    first | refine Cov.goG (nid+200) Hs [_] [_,_,_,_] [(nid+1308,nid+6076)] [] (by omega) hs (by simp [kOK,hsk]) (by simp) ?_ | refine Cov.goG (nid+200) Hs [_,_] [_,_,_,_] [(nid+1308,nid+6076)] [] (by omega) hs (by simp [kOK,hsk]) (by simp) ?_ | refine Cov.goG (nid+200) Hs [_,_,_] [_,_,_,_] [(nid+1308,nid+6076)] [] (by omega) hs (by simp [kOK,hsk]) (by simp) ?_ | refine Cov.goG (nid+200) Hs [_,_,_,_] [_,_,_,_] [(nid+1308,nid+6076)] [] (by omega) hs (by simp [kOK,hsk]) (by simp) ?_ | refine Cov.goG (nid+200) Hs [_,_,_,_,_] [_,_,_,_] [(nid+1308,nid+6076)] [] (by omega) hs (by simp [kOK,hsk]) (by simp) ?_ | refine Cov.goG (nid+200) Hs [_,_,_,_,_,_] [_,_,_,_] [(nid+1308,nid+6076)] [] (by omega) hs (by simp [kOK,hsk]) (by simp) ?_ | refine Cov.goG (nid+200) Hs [_,_,_,_,_,_,_] [_,_,_,_] [(nid+1308,nid+6076)] [] (by omega) hs (by simp [kOK,hsk]) (by simp) ?_ | refine Cov.goG (nid+200) Hs [_,_,_,_,_,_,_,_] [_,_,_,_] [(nid+1308,nid+6076)] [] (by omega) hs (by simp [kOK,hsk]) (by simp) ?_ | refine Cov.goG (nid+200) Hs [_,_,_,_,_,_,_,_,_] [_,_,_,_] [(nid+1308,nid+6076)] [] (by omega) hs (by simp [kOK,hsk]) (by simp) ?_ | refine Cov.goG (nid+200) Hs [_,_,_,_,_,_,_,_,_,_] [_,_,_,_] [(nid+1308,nid+6076)] [] (by omega) hs (by simp [kOK,hsk]) (by simp) ?_ | refine Cov.goG (nid+200) Hs [_,_,_,_,_,_,_,_,_,_,_] [_,_,_,_] [(nid+1308,nid+6076)] [] (by omega) hs (by simp [kOK,hsk]) (by simp) ?_ | refine Cov.goG (nid+200) Hs [_,_,_,_,_,_,_,_,_,_,_,_] [_,_,_,_] [(nid+1308,nid+6076)] [] (by omega) hs (by simp [kOK,hsk]) (by simp) ?_ | refine Cov.goG (nid+200) Hs [_,_,_,_,_,_,_,_,_,_,_,_,_] [_,_,_,_] [(nid+1308,nid+6076)] [] (by omega) hs (by simp [kOK,hsk]) (by simp) ?_ | refine Cov.goG (nid+200) Hs [_,_,_,_,_,_,_,_,_,_,_,_,_,_] [_,_,_,_] [(nid+1308,nid+6076)] [] (by omega) hs (by simp [kOK,hsk]) (by simp) ?_ | refine Cov.goG (nid+200) Hs [_,_,_,_,_,_,_,_,_,_,_,_,_,_,_] [_,_,_,_] [(nid+1308,nid+6076)] [] (by omega) hs (by simp [kOK,hsk]) (by simp) ?_ | refine Cov.goG (nid+200) Hs [_,_,_,_,_,_,_,_,_,_,_,_,_,_,_,_] [_,_,_,_] [(nid+1308,nid+6076)] [] (by omega) hs (by simp [kOK,hsk]) (by simp) ?_ | refine Cov.goG (nid+200) Hs [_,_,_,_,_,_,_,_,_,_,_,_,_,_,_,_,_] [_,_,_,_] [(nid+1308,nid+6076)] [] (by omega) hs (by simp [kOK,hsk]) (by simp) ?_ | refine Cov.goG (nid+200) Hs [_,_,_,_,_,_,_,_,_,_,_,_,_,_,_,_,_,_] [_,_,_,_] [(nid+1308,nid+6076)] [] (by omega) hs (by simp [kOK,hsk]) (by simp) ?_ | refine Cov.goG (nid+200) Hs [_,_,_,_,_,_,_,_,_,_,_,_,_,_,_,_,_,_,_] [_,_,_,_] [(nid+1308,nid+6076)] [] (by omega) hs (by simp [kOK,hsk]) (by simp) ?_ | refine Cov.goG (nid+200) Hs [_,_,_,_,_,_,_,_,_,_,_,_,_,_,_,_,_,_,_,_] [_,_,_,_] [(nid+1308,nid+6076)] [] (by omega) hs (by simp [kOK,hsk]) (by simp) ?_ | refine Cov.goG (nid+200) Hs [_,_,_,_,_,_,_,_,_,_,_,_,_,_,_,_,_,_,_,_,_] [_,_,_,_] [(nid+1308,nid+6076)] [] (by omega) hs (by simp [kOK,hsk]) (by simp) ?_ | refine Cov.goG (nid+200) Hs [_,_,_,_,_,_,_,_,_,_,_,_,_,_,_,_,_,_,_,_,_,_] [_,_,_,_] [(nid+1308,nid+6076)] [] (by omega) hs (by simp [kOK,hsk]) (by simp) ?_ | refine Cov.goG (nid+200) Hs [_,_,_,_,_,_,_,_,_,_,_,_,_,_,_,_,_,_,_,_,_,_,_] [_,_,_,_] [(nid+1308,nid+6076)] [] (by omega) hs (by simp [kOK,hsk]) (by simp) ?_
    simp [cvT,step,res,e1,e2,e3,e4,e5,e6,e7,e8,e9,strmC,arrRg,arrIn,hll,-List.getD_eq_getElem?_getD,-List.length_append]
    exact ⟨ColEq.s hs1,ColEq.s hs2⟩
   simp only at hJ1 hJ2 hq3
   refine SR.run (t:=.mk) ?_
   simp -dsimp only [aqA,↓seqK,↓blkK,↓loopK,step,stepBin,eqB,Nat.add_assoc nid,↓reduceIte,simprocAttr,LN_succ,e1,e2,e3,e4,e5,e6,e7,e8,e9,strmC_low]
   refine ⟨by unfold inI64; omega,(I2,q3),⟨⟨by simp only; omega,hJ2,by simp only; omega⟩,by simp only; omega⟩,?_⟩
   first | refine Cov.goG (nid+200) Hs [_] [_,_,_,_] [] [] (by omega) hs (by simp [kOK,hsk]) (by simp) ?_ | refine Cov.goG (nid+200) Hs [_,_] [_,_,_,_] [] [] (by omega) hs (by simp [kOK,hsk]) (by simp) ?_ | refine Cov.goG (nid+200) Hs [_,_,_] [_,_,_,_] [] [] (by omega) hs (by simp [kOK,hsk]) (by simp) ?_ | refine Cov.goG (nid+200) Hs [_,_,_,_] [_,_,_,_] [] [] (by omega) hs (by simp [kOK,hsk]) (by simp) ?_ | refine Cov.goG (nid+200) Hs [_,_,_,_,_] [_,_,_,_] [] [] (by omega) hs (by simp [kOK,hsk]) (by simp) ?_ | refine Cov.goG (nid+200) Hs [_,_,_,_,_,_] [_,_,_,_] [] [] (by omega) hs (by simp [kOK,hsk]) (by simp) ?_ | refine Cov.goG (nid+200) Hs [_,_,_,_,_,_,_] [_,_,_,_] [] [] (by omega) hs (by simp [kOK,hsk]) (by simp) ?_ | refine Cov.goG (nid+200) Hs [_,_,_,_,_,_,_,_] [_,_,_,_] [] [] (by omega) hs (by simp [kOK,hsk]) (by simp) ?_ | refine Cov.goG (nid+200) Hs [_,_,_,_,_,_,_,_,_] [_,_,_,_] [] [] (by omega) hs (by simp [kOK,hsk]) (by simp) ?_ | refine Cov.goG (nid+200) Hs [_,_,_,_,_,_,_,_,_,_] [_,_,_,_] [] [] (by omega) hs (by simp [kOK,hsk]) (by simp) ?_ | refine Cov.goG (nid+200) Hs [_,_,_,_,_,_,_,_,_,_,_] [_,_,_,_] [] [] (by omega) hs (by simp [kOK,hsk]) (by simp) ?_ | refine Cov.goG (nid+200) Hs [_,_,_,_,_,_,_,_,_,_,_,_] [_,_,_,_] [] [] (by omega) hs (by simp [kOK,hsk]) (by simp) ?_ | refine Cov.goG (nid+200) Hs [_,_,_,_,_,_,_,_,_,_,_,_,_] [_,_,_,_] [] [] (by omega) hs (by simp [kOK,hsk]) (by simp) ?_ | refine Cov.goG (nid+200) Hs [_,_,_,_,_,_,_,_,_,_,_,_,_,_] [_,_,_,_] [] [] (by omega) hs (by simp [kOK,hsk]) (by simp) ?_ | refine Cov.goG (nid+200) Hs [_,_,_,_,_,_,_,_,_,_,_,_,_,_,_] [_,_,_,_] [] [] (by omega) hs (by simp [kOK,hsk]) (by simp) ?_ | refine Cov.goG (nid+200) Hs [_,_,_,_,_,_,_,_,_,_,_,_,_,_,_,_] [_,_,_,_] [] [] (by omega) hs (by simp [kOK,hsk]) (by simp) ?_ | refine Cov.goG (nid+200) Hs [_,_,_,_,_,_,_,_,_,_,_,_,_,_,_,_,_] [_,_,_,_] [] [] (by omega) hs (by simp [kOK,hsk]) (by simp) ?_ | refine Cov.goG (nid+200) Hs [_,_,_,_,_,_,_,_,_,_,_,_,_,_,_,_,_,_] [_,_,_,_] [] [] (by omega) hs (by simp [kOK,hsk]) (by simp) ?_ | refine Cov.goG (nid+200) Hs [_,_,_,_,_,_,_,_,_,_,_,_,_,_,_,_,_,_,_] [_,_,_,_] [] [] (by omega) hs (by simp [kOK,hsk]) (by simp) ?_ | refine Cov.goG (nid+200) Hs [_,_,_,_,_,_,_,_,_,_,_,_,_,_,_,_,_,_,_,_] [_,_,_,_] [] [] (by omega) hs (by simp [kOK,hsk]) (by simp) ?_ | refine Cov.goG (nid+200) Hs [_,_,_,_,_,_,_,_,_,_,_,_,_,_,_,_,_,_,_,_,_] [_,_,_,_] [] [] (by omega) hs (by simp [kOK,hsk]) (by simp) ?_ | refine Cov.goG (nid+200) Hs [_,_,_,_,_,_,_,_,_,_,_,_,_,_,_,_,_,_,_,_,_,_] [_,_,_,_] [] [] (by omega) hs (by simp [kOK,hsk]) (by simp) ?_ | refine Cov.goG (nid+200) Hs [_,_,_,_,_,_,_,_,_,_,_,_,_,_,_,_,_,_,_,_,_,_,_] [_,_,_,_] [] [] (by omega) hs (by simp [kOK,hsk]) (by simp) ?_
   simp [cvT,step,res,e1,e2,e3,e4,e5,e6,e7,e8,e9,strmC,arrRg,arrIn,hJ1,-List.getD_eq_getElem?_getD]
  ·refine ⟨⟨(I,q2),by simp only; omega,hI2,by simp only; omega⟩,?_⟩
   first | refine Cov.goG (nid+200) Hs [_] [_,_,_,_] [] [] (by omega) hs (by simp [kOK,hsk]) (by simp) ?_ | refine Cov.goG (nid+200) Hs [_,_] [_,_,_,_] [] [] (by omega) hs (by simp [kOK,hsk]) (by simp) ?_ | refine Cov.goG (nid+200) Hs [_,_,_] [_,_,_,_] [] [] (by omega) hs (by simp [kOK,hsk]) (by simp) ?_ | refine Cov.goG (nid+200) Hs [_,_,_,_] [_,_,_,_] [] [] (by omega) hs (by simp [kOK,hsk]) (by simp) ?_ | refine Cov.goG (nid+200) Hs [_,_,_,_,_] [_,_,_,_] [] [] (by omega) hs (by simp [kOK,hsk]) (by simp) ?_ | refine Cov.goG (nid+200) Hs [_,_,_,_,_,_] [_,_,_,_] [] [] (by omega) hs (by simp [kOK,hsk]) (by simp) ?_ | refine Cov.goG (nid+200) Hs [_,_,_,_,_,_,_] [_,_,_,_] [] [] (by omega) hs (by simp [kOK,hsk]) (by simp) ?_ | refine Cov.goG (nid+200) Hs [_,_,_,_,_,_,_,_] [_,_,_,_] [] [] (by omega) hs (by simp [kOK,hsk]) (by simp) ?_ | refine Cov.goG (nid+200) Hs [_,_,_,_,_,_,_,_,_] [_,_,_,_] [] [] (by omega) hs (by simp [kOK,hsk]) (by simp) ?_ | refine Cov.goG (nid+200) Hs [_,_,_,_,_,_,_,_,_,_] [_,_,_,_] [] [] (by omega) hs (by simp [kOK,hsk]) (by simp) ?_ | refine Cov.goG (nid+200) Hs [_,_,_,_,_,_,_,_,_,_,_] [_,_,_,_] [] [] (by omega) hs (by simp [kOK,hsk]) (by simp) ?_ | refine Cov.goG (nid+200) Hs [_,_,_,_,_,_,_,_,_,_,_,_] [_,_,_,_] [] [] (by omega) hs (by simp [kOK,hsk]) (by simp) ?_ | refine Cov.goG (nid+200) Hs [_,_,_,_,_,_,_,_,_,_,_,_,_] [_,_,_,_] [] [] (by omega) hs (by simp [kOK,hsk]) (by simp) ?_ | refine Cov.goG (nid+200) Hs [_,_,_,_,_,_,_,_,_,_,_,_,_,_] [_,_,_,_] [] [] (by omega) hs (by simp [kOK,hsk]) (by simp) ?_ | refine Cov.goG (nid+200) Hs [_,_,_,_,_,_,_,_,_,_,_,_,_,_,_] [_,_,_,_] [] [] (by omega) hs (by simp [kOK,hsk]) (by simp) ?_ | refine Cov.goG (nid+200) Hs [_,_,_,_,_,_,_,_,_,_,_,_,_,_,_,_] [_,_,_,_] [] [] (by omega) hs (by simp [kOK,hsk]) (by simp) ?_ | refine Cov.goG (nid+200) Hs [_,_,_,_,_,_,_,_,_,_,_,_,_,_,_,_,_] [_,_,_,_] [] [] (by omega) hs (by simp [kOK,hsk]) (by simp) ?_ | refine Cov.goG (nid+200) Hs [_,_,_,_,_,_,_,_,_,_,_,_,_,_,_,_,_,_] [_,_,_,_] [] [] (by omega) hs (by simp [kOK,hsk]) (by simp) ?_ | refine Cov.goG (nid+200) Hs [_,_,_,_,_,_,_,_,_,_,_,_,_,_,_,_,_,_,_] [_,_,_,_] [] [] (by omega) hs (by simp [kOK,hsk]) (by simp) ?_ | refine Cov.goG (nid+200) Hs [_,_,_,_,_,_,_,_,_,_,_,_,_,_,_,_,_,_,_,_] [_,_,_,_] [] [] (by omega) hs (by simp [kOK,hsk]) (by simp) ?_ | refine Cov.goG (nid+200) Hs [_,_,_,_,_,_,_,_,_,_,_,_,_,_,_,_,_,_,_,_,_] [_,_,_,_] [] [] (by omega) hs (by simp [kOK,hsk]) (by simp) ?_ | refine Cov.goG (nid+200) Hs [_,_,_,_,_,_,_,_,_,_,_,_,_,_,_,_,_,_,_,_,_,_] [_,_,_,_] [] [] (by omega) hs (by simp [kOK,hsk]) (by simp) ?_ | refine Cov.goG (nid+200) Hs [_,_,_,_,_,_,_,_,_,_,_,_,_,_,_,_,_,_,_,_,_,_,_] [_,_,_,_] [] [] (by omega) hs (by simp [kOK,hsk]) (by simp) ?_
   simp [cvT,step,res,e1,e2,e3,e4,e5,e6,e7,e8,e9,strmC,arrRg,arrIn,-List.getD_eq_getElem?_getD]
 simp only at hI1 hI2 hq2
 exact hK ⟨nm,lg,id,R,I⟩ q2 ⟨hu3,hlg,hid,hR1,hR2,hI1,hI2⟩ hq2
end Go.Proofs.YtahjohieahehjaaGreatDoor
namespace Go.Proofs.YtahjohieahehjaaGreatDoor
open Go.RowKit
def inRg (D:List Dev) (c k:Nat):Option ABlk:=if k<c then arrRg (D.getD k dev0).regs else none
def inIn (D:List Dev) (c k:Nat):Option ABlk:=if k<c then arrIn (D.getD k dev0).ins else none
def famD (b:Nat) (D:List Dev) (c:Nat):Heap:=[(b+100,inRg D c 0),(b+101,inIn D c 0),(b+102,inRg D c 1),(b+103,inIn D c 1),(b+104,inRg D c 2),(b+105,inIn D c 2)]
def devHs (b:Nat) (D:List Dev):Heap:=(b+24,arrD b D)::famD b D D.length
theorem allTo_all {f:Nat→Bool}:∀ {k:Nat},(∀ j,j<k→f j=true)→allTo k f=true
 | 0,_=>rfl
 | k+1,h=>by
  simp only [allTo,Bool.and_eq_true]
  exact ⟨allTo_all fun j hj=>h j (by omega),h k (by omega)⟩
theorem scoped_list {b:Nat}:∀ {H:Heap},(∀ x∈H,x.1<b∧lowBlk b x.2=true)→Scoped b H
 | [],_=>⟨fun id hid=>by simp [keys] at hid,fun id x hx=>by simp [getH] at hx⟩
 | (k,c)::H,h=>by
  have ih:=scoped_list (H:=H) fun x hx=>h x (List.mem_cons_of_mem _ hx)
  have h0:=h _ List.mem_cons_self
  refine ⟨fun id hid=>?_,fun id x hx=>?_⟩
  ·simp only [keys,List.map_cons,List.mem_cons] at hid
   rcases hid with rfl | hid
   ·exact h0.1
   ·exact ih.lt id hid
  ·simp only [getH] at hx
   cases hh:(k==id)
   ·rw [hh] at hx
    exact ih.blk id x hx
   ·rw [hh] at hx
    simp only [cond_true] at hx
    have:=h0.2
    simp only at this
    rw [hx] at this
    exact this
theorem low_inRg (b:Nat) (D:List Dev) (c k:Nat):lowBlk b (inRg D c k)=true:=by unfold inRg; split <;> rfl
theorem low_inIn (b:Nat) (D:List Dev) (c k:Nat):lowBlk b (inIn D c k)=true:=by unfold inIn; split <;> rfl
theorem low_arrD (b:Nat) (D:List Dev) (hD:D.length≤3):lowBlk (b+200) (arrD b D)=true:=by
 show lowCols (b+200) D.length _=true
 simp only [lowCols,Bool.and_eq_true,Bool.and_true]
 exact ⟨allTo_all fun j hj=>by simp; omega,allTo_all fun j hj=>by simp; omega⟩
theorem devHs_scoped (b:Nat) (D:List Dev) (hD:D.length≤3):Scoped (b+200) (devHs b D):=scoped_list fun x hx=>by
 simp only [devHs,famD,List.mem_cons,List.not_mem_nil,or_false] at hx
 rcases hx with rfl | rfl | rfl | rfl | rfl | rfl | rfl
 ·exact ⟨by simp only; omega,low_arrD b D hD⟩
 all_goals exact ⟨by simp only; omega,by first | exact low_inRg _ _ _ _ | exact low_inIn _ _ _ _⟩
theorem devHs_off (s nid:Nat) (D:List Dev) (h:s<nid):s ∉ keys (devHs nid D):=by
 intro hid
 simp only [devHs,famD,keys,List.map_cons,List.map_nil,List.mem_cons,List.not_mem_nil,or_false] at hid
 omega
theorem getD_snocD (D:List Dev) (d:Dev) {j:Nat} (hj:j<D.length):(D++[d]).getD j dev0=D.getD j dev0:=by
 rw [List.getD_eq_getElem?_getD,List.getD_eq_getElem?_getD,List.getElem?_append_left hj]
theorem getD_snocD' (D:List Dev) (d:Dev) {j:Nat} (hj:j=D.length):(D++[d]).getD j dev0=d:=by
 subst hj
 simp
set_option maxHeartbeats 8000000 in
theorem dev_step (s nid:Nat) (nl n0:Bool) (A:List Int) (q n:Nat) (D:List Dev) (h:s<nid) (hq:q≤1099500001000) (hA:A.length≤17592186044416) (hk:D.length<n) (hn:n≤3) (Q:AEx→ST→Prop) :
  SR Tryz.prog (roundV (headV (dropV 2 a11.body))) ⟨[(20,.int .i64 D.length),(19,.int .i64 n),(18,.lit n0 n [.s fun i=>u3L.getD i []]),(5,.sl (nid+24) 0 D.length),(0,.ptr s 0)],[(s,strmC nl A q)]++devHs nid D,nid+1200,nid⟩
   (seqK (fun st=>∃ x:{x:Dev × Nat // DevG x.1∧x.2≤q+12},Cov st ⟨[(20,.int .i64 D.length),(19,.int .i64 n),(18,.lit n0 n [.s fun i=>u3L.getD i []]),(5,.sl (nid+24) 0 (D.length+1)),(0,.ptr s 0)],[(s,strmC nl A x.1.2)]++devHs nid (D++[x.1.1]),nid+1150,nid⟩) Q) .mk:=by
 obtain ⟨e1,e2,e3,e4,e5,e6,e7,e8,e9⟩:=id_all h
 refine dev_round s nid nl n0 A q D.length n (devHs nid D) h hq hA hk hn (devHs_scoped nid D (by omega)) (devHs_off s nid D h) _ Q (fun d q' hd hq'=>?_)
 simp only [a11,dropV,headV,roundV,blockV]
 have hql:=hq'
 have hi:D.length=0∨D.length=1∨D.length=2:=by omega
 have hold:∀ j,j<D.length→(D++[d]).getD j dev0=D.getD j dev0:=fun j hj=>getD_snocD D d hj
 have hnew:=getD_snocD' D d rfl
 have hll:(D++[d]).length=D.length+1:=by simp
 rcases hi with hi | hi | hi
 all_goals
  unfold devHs famD inRg inIn arrD boxDv arrRg arrIn
  simp only [hi,hll] at hold hnew ⊢
  refine SR.run (t:=.mk) ?_
  simp -dsimp only [aqA,↓seqK,↓blkK,↓loopK,step,stepBin,eqB,Nat.add_assoc nid,↓reduceIte,simprocAttr,LN_succ,e1,e2,e3,e4,e5,e6,e7,e8,e9,strmC_low,Nat.reduceLT,Nat.lt_irrefl,if_true,if_false,hi]
  refine ⟨⟨(d,q'),hd,hq'⟩,?_⟩
  simp only [hll]
  generalize D++[d]=D2 at *
  refine Cov.go [(nid+24,nid+9012),(nid+(100+2 * D.length),nid+1304),(nid+(101+2 * D.length),nid+1308)] [] ?_
  simp [cvT,step,res,e1,e2,e3,e4,e5,e6,e7,e8,e9,strmC,hi,hll,hold,hnew,-List.getD_eq_getElem?_getD]
  have h0:=hold 0
  have h1:=hold 1
  refine ⟨ColEq.s fun j hj=>?_,ColEq.i fun j hj=>?_,ColEq.i fun j hj=>?_,?_⟩
  ·rcases (by omega:j=0∨j=1∨j=2) with rfl | rfl | rfl <;> first | omega | (simp [hnew,h0,h1,-List.getD_eq_getElem?_getD] <;> rfl)
  ·rcases (by omega:j=0∨j=1∨j=2) with rfl | rfl | rfl <;> first | omega | (simp [hnew,h0,h1,-List.getD_eq_getElem?_getD] <;> rfl)
  ·rcases (by omega:j=0∨j=1∨j=2) with rfl | rfl | rfl <;> first | omega | (simp [hnew,h0,h1,-List.getD_eq_getElem?_getD] <;> rfl)
  first
   | exact ⟨⟨rfl,rfl⟩,rfl,rfl⟩
   | refine ⟨fun j hj=>?_,fun j hj=>?_⟩ <;> (rcases (by omega:j=0∨j=1∨j=2) with rfl | rfl | rfl <;> first | omega | (simp [hnew,h0,h1,idS1,idS2,-List.getD_eq_getElem?_getD] <;> first | rfl | exact ⟨rfl,rfl⟩))
end Go.Proofs.YtahjohieahehjaaGreatDoor
namespace Go.Proofs.YtahjohieahehjaaGreatDoor
open Go.RowKit
structure DevOk (d:Dev):Prop where
 nm:d.name.length≤10
 lg : -1099511627776≤d.long∧d.long≤1099511627776
 idb : -1099511627776≤d.id∧d.id≤1099511627776
 rl:d.regs.length≤2
 rs:∀ x∈d.regs,x.1.length≤10 ∧ -1099511627776≤x.2∧x.2≤1099511627776
 il:d.ins.length≤3
 is:∀ x∈d.ins,x.1.length≤10∧x.2.length≤10
theorem DevG.ok {d:Dev} (h:DevG d):DevOk d:=⟨by have:=h.nm; omega,by have:=h.lg; omega,by have:=h.idb; omega,h.rl,fun x hx=>by have:=h.rs x hx; omega,h.il,h.is⟩
theorem getD_setD (D:List Dev) {I:Nat} (d:Dev) (hI:I<D.length) (j:Nat):(D.set I d).getD j dev0=if j=I then d else D.getD j dev0:=by
 rw [List.getD_eq_getElem?_getD,List.getElem?_set]
 by_cases h:j=I
 ·subst h; simp [hI]
 ·rw [if_neg (fun e=>h e.symm),if_neg h,← List.getD_eq_getElem?_getD]
theorem nm3 {a:Bs} (h:a.length≤10):∀ x∈[a,[],[117,49]],x.length≤10:=fun x hx=>by
 simp only [List.mem_cons,List.not_mem_nil,or_false] at hx
 rcases hx with rfl | rfl | rfl
 ·exact h
 ·decide
 ·decide
theorem nm4 {a:Bs} (h:a.length≤10):∀ x∈[a,[98,121,112,97,115,115],[100,97,116,97],[65]],x.length≤10:=fun x hx=>by
 simp only [List.mem_cons,List.not_mem_nil,or_false] at hx
 rcases hx with rfl | rfl | rfl | rfl
 ·exact h
 all_goals decide
theorem set_proj {β:Type} (f:Dev→β) {D:List Dev} {I:Nat} {d d':Dev} (hI:I<D.length) (hd:D.getD I dev0=d) (hf:f d'=f d) (j:Nat):f ((D.set I d').getD j dev0)=f (D.getD j dev0):=by
 rw [getD_setD D d' hI]
 by_cases e:j=I
 ·rw [if_pos e,hf,e,hd]
 ·rw [if_neg e]
theorem nm5 {a b:Bs} (h:a.length≤10) (h2:b.length≤10):∀ x∈[a,b,[48],[48,120]],x.length≤10:=fun x hx=>by
 simp only [List.mem_cons,List.not_mem_nil,or_false] at hx
 rcases hx with rfl | rfl | rfl | rfl
 ·exact h
 ·exact h2
 all_goals decide
theorem nm6 {a:Bs} (h:a.length≤10):∀ x∈[a,[105,100,99,111,100,101],[122,122]],x.length≤10:=fun x hx=>by
 simp only [List.mem_cons,List.not_mem_nil,or_false] at hx
 rcases hx with rfl | rfl | rfl
 ·exact h
 all_goals decide
structure SpD where
 D:List Dev
 q:Nat
def spPost (D:List Dev) (q:Nat) (x:SpD):Prop:=x.D.length=D.length∧(∀ d∈x.D,DevOk d)∧x.q≤q+8
abbrev SpEnd (s nid q:Nat) (nl:Bool) (A:List Int) (D:List Dev) (e:AEx) (st:ST):Prop:=∃ x:SpD,spPost D q x∧RetOK a58.res ([(s,strmC nl A q)]++devHs nid D) (nid+200) (.tup []) ([(s,strmC nl A x.q)]++devHs nid x.D) e st
def spST (s nid q1:Nat) (nl:Bool) (A:List Int) (D:List Dev) (I k:Nat):ST:=⟨[(7,.int .i64 k),(0,.ptr s 0),(1,.arp (nid+24) I 0)],[(s,strmC nl A q1)]++devHs nid D,nid+300,nid+200⟩
set_option maxHeartbeats 16000000 in
theorem spoil_0 (s nid:Nat) (nl:Bool) (A:List Int) (q I:Nat) (D:List Dev) (h:s<nid) (hq:q≤1099500002000) (hA:A.length≤17592186044416) (hI:I<D.length) (hD:D.length≤3) (hG:∀ d∈D,DevG d) :
  SR Tryz.prog (dropV 1 a58.body) (spST s nid (q+1) nl A D I 0) (SpEnd s nid q nl A D) .mk:=by
 obtain ⟨e1,e2,e3,e4,e5,e6,e7,e8,e9⟩:=id_all h
 simp only [a58,dropV]
 unfold spST
 have hmem:D.getD I dev0∈D:=by rw [List.getD_eq_getElem?_getD,List.getElem?_eq_getElem hI]; exact List.getElem_mem _
 have hgI:=hG _ hmem
 have hset:∀ d,DevOk d→∀ x∈D.set I d,DevOk x:=fun d hd x hx=>by
  rcases List.mem_or_eq_of_mem_set hx with hx | rfl
  ·exact (hG x hx).ok
  ·exact hd
 have hsl:∀ d,(D.set I d).length=D.length:=fun d=>List.length_set
 have hsg:=fun d j=>getD_setD D (I:=I) d hI j
 refine SR.run (t:=.mk) ?_
 unfold devHs arrD
 simp -dsimp only [aqA,↓seqK,↓blkK,↓loopK,step,stepBin,eqB,Nat.add_assoc nid,↓reduceIte,simprocAttr,LN_succ,e1,e2,e3,e4,e5,e6,e7,e8,e9,strmC_low]
 refine CallO.some_go (T:=9) (nl:=nl) (A:=A) (p:=q+1) (g:=fun i=>[(D.getD I dev0).name,[],[117,49]].getD i []) (by simp only [aqA,↓seqK,↓blkK,↓loopK,step,stepBin,eqB,Nat.add_assoc nid,↓reduceIte,simprocAttr,LN_succ,e1,e2,e3,e4,e5,e6,e7,e8,e9]) (by simp only [aqA,↓seqK,↓blkK,↓loopK,step,stepBin,eqB,Nat.add_assoc nid,↓reduceIte,simprocAttr,LN_succ,e1,e2,e3,e4,e5,e6,e7,e8,e9]) (by simp only [aqA,↓seqK,↓blkK,↓loopK,step,stepBin,eqB,Nat.add_assoc nid,↓reduceIte,simprocAttr,LN_succ,e1,e2,e3,e4,e5,e6,e7,e8,e9]) (by omega) (by omega) hA (by omega) (by omega) ?_
 have hb:=getD_all (P:=fun x:Bs=>x.length≤10) (l:=[(D.getD I dev0).name,[],[117,49]]) (d:=[]) (nm3 (by have:=hgI.nm; omega)) (pickI_lt A (q+1) (n:=3) (by omega))
 generalize ([(D.getD I dev0).name,[],[117,49]].getD (pickI A (q+1) 3) []:Bs)=v at hb ⊢
 simp -dsimp only [aqA,↓seqK,↓blkK,↓loopK,step,stepBin,eqB,Nat.add_assoc nid,↓reduceIte,simprocAttr,LN_succ,e1,e2,e3,e4,e5,e6,e7,e8,e9,strmC_low]
 refine CallO.onE (oddI_c s _ nl A (q+1+1) 2 4 (by omega) (by omega) hA (by omega) (by omega) (by omega)) (subH_get (by simp only [aqA,↓seqK,↓blkK,↓loopK,step,stepBin,eqB,Nat.add_assoc nid,↓reduceIte,simprocAttr,LN_succ,e1,e2,e3,e4,e5,e6,e7,e8,e9])) (fun w hw=>?_)
 simp -dsimp only [aqA,↓seqK,↓blkK,↓loopK,step,stepBin,eqB,Nat.add_assoc nid,↓reduceIte,simprocAttr,LN_succ,e1,e2,e3,e4,e5,e6,e7,e8,e9,strmC_low]
 have hok:DevOk { D.getD I dev0 with name:=v,long:=w }:=⟨hb,hw,hgI.ok.idb,hgI.ok.rl,hgI.ok.rs,hgI.ok.il,hgI.ok.is⟩
 have hreg:∀ j,((D.set I { D.getD I dev0 with name:=v,long:=w }).getD j dev0).regs=(D.getD j dev0).regs:=fun j=>by
  rw [hsg]
  by_cases e:j=I
  ·rw [if_pos e,e]
  ·rw [if_neg e]
 have hins:∀ j,((D.set I { D.getD I dev0 with name:=v,long:=w }).getD j dev0).ins=(D.getD j dev0).ins:=fun j=>by
  rw [hsg]
  by_cases e:j=I
  ·rw [if_pos e,e]
  ·rw [if_neg e]
 refine ⟨⟨D.set I { D.getD I dev0 with name:=v,long:=w },q+1+1+2⟩,⟨hsl _,hset _ hok,by simp only; omega⟩,?_⟩
 have hcase:D.length=1∨D.length=2∨D.length=3:=by omega
 have hsl2:=hsl { D.getD I dev0 with name:=v,long:=w }
 have hn1:∀ j,(if j=I then v else (D.getD j dev0).name)=((D.set I { D.getD I dev0 with name:=v,long:=w }).getD j dev0).name:=fun j=>by
  rw [hsg]
  by_cases e:j=I
  ·rw [if_pos e,if_pos e]
  ·rw [if_neg e,if_neg e]
 have hn2:∀ j,(if j=I then w else (D.getD j dev0).long)=((D.set I { D.getD I dev0 with name:=v,long:=w }).getD j dev0).long:=fun j=>by
  rw [hsg]
  by_cases e:j=I
  ·rw [if_pos e,if_pos e]
  ·rw [if_neg e,if_neg e]
 have hn3:∀ j,(D.getD j dev0).id=((D.set I { D.getD I dev0 with name:=v,long:=w }).getD j dev0).id:=fun j=>by
  rw [hsg]
  by_cases e:j=I
  ·rw [if_pos e,e]
  ·rw [if_neg e]
 generalize D.set I { D.getD I dev0 with name:=v,long:=w }=D2 at *
 rcases hcase with hc | hc | hc
 all_goals
  simp only [hsl2,hc,famD,inRg,inIn,hreg,hins,arrRg,arrIn]
  refine RetOK.go [] [] (.inr rfl) ?_
  simp [a58,cvT,step,res,e1,e2,e3,e4,e5,e6,e7,e8,e9,strmC,hn1,hn2,hn3,hreg,hins,hsl2,hc,devHs,famD,inRg,inIn,arrD,arrRg,arrIn,-List.getD_eq_getElem?_getD]
  first | omega | exact ⟨by omega,fun j hj=>by omega,fun j hj=>by omega⟩
set_option maxHeartbeats 16000000 in
theorem spoil_1 (s nid:Nat) (nl:Bool) (A:List Int) (q I:Nat) (D:List Dev) (h:s<nid) (hq:q≤1099500002000) (hA:A.length≤17592186044416) (hI:I<D.length) (hD:D.length≤3) (hG:∀ d∈D,DevG d) :
  SR Tryz.prog (dropV 1 a58.body) (spST s nid (q+1) nl A D I 1) (SpEnd s nid q nl A D) .mk:=by
 obtain ⟨e1,e2,e3,e4,e5,e6,e7,e8,e9⟩:=id_all h
 simp only [a58,dropV]
 unfold spST
 have hmem:D.getD I dev0∈D:=by rw [List.getD_eq_getElem?_getD,List.getElem?_eq_getElem hI]; exact List.getElem_mem _
 have hgI:=hG _ hmem
 have hset:∀ d,DevOk d→∀ x∈D.set I d,DevOk x:=fun d hd x hx=>by
  rcases List.mem_or_eq_of_mem_set hx with hx | rfl
  ·exact (hG x hx).ok
  ·exact hd
 have hsl:∀ d,(D.set I d).length=D.length:=fun d=>List.length_set
 have hsg:=fun d j=>getD_setD D (I:=I) d hI j
 refine SR.run (t:=.mk) ?_
 unfold devHs arrD
 simp -dsimp only [aqA,↓seqK,↓blkK,↓loopK,step,stepBin,eqB,Nat.add_assoc nid,↓reduceIte,simprocAttr,LN_succ,e1,e2,e3,e4,e5,e6,e7,e8,e9,strmC_low]
 refine CallO.pick_go (T:=3) (nl:=nl) (A:=A) (p:=q+1) (g:=fun i=>[(D.getD I dev0).id,4,-1,4294967296,4294967297].getD i 0) (by simp only [aqA,↓seqK,↓blkK,↓loopK,step,stepBin,eqB,Nat.add_assoc nid,↓reduceIte,simprocAttr,LN_succ,e1,e2,e3,e4,e5,e6,e7,e8,e9]) (by simp only [aqA,↓seqK,↓blkK,↓loopK,step,stepBin,eqB,Nat.add_assoc nid,↓reduceIte,simprocAttr,LN_succ,e1,e2,e3,e4,e5,e6,e7,e8,e9]) (by simp only [aqA,↓seqK,↓blkK,↓loopK,step,stepBin,eqB,Nat.add_assoc nid,↓reduceIte,simprocAttr,LN_succ,e1,e2,e3,e4,e5,e6,e7,e8,e9]) (by omega) (by omega) hA (by omega) (by omega) ?_
 have hb:=getD_all (P:=fun x:Int => -1099511627776≤x∧x≤1099511627776) (l:=[(D.getD I dev0).id,4,-1,4294967296,4294967297]) (d:=0) (by have:=hgI.idb; simp only [List.mem_cons,List.not_mem_nil,or_false,forall_eq_or_imp,forall_eq]; omega) (pickI_lt A (q+1) (n:=5) (by omega))
 generalize ([(D.getD I dev0).id,4,-1,4294967296,4294967297].getD (pickI A (q+1) 5) 0:Int)=v at hb ⊢
 simp -dsimp only [aqA,↓seqK,↓blkK,↓loopK,step,stepBin,eqB,Nat.add_assoc nid,↓reduceIte,simprocAttr,LN_succ,e1,e2,e3,e4,e5,e6,e7,e8,e9,strmC_low]
 have hok:DevOk { D.getD I dev0 with id:=v }:=⟨hgI.ok.nm,hgI.ok.lg,hb,hgI.ok.rl,hgI.ok.rs,hgI.ok.il,hgI.ok.is⟩
 have hreg:∀ j,((D.set I { D.getD I dev0 with id:=v }).getD j dev0).regs=(D.getD j dev0).regs:=fun j=>by
  rw [hsg]
  by_cases e:j=I
  ·rw [if_pos e,e]
  ·rw [if_neg e]
 have hins:∀ j,((D.set I { D.getD I dev0 with id:=v }).getD j dev0).ins=(D.getD j dev0).ins:=fun j=>by
  rw [hsg]
  by_cases e:j=I
  ·rw [if_pos e,e]
  ·rw [if_neg e]
 refine ⟨⟨D.set I { D.getD I dev0 with id:=v },q+1+1⟩,⟨hsl _,hset _ hok,by simp only; omega⟩,?_⟩
 have hcase:D.length=1∨D.length=2∨D.length=3:=by omega
 have hsl2:=hsl { D.getD I dev0 with id:=v }
 have hn1:∀ j,(if j=I then v else (D.getD j dev0).id)=((D.set I { D.getD I dev0 with id:=v }).getD j dev0).id:=fun j=>by
  rw [hsg]
  by_cases e:j=I
  ·rw [if_pos e,if_pos e]
  ·rw [if_neg e,if_neg e]
 have hn2:∀ j,(D.getD j dev0).name=((D.set I { D.getD I dev0 with id:=v }).getD j dev0).name:=fun j=>by
  rw [hsg]
  by_cases e:j=I
  ·rw [if_pos e,e]
  ·rw [if_neg e]
 have hn3:∀ j,(D.getD j dev0).long=((D.set I { D.getD I dev0 with id:=v }).getD j dev0).long:=fun j=>by
  rw [hsg]
  by_cases e:j=I
  ·rw [if_pos e,e]
  ·rw [if_neg e]
 generalize D.set I { D.getD I dev0 with id:=v }=D2 at *
 rcases hcase with hc | hc | hc
 all_goals
  simp only [hsl2,hc,famD,inRg,inIn,hreg,hins,arrRg,arrIn]
  refine RetOK.go [] [] (.inr rfl) ?_
  simp [a58,cvT,step,res,e1,e2,e3,e4,e5,e6,e7,e8,e9,strmC,hn1,hn2,hn3,hreg,hins,hsl2,hc,devHs,famD,inRg,inIn,arrD,arrRg,arrIn,-List.getD_eq_getElem?_getD]
  first | omega | exact ⟨by omega,fun j hj=>by omega,fun j hj=>by omega⟩
theorem getD_setR (R:List (Bs × Int)) {J:Nat} (x:Bs × Int) (hJ:J<R.length) (j:Nat):(R.set J x).getD j reg0=if j=J then x else R.getD j reg0:=by
 rw [List.getD_eq_getElem?_getD,List.getElem?_set]
 by_cases h:j=J
 ·subst h; simp [hJ]
 ·rw [if_neg (fun e=>h e.symm),if_neg h,← List.getD_eq_getElem?_getD]
set_option maxHeartbeats 16000000 in
theorem spoil_2 (s nid:Nat) (nl:Bool) (A:List Int) (q I:Nat) (D:List Dev) (h:s<nid) (hq:q≤1099500002000) (hA:A.length≤17592186044416) (hI:I<D.length) (hD:D.length≤3) (hG:∀ d∈D,DevG d) :
  SR Tryz.prog (dropV 1 a58.body) (spST s nid (q+1) nl A D I 2) (SpEnd s nid q nl A D) .mk:=by
 obtain ⟨e1,e2,e3,e4,e5,e6,e7,e8,e9⟩:=id_all h
 simp only [a58,dropV]
 unfold spST
 have hmem:D.getD I dev0∈D:=by rw [List.getD_eq_getElem?_getD,List.getElem?_eq_getElem hI]; exact List.getElem_mem _
 have hgI:=hG _ hmem
 have hset:∀ d,DevOk d→∀ x∈D.set I d,DevOk x:=fun d hd x hx=>by
  rcases List.mem_or_eq_of_mem_set hx with hx | rfl
  ·exact (hG x hx).ok
  ·exact hd
 have hsl:∀ d,(D.set I d).length=D.length:=fun d=>List.length_set
 have hsg:=fun d j=>getD_setD D (I:=I) d hI j
 have hcase:(D.length=1∧I=0)∨(D.length=2∧I=0)∨(D.length=2∧I=1)∨(D.length=3∧I=0)∨(D.length=3∧I=1)∨(D.length=3∧I=2):=by omega
 obtain ⟨d,hd⟩:∃ d,D.getD I dev0=d:=⟨_,rfl⟩
 rw [hd] at hgI
 have hgl:=hgI.rl
 have hgi:=hgI.il
 refine SR.run (t:=.mk) ?_
 rcases hcase with ⟨hc,rfl⟩ | ⟨hc,rfl⟩ | ⟨hc,rfl⟩ | ⟨hc,rfl⟩ | ⟨hc,rfl⟩ | ⟨hc,rfl⟩
 all_goals
  unfold devHs famD inRg inIn arrD arrRg arrIn
  simp -dsimp only [aqA,↓seqK,↓blkK,↓loopK,step,stepBin,eqB,Nat.add_assoc nid,↓reduceIte,simprocAttr,LN_succ,e1,e2,e3,e4,e5,e6,e7,e8,e9,strmC_low,hc,hd,Nat.reduceLT,Nat.lt_irrefl,if_true,if_false]
  refine S2.dec (fun h4=>?_) (fun h4=>?_) <;> simp -dsimp only [aqA,↓seqK,↓blkK,↓loopK,step,stepBin,eqB,Nat.add_assoc nid,↓reduceIte,simprocAttr,LN_succ,e1,e2,e3,e4,e5,e6,e7,e8,e9,strmC_low,hd]
  ·have hR0:0<d.regs.length:=by omega
   have hnd:=nextV_bd A (q+1) (n:=(d.regs.length:Nat)) (by omega)
   obtain ⟨J,hJ⟩:∃ J:Nat,nextV A (q+1) ((d.regs.length:Nat):Int)=J:=⟨_,(Int.toNat_of_nonneg hnd.1).symm⟩
   rw [hJ] at hnd
   have hJR:J<d.regs.length:=by omega
   refine CallX.on (next_c s _ nl A (q+1) _ (by omega) (by omega) hA (by omega)) (subH_get (by simp only [aqA,↓seqK,↓blkK,↓loopK,step,stepBin,eqB,Nat.add_assoc nid,↓reduceIte,simprocAttr,LN_succ,e1,e2,e3,e4,e5,e6,e7,e8,e9])) ?_
   rw [hJ]
   simp -dsimp only [aqA,↓seqK,↓blkK,↓loopK,step,stepBin,eqB,Nat.add_assoc nid,↓reduceIte,simprocAttr,LN_succ,e1,e2,e3,e4,e5,e6,e7,e8,e9,strmC_low,hd]
   refine ⟨⟨by omega,by omega⟩,?_⟩
   have hm2:d.regs.getD J reg0∈d.regs:=by rw [List.getD_eq_getElem?_getD,List.getElem?_eq_getElem hJR]; exact List.getElem_mem _
   refine CallO.some_go (T:=9) (nl:=nl) (A:=A) (p:=q+1+1) (g:=fun i=>[(d.regs.getD J reg0).1,[98,121,112,97,115,115],[100,97,116,97],[65]].getD i []) (by simp only [aqA,↓seqK,↓blkK,↓loopK,step,stepBin,eqB,Nat.add_assoc nid,↓reduceIte,simprocAttr,LN_succ,e1,e2,e3,e4,e5,e6,e7,e8,e9]) (by simp only [aqA,↓seqK,↓blkK,↓loopK,step,stepBin,eqB,Nat.add_assoc nid,↓reduceIte,simprocAttr,LN_succ,e1,e2,e3,e4,e5,e6,e7,e8,e9]) (by simp only [aqA,↓seqK,↓blkK,↓loopK,step,stepBin,eqB,Nat.add_assoc nid,↓reduceIte,simprocAttr,LN_succ,e1,e2,e3,e4,e5,e6,e7,e8,e9]) (by omega) (by omega) hA (by omega) (by omega) ?_
   have hb:=getD_all (P:=fun x:Bs=>x.length≤10) (l:=[(d.regs.getD J reg0).1,[98,121,112,97,115,115],[100,97,116,97],[65]]) (d:=[]) (nm4 (hgI.rs _ hm2).1) (pickI_lt A (q+1+1) (n:=4) (by omega))
   generalize ([(d.regs.getD J reg0).1,[98,121,112,97,115,115],[100,97,116,97],[65]].getD (pickI A (q+1+1) 4) []:Bs)=v at hb ⊢
   simp -dsimp only [aqA,↓seqK,↓blkK,↓loopK,step,stepBin,eqB,Nat.add_assoc nid,↓reduceIte,simprocAttr,LN_succ,e1,e2,e3,e4,e5,e6,e7,e8,e9,strmC_low,hd]
   refine CallO.onE (oddI_c s _ nl A (q+1+1+1) 1 5 (by omega) (by omega) hA (by omega) (by omega) (by omega)) (subH_get (by simp only [aqA,↓seqK,↓blkK,↓loopK,step,stepBin,eqB,Nat.add_assoc nid,↓reduceIte,simprocAttr,LN_succ,e1,e2,e3,e4,e5,e6,e7,e8,e9])) (fun w hw=>?_)
   simp -dsimp only [aqA,↓seqK,↓blkK,↓loopK,step,stepBin,eqB,Nat.add_assoc nid,↓reduceIte,simprocAttr,LN_succ,e1,e2,e3,e4,e5,e6,e7,e8,e9,strmC_low,hd]
   have hrs:=getD_setR d.regs (v,w) hJR
   have hrl:(d.regs.set J (v,w)).length=d.regs.length:=List.length_set
   have hok:DevOk { d with regs:=d.regs.set J (v,w) }:=⟨hgI.ok.nm,hgI.ok.lg,hgI.ok.idb,by simp only [hrl]; exact hgI.ok.rl,fun x hx=>by
    rcases List.mem_or_eq_of_mem_set hx with hx | rfl
    ·exact hgI.ok.rs x hx
    ·exact ⟨hb,hw⟩,hgI.ok.il,hgI.ok.is⟩
   have hr1:∀ j,(if j=J then v else (d.regs.getD j reg0).1)=((d.regs.set J (v,w)).getD j reg0).1:=fun j=>by rw [hrs]; by_cases e:j=J <;> simp [e]
   have hr2:∀ j,(if j=J then w else (d.regs.getD j reg0).2)=((d.regs.set J (v,w)).getD j reg0).2:=fun j=>by rw [hrs]; by_cases e:j=J <;> simp [e]
   refine ⟨⟨D.set _ { d with regs:=d.regs.set J (v,w) },q+1+1+1+2⟩,⟨hsl _,hset _ hok,by simp only; omega⟩,?_⟩
   have hsl2:=hsl { d with regs:=d.regs.set J (v,w) }
   have hg2:=hsg { d with regs:=d.regs.set J (v,w) }
   generalize d.regs.set J (v,w)=R2 at *
   have hn1:∀ j,((D.set _ { d with regs:=R2 }).getD j dev0).name=(D.getD j dev0).name:=set_proj Dev.name hI hd rfl
   have hn2:∀ j,((D.set _ { d with regs:=R2 }).getD j dev0).long=(D.getD j dev0).long:=set_proj Dev.long hI hd rfl
   have hn3:∀ j,((D.set _ { d with regs:=R2 }).getD j dev0).id=(D.getD j dev0).id:=set_proj Dev.id hI hd rfl
   have hn4:∀ j,((D.set _ { d with regs:=R2 }).getD j dev0).ins=(D.getD j dev0).ins:=set_proj Dev.ins hI hd rfl
   have hn5:∀ j,((D.set _ { d with regs:=R2 }).getD j dev0).regs.length=(D.getD j dev0).regs.length:=set_proj (fun x=>x.regs.length) hI hd hrl
   have hg0:=hg2 0
   have hg1:=hg2 1
   have hg3:=hg2 2
   simp only [Nat.reduceEqDiff,if_true,if_false,reduceCtorEq,Nat.one_ne_zero,Nat.zero_ne_one] at hg0 hg1 hg3
   generalize D.set _ { d with regs:=R2 }=D2 at *
   refine RetOK.go [] [] (.inr rfl) ?_
   simp [a58,cvT,step,res,e1,e2,e3,e4,e5,e6,e7,e8,e9,strmC,hr1,hr2,hrl,hn1,hn2,hn3,hn4,hn5,hg0,hg1,hg3,hsl2,hc,hd,devHs,famD,inRg,inIn,arrD,arrRg,arrIn,-List.getD_eq_getElem?_getD]
   first | omega | exact ⟨by omega,fun j hj=>by omega,fun j hj=>by omega⟩
  ·refine ⟨⟨D,q+1⟩,⟨rfl,fun d hd=>(hG d hd).ok,by simp only; omega⟩,?_⟩
   refine RetOK.go [] [] (.inr rfl) ?_
   simp [a58,cvT,step,res,e1,e2,e3,e4,e5,e6,e7,e8,e9,strmC,hc,hd,devHs,famD,inRg,inIn,arrD,arrRg,arrIn,-List.getD_eq_getElem?_getD]
   first | omega | exact ⟨by omega,fun j hj=>by omega,fun j hj=>by omega⟩
theorem getD_setI (R:List (Bs × Bs)) {J:Nat} (x:Bs × Bs) (hJ:J<R.length) (j:Nat):(R.set J x).getD j ins0=if j=J then x else R.getD j ins0:=by
 rw [List.getD_eq_getElem?_getD,List.getElem?_set]
 by_cases h:j=J
 ·subst h; simp [hJ]
 ·rw [if_neg (fun e=>h e.symm),if_neg h,← List.getD_eq_getElem?_getD]
set_option maxHeartbeats 16000000 in
theorem spoil_3 (s nid:Nat) (nl:Bool) (A:List Int) (q I:Nat) (D:List Dev) (h:s<nid) (hq:q≤1099500002000) (hA:A.length≤17592186044416) (hI:I<D.length) (hD:D.length≤3) (hG:∀ d∈D,DevG d) :
  SR Tryz.prog (dropV 1 a58.body) (spST s nid (q+1) nl A D I 3) (SpEnd s nid q nl A D) .mk:=by
 obtain ⟨e1,e2,e3,e4,e5,e6,e7,e8,e9⟩:=id_all h
 simp only [a58,dropV]
 unfold spST
 have hmem:D.getD I dev0∈D:=by rw [List.getD_eq_getElem?_getD,List.getElem?_eq_getElem hI]; exact List.getElem_mem _
 have hgI:=hG _ hmem
 have hset:∀ d,DevOk d→∀ x∈D.set I d,DevOk x:=fun d hd x hx=>by
  rcases List.mem_or_eq_of_mem_set hx with hx | rfl
  ·exact (hG x hx).ok
  ·exact hd
 have hsl:∀ d,(D.set I d).length=D.length:=fun d=>List.length_set
 have hsg:=fun d j=>getD_setD D (I:=I) d hI j
 have hcase:(D.length=1∧I=0)∨(D.length=2∧I=0)∨(D.length=2∧I=1)∨(D.length=3∧I=0)∨(D.length=3∧I=1)∨(D.length=3∧I=2):=by omega
 obtain ⟨d,hd⟩:∃ d,D.getD I dev0=d:=⟨_,rfl⟩
 rw [hd] at hgI
 have hgl:=hgI.rl
 have hgi:=hgI.il
 refine SR.run (t:=.mk) ?_
 rcases hcase with ⟨hc,rfl⟩ | ⟨hc,rfl⟩ | ⟨hc,rfl⟩ | ⟨hc,rfl⟩ | ⟨hc,rfl⟩ | ⟨hc,rfl⟩
 all_goals
  unfold devHs famD inRg inIn arrD arrRg arrIn
  simp -dsimp only [aqA,↓seqK,↓blkK,↓loopK,step,stepBin,eqB,Nat.add_assoc nid,↓reduceIte,simprocAttr,LN_succ,e1,e2,e3,e4,e5,e6,e7,e8,e9,strmC_low,hc,hd,Nat.reduceLT,Nat.lt_irrefl,if_true,if_false]
  refine S2.dec (fun h4=>?_) (fun h4=>?_) <;> simp -dsimp only [aqA,↓seqK,↓blkK,↓loopK,step,stepBin,eqB,Nat.add_assoc nid,↓reduceIte,simprocAttr,LN_succ,e1,e2,e3,e4,e5,e6,e7,e8,e9,strmC_low,hd]
  ·have hR0:0<d.ins.length:=by omega
   have hnd:=nextV_bd A (q+1) (n:=(d.ins.length:Nat)) (by omega)
   obtain ⟨J,hJ⟩:∃ J:Nat,nextV A (q+1) ((d.ins.length:Nat):Int)=J:=⟨_,(Int.toNat_of_nonneg hnd.1).symm⟩
   rw [hJ] at hnd
   have hJR:J<d.ins.length:=by omega
   refine CallX.on (next_c s _ nl A (q+1) _ (by omega) (by omega) hA (by omega)) (subH_get (by simp only [aqA,↓seqK,↓blkK,↓loopK,step,stepBin,eqB,Nat.add_assoc nid,↓reduceIte,simprocAttr,LN_succ,e1,e2,e3,e4,e5,e6,e7,e8,e9])) ?_
   rw [hJ]
   simp -dsimp only [aqA,↓seqK,↓blkK,↓loopK,step,stepBin,eqB,Nat.add_assoc nid,↓reduceIte,simprocAttr,LN_succ,e1,e2,e3,e4,e5,e6,e7,e8,e9,strmC_low,hd]
   refine ⟨⟨by omega,by omega⟩,?_⟩
   have hm2:d.ins.getD J ins0∈d.ins:=by rw [List.getD_eq_getElem?_getD,List.getElem?_eq_getElem hJR]; exact List.getElem_mem _
   obtain ⟨z,hz⟩:∃ z:Nat,d.long=z:=⟨_,(Int.toNat_of_nonneg (by have:=hgI.lg; omega)).symm⟩
   have hz4:z≤4:=by have:=hgI.lg; omega
   have hrl1:=rep1 49 z
   refine CallX.pure (by rw [hz]; exact repeat_cc [49] z _ (by omega) (by simp; omega)) ?_
   generalize Lib.repeatL [49] z=zs at *
   simp -dsimp only [aqA,↓seqK,↓blkK,↓loopK,step,stepBin,eqB,Nat.add_assoc nid,↓reduceIte,simprocAttr,LN_succ,e1,e2,e3,e4,e5,e6,e7,e8,e9,strmC_low,hd]
   refine CallX.some_go (T:=9) (nl:=nl) (A:=A) (p:=q+1+1) (g:=fun i=>[(d.ins.getD J ins0).1,zs,[48],[48,120]].getD i []) (by simp only [aqA,↓seqK,↓blkK,↓loopK,step,stepBin,eqB,Nat.add_assoc nid,↓reduceIte,simprocAttr,LN_succ,e1,e2,e3,e4,e5,e6,e7,e8,e9]) (by simp only [aqA,↓seqK,↓blkK,↓loopK,step,stepBin,eqB,Nat.add_assoc nid,↓reduceIte,simprocAttr,LN_succ,e1,e2,e3,e4,e5,e6,e7,e8,e9]) (by simp only [aqA,↓seqK,↓blkK,↓loopK,step,stepBin,eqB,Nat.add_assoc nid,↓reduceIte,simprocAttr,LN_succ,e1,e2,e3,e4,e5,e6,e7,e8,e9]) (by omega) (by omega) hA (by omega) (by omega) ?_
   have hb:=getD_all (P:=fun x:Bs=>x.length≤10) (l:=[(d.ins.getD J ins0).1,zs,[48],[48,120]]) (d:=[]) (nm5 (hgI.is _ hm2).1 (by omega)) (pickI_lt A (q+1+1) (n:=4) (by omega))
   generalize ([(d.ins.getD J ins0).1,zs,[48],[48,120]].getD (pickI A (q+1+1) 4) []:Bs)=v at hb ⊢
   simp -dsimp only [aqA,↓seqK,↓blkK,↓loopK,step,stepBin,eqB,Nat.add_assoc nid,↓reduceIte,simprocAttr,LN_succ,e1,e2,e3,e4,e5,e6,e7,e8,e9,strmC_low,hd]
   refine CallX.some_go (T:=9) (nl:=nl) (A:=A) (p:=q+1+1+1) (g:=fun i=>[(d.ins.getD J ins0).2,[105,100,99,111,100,101],[122,122]].getD i []) (by simp only [aqA,↓seqK,↓blkK,↓loopK,step,stepBin,eqB,Nat.add_assoc nid,↓reduceIte,simprocAttr,LN_succ,e1,e2,e3,e4,e5,e6,e7,e8,e9]) (by simp only [aqA,↓seqK,↓blkK,↓loopK,step,stepBin,eqB,Nat.add_assoc nid,↓reduceIte,simprocAttr,LN_succ,e1,e2,e3,e4,e5,e6,e7,e8,e9]) (by simp only [aqA,↓seqK,↓blkK,↓loopK,step,stepBin,eqB,Nat.add_assoc nid,↓reduceIte,simprocAttr,LN_succ,e1,e2,e3,e4,e5,e6,e7,e8,e9]) (by omega) (by omega) hA (by omega) (by omega) ?_
   have hw:=getD_all (P:=fun x:Bs=>x.length≤10) (l:=[(d.ins.getD J ins0).2,[105,100,99,111,100,101],[122,122]]) (d:=[]) (nm6 (hgI.is _ hm2).2) (pickI_lt A (q+1+1+1) (n:=3) (by omega))
   generalize ([(d.ins.getD J ins0).2,[105,100,99,111,100,101],[122,122]].getD (pickI A (q+1+1+1) 3) []:Bs)=w at hw ⊢
   simp -dsimp only [aqA,↓seqK,↓blkK,↓loopK,step,stepBin,eqB,Nat.add_assoc nid,↓reduceIte,simprocAttr,LN_succ,e1,e2,e3,e4,e5,e6,e7,e8,e9,strmC_low,hd]
   have hrs:=getD_setI d.ins (v,w) hJR
   have hrl:(d.ins.set J (v,w)).length=d.ins.length:=List.length_set
   have hok:DevOk { d with ins:=d.ins.set J (v,w) }:=⟨hgI.ok.nm,hgI.ok.lg,hgI.ok.idb,hgI.ok.rl,hgI.ok.rs,by simp only [hrl]; exact hgI.ok.il,fun x hx=>by
    rcases List.mem_or_eq_of_mem_set hx with hx | rfl
    ·exact hgI.ok.is x hx
    ·exact ⟨hb,hw⟩⟩
   have hr1:∀ j,(if j=J then v else (d.ins.getD j ins0).1)=((d.ins.set J (v,w)).getD j ins0).1:=fun j=>by rw [hrs]; by_cases e:j=J <;> simp [e]
   have hr2:∀ j,(if j=J then w else (d.ins.getD j ins0).2)=((d.ins.set J (v,w)).getD j ins0).2:=fun j=>by rw [hrs]; by_cases e:j=J <;> simp [e]
   refine ⟨⟨D.set _ { d with ins:=d.ins.set J (v,w) },q+1+1+1+1⟩,⟨hsl _,hset _ hok,by simp only; omega⟩,?_⟩
   have hsl2:=hsl { d with ins:=d.ins.set J (v,w) }
   have hg2:=hsg { d with ins:=d.ins.set J (v,w) }
   generalize d.ins.set J (v,w)=R2 at *
   have hn1:∀ j,((D.set _ { d with ins:=R2 }).getD j dev0).name=(D.getD j dev0).name:=set_proj Dev.name hI hd rfl
   have hn2:∀ j,((D.set _ { d with ins:=R2 }).getD j dev0).long=(D.getD j dev0).long:=set_proj Dev.long hI hd rfl
   have hn3:∀ j,((D.set _ { d with ins:=R2 }).getD j dev0).id=(D.getD j dev0).id:=set_proj Dev.id hI hd rfl
   have hn4:∀ j,((D.set _ { d with ins:=R2 }).getD j dev0).regs=(D.getD j dev0).regs:=set_proj Dev.regs hI hd rfl
   have hn5:∀ j,((D.set _ { d with ins:=R2 }).getD j dev0).ins.length=(D.getD j dev0).ins.length:=set_proj (fun x=>x.ins.length) hI hd hrl
   have hg0:=hg2 0
   have hg1:=hg2 1
   have hg3:=hg2 2
   simp only [Nat.reduceEqDiff,if_true,if_false,reduceCtorEq,Nat.one_ne_zero,Nat.zero_ne_one] at hg0 hg1 hg3
   generalize D.set _ { d with ins:=R2 }=D2 at *
   refine RetOK.go [] [] (.inr rfl) ?_
   simp [a58,cvT,step,res,e1,e2,e3,e4,e5,e6,e7,e8,e9,strmC,hr1,hr2,hrl,hn1,hn2,hn3,hn4,hn5,hg0,hg1,hg3,hsl2,hc,hd,devHs,famD,inRg,inIn,arrD,arrRg,arrIn,-List.getD_eq_getElem?_getD]
   first | omega | exact ⟨by omega,fun j hj=>by omega,fun j hj=>by omega⟩
  ·refine ⟨⟨D,q+1⟩,⟨rfl,fun d hd=>(hG d hd).ok,by simp only; omega⟩,?_⟩
   refine RetOK.go [] [] (.inr rfl) ?_
   simp [a58,cvT,step,res,e1,e2,e3,e4,e5,e6,e7,e8,e9,strmC,hc,hd,devHs,famD,inRg,inIn,arrD,arrRg,arrIn,-List.getD_eq_getElem?_getD]
   first | omega | exact ⟨by omega,fun j hj=>by omega,fun j hj=>by omega⟩
set_option maxHeartbeats 16000000 in
theorem spoil_D (s nid:Nat) (nl:Bool) (A:List Int) (q I:Nat) (D:List Dev) (h:s<nid) (hq:q≤1099500002000) (hA:A.length≤17592186044416) (hI:I<D.length) (hD:D.length≤3) (hG:∀ d∈D,DevG d) :
  ACallI Tryz.prog 58 [.ptr s 0,.arp (nid+24) I 0] ([(s,strmC nl A q)]++devHs nid D) (nid+200) (spPost D q) (fun _=>.tup []) (fun x=>[(s,strmC nl A x.q)]++devHs nid x.D):=by
 obtain ⟨e1,e2,e3,e4,e5,e6,e7,e8,e9⟩:=id_all h
 have hs:=devHs_scoped nid D hD
 have hsk:=devHs_off s nid D h
 have k0:=spoil_0 s nid nl A q I D h hq hA hI hD hG
 have k1:=spoil_1 s nid nl A q I D h hq hA hI hD hG
 have k2:=spoil_2 s nid nl A q I D h hq hA hI hD hG
 have k3:=spoil_3 s nid nl A q I D h hq hA hI hD hG
 refine acallI_sr c58 (by simp [a58]) ?_
 simp only [a58,dropV] at *
 have hkd:=nextV_bd A q (n:=(4:Int)) (by omega)
 have hk:nextV A q 4=0∨nextV A q 4=1∨nextV A q 4=2∨nextV A q 4=3:=by omega
 obtain ⟨kk,hkk,hSR⟩:∃ kk:Nat,nextV A q 4=kk∧True:=⟨_,(Int.toNat_of_nonneg (by omega)).symm,trivial⟩
 refine SR.seqTo (spST s nid (q+1) nl A D I kk) ?_ ?_
 ·simp -dsimp only [aqA,↓seqK,↓blkK,↓loopK,step,stepBin,eqB,Nat.add_assoc nid,↓reduceIte,simprocAttr,LN_succ,e1,e2,e3,e4,e5,e6,e7,e8,e9,strmC_low]
  refine CallO.on (next_c s _ nl A q 4 (by omega) (by omega) hA (by omega)) (subH_get (by simp only [aqA,↓seqK,↓blkK,↓loopK,step,stepBin,eqB,Nat.add_assoc nid,↓reduceIte,simprocAttr,LN_succ,e1,e2,e3,e4,e5,e6,e7,e8,e9])) ?_
  rw [hkk]
  simp -dsimp only [aqA,↓seqK,↓blkK,↓loopK,step,stepBin,eqB,Nat.add_assoc nid,↓reduceIte,simprocAttr,LN_succ,e1,e2,e3,e4,e5,e6,e7,e8,e9,strmC_low]
  unfold spST
  generalize devHs nid D=Hs at *
  first | refine Cov.goG (nid+200) Hs [_] [_] [] [] (by omega) hs (by simp [kOK,hsk]) (by simp) ?_ | refine Cov.goG (nid+200) Hs [_,_] [_] [] [] (by omega) hs (by simp [kOK,hsk]) (by simp) ?_ | refine Cov.goG (nid+200) Hs [_,_,_] [_] [] [] (by omega) hs (by simp [kOK,hsk]) (by simp) ?_ | refine Cov.goG (nid+200) Hs [_,_,_,_] [_] [] [] (by omega) hs (by simp [kOK,hsk]) (by simp) ?_ | refine Cov.goG (nid+200) Hs [_,_,_,_,_] [_] [] [] (by omega) hs (by simp [kOK,hsk]) (by simp) ?_ | refine Cov.goG (nid+200) Hs [_,_,_,_,_,_] [_] [] [] (by omega) hs (by simp [kOK,hsk]) (by simp) ?_ | refine Cov.goG (nid+200) Hs [_,_,_,_,_,_,_] [_] [] [] (by omega) hs (by simp [kOK,hsk]) (by simp) ?_ | refine Cov.goG (nid+200) Hs [_,_,_,_,_,_,_,_] [_] [] [] (by omega) hs (by simp [kOK,hsk]) (by simp) ?_ | refine Cov.goG (nid+200) Hs [_,_,_,_,_,_,_,_,_] [_] [] [] (by omega) hs (by simp [kOK,hsk]) (by simp) ?_ | refine Cov.goG (nid+200) Hs [_,_,_,_,_,_,_,_,_,_] [_] [] [] (by omega) hs (by simp [kOK,hsk]) (by simp) ?_ | refine Cov.goG (nid+200) Hs [_,_,_,_,_,_,_,_,_,_,_] [_] [] [] (by omega) hs (by simp [kOK,hsk]) (by simp) ?_ | refine Cov.goG (nid+200) Hs [_,_,_,_,_,_,_,_,_,_,_,_] [_] [] [] (by omega) hs (by simp [kOK,hsk]) (by simp) ?_ | refine Cov.goG (nid+200) Hs [_,_,_,_,_,_,_,_,_,_,_,_,_] [_] [] [] (by omega) hs (by simp [kOK,hsk]) (by simp) ?_ | refine Cov.goG (nid+200) Hs [_,_,_,_,_,_,_,_,_,_,_,_,_,_] [_] [] [] (by omega) hs (by simp [kOK,hsk]) (by simp) ?_ | refine Cov.goG (nid+200) Hs [_,_,_,_,_,_,_,_,_,_,_,_,_,_,_] [_] [] [] (by omega) hs (by simp [kOK,hsk]) (by simp) ?_ | refine Cov.goG (nid+200) Hs [_,_,_,_,_,_,_,_,_,_,_,_,_,_,_,_] [_] [] [] (by omega) hs (by simp [kOK,hsk]) (by simp) ?_ | refine Cov.goG (nid+200) Hs [_,_,_,_,_,_,_,_,_,_,_,_,_,_,_,_,_] [_] [] [] (by omega) hs (by simp [kOK,hsk]) (by simp) ?_ | refine Cov.goG (nid+200) Hs [_,_,_,_,_,_,_,_,_,_,_,_,_,_,_,_,_,_] [_] [] [] (by omega) hs (by simp [kOK,hsk]) (by simp) ?_ | refine Cov.goG (nid+200) Hs [_,_,_,_,_,_,_,_,_,_,_,_,_,_,_,_,_,_,_] [_] [] [] (by omega) hs (by simp [kOK,hsk]) (by simp) ?_ | refine Cov.goG (nid+200) Hs [_,_,_,_,_,_,_,_,_,_,_,_,_,_,_,_,_,_,_,_] [_] [] [] (by omega) hs (by simp [kOK,hsk]) (by simp) ?_ | refine Cov.goG (nid+200) Hs [_,_,_,_,_,_,_,_,_,_,_,_,_,_,_,_,_,_,_,_,_] [_] [] [] (by omega) hs (by simp [kOK,hsk]) (by simp) ?_ | refine Cov.goG (nid+200) Hs [_,_,_,_,_,_,_,_,_,_,_,_,_,_,_,_,_,_,_,_,_,_] [_] [] [] (by omega) hs (by simp [kOK,hsk]) (by simp) ?_ | refine Cov.goG (nid+200) Hs [_,_,_,_,_,_,_,_,_,_,_,_,_,_,_,_,_,_,_,_,_,_,_] [_] [] [] (by omega) hs (by simp [kOK,hsk]) (by simp) ?_
  simp [cvT,step,res,e1,e2,e3,e4,e5,e6,e7,e8,e9,strmC]
 ·have:kk=0∨kk=1∨kk=2∨kk=3:=by omega
  rcases this with rfl | rfl | rfl | rfl
  ·exact k0
  ·exact k1
  ·exact k2
  ·exact k3
end Go.Proofs.YtahjohieahehjaaGreatDoor
namespace Go.Proofs.YtahjohieahehjaaGreatDoor
open Go.RowKit
structure DvX where
 n0:Bool
 n1:Nat→Bool
 n2:Nat→Bool
 D:List Dev
 q:Nat
structure DevB (most:Nat) (D:List Dev):Prop where
 len:D.length≤most
 ok:∀ d∈D,DevOk d
theorem fam_rg (s nid q:Nat) (nl:Bool) (A:List Int) (D:List Dev) (h:s<nid) (hD:D.length≤3) {k:Nat} (hk:k<D.length):getH ([(s,strmC nl A q)]++devHs nid D) (nid+(100+2 * k))=arrRg (D.getD k dev0).regs:=by
 obtain ⟨e1,e2,e3,e4,e5,e6,e7,e8,e9⟩:=id_all h
 have hk3:k=0∨k=1∨k=2:=by omega
 unfold devHs famD inRg inIn
 rcases hk3 with rfl | rfl | rfl <;> simp -dsimp only [aqA,↓seqK,↓blkK,↓loopK,step,stepBin,eqB,Nat.add_assoc nid,↓reduceIte,simprocAttr,LN_succ,e1,e2,e3,e4,e5,e6,e7,e8,e9,if_pos hk]
theorem fam_in (s nid q:Nat) (nl:Bool) (A:List Int) (D:List Dev) (h:s<nid) (hD:D.length≤3) {k:Nat} (hk:k<D.length):getH ([(s,strmC nl A q)]++devHs nid D) (nid+(101+2 * k))=arrIn (D.getD k dev0).ins:=by
 obtain ⟨e1,e2,e3,e4,e5,e6,e7,e8,e9⟩:=id_all h
 have hk3:k=0∨k=1∨k=2:=by omega
 unfold devHs famD inRg inIn
 rcases hk3 with rfl | rfl | rfl <;> simp -dsimp only [aqA,↓seqK,↓blkK,↓loopK,step,stepBin,eqB,Nat.add_assoc nid,↓reduceIte,simprocAttr,LN_succ,e1,e2,e3,e4,e5,e6,e7,e8,e9,if_pos hk]
set_option maxHeartbeats 4000000 in
theorem devs_end (s nid p q q0 most:Nat) (nl:Bool) (A:List Int) (D:List Dev) (h:s<nid) (hB:DevB most D) (hm:most≤3) (hq:q≤q0) :
  SR Tryz.prog (dropV 5 a11.body) ⟨[(5,.sl (nid+24) 0 D.length)],[(s,strmC nl A q)]++devHs nid D,nid+15000,nid⟩ (fun e st=>∃ x:DvX,(DevB most x.D∧x.q≤q0)∧RetOK a11.res [(s,strmC nl A p)] nid (.lit x.n0 x.D.length (devP x.n1 x.n2 x.D)) [(s,strmC nl A x.q)] e st) .mk:=by
 obtain ⟨e1,e2,e3,e4,e5,e6,e7,e8,e9⟩:=id_all h
 have hD3:D.length≤3:=by have:=hB.len; omega
 have hr:=fun k (hk:k<D.length)=>fam_rg s nid q nl A D h hD3 hk
 have hi:=fun k (hk:k<D.length)=>fam_in s nid q nl A D h hD3 hk
 refine SR.freezeO [nid+100,nid+101,nid+102,nid+103,nid+104,nid+105] (nid+24) 57 D.length [.s fun i=>(D.getD i dev0).name,.i .i64 fun i=>(D.getD i dev0).long,.i .i64 fun i=>(D.getD i dev0).id,.o (fun k=>nid+(100+2 * k)) (fun k=>(D.getD k dev0).regs.length),.o (fun k=>nid+(101+2 * k)) (fun k=>(D.getD k dev0).ins.length)] ?_ ?_ ?_ (fun n1 hn1=>?_)
 ·unfold devHs arrD
  simp only [List.cons_append,List.nil_append,aqA,↓seqK,↓blkK,↓loopK,step,stepBin,eqB,Nat.add_assoc nid,↓reduceIte,simprocAttr,LN_succ,e1,e2,e3,e4,e5,e6,e7,e8,e9]
 ·simp
 ·intro c hc
  simp only [List.mem_cons,List.not_mem_nil,or_false] at hc
  rcases hc with rfl | rfl | rfl | rfl | rfl
  ·trivial
  ·trivial
  ·trivial
  ·intro k hk
   have hk6:k=0∨k=1∨k=2:=by omega
   refine ⟨?_,_,_,_,hr k hk,rfl⟩
   rcases hk6 with rfl | rfl | rfl <;> simp
  ·intro k hk
   have hk6:k=0∨k=1∨k=2:=by omega
   refine ⟨?_,_,_,_,hi k hk,rfl⟩
   rcases hk6 with rfl | rfl | rfl <;> simp
 have hco:∀ k,k<D.length→colsAt ([(s,strmC nl A q)]++devHs nid D) (nid+(100+2 * k))=[.s fun j=>((D.getD k dev0).regs.getD j reg0).1,.i .i64 fun j=>((D.getD k dev0).regs.getD j reg0).2]:=fun k hk=>by
  unfold colsAt
  rw [hr k hk]
  rfl
 have hci:∀ k,k<D.length→colsAt ([(s,strmC nl A q)]++devHs nid D) (nid+(101+2 * k))=[.s fun j=>((D.getD k dev0).ins.getD j ins0).1,.s fun j=>((D.getD k dev0).ins.getD j ins0).2]:=fun k hk=>by
  unfold colsAt
  rw [hi k hk]
  rfl
 simp only [List.map_cons,List.map_nil,oCol]
 generalize hCA:colsAt ([(s,strmC nl A q)]++devHs nid D)=CA at *
 clear hn1 hr hi
 refine SR.cov (t':=.mk) (st':=⟨[(5,.sl (nid+24) 0 D.length)],[(s,strmC nl A q),(nid+24,some (.arr 57 D.length (devP (fun k=>n1 (nid+(100+2 * k))) (fun k=>n1 (nid+(101+2 * k))) D)))],nid+15000,nid⟩) (Cov.go [] [] ?_) ?_
 ·unfold devHs arrD strmC devP
  simp [cvT,step,res,e1,e2,e3,e4,e5,e6,e7,e8,e9,frzS,frzH,frzBlk,lends,lend,kill,noOs,-List.getD_eq_getElem?_getD]
  exact ⟨ColEq.l fun k hk=>⟨rfl,rfl,by rw [hco k hk]; exact ColsEq.refl _ _⟩,ColEq.l fun k hk=>⟨rfl,rfl,by rw [hci k hk]; exact ColsEq.refl _ _⟩⟩
 unfold devP
 refine SR.freezeB [nid+24] (fun n2=>?_)
 simp only [frzS,frzH,frzBlk,lends,lend,kill,strmC,noOs,aqA,↓seqK,↓blkK,↓loopK,step,stepBin,eqB,Nat.add_assoc nid,↓reduceIte,simprocAttr,LN_succ,e1,e2,e3,e4,e5,e6,e7,e8,e9]
 clear hco hci hCA
 simp only [a11,dropV]
 refine SR.run (t:=.mk) ?_
 simp -dsimp only [aqA,↓seqK,↓blkK,↓loopK,step,stepBin,eqB,Nat.add_assoc nid,↓reduceIte,simprocAttr,e1,e2,e3,e4,e5,e6,e7,e8,e9]
 refine ⟨⟨n2 (nid+24),fun k=>n1 (nid+(100+2 * k)),fun k=>n1 (nid+(101+2 * k)),D,q⟩,⟨hB,hq⟩,RetOK.go [] [] (.inl rfl) ?_⟩
 simp [a11,cvT,step,res,e1,e2,e3,e4,e5,e6,e7,e8,e9,strmC,devP,ColsEq.refl,-List.getD_eq_getElem?_getD]
end Go.Proofs.YtahjohieahehjaaGreatDoor
namespace Go.Proofs.YtahjohieahehjaaGreatDoor
open Go.RowKit
theorem Cov.sub {s s':Slots} {H H':Heap} {n n' b:Nat} (hn:n≤n') (hs:SlotsIn s s') (hH:subH H' H):Cov ⟨s,H,n,b⟩ ⟨s',H',n',b⟩:=fun C nt Y m a w h=>by
 refine ⟨Y,m,h.size,h.defers,fun i p hp hne=>?_,(HSF.some_sub h.heap hH).mono (fun id hid=>Nat.le_trans hn hid),h.base⟩
 rcases hs.get i with e | e
 ·exact absurd (hp.symm.trans e) hne
 ·exact h.slots i p (e.symm.trans hp) hne
theorem subH_pre {s:Nat} {c:Option ABlk} {F X:Heap} (hX:∀ id∈keys X,id=s):subH ((s,c)::F) ((s,c)::(X++F)):=fun id b h=>by
 simp only [getH] at h ⊢
 cases hh:(s==id)
 ·rw [hh] at h
  simp only [cond_false] at h ⊢
  rw [getH_appC]
  cases hk:(keys X).contains id
  ·exact h
  ·exfalso
   have h1:=hX id (by simpa using hk)
   subst h1
   simp at hh
 ·rw [hh] at h
  exact h
theorem subH_front (Y Z:Heap):subH Y (Y++Z):=fun id b h=>by
 rw [getH_appC]
 cases hk:(keys Y).contains id
 ·have:=getH_key h
  rw [hk] at this
  cases this
 ·exact h
theorem Scoped.lowHeap {b:Nat} {Hs:Heap} (h:Scoped b Hs):lowHeap b Hs:=⟨h.lt,h.blk⟩
theorem lowHeap_cons {b i:Nat} {c:Option ABlk} {Hs:Heap} (hi:i<b) (hc:lowBlk b c=true) (h:lowHeap b Hs):lowHeap b ((i,c)::Hs):=by
 refine ⟨fun id hid=>?_,fun id x hx=>?_⟩
 ·simp only [keys,List.map_cons,List.mem_cons] at hid
  rcases hid with rfl | hid
  ·exact hi
  ·exact h.1 id hid
 ·simp only [getH] at hx
  cases hh:(i==id)
  ·rw [hh] at hx; exact h.2 id x hx
  ·rw [hh] at hx
   simp only [cond_true] at hx
   rw [hx] at hc
   exact hc
theorem lowHeap_app {b:Nat}:∀ {X Y:Heap},lowHeap b X→lowHeap b Y→lowHeap b (X++Y)
 | [],Y,_,h=>h
 | (i,c)::X,Y,hx,hy=>by
  have hX:lowHeap b X∨True:=.inr trivial
  refine ⟨fun id hid=>?_,fun id x hg=>?_⟩
  ·have hk:keys ((i,c)::X++Y)=keys ((i,c)::X)++keys Y:=by simp [keys]
   rw [hk] at hid
   rcases List.mem_append.1 hid with hid | hid
   ·exact hx.1 id hid
   ·exact hy.1 id hid
  ·rw [getH_appC] at hg
   cases hk:(keys ((i,c)::X)).contains id
   ·rw [hk] at hg; exact hy.2 id x hg
   ·rw [hk] at hg; exact hx.2 id x hg
theorem spoil_later (s nid n:Nat) (nl:Bool) (A:List Int) (q I:Nat) (D:List Dev) (h:s<nid) (hn:nid+200≤n) (hq:q≤1099500002000) (hA:A.length≤17592186044416) (hI:I<D.length) (hD:D.length≤3) (hG:∀ d∈D,DevG d) :
  ACallI Tryz.prog 58 [.ptr s 0,.arp (nid+24) I 0] ([(s,strmC nl A q)]++devHs nid D) n (spPost D q) (fun _=>.tup []) (fun x=>[(s,strmC nl A x.q)]++devHs nid x.D):=by
 have hl:∀ (q:Nat) (D:List Dev),D.length≤3→lowHeap (nid+200) ([(s,strmC nl A q)]++devHs nid D):=fun q D hD=>lowHeap_cons (by omega) (by rfl) (devHs_scoped nid D hD).lowHeap
 refine (spoil_D s nid nl A q I D h hq hA hI hD hG).later hn ?_ (hl q D hD) (fun i hi=>rfl) (fun i hi=>lowHeap_app (hl _ _ (by have:=hi.1; omega)) (hl q D hD))
 simp [lowAll,idsOfs,idsOf]
 omega
set_option maxHeartbeats 16000000 in
theorem devices_I (s nid:Nat) (nl:Bool) (A:List Int) (p most:Nat) (h:s<nid) (hp:p≤1099500000000) (hA:A.length≤17592186044416) (h1:1≤most) (h3:most≤3) :
  ACallI Tryz.prog 11 [.ptr s 0,.int .i64 most] [(s,strmC nl A p)] nid (fun x:DvX=>DevB most x.D∧x.q≤p+60) (fun x=>.lit x.n0 x.D.length (devP x.n1 x.n2 x.D)) (fun x=>[(s,strmC nl A x.q)]):=by
 obtain ⟨e1,e2,e3,e4,e5,e6,e7,e8,e9⟩:=id_all h
 have hend:=fun (q:Nat) D hB hq=>devs_end s nid p q (p+60) most nl A D h hB h3 hq
 have hstep:=fun (n0:Bool) (q n:Nat) D hq hk hn Q=>dev_step s nid nl n0 A q n D h hq hA hk hn Q
 refine acallI_sr c11 (by simp [a11]) ?_
 simp only [a11,dropV,headV,roundV] at *
 refine SR.seq ?_
 simp -dsimp only [aqA,↓seqK,↓blkK,↓loopK,step,stepBin,eqB,Nat.add_assoc nid,↓reduceIte,simprocAttr,e1,e2,e3,e4,e5,e6,e7,e8,e9]
 refine SR.seq ?_
 simp -dsimp only [aqA,↓seqK,↓blkK,↓loopK,step,stepBin,eqB,Nat.add_assoc nid,↓reduceIte,simprocAttr,e1,e2,e3,e4,e5,e6,e7,e8,e9]
 refine SR.seqW (ι:={x:List Dev × Nat // (1≤x.1.length∧x.1.length≤most)∧(∀ d∈x.1,DevG d)∧x.2≤p+40}) (fun x=>⟨[(5,.sl (nid+24) 0 x.1.1.length),(0,.ptr s 0)],[(s,strmC nl A x.1.2)]++devHs nid x.1.1,nid+10000,nid⟩) ?_ (fun ⟨⟨D,q⟩,⟨hD1,hD2⟩,hG,hq⟩=>?_)
 ·refine SR.seqEx (ι:={n:Nat // 1≤n∧n≤most}) (fun n=>⟨[(18,.sl (nid+8) 0 n.1),(19,.int .i64 n.1),(20,.int .i64 0),(5,.lit true 0 []),(0,.ptr s 0)],[(s,strmC nl A (p+1)),(nid+8,some (.arr 9 3 [.s fun i=>u3L.getD i []]))],nid+500,nid⟩) ?_ (fun ⟨n,hn1,hn2⟩=>?_)
  ·simp -dsimp only [aqA,↓seqK,↓blkK,↓loopK,step,stepBin,eqB,Nat.add_assoc nid,↓reduceIte,simprocAttr,e1,e2,e3,e4,e5,e6,e7,e8,e9,strmC_low]
   have hnd:=rangeV_bd A p (lo:=1) (hi:=most) (by omega)
   obtain ⟨m,hm⟩:∃ m:Nat,rangeV A p 1 most=m:=⟨_,(Int.toNat_of_nonneg (by omega)).symm⟩
   rw [hm] at hnd
   refine CallO.on (range_c s _ nl A p 1 most (by omega) (by omega) hA (by omega) (by omega) (by omega)) (subH_get (by simp only [aqA,↓seqK,↓blkK,↓loopK,step,stepBin,eqB,Nat.add_assoc nid,↓reduceIte,simprocAttr,LN_succ,e1,e2,e3,e4,e5,e6,e7,e8,e9])) ?_
   rw [hm]
   simp -dsimp only [aqA,↓seqK,↓blkK,↓loopK,step,stepBin,eqB,Nat.add_assoc nid,↓reduceIte,simprocAttr,LN_succ,e1,e2,e3,e4,e5,e6,e7,e8,e9,strmC_low]
   refine ⟨⟨by omega,by omega⟩,⟨m,by omega,by omega⟩,Cov.go [] [] ?_⟩
   simp [cvT,step,res,e1,e2,e3,e4,e5,e6,e7,e8,e9,strmC,u3L,-List.getD_eq_getElem?_getD]
  simp only
  refine SR.freezeB [nid+8] (fun n9=>?_)
  simp only [frzS,frzH,frzBlk,lends,lend,kill,strmC,noOs,aqA,↓seqK,↓blkK,↓loopK,step,stepBin,eqB,Nat.add_assoc nid,↓reduceIte,simprocAttr,LN_succ,e1,e2,e3,e4,e5,e6,e7,e8,e9]
  generalize n9 (nid+8)=n0
  refine SR.block ?_
  refine SR.loopP (fun x:List Dev × Nat=>x.1.length≤n∧(∀ d∈x.1,DevG d)∧x.2≤p+1+12 * x.1.length) (fun x=>⟨[(20,.int .i64 x.1.length),(19,.int .i64 n),(18,.lit n0 n [.s fun i=>u3L.getD i []]),(5,.sl (nid+24) 0 x.1.length),(0,.ptr s 0)],[(s,strmC nl A x.2)]++devHs nid x.1,nid+1196,nid⟩) (fun x=>n+1 - x.1.length) ([],p+1) ⟨by simp,by simp,by simp⟩ (Cov.go [] [(nid+24,5)] ?_) (fun ⟨D,q⟩ hD=>?_)
  ·simp [cvT,step,res,e1,e2,e3,e4,e5,e6,e7,e8,e9,strmC,devHs,famD,inRg,inIn,arrD,-List.getD_eq_getElem?_getD]
  obtain ⟨hD1,hG,hq⟩:=hD
  simp only at hD1 hG hq
  have hs:=devHs_scoped nid D (by omega)
  have hsk:=devHs_off s nid D h
  refine SR.seq ?_
  simp -dsimp only [aqA,↓seqK,↓blkK,↓loopK,step,stepBin,eqB,Nat.add_assoc nid,↓reduceIte,simprocAttr,LN_succ,e1,e2,e3,e4,e5,e6,e7,e8,e9,strmC_low]
  refine SR.seq ?_
  simp -dsimp only [aqA,↓seqK,↓blkK,↓loopK,step,stepBin,eqB,Nat.add_assoc nid,↓reduceIte,simprocAttr,LN_succ,e1,e2,e3,e4,e5,e6,e7,e8,e9,strmC_low]
  refine S2.dec (fun h3=>?_) (fun h3=>?_) <;> simp -dsimp only [aqA,↓seqK,↓blkK,↓loopK,step,stepBin,eqB,Nat.add_assoc nid,↓reduceIte,simprocAttr,LN_succ,e1,e2,e3,e4,e5,e6,e7,e8,e9,strmC_low]
  ·refine SR.cov (t':=.mk) (st':=⟨[(20,.int .i64 D.length),(19,.int .i64 n),(18,.lit n0 n [.s fun i=>u3L.getD i []]),(5,.sl (nid+24) 0 D.length),(0,.ptr s 0)],[(s,strmC nl A q)]++devHs nid D,nid+1200,nid⟩) ?_ ?_
   ·generalize devHs nid D=Hs at *
    first | refine Cov.goG (nid+200) Hs [_] [_] [] [] (by omega) hs (by simp [kOK,hsk]) (by simp) ?_ | refine Cov.goG (nid+200) Hs [_,_] [_] [] [] (by omega) hs (by simp [kOK,hsk]) (by simp) ?_ | refine Cov.goG (nid+200) Hs [_,_,_] [_] [] [] (by omega) hs (by simp [kOK,hsk]) (by simp) ?_ | refine Cov.goG (nid+200) Hs [_,_,_,_] [_] [] [] (by omega) hs (by simp [kOK,hsk]) (by simp) ?_ | refine Cov.goG (nid+200) Hs [_,_,_,_,_] [_] [] [] (by omega) hs (by simp [kOK,hsk]) (by simp) ?_ | refine Cov.goG (nid+200) Hs [_,_,_,_,_,_] [_] [] [] (by omega) hs (by simp [kOK,hsk]) (by simp) ?_ | refine Cov.goG (nid+200) Hs [_,_,_,_,_,_,_] [_] [] [] (by omega) hs (by simp [kOK,hsk]) (by simp) ?_ | refine Cov.goG (nid+200) Hs [_,_,_,_,_,_,_,_] [_] [] [] (by omega) hs (by simp [kOK,hsk]) (by simp) ?_ | refine Cov.goG (nid+200) Hs [_,_,_,_,_,_,_,_,_] [_] [] [] (by omega) hs (by simp [kOK,hsk]) (by simp) ?_ | refine Cov.goG (nid+200) Hs [_,_,_,_,_,_,_,_,_,_] [_] [] [] (by omega) hs (by simp [kOK,hsk]) (by simp) ?_ | refine Cov.goG (nid+200) Hs [_,_,_,_,_,_,_,_,_,_,_] [_] [] [] (by omega) hs (by simp [kOK,hsk]) (by simp) ?_ | refine Cov.goG (nid+200) Hs [_,_,_,_,_,_,_,_,_,_,_,_] [_] [] [] (by omega) hs (by simp [kOK,hsk]) (by simp) ?_ | refine Cov.goG (nid+200) Hs [_,_,_,_,_,_,_,_,_,_,_,_,_] [_] [] [] (by omega) hs (by simp [kOK,hsk]) (by simp) ?_ | refine Cov.goG (nid+200) Hs [_,_,_,_,_,_,_,_,_,_,_,_,_,_] [_] [] [] (by omega) hs (by simp [kOK,hsk]) (by simp) ?_ | refine Cov.goG (nid+200) Hs [_,_,_,_,_,_,_,_,_,_,_,_,_,_,_] [_] [] [] (by omega) hs (by simp [kOK,hsk]) (by simp) ?_ | refine Cov.goG (nid+200) Hs [_,_,_,_,_,_,_,_,_,_,_,_,_,_,_,_] [_] [] [] (by omega) hs (by simp [kOK,hsk]) (by simp) ?_ | refine Cov.goG (nid+200) Hs [_,_,_,_,_,_,_,_,_,_,_,_,_,_,_,_,_] [_] [] [] (by omega) hs (by simp [kOK,hsk]) (by simp) ?_ | refine Cov.goG (nid+200) Hs [_,_,_,_,_,_,_,_,_,_,_,_,_,_,_,_,_,_] [_] [] [] (by omega) hs (by simp [kOK,hsk]) (by simp) ?_ | refine Cov.goG (nid+200) Hs [_,_,_,_,_,_,_,_,_,_,_,_,_,_,_,_,_,_,_] [_] [] [] (by omega) hs (by simp [kOK,hsk]) (by simp) ?_ | refine Cov.goG (nid+200) Hs [_,_,_,_,_,_,_,_,_,_,_,_,_,_,_,_,_,_,_,_] [_] [] [] (by omega) hs (by simp [kOK,hsk]) (by simp) ?_ | refine Cov.goG (nid+200) Hs [_,_,_,_,_,_,_,_,_,_,_,_,_,_,_,_,_,_,_,_,_] [_] [] [] (by omega) hs (by simp [kOK,hsk]) (by simp) ?_ | refine Cov.goG (nid+200) Hs [_,_,_,_,_,_,_,_,_,_,_,_,_,_,_,_,_,_,_,_,_,_] [_] [] [] (by omega) hs (by simp [kOK,hsk]) (by simp) ?_ | refine Cov.goG (nid+200) Hs [_,_,_,_,_,_,_,_,_,_,_,_,_,_,_,_,_,_,_,_,_,_,_] [_] [] [] (by omega) hs (by simp [kOK,hsk]) (by simp) ?_
    simp [cvT,step,res,e1,e2,e3,e4,e5,e6,e7,e8,e9,strmC,-List.getD_eq_getElem?_getD]
   refine SR.seqW _ (hstep n0 q n D (by omega) (by omega) (by omega) _) (fun ⟨⟨d,q2⟩,hd,hq2⟩=>?_)
   simp only at hd hq2
   have hll:(D++[d]).length=D.length+1:=by simp
   have hs2:=devHs_scoped nid (D++[d]) (by omega)
   have hsk2:=devHs_off s nid (D++[d]) h
   refine SR.run (t:=.mk) ?_
   simp -dsimp only [aqA,↓seqK,↓blkK,↓loopK,step,stepBin,eqB,Nat.add_assoc nid,↓reduceIte,simprocAttr,LN_succ,e1,e2,e3,e4,e5,e6,e7,e8,e9,strmC_low]
   refine ⟨by unfold inI64; omega,(D++[d],q2),⟨⟨by simp only [hll]; omega,fun y hy=>?_,by simp only [hll]; omega⟩,by simp only [hll]; omega⟩,?_⟩
   ·rcases List.mem_append.1 hy with hy | hy
    ·exact hG y hy
    ·rw [List.mem_singleton.1 hy]; exact hd
   simp only
   rw [hll]
   clear hs hsk
   have hs:=hs2
   have hsk:=hsk2
   generalize devHs nid (D++[d])=Hs at *
   first | refine Cov.goG (nid+200) Hs [_] [_] [] [] (by omega) hs (by simp [kOK,hsk]) (by simp) ?_ | refine Cov.goG (nid+200) Hs [_,_] [_] [] [] (by omega) hs (by simp [kOK,hsk]) (by simp) ?_ | refine Cov.goG (nid+200) Hs [_,_,_] [_] [] [] (by omega) hs (by simp [kOK,hsk]) (by simp) ?_ | refine Cov.goG (nid+200) Hs [_,_,_,_] [_] [] [] (by omega) hs (by simp [kOK,hsk]) (by simp) ?_ | refine Cov.goG (nid+200) Hs [_,_,_,_,_] [_] [] [] (by omega) hs (by simp [kOK,hsk]) (by simp) ?_ | refine Cov.goG (nid+200) Hs [_,_,_,_,_,_] [_] [] [] (by omega) hs (by simp [kOK,hsk]) (by simp) ?_ | refine Cov.goG (nid+200) Hs [_,_,_,_,_,_,_] [_] [] [] (by omega) hs (by simp [kOK,hsk]) (by simp) ?_ | refine Cov.goG (nid+200) Hs [_,_,_,_,_,_,_,_] [_] [] [] (by omega) hs (by simp [kOK,hsk]) (by simp) ?_ | refine Cov.goG (nid+200) Hs [_,_,_,_,_,_,_,_,_] [_] [] [] (by omega) hs (by simp [kOK,hsk]) (by simp) ?_ | refine Cov.goG (nid+200) Hs [_,_,_,_,_,_,_,_,_,_] [_] [] [] (by omega) hs (by simp [kOK,hsk]) (by simp) ?_ | refine Cov.goG (nid+200) Hs [_,_,_,_,_,_,_,_,_,_,_] [_] [] [] (by omega) hs (by simp [kOK,hsk]) (by simp) ?_ | refine Cov.goG (nid+200) Hs [_,_,_,_,_,_,_,_,_,_,_,_] [_] [] [] (by omega) hs (by simp [kOK,hsk]) (by simp) ?_ | refine Cov.goG (nid+200) Hs [_,_,_,_,_,_,_,_,_,_,_,_,_] [_] [] [] (by omega) hs (by simp [kOK,hsk]) (by simp) ?_ | refine Cov.goG (nid+200) Hs [_,_,_,_,_,_,_,_,_,_,_,_,_,_] [_] [] [] (by omega) hs (by simp [kOK,hsk]) (by simp) ?_ | refine Cov.goG (nid+200) Hs [_,_,_,_,_,_,_,_,_,_,_,_,_,_,_] [_] [] [] (by omega) hs (by simp [kOK,hsk]) (by simp) ?_ | refine Cov.goG (nid+200) Hs [_,_,_,_,_,_,_,_,_,_,_,_,_,_,_,_] [_] [] [] (by omega) hs (by simp [kOK,hsk]) (by simp) ?_ | refine Cov.goG (nid+200) Hs [_,_,_,_,_,_,_,_,_,_,_,_,_,_,_,_,_] [_] [] [] (by omega) hs (by simp [kOK,hsk]) (by simp) ?_ | refine Cov.goG (nid+200) Hs [_,_,_,_,_,_,_,_,_,_,_,_,_,_,_,_,_,_] [_] [] [] (by omega) hs (by simp [kOK,hsk]) (by simp) ?_ | refine Cov.goG (nid+200) Hs [_,_,_,_,_,_,_,_,_,_,_,_,_,_,_,_,_,_,_] [_] [] [] (by omega) hs (by simp [kOK,hsk]) (by simp) ?_ | refine Cov.goG (nid+200) Hs [_,_,_,_,_,_,_,_,_,_,_,_,_,_,_,_,_,_,_,_] [_] [] [] (by omega) hs (by simp [kOK,hsk]) (by simp) ?_ | refine Cov.goG (nid+200) Hs [_,_,_,_,_,_,_,_,_,_,_,_,_,_,_,_,_,_,_,_,_] [_] [] [] (by omega) hs (by simp [kOK,hsk]) (by simp) ?_ | refine Cov.goG (nid+200) Hs [_,_,_,_,_,_,_,_,_,_,_,_,_,_,_,_,_,_,_,_,_,_] [_] [] [] (by omega) hs (by simp [kOK,hsk]) (by simp) ?_ | refine Cov.goG (nid+200) Hs [_,_,_,_,_,_,_,_,_,_,_,_,_,_,_,_,_,_,_,_,_,_,_] [_] [] [] (by omega) hs (by simp [kOK,hsk]) (by simp) ?_
   simp [cvT,step,res,e1,e2,e3,e4,e5,e6,e7,e8,e9,strmC,-List.getD_eq_getElem?_getD]
  ·refine ⟨⟨(D,q),⟨by simp only; omega,by simp only; omega⟩,hG,by simp only; omega⟩,?_⟩
   simp only
   generalize devHs nid D=Hs at *
   first | refine Cov.goG (nid+200) Hs [_] [_] [] [] (by omega) hs (by simp [kOK,hsk]) (by simp) ?_ | refine Cov.goG (nid+200) Hs [_,_] [_] [] [] (by omega) hs (by simp [kOK,hsk]) (by simp) ?_ | refine Cov.goG (nid+200) Hs [_,_,_] [_] [] [] (by omega) hs (by simp [kOK,hsk]) (by simp) ?_ | refine Cov.goG (nid+200) Hs [_,_,_,_] [_] [] [] (by omega) hs (by simp [kOK,hsk]) (by simp) ?_ | refine Cov.goG (nid+200) Hs [_,_,_,_,_] [_] [] [] (by omega) hs (by simp [kOK,hsk]) (by simp) ?_ | refine Cov.goG (nid+200) Hs [_,_,_,_,_,_] [_] [] [] (by omega) hs (by simp [kOK,hsk]) (by simp) ?_ | refine Cov.goG (nid+200) Hs [_,_,_,_,_,_,_] [_] [] [] (by omega) hs (by simp [kOK,hsk]) (by simp) ?_ | refine Cov.goG (nid+200) Hs [_,_,_,_,_,_,_,_] [_] [] [] (by omega) hs (by simp [kOK,hsk]) (by simp) ?_ | refine Cov.goG (nid+200) Hs [_,_,_,_,_,_,_,_,_] [_] [] [] (by omega) hs (by simp [kOK,hsk]) (by simp) ?_ | refine Cov.goG (nid+200) Hs [_,_,_,_,_,_,_,_,_,_] [_] [] [] (by omega) hs (by simp [kOK,hsk]) (by simp) ?_ | refine Cov.goG (nid+200) Hs [_,_,_,_,_,_,_,_,_,_,_] [_] [] [] (by omega) hs (by simp [kOK,hsk]) (by simp) ?_ | refine Cov.goG (nid+200) Hs [_,_,_,_,_,_,_,_,_,_,_,_] [_] [] [] (by omega) hs (by simp [kOK,hsk]) (by simp) ?_ | refine Cov.goG (nid+200) Hs [_,_,_,_,_,_,_,_,_,_,_,_,_] [_] [] [] (by omega) hs (by simp [kOK,hsk]) (by simp) ?_ | refine Cov.goG (nid+200) Hs [_,_,_,_,_,_,_,_,_,_,_,_,_,_] [_] [] [] (by omega) hs (by simp [kOK,hsk]) (by simp) ?_ | refine Cov.goG (nid+200) Hs [_,_,_,_,_,_,_,_,_,_,_,_,_,_,_] [_] [] [] (by omega) hs (by simp [kOK,hsk]) (by simp) ?_ | refine Cov.goG (nid+200) Hs [_,_,_,_,_,_,_,_,_,_,_,_,_,_,_,_] [_] [] [] (by omega) hs (by simp [kOK,hsk]) (by simp) ?_ | refine Cov.goG (nid+200) Hs [_,_,_,_,_,_,_,_,_,_,_,_,_,_,_,_,_] [_] [] [] (by omega) hs (by simp [kOK,hsk]) (by simp) ?_ | refine Cov.goG (nid+200) Hs [_,_,_,_,_,_,_,_,_,_,_,_,_,_,_,_,_,_] [_] [] [] (by omega) hs (by simp [kOK,hsk]) (by simp) ?_ | refine Cov.goG (nid+200) Hs [_,_,_,_,_,_,_,_,_,_,_,_,_,_,_,_,_,_,_] [_] [] [] (by omega) hs (by simp [kOK,hsk]) (by simp) ?_ | refine Cov.goG (nid+200) Hs [_,_,_,_,_,_,_,_,_,_,_,_,_,_,_,_,_,_,_,_] [_] [] [] (by omega) hs (by simp [kOK,hsk]) (by simp) ?_ | refine Cov.goG (nid+200) Hs [_,_,_,_,_,_,_,_,_,_,_,_,_,_,_,_,_,_,_,_,_] [_] [] [] (by omega) hs (by simp [kOK,hsk]) (by simp) ?_ | refine Cov.goG (nid+200) Hs [_,_,_,_,_,_,_,_,_,_,_,_,_,_,_,_,_,_,_,_,_,_] [_] [] [] (by omega) hs (by simp [kOK,hsk]) (by simp) ?_ | refine Cov.goG (nid+200) Hs [_,_,_,_,_,_,_,_,_,_,_,_,_,_,_,_,_,_,_,_,_,_,_] [_] [] [] (by omega) hs (by simp [kOK,hsk]) (by simp) ?_
   simp [cvT,step,res,e1,e2,e3,e4,e5,e6,e7,e8,e9,strmC,-List.getD_eq_getElem?_getD]
 simp only at hD1 hD2 hG hq
 have hs:=devHs_scoped nid D (by omega)
 have hsk:=devHs_off s nid D h
 refine SR.seqEx (ι:={x:List Dev × Nat // x.1.length=D.length∧(∀ d∈x.1,DevOk d)∧x.2≤p+50}) (fun x=>⟨[(5,.sl (nid+24) 0 x.1.1.length),(0,.ptr s 0)],[(s,strmC nl A x.1.2)]++devHs nid x.1.1,nid+12000,nid⟩) ?_ (fun ⟨⟨D2,q2⟩,hl2,hok2,hq2⟩=>?_)
 ·simp -dsimp only [aqA,↓seqK,↓blkK,↓loopK,step,stepBin,eqB,Nat.add_assoc nid,↓reduceIte,simprocAttr,LN_succ,e1,e2,e3,e4,e5,e6,e7,e8,e9,strmC_low]
  refine CallO.on (flip_c s _ nl A q 12 (by omega) (by omega) hA (by omega)) (subH_get (by simp only [aqA,↓seqK,↓blkK,↓loopK,step,stepBin,eqB,Nat.add_assoc nid,↓reduceIte,simprocAttr,LN_succ,e1,e2,e3,e4,e5,e6,e7,e8,e9])) ?_
  simp -dsimp only [aqA,↓seqK,↓blkK,↓loopK,step,stepBin,eqB,Nat.add_assoc nid,↓reduceIte,simprocAttr,LN_succ,e1,e2,e3,e4,e5,e6,e7,e8,e9,strmC_low]
  refine S2.intro (fun h=>?_) (fun h=>?_) <;> simp -dsimp only [aqA,↓seqK,↓blkK,↓loopK,step,stepBin,eqB,Nat.add_assoc nid,↓reduceIte,simprocAttr,LN_succ,e1,e2,e3,e4,e5,e6,e7,e8,e9,strmC_low]
  ·have hnd:=nextV_bd A (q+1) (n:=(D.length:Nat)) (by omega)
   obtain ⟨I,hI⟩:∃ I:Nat,nextV A (q+1) ((D.length:Nat):Int)=I:=⟨_,(Int.toNat_of_nonneg hnd.1).symm⟩
   rw [hI] at hnd
   refine CallO.on (next_c s _ nl A (q+1) _ (by omega) (by omega) hA (by omega)) (subH_get (by simp only [aqA,↓seqK,↓blkK,↓loopK,step,stepBin,eqB,Nat.add_assoc nid,↓reduceIte,simprocAttr,LN_succ,e1,e2,e3,e4,e5,e6,e7,e8,e9])) ?_
   rw [hI]
   have hga:getH (devHs nid D) (nid+24)=some (.arr 57 D.length [.s fun i=>(D.getD i dev0).name,.i .i64 fun i=>(D.getD i dev0).long,.i .i64 fun i=>(D.getD i dev0).id,.o (fun k=>nid+(100+2 * k)) (fun k=>(D.getD k dev0).regs.length),.o (fun k=>nid+(101+2 * k)) (fun k=>(D.getD k dev0).ins.length)]):=by simp [devHs,getH,arrD]
   simp -dsimp only [aqA,↓seqK,↓blkK,↓loopK,step,stepBin,eqB,Nat.add_assoc nid,↓reduceIte,simprocAttr,LN_succ,e1,e2,e3,e4,e5,e6,e7,e8,e9,strmC_low,hga]
   refine ⟨⟨by omega,by omega⟩,?_⟩
   refine CallO.any (spoil_later s nid _ nl A (q+1+1) I D (by assumption) (by omega) (by omega) hA (by omega) (by omega) hG) (subH_pre (X:=[(s,_),(s,_)]) (by simp [keys])) (fun x hx=>?_)
   obtain ⟨x1,x2,x3⟩:=hx
   simp -dsimp only [aqA,↓seqK,↓blkK,↓loopK,step,stepBin,eqB,Nat.add_assoc nid,↓reduceIte,simprocAttr,LN_succ,e1,e2,e3,e4,e5,e6,e7,e8,e9,strmC_low]
   refine ⟨⟨(x.D,x.q),x1,x2,by simp only; omega⟩,?_⟩
   simp only
   rw [← x1]
   refine Cov.sub (by omega) (by simp only [SlotsIn,aqA,↓seqK,↓blkK,↓loopK,step,stepBin,eqB,Nat.add_assoc nid,↓reduceIte,simprocAttr]; try simp) (subH_front ((s,strmC nl A x.q)::devHs nid x.D) _)
  ·refine ⟨⟨(D,q+1),rfl,fun d hd=>(hG d hd).ok,by simp only; omega⟩,?_⟩
   simp only
   generalize devHs nid D=Hs at *
   first | refine Cov.goG (nid+200) Hs [_] [_] [] [] (by omega) hs (by simp [kOK,hsk]) (by simp) ?_ | refine Cov.goG (nid+200) Hs [_,_] [_] [] [] (by omega) hs (by simp [kOK,hsk]) (by simp) ?_ | refine Cov.goG (nid+200) Hs [_,_,_] [_] [] [] (by omega) hs (by simp [kOK,hsk]) (by simp) ?_ | refine Cov.goG (nid+200) Hs [_,_,_,_] [_] [] [] (by omega) hs (by simp [kOK,hsk]) (by simp) ?_ | refine Cov.goG (nid+200) Hs [_,_,_,_,_] [_] [] [] (by omega) hs (by simp [kOK,hsk]) (by simp) ?_ | refine Cov.goG (nid+200) Hs [_,_,_,_,_,_] [_] [] [] (by omega) hs (by simp [kOK,hsk]) (by simp) ?_ | refine Cov.goG (nid+200) Hs [_,_,_,_,_,_,_] [_] [] [] (by omega) hs (by simp [kOK,hsk]) (by simp) ?_ | refine Cov.goG (nid+200) Hs [_,_,_,_,_,_,_,_] [_] [] [] (by omega) hs (by simp [kOK,hsk]) (by simp) ?_ | refine Cov.goG (nid+200) Hs [_,_,_,_,_,_,_,_,_] [_] [] [] (by omega) hs (by simp [kOK,hsk]) (by simp) ?_ | refine Cov.goG (nid+200) Hs [_,_,_,_,_,_,_,_,_,_] [_] [] [] (by omega) hs (by simp [kOK,hsk]) (by simp) ?_ | refine Cov.goG (nid+200) Hs [_,_,_,_,_,_,_,_,_,_,_] [_] [] [] (by omega) hs (by simp [kOK,hsk]) (by simp) ?_ | refine Cov.goG (nid+200) Hs [_,_,_,_,_,_,_,_,_,_,_,_] [_] [] [] (by omega) hs (by simp [kOK,hsk]) (by simp) ?_ | refine Cov.goG (nid+200) Hs [_,_,_,_,_,_,_,_,_,_,_,_,_] [_] [] [] (by omega) hs (by simp [kOK,hsk]) (by simp) ?_ | refine Cov.goG (nid+200) Hs [_,_,_,_,_,_,_,_,_,_,_,_,_,_] [_] [] [] (by omega) hs (by simp [kOK,hsk]) (by simp) ?_ | refine Cov.goG (nid+200) Hs [_,_,_,_,_,_,_,_,_,_,_,_,_,_,_] [_] [] [] (by omega) hs (by simp [kOK,hsk]) (by simp) ?_ | refine Cov.goG (nid+200) Hs [_,_,_,_,_,_,_,_,_,_,_,_,_,_,_,_] [_] [] [] (by omega) hs (by simp [kOK,hsk]) (by simp) ?_ | refine Cov.goG (nid+200) Hs [_,_,_,_,_,_,_,_,_,_,_,_,_,_,_,_,_] [_] [] [] (by omega) hs (by simp [kOK,hsk]) (by simp) ?_ | refine Cov.goG (nid+200) Hs [_,_,_,_,_,_,_,_,_,_,_,_,_,_,_,_,_,_] [_] [] [] (by omega) hs (by simp [kOK,hsk]) (by simp) ?_ | refine Cov.goG (nid+200) Hs [_,_,_,_,_,_,_,_,_,_,_,_,_,_,_,_,_,_,_] [_] [] [] (by omega) hs (by simp [kOK,hsk]) (by simp) ?_ | refine Cov.goG (nid+200) Hs [_,_,_,_,_,_,_,_,_,_,_,_,_,_,_,_,_,_,_,_] [_] [] [] (by omega) hs (by simp [kOK,hsk]) (by simp) ?_ | refine Cov.goG (nid+200) Hs [_,_,_,_,_,_,_,_,_,_,_,_,_,_,_,_,_,_,_,_,_] [_] [] [] (by omega) hs (by simp [kOK,hsk]) (by simp) ?_ | refine Cov.goG (nid+200) Hs [_,_,_,_,_,_,_,_,_,_,_,_,_,_,_,_,_,_,_,_,_,_] [_] [] [] (by omega) hs (by simp [kOK,hsk]) (by simp) ?_ | refine Cov.goG (nid+200) Hs [_,_,_,_,_,_,_,_,_,_,_,_,_,_,_,_,_,_,_,_,_,_,_] [_] [] [] (by omega) hs (by simp [kOK,hsk]) (by simp) ?_
   simp [cvT,step,res,e1,e2,e3,e4,e5,e6,e7,e8,e9,strmC,-List.getD_eq_getElem?_getD]
 simp only at hl2 hok2 hq2
 clear hs hsk
 have hs:=devHs_scoped nid D2 (by omega)
 have hsk:=devHs_off s nid D2 h
 refine SR.seqEx (ι:={D3:List Dev // DevB most D3}) (fun D3=>⟨[(5,.sl (nid+24) 0 D3.1.length)],[(s,strmC nl A (q2+1))]++devHs nid D3.1,nid+15000,nid⟩) ?_ (fun ⟨D3,hB3⟩=>?_)
 ·simp -dsimp only [aqA,↓seqK,↓blkK,↓loopK,step,stepBin,eqB,Nat.add_assoc nid,↓reduceIte,simprocAttr,LN_succ,e1,e2,e3,e4,e5,e6,e7,e8,e9,strmC_low]
  refine CallO.on (flip_c s _ nl A q2 60 (by omega) (by omega) hA (by omega)) (subH_get (by simp only [aqA,↓seqK,↓blkK,↓loopK,step,stepBin,eqB,Nat.add_assoc nid,↓reduceIte,simprocAttr,LN_succ,e1,e2,e3,e4,e5,e6,e7,e8,e9])) ?_
  simp -dsimp only [aqA,↓seqK,↓blkK,↓loopK,step,stepBin,eqB,Nat.add_assoc nid,↓reduceIte,simprocAttr,LN_succ,e1,e2,e3,e4,e5,e6,e7,e8,e9,strmC_low]
  refine S2.intro (fun h=>?_) (fun h=>?_) <;> simp -dsimp only [aqA,↓seqK,↓blkK,↓loopK,step,stepBin,eqB,Nat.add_assoc nid,↓reduceIte,simprocAttr,LN_succ,e1,e2,e3,e4,e5,e6,e7,e8,e9,strmC_low]
  ·refine ⟨⟨[],by simp,by simp⟩,Cov.go [] [(nid+24,5)] ?_⟩
   simp [cvT,step,res,e1,e2,e3,e4,e5,e6,e7,e8,e9,strmC,devHs,famD,inRg,inIn,arrD,-List.getD_eq_getElem?_getD]
  ·refine ⟨⟨D2,by omega,hok2⟩,?_⟩
   generalize devHs nid D2=Hs at *
   first | refine Cov.goG (nid+200) Hs [_] [_] [] [] (by omega) hs (by simp [kOK,hsk]) (by simp) ?_ | refine Cov.goG (nid+200) Hs [_,_] [_] [] [] (by omega) hs (by simp [kOK,hsk]) (by simp) ?_ | refine Cov.goG (nid+200) Hs [_,_,_] [_] [] [] (by omega) hs (by simp [kOK,hsk]) (by simp) ?_ | refine Cov.goG (nid+200) Hs [_,_,_,_] [_] [] [] (by omega) hs (by simp [kOK,hsk]) (by simp) ?_ | refine Cov.goG (nid+200) Hs [_,_,_,_,_] [_] [] [] (by omega) hs (by simp [kOK,hsk]) (by simp) ?_ | refine Cov.goG (nid+200) Hs [_,_,_,_,_,_] [_] [] [] (by omega) hs (by simp [kOK,hsk]) (by simp) ?_ | refine Cov.goG (nid+200) Hs [_,_,_,_,_,_,_] [_] [] [] (by omega) hs (by simp [kOK,hsk]) (by simp) ?_ | refine Cov.goG (nid+200) Hs [_,_,_,_,_,_,_,_] [_] [] [] (by omega) hs (by simp [kOK,hsk]) (by simp) ?_ | refine Cov.goG (nid+200) Hs [_,_,_,_,_,_,_,_,_] [_] [] [] (by omega) hs (by simp [kOK,hsk]) (by simp) ?_ | refine Cov.goG (nid+200) Hs [_,_,_,_,_,_,_,_,_,_] [_] [] [] (by omega) hs (by simp [kOK,hsk]) (by simp) ?_ | refine Cov.goG (nid+200) Hs [_,_,_,_,_,_,_,_,_,_,_] [_] [] [] (by omega) hs (by simp [kOK,hsk]) (by simp) ?_ | refine Cov.goG (nid+200) Hs [_,_,_,_,_,_,_,_,_,_,_,_] [_] [] [] (by omega) hs (by simp [kOK,hsk]) (by simp) ?_ | refine Cov.goG (nid+200) Hs [_,_,_,_,_,_,_,_,_,_,_,_,_] [_] [] [] (by omega) hs (by simp [kOK,hsk]) (by simp) ?_ | refine Cov.goG (nid+200) Hs [_,_,_,_,_,_,_,_,_,_,_,_,_,_] [_] [] [] (by omega) hs (by simp [kOK,hsk]) (by simp) ?_ | refine Cov.goG (nid+200) Hs [_,_,_,_,_,_,_,_,_,_,_,_,_,_,_] [_] [] [] (by omega) hs (by simp [kOK,hsk]) (by simp) ?_ | refine Cov.goG (nid+200) Hs [_,_,_,_,_,_,_,_,_,_,_,_,_,_,_,_] [_] [] [] (by omega) hs (by simp [kOK,hsk]) (by simp) ?_ | refine Cov.goG (nid+200) Hs [_,_,_,_,_,_,_,_,_,_,_,_,_,_,_,_,_] [_] [] [] (by omega) hs (by simp [kOK,hsk]) (by simp) ?_ | refine Cov.goG (nid+200) Hs [_,_,_,_,_,_,_,_,_,_,_,_,_,_,_,_,_,_] [_] [] [] (by omega) hs (by simp [kOK,hsk]) (by simp) ?_ | refine Cov.goG (nid+200) Hs [_,_,_,_,_,_,_,_,_,_,_,_,_,_,_,_,_,_,_] [_] [] [] (by omega) hs (by simp [kOK,hsk]) (by simp) ?_ | refine Cov.goG (nid+200) Hs [_,_,_,_,_,_,_,_,_,_,_,_,_,_,_,_,_,_,_,_] [_] [] [] (by omega) hs (by simp [kOK,hsk]) (by simp) ?_ | refine Cov.goG (nid+200) Hs [_,_,_,_,_,_,_,_,_,_,_,_,_,_,_,_,_,_,_,_,_] [_] [] [] (by omega) hs (by simp [kOK,hsk]) (by simp) ?_ | refine Cov.goG (nid+200) Hs [_,_,_,_,_,_,_,_,_,_,_,_,_,_,_,_,_,_,_,_,_,_] [_] [] [] (by omega) hs (by simp [kOK,hsk]) (by simp) ?_ | refine Cov.goG (nid+200) Hs [_,_,_,_,_,_,_,_,_,_,_,_,_,_,_,_,_,_,_,_,_,_,_] [_] [] [] (by omega) hs (by simp [kOK,hsk]) (by simp) ?_
   simp [cvT,step,res,e1,e2,e3,e4,e5,e6,e7,e8,e9,strmC,-List.getD_eq_getElem?_getD]
 exact hend (q2+1) D3 hB3 (by omega)
end Go.Proofs.YtahjohieahehjaaGreatDoor
namespace Go.Proofs.YtahjohieahehjaaGreatDoor
open Go.RowKit
def devU:Dev:=⟨[117,49],2,0,[],[]⟩
theorem ColEq.l0 {n:Nat} {nl nl':Nat→Bool} {len len':Nat→Nat} {cols cols':Nat→List Col} (e:∀ j,j<n→nl j=nl' j∧len j=0∧len' j=0):ColEq n (.l nl len cols) (.l nl' len' cols'):=fun Y w j v hj hv=>by
 obtain ⟨h1,h2,h3⟩:=e j hj
 cases hv with
 | @l _ _ _ _ A cap u e2 e3 e4 e5 e6 =>
  have h:=ColRep.l (Y:=Y) (w:=w) (nl:=nl') (len:=len') (cols:=cols') (n:=j) (A:=A) (cap:=cap) u (by rw [← h1]; exact e2) (fun hA=>⟨h3,(e3 hA).2⟩) (by omega) (fun k m hk=>by omega) (fun k m c hk=>by omega)
  rw [h3] at h
  rw [h2]
  exact h
theorem DevOk.s {d:Dev} (h:DevOk d):DevS d :=
 ⟨by have:=h.nm; omega,by have:=h.lg; unfold inI64; omega,by have:=h.idb; unfold inI64; omega,by have:=h.rl; omega,fun x hx=>by have:=h.rs x hx; unfold inI64; omega,by have:=h.il; omega,fun x hx=>by have:=h.is x hx; omega⟩
theorem devU_ok:devsE [devU]=0∧DevOk devU:=by
 refine ⟨by decide,?_⟩
 constructor <;> simp [devU]
set_option maxHeartbeats 4000000 in
theorem rightDevices_I (s nid:Nat) (nl:Bool) (A:List Int) (p most:Nat) (h:s<nid) (hp:p≤1099499000000) (hA:A.length≤17592186044416) (h1:1≤most) (h3:most≤3) :
  ACallI Tryz.prog 33 [.ptr s 0,.int .i64 most] [(s,strmC nl A p)] nid (fun x:DvX=>(DevB most x.D∧devsE x.D=0)∧x.q≤p+360) (fun x=>.lit x.n0 x.D.length (devP x.n1 x.n2 x.D)) (fun x=>[(s,strmC nl A x.q)]):=by
 obtain ⟨e1,e2,e3,e4,e5,e6,e7,e8,e9⟩:=id_all h
 refine acallI_sr c33 (by simp [a33]) ?_
 unfold a33
 refine SR.seq ?_
 simp -dsimp only [aqA,↓seqK,↓blkK,↓loopK,step,stepBin,eqB,Nat.add_assoc nid,↓reduceIte,simprocAttr,e1,e2,e3,e4,e5,e6,e7,e8,e9]
 refine SR.seqW (ι:={q:Nat // q≤p+360}) (fun q=>⟨[],[(s,strmC nl A q.1)],nid+90000,nid⟩) ?_ (fun ⟨q,hq⟩=>?_)
 ·refine SR.seqTo ⟨[(6,.int .i64 0),(0,.ptr s 0),(1,.int .i64 most)],[(s,strmC nl A p)],nid+20,nid⟩ ?_ ?_
  ·simp -dsimp only [aqA,↓seqK,↓blkK,↓loopK,step,stepBin,eqB,Nat.add_assoc nid,↓reduceIte,simprocAttr,e1,e2,e3,e4,e5,e6,e7,e8,e9]
   refine Cov.go [] [] ?_
   simp [cvT,step,res,e1,e2,e3,e4,e5,e6,e7,e8,e9,strmC]
  refine SR.block ?_
  refine SR.loopP (fun x:Nat × Nat=>x.1≤6∧x.2≤p+60 * x.1) (fun x=>⟨[(6,.int .i64 x.1),(0,.ptr s 0),(1,.int .i64 most)],[(s,strmC nl A x.2)],nid+40,nid⟩) (fun x=>7 - x.1) (0,p) ⟨by simp,by simp⟩ (Cov.go [] [] ?_) (fun ⟨k,q⟩ hk=>?_)
  ·simp [cvT,step,res,e1,e2,e3,e4,e5,e6,e7,e8,e9,strmC]
  obtain ⟨hk,hq⟩:=hk
  simp only at hk hq
  refine SR.seq ?_
  simp -dsimp only [aqA,↓seqK,↓blkK,↓loopK,step,stepBin,eqB,Nat.add_assoc nid,↓reduceIte,simprocAttr,e1,e2,e3,e4,e5,e6,e7,e8,e9,strmC_low]
  refine SR.seq ?_
  simp -dsimp only [aqA,↓seqK,↓blkK,↓loopK,step,stepBin,eqB,Nat.add_assoc nid,↓reduceIte,simprocAttr,e1,e2,e3,e4,e5,e6,e7,e8,e9,strmC_low]
  refine S2.dec (fun h3=>?_) (fun h3=>?_) <;> simp -dsimp only [aqA,↓seqK,↓blkK,↓loopK,step,stepBin,eqB,Nat.add_assoc nid,↓reduceIte,simprocAttr,e1,e2,e3,e4,e5,e6,e7,e8,e9,strmC_low]
  ·refine SR.run (t:=.mk) ?_
   simp -dsimp only [aqA,↓seqK,↓blkK,↓loopK,step,stepBin,eqB,Nat.add_assoc nid,↓reduceIte,simprocAttr,e1,e2,e3,e4,e5,e6,e7,e8,e9,strmC_low]
   refine CallO.any (devices_I s _ nl A q most (by omega) (by omega) hA h1 (by assumption)) (subH_get (by simp only [aqA,↓seqK,↓blkK,↓loopK,step,stepBin,eqB,Nat.add_assoc nid,↓reduceIte,simprocAttr,LN_succ,e1,e2,e3,e4,e5,e6,e7,e8,e9])) (fun x hx=>?_)
   obtain ⟨x1,x2⟩:=hx
   have hfc:=fun m=>devsFault_c x.n0 x.n1 x.n2 x.D m (by have:=x1.len; omega) (fun d hd=>(x1.ok d hd).s)
   simp -dsimp only [aqA,↓seqK,↓blkK,↓loopK,step,stepBin,eqB,Nat.add_assoc nid,↓reduceIte,simprocAttr,e1,e2,e3,e4,e5,e6,e7,e8,e9,strmC_low]
   refine CallO.pure (hfc _) ?_
   simp -dsimp only [aqA,↓seqK,↓blkK,↓loopK,step,stepBin,eqB,Nat.add_assoc nid,↓reduceIte,simprocAttr,e1,e2,e3,e4,e5,e6,e7,e8,e9,strmC_low]
   by_cases he:devsE x.D=0
   ·have b1:(devsE x.D==0)=true:=by simp [he]
    simp -dsimp only [aqA,↓seqK,↓blkK,↓loopK,step,stepBin,eqB,Nat.add_assoc nid,↓reduceIte,simprocAttr,e1,e2,e3,e4,e5,e6,e7,e8,e9,strmC_low,b1]
    refine ⟨x,⟨⟨x1,he⟩,by omega⟩,RetOK.go [] [] (.inl rfl) ?_⟩
    simp [a33,cvT,step,res,e1,e2,e3,e4,e5,e6,e7,e8,e9,strmC,ColsEq.refl]
   ·have b1:(devsE x.D==0)=false:=by simp [he]
    simp -dsimp only [aqA,↓seqK,↓blkK,↓loopK,step,stepBin,eqB,Nat.add_assoc nid,↓reduceIte,simprocAttr,e1,e2,e3,e4,e5,e6,e7,e8,e9,strmC_low,b1]
    refine ⟨by unfold inI64; omega,(k+1,x.q),⟨⟨by omega,by omega⟩,by omega⟩,Cov.go [] [] ?_⟩
    simp [cvT,step,res,e1,e2,e3,e4,e5,e6,e7,e8,e9,strmC,ColsEq.refl]
  ·refine ⟨⟨q,by omega⟩,Cov.go [] [] ?_⟩
   simp [cvT,step,res,e1,e2,e3,e4,e5,e6,e7,e8,e9,strmC]
 simp only
 refine SR.seqTo ⟨[(4,.sl (nid+91000) 0 1)],[(s,strmC nl A q),(nid+91000,some (.arr 57 1 (devP (fun _=>true) (fun _=>true) [devU])))],nid+100000,nid⟩ ?_ ?_
 ·simp -dsimp only [aqA,↓seqK,↓blkK,↓loopK,step,stepBin,eqB,Nat.add_assoc nid,↓reduceIte,simprocAttr,e1,e2,e3,e4,e5,e6,e7,e8,e9,strmC_low]
  refine Cov.go [(nid+91000,nid+90004)] [] ?_
  simp [cvT,step,res,e1,e2,e3,e4,e5,e6,e7,e8,e9,strmC,devP,-List.getD_eq_getElem?_getD]
  refine ⟨ColEq.s fun j hj=>?_,ColEq.i fun j hj=>?_,ColEq.i fun j hj=>?_,ColEq.l0 fun j hj=>?_,ColEq.l0 fun j hj=>?_⟩ <;> (have e:j=0:=by omega) <;> subst e <;> simp [devU]
 unfold devP
 refine SR.freezeB [nid+91000] (fun n2=>?_)
 simp only [frzS,frzH,frzBlk,lends,lend,kill,strmC,noOs,aqA,↓seqK,↓blkK,↓loopK,step,stepBin,eqB,Nat.add_assoc nid,↓reduceIte,simprocAttr,LN_succ,e1,e2,e3,e4,e5,e6,e7,e8,e9]
 refine SR.run (t:=.mk) ?_
 simp -dsimp only [aqA,↓seqK,↓blkK,↓loopK,step,stepBin,eqB,Nat.add_assoc nid,↓reduceIte,simprocAttr,e1,e2,e3,e4,e5,e6,e7,e8,e9]
 refine ⟨⟨n2 (nid+91000),fun _=>true,fun _=>true,[devU],q⟩,⟨⟨⟨by simpa using h1,fun d hd=>by rw [List.mem_singleton.1 hd]; exact devU_ok.2⟩,devU_ok.1⟩,hq⟩,RetOK.go [] [] (.inl rfl) ?_⟩
 simp [a33,cvT,step,res,e1,e2,e3,e4,e5,e6,e7,e8,e9,strmC,devP,ColsEq.refl,-List.getD_eq_getElem?_getD]
end Go.Proofs.YtahjohieahehjaaGreatDoor
namespace Go.Proofs.YtahjohieahehjaaGreatDoor
open Go.RowKit
theorem portsH_keys (i:Nat):∀ (P Q:List Port),P.length=Q.length→keys (portsH i P)=keys (portsH i Q):=by
 intro P
 induction P generalizing i with
 | nil=>intro Q h; cases Q with
  | nil=>rfl
  | cons=>simp at h
 | cons p P ih=>intro Q h; cases Q with
  | nil=>simp at h
  | cons q Q =>
   simp only [portsH,keys,List.map_cons]
   have:=ih (i+3) Q (by simpa using h)
   simp only [keys] at this
   rw [this]
theorem chainH_keys (c s t:Nat) (P Q:List Port) (h:P.length=Q.length):keys (chainH c s P)=keys (chainH c t Q):=by
 have:=portsH_keys (c+2) P Q h
 simp only [keys] at this
 simp only [chainH,keys,List.map_cons,this]
theorem portsH_low (b:Nat):∀ (P:List Port) (i:Nat),i+3 * P.length≤b→∀ x∈portsH i P,x.1<b∧lowBlk b x.2=true
 | [],i,_,x,hx=>by simp [portsH] at hx
 | p::P,i,h,x,hx=>by
  simp only [List.length_cons] at h
  simp only [portsH,List.mem_cons] at hx
  rcases hx with rfl | rfl | rfl | hx
  ·refine ⟨by simp only; omega,?_⟩
   simp [portB,lowBlk_box,lowAll,idsOfs,idsOf,litRg,litIn]
   omega
  ·exact ⟨by simp only; omega,rfl⟩
  ·exact ⟨by simp only; omega,rfl⟩
  ·exact portsH_low b P (i+3) (by omega) x hx
theorem chainH_scoped (c b st:Nat) (P:List Port) (hP:P.length≤3) (h:c+11≤b):Scoped b (chainH c st P):=scoped_list fun x hx=>by
 simp only [chainH,List.mem_cons] at hx
 rcases hx with rfl | rfl | hx
 ·refine ⟨by simp only; omega,?_⟩
  simp [chB,lowBlk_box,lowAll,idsOfs,idsOf]
  omega
 ·refine ⟨by simp only; omega,?_⟩
  show lowCols b P.length _=true
  simp only [lowCols,Bool.and_eq_true,Bool.and_true]
  exact allTo_all fun j hj=>by simp; omega
 ·exact portsH_low b P (c+2) (by omega) x hx
theorem HCov.whole {b hi:Nat} {Hs Z:Heap} (hs:Scoped b Hs) (hb:b≤hi) (hZ:subH Hs Z):HCov hi [] [] Z Hs:=fun id x hx=>by
 have h:=frame_cov (b:=b) (hi:=hi) (ren:=[]) (nils:=[]) (n:=0) Hs [] [] hs (by simp [keys]) rfl rfl hb trivial id x hx
 simp only [List.nil_append] at h
 have e1:getH Z (srcOf [] id)=getH Hs (srcOf [] id):=by
  show getH Z id=getH Hs id
  rw [hx]
  exact hZ id x hx
 rw [e1]
 exact h
theorem RetOK.whole {rs:List ARes} {nid:Nat} {r:PV} {e:AEx} {s:Slots} {n1 b1:Nat} {Hs u Z:Heap} (he:e=.ret∨e=.normal) (hs:Scoped nid u) (hk:∀ id∈keys Hs,id∈keys u) (hZ:subH u Z)
  (h:onAll (readAll ⟨s,Z,n1,b1⟩ rs) fun ps=>PVCov (nid+4) [] [] (retPV ps) r):RetOK rs Hs nid r u e ⟨s,Z,n1,b1⟩:=by
 cases hp:readAll ⟨s,Z,n1,b1⟩ rs with
 | none=>rw [hp] at h; exact h.elim
 | some ps =>
  rw [hp] at h
  have hall:∃ (ren nils:List (Nat × Nat)) (H2:Heap),(∀ id,getH H2 id=getH (u++Hs) id)∧inRange nid (nid+4) ren=true∧inRange nid (nid+4) nils=true∧apart ren nils (liveIds H2)=true∧(liveIds H2).all (fun id=>decide (id<nid+4))=true ∧
    HCov (nid+4) ren nils Z H2∧PVCov (nid+4) ren nils (retPV ps) r:=by
   refine ⟨[],[],u,fun id=>?_,rfl,rfl,frame_apart (b:=nid) (hi:=nid+4) u [] hs rfl rfl rfl,frame_lt (b:=nid) (hi:=nid+4) u [] hs (by omega) rfl,HCov.whole hs (by omega) hZ,h⟩
   rw [getH_appC]
   cases hc:(keys u).contains id
   ·simp only [cond_false]
    have h1:getH u id=none:=by
     cases hg:getH u id with
     | none=>rfl
     | some x=>rw [getH_key hg] at hc; cases hc
    have h2:getH Hs id=none:=by
     cases hg:getH Hs id with
     | none=>rfl
     | some x =>
      have:=hk id (by simpa using getH_key hg)
      rw [show (keys u).contains id=true by simpa using this] at hc
      cases hc
    rw [h1,h2]
   ·rfl
  rcases he with rfl | rfl
  ·show onAll (readAll ⟨s,Z,n1,b1⟩ rs) _
   rw [hp]
   exact hall
  ·show onAll (readAll ⟨s,Z,n1,b1⟩ rs) _
   rw [hp]
   exact hall
theorem subH_refl (H:Heap):subH H H:=fun id b h=>h
theorem Cov.whole {s1 s2:Slots} {n1 n2 b:Nat} {u Z:Heap} (hs:Scoped b u) (hZ:subH u Z) (hn:b≤n2) (h:SlotsCov n2 [] [] s1 s2):Cov ⟨s1,Z,n1,b⟩ ⟨s2,u,n2,b⟩ :=
 Cov.mk [] [] rfl hn rfl rfl (frame_apart (b:=b) (hi:=n2) u [] hs rfl rfl rfl) (frame_lt (b:=b) (hi:=n2) u [] hs hn rfl) (HCov.whole hs hn hZ) h
def chH (c:Nat) (x:ChV):Heap:=chainH c x.st x.P
theorem PortV.s {st:Nat} {p:Port} (h:PortV p):PortS st p:=by
 have hw:=h.sh
 have hb:=h.sh.head
 have:=(bitM_lt hb)
 exact ⟨⟨h.rl,h.il,h.idb,h.lg⟩,by have:=hw.l1; omega,fun _=>hw.l0,fun _=>by omega⟩
def outB1 (st:Nat) (b:UInt8):Int:=if shifts st=true then (bitM b:Nat) else -1
theorem outV_bit {st:Nat} {b:UInt8} (hb:oneBit b=true):outV st b=outB1 st b:=by
 unfold outV outB1
 unfold oneBit at hb
 simp only [Bool.or_eq_true,beq_iff_eq] at hb
 rcases hb with rfl | rfl <;> rfl
theorem tick_c (x:ChV) (tms:Nat) (tdi:UInt8) (n c nid:Nat) (hc:c+11≤nid) (h1:tms<2) (hb:oneBit tdi=true) (hx:ChOk n x) (hl0:0<n) (hl:n≤3) :
  ACall Tryz.prog 62 [.ptr c 0,.int .i64 (tms:Nat),.int .i64 (bitM tdi:Nat)] (chH c x) nid (.int .i64 (outB1 x.st (tickO x tdi))) (chH c (tickV nextN x tms tdi)):=by
 have hm:=bitM_lt hb
 have h:=clock_c x.st x.P tms (bitM tdi) c nid hc h1 hm.1 hx.st (fun p hp=>(hx.ok p hp).s) (by rw [hx.len]; exact hl0) (by rw [hx.len]; exact hl)
 have e:UInt8.ofNat (48+bitM tdi)=tdi:=by rw [← hm.2]; exact UInt8.ofNat_toNat
 rw [e,outV_bit (clockP_V hx.ok hb).2] at h
 exact h
theorem bitW8 {b:UInt8} (hb:oneBit b=true):IntKind.i64.wrap (IntKind.u8.wrap (((b.toNat:Nat):Int) - 48))=(bitM b:Nat):=by
 unfold oneBit at hb
 simp only [Bool.or_eq_true,beq_iff_eq] at hb
 rcases hb with rfl | rfl <;> rfl
theorem walkV_take {x:ChV} {l:Bs} {k:Nat} (hk:k<l.length):walkV nextN x (l.take (k+1))=tickV nextN (walkV nextN x (l.take k)) (bitM (l.getD k 0)) 48:=by
 rw [List.take_add_one,List.getElem?_eq_getElem hk,Option.toList_some,walkV_snoc,List.getD_eq_getElem?_getD,List.getElem?_eq_getElem hk]
 rfl
theorem bits_at {l:Bs} (h:l.all oneBit=true) {k:Nat} (hk:k<l.length):oneBit (l.getD k 0)=true:=by
 rw [List.getD_eq_getElem?_getD,List.getElem?_eq_getElem hk]
 exact List.all_eq_true.1 h _ (List.getElem_mem _)
theorem take_bits {l:Bs} (h:l.all oneBit=true) (k:Nat):(l.take k).all oneBit=true:=List.all_eq_true.2 fun b hb=>List.all_eq_true.1 h b (List.mem_of_mem_take hb)
set_option maxHeartbeats 4000000 in
theorem walk_c (x:ChV) (l:Bs) (n c nid:Nat) (hc:c+11≤nid) (hl:l.all oneBit=true) (hll:l.length≤1000000) (hx:ChOk n x) (hn0:0<n) (hn:n≤3) :
  ACall Tryz.prog 126 [.ptr c 0,.str l] (chH c x) nid (.tup []) (chH c (walkV nextN x l)):=by
 have hok:∀ k,ChOk n (walkV nextN x (l.take k)):=fun k=>walk_ok (fun s t hs ht=>nextN_lt hs ht) hx (take_bits hl k)
 have hsc:∀ (y:ChV),ChOk n y→∀ m,c+11≤m→Scoped m (chH c y):=fun y hy m hm=>chainH_scoped c m y.st y.P (by rw [hy.len]; exact hn) hm
 have hks:∀ (y z:ChV),ChOk n y→ChOk n z→keys (chH c y)=keys (chH c z):=fun y z hy hz=>chainH_keys c _ _ _ _ (by rw [hy.len,hz.len])
 have htk:=fun k (hk:k<l.length) m (hm:c+11≤m)=>tick_c (walkV nextN x (l.take k)) (bitM (l.getD k 0)) 48 n c m hm (bitM_lt (bits_at hl hk)).1 (by decide) (hok k) hn0 hn
 have g:=id_row hc (by omega)
 refine acall_sr c126 (by simp [a126]) ?_
 unfold a126
 have h0:walkV nextN x (l.take 0)=x:=rfl
 refine SR.run (t:=.mk) ?_
 simp -dsimp only [aqA,↓seqK,↓blkK,↓loopK,step,stepBin,eqB,Nat.add_assoc nid,↓reduceIte,simprocAttr,LN_succ,g]
 refine LP.mkP (fun k:Nat=>k≤l.length) (fun k=>⟨[(7,.int .i64 k),(6,.int .i64 l.length),(1,.str l),(0,.ptr c 0)],chH c (walkV nextN x (l.take k)),nid+100,nid⟩) (fun k=>l.length+1 - k) 0 (by omega) ?_ (fun k hk=>?_)
 ·rw [h0]
  refine Cov.sub (by omega) (by simp only [SlotsIn,aqA,↓seqK,↓blkK,↓loopK,step,stepBin,eqB,Nat.reduceBEq,Nat.reduceBeqDiff,Nat.add_assoc nid,Nat.reduceAdd,reduceCtorEq,↓reduceIte,Nat.reduceLeDiff,Nat.reduceBneDiff,Nat.reduceLT]; try simp) (subH_refl _)
 simp -dsimp only [aqA,↓seqK,↓blkK,↓loopK,step,stepBin,eqB,Nat.add_assoc nid,↓reduceIte,simprocAttr,LN_succ,g]
 refine S2.dec (fun h3=>?_) (fun h3=>?_) <;> simp -dsimp only [aqA,↓seqK,↓blkK,↓loopK,step,stepBin,eqB,Nat.add_assoc nid,↓reduceIte,simprocAttr,LN_succ,g]
 ·have hkl:k<l.length:=by omega
  have hb:=bits_at hl hkl
  have ht:=htk k hkl
  rw [← walkV_take hkl] at ht
  rw [show (bitM 48:Nat)=0 from rfl] at ht
  have hsk:=hsc _ (hok k)
  generalize hH:chH c (walkV nextN x (l.take k))=Hs at *
  rw [bitW8 hb]
  refine ⟨⟨by omega,by omega⟩,CallO.on (ht _ (by omega)) (subH_refl _) ?_⟩
  simp -dsimp only [aqA,↓seqK,↓blkK,↓loopK,step,stepBin,eqB,Nat.add_assoc nid,↓reduceIte,simprocAttr,LN_succ,g]
  refine ⟨by unfold inI64; omega,k+1,⟨by omega,by omega⟩,?_⟩
  refine Cov.whole (hsc _ (hok (k+1)) _ hc) (subH_front _ _) (by omega) ?_
  simp [cvT,step,res,g]
 ·have hkn:k=l.length:=by omega
  rw [hkn,List.take_length] at *
  refine RetOK.whole (.inr rfl) (hsc _ (by have:=hok l.length; rwa [List.take_length] at this) _ hc) (fun id hid=>?_) (subH_refl _) ?_
  ·rw [hks _ x (by have:=hok l.length; rwa [List.take_length] at this) hx]; exact hid
  ·simp [cvT,step,res]
end Go.Proofs.YtahjohieahehjaaGreatDoor
namespace Go.Proofs.YtahjohieahehjaaGreatDoor
def bitsFaultV (s:List UInt8):Int:=if 20000<s.length then 2 else if bitsOk s=true then 0 else 9
theorem bitsFaultV_ok {s:List UInt8} (h:bitsFaultV s=0):s.length≤20000∧bitsOk s=true:=by
 unfold bitsFaultV at h
 split at h
 ·cases h
 ·split at h
  ·exact ⟨by omega,by assumption⟩
  ·cases h
end Go.Proofs.YtahjohieahehjaaGreatDoor
namespace Go.Proofs.YtahjohieahehjaaGreatDoor
open Go.RowKit
def tmsAt (n k:Nat):Nat:=if k+1=n then 1 else 0
def feedV (x:ChV) (l:Bs):Nat→ChV
 | 0=>x
 | k+1=>tickV nextN (feedV x l k) (tmsAt l.length k) (l.getD k 0)
def feedO (x:ChV) (l:Bs) (k:Nat):UInt8:=tickO (feedV x l k) (l.getD k 0)
def scan1 (x:ChV) (T:Nat):ChV:=walkV nextN x (pathV x.st T)
def scanV (x:ChV) (T:Nat) (l:Bs):ChV:=walkV nextN (feedV (scan1 x T) l l.length) [49,48]
def scanO (x:ChV) (T:Nat) (l:Bs):Bs:=(List.range l.length).map (feedO (scan1 x T) l)
theorem walkV_st (x:ChV):∀ (l:Bs),(walkV nextN x l).st=l.foldl (fun a b=>nextN a (bitM b)) x.st:=by
 intro l
 induction l generalizing x with
 | nil=>rfl
 | cons b l ih=>exact ih (tickV nextN x (bitM b) 48)
theorem way_all:∀ s,s<2→∀ T,T=4∨T=11→(pathV s T).foldl (fun a b=>nextN a (bitM b)) s=T∧(pathV s T).all oneBit=true∧(pathV s T).length≤20:=by
 intro s hs T hT
 have:s=0∨s=1:=by omega
 rcases this with rfl | rfl <;> rcases hT with rfl | rfl <;> decide
theorem tmsAt_lt (n k:Nat):tmsAt n k<2:=by unfold tmsAt; split <;> omega
theorem feed_ok {n:Nat} {x:ChV} {l:Bs} (h:ChOk n x) (hl:l.all oneBit=true):∀ k,k≤l.length→ChOk n (feedV x l k)
 | 0,_=>h
 | k+1,hk=>tick_ok (fun s t hs ht=>nextN_lt hs ht) (feed_ok h hl k (by omega)) (tmsAt_lt _ _) (bits_at hl (by omega))
theorem feed_st {x:ChV} {l:Bs} {T:Nat} (hx:x.st=T) (hT:T=4∨T=11):∀ k,k<l.length→(feedV x l k).st=T
 | 0,_=>hx
 | k+1,hk=>by
  show nextN (feedV x l k).st (tmsAt l.length k)=T
  rw [feed_st hx hT k (by omega)]
  have:tmsAt l.length k=0:=by unfold tmsAt; rw [if_neg (by omega)]
  rw [this]
  rcases hT with rfl | rfl <;> rfl
theorem scan1_ok {n T:Nat} {x:ChV} (h:ChOk n x) (hs:x.st<2) (hT:T=4∨T=11):ChOk n (scan1 x T)∧(scan1 x T).st=T:=by
 obtain ⟨w1,w2,w3⟩:=way_all x.st hs T hT
 exact ⟨walk_ok (fun s t hs ht=>nextN_lt hs ht) h w2,by unfold scan1; rw [walkV_st]; exact w1⟩
theorem scanV_ok {n T:Nat} {x:ChV} {l:Bs} (h:ChOk n x) (hs:x.st<2) (hT:T=4∨T=11) (hl:l.all oneBit=true):ChOk n (scanV x T l) :=
 walk_ok (fun s t hs ht=>nextN_lt hs ht) (feed_ok (scan1_ok h hs hT).1 hl _ (Nat.le_refl _)) (by decide)
theorem subH_mix {b:Nat} {Hs R:Heap} {k:Nat} {A:ABlk} (E:Heap) (hs:Scoped b Hs) (hE:E.all (fun x=>decide (b≤x.1))=true) (hk:getH E k=some A):subH ((k,some A)::Hs) (E++(Hs++R)):=fun id y hy=>by
 have hkE:∀ id,(keys E).contains id=true→b≤id:=fun id h=>by
  simp only [keys,List.contains_iff_mem,List.mem_map] at h
  obtain ⟨x,hx,rfl⟩:=h
  have:=List.all_eq_true.1 hE x hx
  simpa using this
 simp only [getH] at hy
 rw [getH_appC]
 cases e:(k==id)
 ·rw [e] at hy
  simp only [cond_false] at hy
  have hlt:=hs.lt id (by simpa using getH_key hy)
  cases hc:(keys E).contains id
  ·simp only [cond_false]
   exact subH_front Hs R id y hy
  ·have:=hkE id hc
   omega
 ·rw [e] at hy
  simp only [cond_true] at hy
  have e':=eq_of_beq e
  subst e'
  rw [getH_key hk]
  simp only [cond_true]
  rw [hk]
  exact hy
theorem Cov.heap {s:Slots} {H H':Heap} {n b:Nat} (hH:subH H' H):Cov ⟨s,H,n,b⟩ ⟨s,H',n,b⟩:=fun C nt Y m a w h =>
 ⟨Y,m,h.size,h.defers,h.slots,HSF.some_sub h.heap hH,h.base⟩
theorem bitsFaultT_c (s:List UInt8) (nid:Nat) (hs:s.length≤1099511627776):ACall Tryz.prog 69 [.str s] [] nid (.int .i64 (bitsFaultV s)) []:=by
 refine acall_run c69 (by simp [a69]) ?_
 simp -dsimp only [aqA,↓seqK,↓blkK,↓loopK,step,stepBin,eqB,Nat.reduceBEq,Nat.reduceBeqDiff,Nat.add_assoc nid,Nat.reduceAdd,reduceCtorEq,↓reduceIte,Nat.reduceLeDiff,Nat.reduceBneDiff,Nat.reduceLT,a69]
 refine S2.dec (fun h=>?_) (fun h=>?_) <;> simp -dsimp only [aqA,↓seqK,↓blkK,↓loopK,step,stepBin,eqB,Nat.reduceBEq,Nat.reduceBeqDiff,Nat.add_assoc nid,Nat.reduceAdd,reduceCtorEq,↓reduceIte,Nat.reduceLeDiff,Nat.reduceBneDiff,Nat.reduceLT]
 ·have e:bitsFaultV s=2:=by unfold bitsFaultV; rw [if_pos (by omega)]
  rw [e]
  refine RetOK.pure (.inl rfl) rfl ?_
  simp [cvT,step,res]
 have e:bitsFaultV s=if bitsOk s=true then 0 else 9:=by unfold bitsFaultV; rw [if_neg (by omega)]
 rw [e]
 refine CallO.pure (bits_c s _ hs) ?_
 simp -dsimp only [aqA,↓seqK,↓blkK,↓loopK,step,stepBin,eqB,Nat.reduceBEq,Nat.reduceBeqDiff,Nat.add_assoc nid,Nat.reduceAdd,reduceCtorEq,↓reduceIte,Nat.reduceLeDiff,Nat.reduceBneDiff,Nat.reduceLT]
 cases hb:bitsOk s <;> simp -dsimp only [aqA,↓seqK,↓blkK,↓loopK,step,stepBin,eqB,Nat.reduceBEq,Nat.reduceBeqDiff,Nat.add_assoc nid,Nat.reduceAdd,reduceCtorEq,↓reduceIte,Nat.reduceLeDiff,Nat.reduceBneDiff,Nat.reduceLT]
 ·refine RetOK.pure (.inl rfl) rfl ?_
  simp [cvT,step,res]
 ·refine RetOK.pure (.inl rfl) rfl ?_
  simp [cvT,step,res]
theorem outByte {b:UInt8} (hb:oneBit b=true):IntKind.u8.wrap (48+((bitM b:Nat):Int))=(b.toNat:Nat):=by
 unfold oneBit at hb
 simp only [Bool.or_eq_true,beq_iff_eq] at hb
 rcases hb with rfl | rfl <;> rfl
theorem bits_ok {l:Bs} (h:bitsFaultV l=0):l.all oneBit=true∧l.length≤20000:=by
 obtain ⟨h1,h2⟩:=bitsFaultV_ok h
 exact ⟨h2,h1⟩
set_option maxHeartbeats 8000000 in
theorem scan_c (x:ChV) (T:Nat) (l:Bs) (n c nid:Nat) (hc:c+11≤nid) (hx:ChOk n x) (hs:x.st<2) (hT:T=4∨T=11) (h0:0<l.length) (hf:bitsFaultV l=0) (hn0:0<n) (hn:n≤3) :
  ACall Tryz.prog 85 [.ptr c 0,.int .i64 (T:Nat),.str l] (chH c x) nid (.tup [.str (scanO x T l),.int .i64 0]) (chH c (scanV x T l)):=by
 obtain ⟨hl,hll⟩:=bits_ok hf
 obtain ⟨hok1,hst1⟩:=scan1_ok hx hs hT
 obtain ⟨w1,w2,w3⟩:=way_all x.st hs T hT
 have hsc:∀ (y:ChV),ChOk n y→∀ m,c+11≤m→Scoped m (chH c y):=fun y hy m hm=>chainH_scoped c m y.st y.P (by rw [hy.len]; exact hn) hm
 have hks:∀ (y z:ChV),ChOk n y→ChOk n z→keys (chH c y)=keys (chH c z):=fun y z hy hz=>chainH_keys c _ _ _ _ (by rw [hy.len,hz.len])
 have hokV:=scanV_ok hx hs hT hl
 have hfo:=fun k hk=>feed_ok hok1 hl k hk
 have g:=id_row hc (by omega)
 refine acall_sr c85 (by simp [a85]) ?_
 unfold a85
 have hbf:=fun m=>bitsFaultT_c l m (by omega)
 rw [hf] at hbf
 have hpt:=fun m=>path_st x.st T m hx.st
 have hwk:=fun m (hm:c+11≤m)=>walk_c x (pathV x.st T) n c m hm w2 (by omega) hx hn0 hn
 refine SR.seq ?_
 simp -dsimp only [aqA,↓seqK,↓blkK,↓loopK,step,stepBin,eqB,Nat.add_assoc nid,↓reduceIte,simprocAttr,LN_succ,g]
 refine SR.seqTo ⟨[(0,.ptr c 0),(1,.int .i64 (T:Nat)),(2,.str l)],chH c x,nid+100,nid⟩ ?_ ?_
 ·unfold chH chainH chB
  simp -dsimp only [aqA,↓seqK,↓blkK,↓loopK,step,stepBin,eqB,Nat.add_assoc nid,↓reduceIte,simprocAttr,LN_succ,g]
  have hst2:x.st=0∨x.st=1:=by omega
  have hb:(((x.st:Nat):Int) != 1)=false∨((((x.st:Nat):Int) != 1)=true∧(((x.st:Nat):Int) != 0)=false):=by
   rcases hst2 with h | h <;> rw [h]
   ·exact .inr ⟨rfl,rfl⟩
   ·exact .inl rfl
  have hend:∀ (s:Slots) (m:Nat),getS s 0=.ptr c 0→getS s 1=.int .i64 (T:Nat)→getS s 2=.str l→Cov ⟨s,(c,some (.box 95 [.int .i64 (x.st:Nat),.sl (c+1) 0 x.P.length]))::(c+1,some (.arr 98 x.P.length [.q fun k=>c+2+3 * k]))::portsH (c+2) x.P,m,nid⟩ ⟨[(0,.ptr c 0),(1,.int .i64 (T:Nat)),(2,.str l)],chH c x,nid+100,nid⟩:=fun s m h1 h2 h3=>by
   refine Cov.whole (hsc x hx _ hc) (subH_refl _) (by omega) ?_
   simp [cvT,step,res,g,h1,h2,h3]
  rcases hb with hb | ⟨hb,hb'⟩
  ·simp -dsimp only [aqA,↓seqK,↓blkK,↓loopK,step,stepBin,eqB,Nat.add_assoc nid,↓reduceIte,simprocAttr,LN_succ,g,hb]
   refine S2.intro (fun h=>absurd h0 (by simp at h; simp [h])) (fun h=>?_)
   simp -dsimp only [aqA,↓seqK,↓blkK,↓loopK,step,stepBin,eqB,Nat.add_assoc nid,↓reduceIte,simprocAttr,LN_succ,g]
   exact hend _ _ rfl rfl rfl
  ·simp -dsimp only [aqA,↓seqK,↓blkK,↓loopK,step,stepBin,eqB,Nat.add_assoc nid,↓reduceIte,simprocAttr,LN_succ,g,hb,hb']
   refine S2.intro (fun h=>absurd h0 (by simp at h; simp [h])) (fun h=>?_)
   simp -dsimp only [aqA,↓seqK,↓blkK,↓loopK,step,stepBin,eqB,Nat.add_assoc nid,↓reduceIte,simprocAttr,LN_succ,g]
   exact hend _ _ rfl rfl rfl
 refine SR.seqTo ⟨[(0,.ptr c 0),(1,.int .i64 (T:Nat)),(2,.str l)],chH c x,nid+200,nid⟩ ?_ ?_
 ·have hsx:=hsc x hx
  generalize chH c x=Hs at *
  simp -dsimp only [aqA,↓seqK,↓blkK,↓loopK,step,stepBin,eqB,Nat.add_assoc nid,↓reduceIte,simprocAttr,LN_succ,g]
  refine CallO.pure (hbf _) ?_
  simp -dsimp only [aqA,↓seqK,↓blkK,↓loopK,step,stepBin,eqB,Nat.add_assoc nid,↓reduceIte,simprocAttr,LN_succ,g]
  refine Cov.whole (hsx _ hc) (subH_refl _) (by omega) ?_
  simp [cvT,step,res,g]
 refine SR.seqTo ⟨[(0,.ptr c 0),(2,.str l)],chH c (scan1 x T),nid+300,nid⟩ ?_ ?_
 ·have hs1:=hsc (scan1 x T) hok1
  have hwk':=fun m hm=>hwk m hm
  unfold scan1 at hs1 ⊢
  have hld:getH (chH c x) c=some (.box 95 [.int .i64 (x.st:Nat),.sl (c+1) 0 x.P.length]):=by
   unfold chH chainH chB
   simp only [aqA,↓seqK,↓blkK,↓loopK,step,stepBin,eqB,Nat.add_assoc nid,↓reduceIte,simprocAttr,LN_succ]
  generalize chH c x=Hs at *
  simp -dsimp only [aqA,↓seqK,↓blkK,↓loopK,step,stepBin,eqB,Nat.add_assoc nid,↓reduceIte,simprocAttr,LN_succ,g,hld]
  refine CallO.pure (hpt _) ?_
  simp -dsimp only [aqA,↓seqK,↓blkK,↓loopK,step,stepBin,eqB,Nat.add_assoc nid,↓reduceIte,simprocAttr,LN_succ,g,hld]
  refine CallO.on (hwk _ (by omega)) (subH_refl _) ?_
  simp -dsimp only [aqA,↓seqK,↓blkK,↓loopK,step,stepBin,eqB,Nat.add_assoc nid,↓reduceIte,simprocAttr,LN_succ,g,hld]
  refine Cov.whole (hs1 _ hc) (subH_front _ _) (by omega) ?_
  simp [cvT,step,res,g]
 have hx1:scan1 x T=scan1 x T:=rfl
 unfold scanO scanV
 generalize scan1 x T=y at *
 have htk:=fun k (hk:k<l.length) m (hm:c+11≤m)=>tick_c (feedV y l k) (tmsAt l.length k) (l.getD k 0) n c m hm (tmsAt_lt _ _) (bits_at hl hk) (hfo k (by omega)) hn0 hn
 refine SR.seq ?_
 simp -dsimp only [aqA,↓seqK,↓blkK,↓loopK,step,stepBin,eqB,Nat.add_assoc nid,↓reduceIte,simprocAttr,LN_succ,g]
 refine SR.seqTo ⟨[(9,.sl (nid+200) 0 l.length),(0,.ptr c 0)],(nid+200,some (.arr 5 l.length [.i .u8 fun j=>((feedO y l j).toNat:Nat)]))::chH c (feedV y l l.length),nid+2000,nid⟩ ?_ ?_
 ·have hsy:=hsc y hok1
  simp -dsimp only [aqA,↓seqK,↓blkK,↓loopK,step,stepBin,eqB,Nat.add_assoc nid,↓reduceIte,simprocAttr,LN_succ,g]
  refine LP.mkP (fun k:Nat=>k≤l.length) (fun k=>⟨[(9,.sl (nid+200) 0 k),(43,.int .i64 k),(42,.int .i64 l.length),(2,.str l),(0,.ptr c 0)],(nid+200,some (.arr 5 k [.i .u8 fun j=>((feedO y l j).toNat:Nat)]))::chH c (feedV y l k),nid+1000,nid⟩) (fun k=>l.length+1 - k) 0 (by omega) ?_ (fun k hk=>?_)
  ·refine Cov.goF (chH c y) [] [(nid+200,_)] [] [(nid+200,1)] (hsy _ hc) (by simp [kOK]) rfl ?_
   simp [cvT,step,res,g]
  simp -dsimp only [aqA,↓seqK,↓blkK,↓loopK,step,stepBin,eqB,Nat.add_assoc nid,↓reduceIte,simprocAttr,LN_succ,g]
  refine S2.dec (fun h3=>?_) (fun h3=>?_) <;> simp -dsimp only [aqA,↓seqK,↓blkK,↓loopK,step,stepBin,eqB,Nat.add_assoc nid,↓reduceIte,simprocAttr,LN_succ,g]
  ·have hkl:k<l.length:=by omega
   have hb:=bits_at hl hkl
   have hst:=feed_st hst1 hT k hkl
   have hob:oneBit (feedO y l k)=true:=(clockP_V (hfo k (by omega)).ok hb).2
   have hO:outB1 (feedV y l k).st (tickO (feedV y l k) (l.getD k 0))=((bitM (feedO y l k):Nat):Int):=by
    unfold outB1 shifts
    rw [hst]
    rcases hT with rfl | rfl <;> rfl
   have hbl:=bitM_lt hob
   have hob2:=outByte hob
   have ht:=htk k hkl
   rw [hO] at ht
   have hsk:=hsc _ (hfo k (by omega))
   have hsk1:=hsc _ (hfo (k+1) (by omega))
   have hf1:chH c (tickV nextN (feedV y l k) (tmsAt l.length k) (l.getD k 0))=chH c (feedV y l (k+1)):=rfl
   rw [hf1] at ht
   have htm:(((k:Nat):Int)==((l.length:Nat):Int) - 1)=decide (k+1=l.length):=by
    rw [Bool.eq_iff_iff,beq_iff_eq,decide_eq_true_eq]
    omega
   generalize hH:chH c (feedV y l k)=Hs at *
   generalize hH1:chH c (feedV y l (k+1))=Hs1 at *
   have hg:∀ A:Option ABlk,getH (Hs1++(nid+200,A)::Hs) (nid+200)=A:=fun A=>by
    rw [getH_appC]
    cases hk:(keys Hs1).contains (nid+200)
    ·simp [getH]
    ·have:=(hsk1 nid hc).lt (nid+200) (by simpa using hk)
     omega
   refine ⟨by unfold inI64; omega,?_⟩
   have hcol:ColEq (k+1) (.i .u8 fun i=>if i<k then ((feedO y l i).toNat:Nat) else [IntKind.u8.wrap (48+((bitM (feedO y l k):Nat):Int))].getD (i - k) 0) (.i .u8 fun j=>((feedO y l j).toNat:Nat)):=ColEq.i fun j hj=>by
    by_cases hjk:j<k
    ·rw [if_pos hjk]
    ·have e:j=k:=by omega
     rw [if_neg hjk,e,Nat.sub_self,hob2]
     rfl
   by_cases hlast:k+1=l.length
   ·have e1:tmsAt l.length k=1:=by unfold tmsAt; rw [if_pos hlast]
    rw [e1] at ht
    rw [decide_eq_true hlast] at htm
    rw [htm]
    simp -dsimp only [aqA,↓seqK,↓blkK,↓loopK,step,stepBin,eqB,Nat.add_assoc nid,↓reduceIte,simprocAttr,LN_succ,g]
    rw [bitW8 hb]
    refine ⟨⟨by omega,by omega⟩,CallO.on (ht _ (by omega)) (subH_frame (X:=[(nid+200,_)]) (hsk nid hc) (by simp [kOK])) ?_⟩
    simp -dsimp only [aqA,↓seqK,↓blkK,↓loopK,step,stepBin,eqB,Nat.add_assoc nid,↓reduceIte,simprocAttr,LN_succ,g,hg]
    refine ⟨by unfold inI64; omega,⟨by omega,by omega⟩,by unfold inI64; omega,k+1,⟨by omega,by omega⟩,?_⟩
    rw [hH1]
    show Cov ⟨_,[_,_,_]++(Hs1++_),_,_⟩ _
    refine Cov.trans (Cov.heap (subH_mix (b:=nid) (k:=nid+1088) (A:=.arr 5 (k+1) [.i .u8 fun i=>if i<k then ((feedO y l i).toNat:Nat) else [IntKind.u8.wrap (48+((bitM (feedO y l k):Nat):Int))].getD (i - k) 0]) _ (hsk1 nid hc) (by simp) (by simp only [aqA,↓seqK,↓blkK,↓loopK,step,stepBin,eqB,Nat.add_assoc nid,↓reduceIte,simprocAttr,LN_succ]))) (Cov.goF Hs1 [(nid+1088,_)] [(nid+200,_)] [(nid+200,nid+1088)] [] (hsk1 nid hc) (by simp [kOK]) (by simp) ?_)
    simp [cvT,step,res,g]
    exact hcol
   ·have e1:tmsAt l.length k=0:=by unfold tmsAt; rw [if_neg hlast]
    rw [e1] at ht
    rw [decide_eq_false hlast] at htm
    rw [htm]
    simp -dsimp only [aqA,↓seqK,↓blkK,↓loopK,step,stepBin,eqB,Nat.add_assoc nid,↓reduceIte,simprocAttr,LN_succ,g]
    rw [bitW8 hb]
    refine ⟨⟨by omega,by omega⟩,CallO.on (ht _ (by omega)) (subH_frame (X:=[(nid+200,_)]) (hsk nid hc) (by simp [kOK])) ?_⟩
    simp -dsimp only [aqA,↓seqK,↓blkK,↓loopK,step,stepBin,eqB,Nat.add_assoc nid,↓reduceIte,simprocAttr,LN_succ,g,hg]
    refine ⟨by unfold inI64; omega,⟨by omega,by omega⟩,by unfold inI64; omega,k+1,⟨by omega,by omega⟩,?_⟩
    rw [hH1]
    show Cov ⟨_,[_,_,_]++(Hs1++_),_,_⟩ _
    refine Cov.trans (Cov.heap (subH_mix (b:=nid) (k:=nid+1084) (A:=.arr 5 (k+1) [.i .u8 fun i=>if i<k then ((feedO y l i).toNat:Nat) else [IntKind.u8.wrap (48+((bitM (feedO y l k):Nat):Int))].getD (i - k) 0]) _ (hsk1 nid hc) (by simp) (by simp only [aqA,↓seqK,↓blkK,↓loopK,step,stepBin,eqB,Nat.add_assoc nid,↓reduceIte,simprocAttr,LN_succ]))) (Cov.goF Hs1 [(nid+1084,_)] [(nid+200,_)] [(nid+200,nid+1084)] [] (hsk1 nid hc) (by simp [kOK]) (by simp) ?_)
    simp [cvT,step,res,g]
    exact hcol
  ·have hkl:k=l.length:=by omega
   subst hkl
   refine Cov.goF (chH c (feedV y l l.length)) [(nid+200,_)] [(nid+200,_)] [] [] (hsc _ (hfo _ (Nat.le_refl _)) _ hc) (by simp [kOK]) rfl ?_
   simp [cvT,step,res,g]
 have hoky:=hfo l.length (Nat.le_refl _)
 have hok2:ChOk n (walkV nextN (feedV y l l.length) [49,48]):=walk_ok (fun s t hs ht=>nextN_lt hs ht) hoky (by decide)
 have hwk2:=fun m (hm:c+11≤m)=>walk_c (feedV y l l.length) [49,48] n c m hm (by decide) (by simp) hoky hn0 hn
 have hk2:=hks x _ hx hok2
 have hs1:=hsc _ hoky
 have hs2:=hsc _ hok2
 have hout:(List.range l.length).map (fun i=>UInt8.ofNat (feedO y l i).toNat)=(List.range l.length).map (feedO y l):=List.map_congr_left fun i _=>UInt8.ofNat_toNat
 generalize chH c (walkV nextN (feedV y l l.length) [49,48])=Hs2 at *
 generalize chH c (feedV y l l.length)=Hs1 at *
 have hg:∀ A:Option ABlk,getH (Hs2++(nid+200,A)::Hs1) (nid+200)=A:=fun A=>by
  rw [getH_appC]
  cases hk:(keys Hs2).contains (nid+200)
  ·simp [getH]
  ·have:=(hs2 nid hc).lt (nid+200) (by simpa using hk)
   omega
 refine SR.run (t:=.mk) ?_
 simp -dsimp only [aqA,↓seqK,↓blkK,↓loopK,step,stepBin,eqB,Nat.add_assoc nid,↓reduceIte,simprocAttr,LN_succ,g]
 refine CallO.on (hwk2 _ (by omega)) (subH_frame (X:=[(nid+200,_)]) (hs1 nid hc) (by simp [kOK])) ?_
 simp -dsimp only [aqA,↓seqK,↓blkK,↓loopK,step,stepBin,eqB,Nat.add_assoc nid,↓reduceIte,simprocAttr,LN_succ,g,hg]
 refine RetOK.whole (.inl rfl) (hs2 nid hc) (fun id hid=>by rw [← hk2]; exact hid) (subH_front _ _) ?_
 simp [a85,cvT,step,res,hout]
end Go.Proofs.YtahjohieahehjaaGreatDoor
namespace Go.Proofs.YtahjohieahehjaaGreatDoor
open Go.RowKit
theorem cloneRg_c (nl:Bool) (R:List (Bs × Int)) (nid:Nat) (hR:R.length≤1000):ACall Tryz.prog 73 [litRg nl R] [] nid (.sl nid 0 R.length) [(nid,arrRg R)]:=by
 refine ACall.nonnil 0 rfl (fun hnl=>?_)
 refine acall_run c73 (by simp [a73]) ?_
 unfold litRg
 simp -dsimp only [aqA,↓seqK,↓blkK,↓loopK,step,stepBin,eqB,Nat.add_assoc nid,↓reduceIte,simprocAttr,LN_succ,a73]
 refine S2.intro (fun h=>?_) (fun h=>?_)
 ·simp -dsimp only [aqA,↓seqK,↓blkK,↓loopK,step,stepBin,eqB,Nat.add_assoc nid,↓reduceIte,simprocAttr,LN_succ]
  have hR0:R=[]:=List.eq_nil_of_length_eq_zero (hnl h)
  subst hR0
  refine RetOK.go [] [(nid,2)] (.inl rfl) ?_
  simp [a73,cvT,step,res,arrRg]
 ·simp -dsimp only [aqA,↓seqK,↓blkK,↓loopK,step,stepBin,eqB,Nat.add_assoc nid,↓reduceIte,simprocAttr,LN_succ]
  refine ⟨⟨by omega,by omega⟩,RetOK.go [(nid,nid+20)] [] (.inl rfl) ?_⟩
  simp [a73,cvT,step,res,arrRg,-List.getD_eq_getElem?_getD]
theorem cloneIn_c (nl:Bool) (R:List (Bs × Bs)) (nid:Nat) (hR:R.length≤1000):ACall Tryz.prog 74 [litIn nl R] [] nid (.sl nid 0 R.length) [(nid,arrIn R)]:=by
 refine ACall.nonnil 0 rfl (fun hnl=>?_)
 refine acall_run c74 (by simp [a74]) ?_
 unfold litIn
 simp -dsimp only [aqA,↓seqK,↓blkK,↓loopK,step,stepBin,eqB,Nat.add_assoc nid,↓reduceIte,simprocAttr,LN_succ,a74]
 refine S2.intro (fun h=>?_) (fun h=>?_)
 ·simp -dsimp only [aqA,↓seqK,↓blkK,↓loopK,step,stepBin,eqB,Nat.add_assoc nid,↓reduceIte,simprocAttr,LN_succ]
  have hR0:R=[]:=List.eq_nil_of_length_eq_zero (hnl h)
  subst hR0
  refine RetOK.go [] [(nid,2)] (.inl rfl) ?_
  simp [a74,cvT,step,res,arrIn]
 ·simp -dsimp only [aqA,↓seqK,↓blkK,↓loopK,step,stepBin,eqB,Nat.add_assoc nid,↓reduceIte,simprocAttr,LN_succ]
  refine ⟨⟨by omega,by omega⟩,RetOK.go [(nid,nid+20)] [] (.inl rfl) ?_⟩
  simp [a74,cvT,step,res,arrIn,-List.getD_eq_getElem?_getD]
mutual
theorem lend_out (H:Heap) (G:List Nat) (nl:Nat→Bool):∀ p:PV,(∀ id∈idsOf p,id ∉ G)→lend H G nl p=p
 | .sl id off n,h=>by
  have:G.contains id=false:=by simpa using h id (by simp [idsOf])
  simp only [lend,this,Bool.false_and,cond_false]
 | .agg ps,h=>by
  simp only [lend]
  rw [lends_out H G nl ps h]
 | .int _ _,_=>rfl
 | .bool _,_=>rfl
 | .str _,_=>rfl
 | .lit _ _ _,_=>rfl
 | .ptr _ _,_=>rfl
 | .nilp,_=>rfl
 | .nili,_=>rfl
 | .elp _ _,_=>rfl
 | .arp _ _ _,_=>rfl
 | .arv _,_=>rfl
 | .tup _,_=>rfl
 | .fn _ _,_=>rfl
 | .mp _,_=>rfl
 | .stp _,_=>rfl
 | .any,_=>rfl
theorem lends_out (H:Heap) (G:List Nat) (nl:Nat→Bool):∀ ps:List PV,(∀ id∈idsOfs ps,id ∉ G)→lends H G nl ps=ps
 | [],_=>rfl
 | p::ps,h=>by
  simp only [lends]
  rw [lend_out H G nl p fun id hid=>h id (by simp [idsOfs,hid]),lends_out H G nl ps fun id hid=>h id (by simp [idsOfs,hid])]
end
theorem frzH_low {c:Nat} (H:Heap) (G:List Nat) (nl:Nat→Bool) (hG:∀ g∈G,c≤g):∀ F:Heap,(∀ x∈F,lowBlk c x.2=true)→frzH H G nl F=F
 | [],_=>rfl
 | (i,none)::F,h=>by
  simp only [frzH]
  rw [frzH_low H G nl hG F fun x hx=>h x (List.mem_cons_of_mem _ hx)]
 | (i,some b)::F,h=>by
  simp only [frzH]
  rw [frzH_low H G nl hG F fun x hx=>h x (List.mem_cons_of_mem _ hx)]
  have hb:=h _ List.mem_cons_self
  cases b with
  | box T cs =>
   have:lends H G nl cs=cs:=lends_out H G nl cs fun id hid hg=>by
    have hb':lowAll c (idsOfs cs)=true:=hb
    have h1:=List.all_eq_true.1 hb' id hid
    simp only [decide_eq_true_eq] at h1
    have:=hG id hg
    omega
   simp only [frzBlk,this]
  | arr T n cols=>rfl
  | map kk dom cc=>rfl
  | mape kk dom cc q sid=>rfl
def mapD (R:List (Bs × Int)) (q:MK):Bool:=R.any fun r=>decide (q=.s r.1)
def mapV (R:List (Bs × Int)) (q:MK):Bs:=R.foldl (fun v r=>if q=.s r.1 then Lib.repeatL [48] r.2.toNat else v) []
theorem mapD_snoc (R:List (Bs × Int)) (r:Bs × Int) (q:MK):mapD (R++[r]) q=if q=.s r.1 then true else mapD R q:=by
 unfold mapD
 rw [List.any_append]
 by_cases h:q=.s r.1 <;> simp [h]
theorem mapV_snoc (R:List (Bs × Int)) (r:Bs × Int) (q:MK):mapV (R++[r]) q=if q=.s r.1 then Lib.repeatL [48] r.2.toNat else mapV R q:=by
 unfold mapV
 rw [List.foldl_append]
 rfl
def port0 (d:Dev) (b1 b2:Bool):Port:=⟨d,b1,b2,[],[48],mapD d.regs,mapV d.regs,mapD d.regs,mapV d.regs⟩
def portsK (D:List Dev) (f:(Nat→Bool) × (Nat→Bool)) (k:Nat):List Port:=(List.range k).map fun j=>port0 (D.getD j dev0) (f.1 j) (f.2 j)
theorem portsK_len (D:List Dev) (f:(Nat→Bool) × (Nat→Bool)) (k:Nat):(portsK D f k).length=k:=by simp [portsK]
theorem portsH_app (i:Nat):∀ (P Q:List Port),portsH i (P++Q)=portsH i P++portsH (i+3 * P.length) Q:=by
 intro P
 induction P generalizing i with
 | nil=>intro Q; rfl
 | cons p P ih =>
  intro Q
  simp only [portsH,List.cons_append,List.length_cons]
  rw [ih (i+3) Q]
  rw [show i+3+3 * P.length=i+3 * (P.length+1) by omega]
theorem portsH_ge:∀ (P:List Port) (i:Nat),∀ x∈portsH i P,i≤x.1
 | [],i,x,hx=>by simp [portsH] at hx
 | p::P,i,x,hx=>by
  simp only [portsH,List.mem_cons] at hx
  rcases hx with rfl | rfl | rfl | hx
  ·exact Nat.le_refl _
  ·simp only; omega
  ·simp only; omega
  ·have:=portsH_ge P (i+3) x hx; omega
def setF (f:(Nat→Bool) × (Nat→Bool)) (k:Nat) (b1 b2:Bool):(Nat→Bool) × (Nat→Bool):=(fun j=>if j=k then b1 else f.1 j,fun j=>if j=k then b2 else f.2 j)
theorem portsK_succ (D:List Dev) (f:(Nat→Bool) × (Nat→Bool)) (k:Nat) (b1 b2:Bool):portsK D (setF f k b1 b2) (k+1)=portsK D f k++[port0 (D.getD k dev0) b1 b2]:=by
 unfold portsK
 rw [List.range_succ,List.map_append]
 congr 1
 ·refine List.map_congr_left fun j hj=>?_
  have:=List.mem_range.1 hj
  have hne:¬ j=k:=by omega
  simp [setF,hne]
 ·simp [setF]
theorem Cov.wholeG (c:Nat) {s1 s2:Slots} {n1 n2 b:Nat} {u Z:Heap} (hbc:b≤c) (hs:Scoped c u) (hZ:subH u Z) (hn:c≤n2) (h:SlotsCov n2 [] [] s1 s2):Cov ⟨s1,Z,n1,b⟩ ⟨s2,u,n2,b⟩ :=
 Cov.mk [] [] rfl (by simp only; omega) rfl rfl (frame_apart (b:=c) (hi:=n2) u [] hs rfl rfl rfl) (frame_lt (b:=c) (hi:=n2) u [] hs hn rfl) (HCov.whole hs hn hZ) h
theorem RetOKW.whole {k:Nat} {rs:List ARes} {nid:Nat} {r:PV} {e:AEx} {s:Slots} {n1 b1:Nat} {u Z:Heap} (he:e=.ret∨e=.normal) (hs:Scoped (nid+k) u) (hZ:subH u Z)
  (h:onAll (readAll ⟨s,Z,n1,b1⟩ rs) fun ps=>PVCov (nid+k) [] [] (retPV ps) r):RetOKW k rs [] nid r u e ⟨s,Z,n1,b1⟩:=by
 cases hp:readAll ⟨s,Z,n1,b1⟩ rs with
 | none=>rw [hp] at h; exact h.elim
 | some ps =>
  rw [hp] at h
  have hall:∃ (ren nils:List (Nat × Nat)) (H2:Heap),(∀ id,getH H2 id=getH (u++[]) id)∧inRange nid (nid+k) ren=true∧inRange nid (nid+k) nils=true∧apart ren nils (liveIds H2)=true∧(liveIds H2).all (fun id=>decide (id<nid+k))=true ∧
    HCov (nid+k) ren nils Z H2∧PVCov (nid+k) ren nils (retPV ps) r :=
   ⟨[],[],u,fun id=>by rw [List.append_nil],rfl,rfl,frame_apart (b:=nid+k) (hi:=nid+k) u [] hs rfl rfl rfl,frame_lt (b:=nid+k) (hi:=nid+k) u [] hs (Nat.le_refl _) rfl,HCov.whole hs (Nat.le_refl _) hZ,h⟩
  rcases he with rfl | rfl
  ·show onAll (readAll ⟨s,Z,n1,b1⟩ rs) _
   rw [hp]
   exact hall
  ·show onAll (readAll ⟨s,Z,n1,b1⟩ rs) _
   rw [hp]
   exact hall
set_option maxHeartbeats 16000000 in
theorem new_I (n0:Bool) (n1 n2:Nat→Bool) (D:List Dev) (nid:Nat) (hD1:1≤D.length) (hD:D.length≤3) (hS:∀ d∈D,DevS d∧∀ r∈d.regs,0≤r.2∧r.2≤1000) (he:devsE D=0) :
  ACallIW Tryz.prog 11 25 [.lit n0 D.length (devP n1 n2 D)] [] nid (fun _:(Nat→Bool) × (Nat→Bool)=>True) (fun _=>.tup [.ptr nid 0,.int .i64 0]) (fun f=>chainH nid 0 (portsK D f D.length)):=by
 have hck:=fun m=>checkDevices_c n0 n1 n2 D m (by omega) (fun d hd=>(hS d hd).1)
 rw [he] at hck
 refine acallIW_sr c25 (by simp [a25]) ?_
 unfold a25
 refine SR.seq ?_
 simp -dsimp only [aqA,↓seqK,↓blkK,↓loopK,step,stepBin,eqB,Nat.add_assoc nid,↓reduceIte,simprocAttr,LN_succ]
 refine SR.seqTo ⟨[(0,.lit n0 D.length (devP n1 n2 D))],[],nid+100,nid⟩ ?_ ?_
 ·simp -dsimp only [aqA,↓seqK,↓blkK,↓loopK,step,stepBin,eqB,Nat.add_assoc nid,↓reduceIte,simprocAttr,LN_succ]
  refine CallO.pure (hck _) ?_
  simp -dsimp only [aqA,↓seqK,↓blkK,↓loopK,step,stepBin,eqB,Nat.add_assoc nid,↓reduceIte,simprocAttr,LN_succ]
  refine Cov.go [] [] ?_
  simp [cvT,step,res,ColsEq.refl]
 refine SR.seqTo ⟨[(5,.ptr nid 0),(0,.lit n0 D.length (devP n1 n2 D))],[(nid,chB 0 (nid+1) 0),(nid+1,some (.arr 98 0 [.q fun k=>nid+2+3 * k]))],nid+200,nid⟩ ?_ ?_
 ·simp -dsimp only [aqA,↓seqK,↓blkK,↓loopK,step,stepBin,eqB,Nat.add_assoc nid,↓reduceIte,simprocAttr,LN_succ]
  refine Cov.go [(nid,nid+104)] [(nid+1,1)] ?_
  simp [cvT,step,res,ColsEq.refl,chB]
 refine SR.seqW (ι:=(Nat→Bool) × (Nat→Bool)) (fun f=>⟨[(5,.ptr nid 0)],chainH nid 0 (portsK D f D.length),nid+9000,nid⟩) ?_ (fun f=>?_)
 rotate_left
 ·have hs:Scoped (nid+11) (chainH nid 0 (portsK D f D.length)):=chainH_scoped nid (nid+11) 0 _ (by rw [portsK_len]; exact hD) (Nat.le_refl _)
  generalize hH:chainH nid 0 (portsK D f D.length)=Hs at *
  refine SR.run (t:=.mk) ?_
  simp -dsimp only [aqA,↓seqK,↓blkK,↓loopK,step,stepBin,eqB,Nat.add_assoc nid,↓reduceIte,simprocAttr,LN_succ]
  refine ⟨f,?_⟩
  rw [hH]
  refine RetOKW.whole (.inl rfl) hs (subH_refl _) ?_
  simp [a25,cvT,step,res]
 have hcol:(fun k=>nid+2+3 * k)=fun k=>nid+(2+3 * k):=by funext k; omega
 have hlow:∀ (f:(Nat→Bool) × (Nat→Bool)) (k:Nat),k<D.length→∀ x∈portsH (nid+2) (portsK D f k),x.1<nid+20∧lowBlk (nid+20) x.2=true:=fun f k hk=>portsH_low (nid+20) _ _ (by rw [portsK_len]; omega)
 refine SR.seqTo ⟨[(20,.int .i64 0),(19,.int .i64 D.length),(18,.lit n0 D.length (devP n1 n2 D)),(5,.ptr nid 0)],[(nid,chB 0 (nid+1) 0),(nid+1,some (.arr 98 0 [.q fun k=>nid+2+3 * k]))],nid+250,nid⟩ ?_ ?_
 ·unfold chB
  simp -dsimp only [aqA,↓seqK,↓blkK,↓loopK,step,stepBin,eqB,Nat.add_assoc nid,↓reduceIte,simprocAttr,LN_succ]
  refine Cov.go [] [] ?_
  simp [cvT,step,res,ColsEq.refl,chB]
 refine SR.block ?_
 refine SR.loopP (fun x:Nat × ((Nat→Bool) × (Nat→Bool))=>x.1≤D.length) (fun x=>⟨[(20,.int .i64 x.1),(19,.int .i64 D.length),(18,.lit n0 D.length (devP n1 n2 D)),(5,.ptr nid 0)],(nid,chB 0 (nid+1) x.1)::(nid+1,some (.arr 98 x.1 [.q fun k=>nid+2+3 * k]))::portsH (nid+2) (portsK D x.2 x.1),nid+300,nid⟩) (fun x=>D.length+1 - x.1) (0,(fun _=>false,fun _=>false)) (by simp) (Cov.go [] [] ?_) (fun ⟨k,f⟩ hk=>?_)
 ·simp [cvT,step,res,ColsEq.refl,chB,portsK,portsH]
 simp only at hk ⊢
 refine SR.seq ?_
 unfold chB
 simp -dsimp only [aqA,↓seqK,↓blkK,↓loopK,step,stepBin,eqB,Nat.add_assoc nid,↓reduceIte,simprocAttr,LN_succ]
 refine SR.seq ?_
 simp -dsimp only [aqA,↓seqK,↓blkK,↓loopK,step,stepBin,eqB,Nat.add_assoc nid,↓reduceIte,simprocAttr,LN_succ]
 refine S2.dec (fun h3=>?_) (fun h3=>?_) <;> simp -dsimp only [aqA,↓seqK,↓blkK,↓loopK,step,stepBin,eqB,Nat.add_assoc nid,↓reduceIte,simprocAttr,LN_succ]
 ·have hkl:k<D.length:=by omega
  have hlf:=hlow f k hkl
  have hm:D.getD k dev0∈D:=by rw [List.getD_eq_getElem?_getD,List.getElem?_eq_getElem hkl]; exact List.getElem_mem _
  obtain ⟨hb,hbr⟩:=hS _ hm
  have hrl:=hb.rl
  have hil:=hb.il
  refine SR.seqW (ι:=Bool × Bool) (fun b=>⟨[(20,.int .i64 k),(19,.int .i64 D.length),(18,.lit n0 D.length (devP n1 n2 D)),(5,.ptr nid 0)],(nid,chB 0 (nid+1) (k+1))::(nid+1,some (.arr 98 (k+1) [.q fun k=>nid+(2+3 * k)]))::portsH (nid+2) (portsK D (setF f k b.1 b.2) (k+1)),nid+4000,nid⟩) ?_ (fun ⟨b1,b2⟩=>?_)
  rotate_left
  ·simp only
   have hsc:Scoped (nid+20) ((nid,chB 0 (nid+1) (k+1))::(nid+1,some (.arr 98 (k+1) [.q fun k=>nid+(2+3 * k)]))::portsH (nid+2) (portsK D (setF f k b1 b2) (k+1))):=by
    have h:=chainH_scoped nid (nid+20) 0 (portsK D (setF f k b1 b2) (k+1)) (by rw [portsK_len]; omega) (by omega)
    unfold chainH at h
    rw [portsK_len,hcol] at h
    exact h
   unfold chB at hsc ⊢
   refine SR.run (t:=.mk) ?_
   generalize hH:portsH (nid+2) (portsK D (setF f k b1 b2) (k+1))=Hs at *
   simp -dsimp only [aqA,↓seqK,↓blkK,↓loopK,step,stepBin,eqB,Nat.add_assoc nid,↓reduceIte,simprocAttr,LN_succ]
   refine ⟨by unfold inI64; omega,(k+1,setF f k b1 b2),⟨by omega,by omega⟩,?_⟩
   simp only
   rw [hH]
   refine Cov.wholeG (nid+20) (by omega) hsc (subH_refl _) (by omega) ?_
   simp [cvT,step,res,ColsEq.refl]
  have hq:∀ j,j<k→∀ a,30≤a→(nid+a==nid+(2+3 * j))=false:=fun j hj a ha=>by rw [beq_eq_false_iff_ne]; omega
  have hs:Scoped (nid+20) (portsH (nid+2) (portsK D f k)):=scoped_list hlf
  have hge:=portsH_ge (portsK D f k) (nid+2)
  have hz:nid ∉ keys (portsH (nid+2) (portsK D f k))∧nid+1 ∉ keys (portsH (nid+2) (portsK D f k)):=by
   constructor <;> intro hid <;> simp only [keys,List.mem_map] at hid <;> obtain ⟨x,hx,hx2⟩:=hid <;> have:=hge x hx <;> omega
  have hfz:∀ (H:Heap) (nl:Nat→Bool),frzH H [nid+410,nid+411] nl (portsH (nid+2) (portsK D f k))=portsH (nid+2) (portsK D f k):=fun H nl=>frzH_low (c:=nid+20) H _ nl (by simp) _ fun x hx=>(hlf x hx).2
  have hsucc:=fun b1 b2=>portsK_succ D f k b1 b2
  have hcat:=fun b1 b2=>portsH_app (nid+2) (portsK D f k) [port0 (D.getD k dev0) b1 b2]
  rw [portsK_len] at hcat
  have hnew:∀ b1 b2,portsH (nid+2) (portsK D (setF f k b1 b2) (k+1))=portsH (nid+2) (portsK D f k)++portsH (nid+2+3 * k) [port0 (D.getD k dev0) b1 b2]:=fun b1 b2=>by rw [hsucc,hcat]
  clear hsucc hcat
  generalize hH:portsH (nid+2) (portsK D f k)=Hs at *
  refine SR.block ?_
  refine SR.seqTo ⟨[(7,.ptr (nid+400) 0),(20,.int .i64 k),(19,.int .i64 D.length),(18,.lit n0 D.length (devP n1 n2 D)),(5,.ptr nid 0)],[(nid+400,boxL (n1 k) (n2 k) (D.getD k dev0)),(nid,chB 0 (nid+1) k),(nid+1,some (.arr 98 k [.q fun k=>nid+(2+3 * k)]))]++Hs,nid+700,nid⟩ ?_ ?_
  ·unfold devP
   simp -dsimp only [aqA,↓seqK,↓blkK,↓loopK,step,stepBin,eqB,Nat.add_assoc nid,↓reduceIte,simprocAttr,LN_succ]
   refine ⟨⟨by omega,by omega⟩,?_⟩
   first | refine Cov.goG (nid+20) Hs [_] [_,_,_] [(nid+400,nid+312)] [] (by omega) hs (by simp [kOK,hz]) (by simp) ?_ | refine Cov.goG (nid+20) Hs [_,_] [_,_,_] [(nid+400,nid+312)] [] (by omega) hs (by simp [kOK,hz]) (by simp) ?_ | refine Cov.goG (nid+20) Hs [_,_,_] [_,_,_] [(nid+400,nid+312)] [] (by omega) hs (by simp [kOK,hz]) (by simp) ?_ | refine Cov.goG (nid+20) Hs [_,_,_,_] [_,_,_] [(nid+400,nid+312)] [] (by omega) hs (by simp [kOK,hz]) (by simp) ?_ | refine Cov.goG (nid+20) Hs [_,_,_,_,_] [_,_,_] [(nid+400,nid+312)] [] (by omega) hs (by simp [kOK,hz]) (by simp) ?_ | refine Cov.goG (nid+20) Hs [_,_,_,_,_,_] [_,_,_] [(nid+400,nid+312)] [] (by omega) hs (by simp [kOK,hz]) (by simp) ?_ | refine Cov.goG (nid+20) Hs [_,_,_,_,_,_,_] [_,_,_] [(nid+400,nid+312)] [] (by omega) hs (by simp [kOK,hz]) (by simp) ?_ | refine Cov.goG (nid+20) Hs [_,_,_,_,_,_,_,_] [_,_,_] [(nid+400,nid+312)] [] (by omega) hs (by simp [kOK,hz]) (by simp) ?_ | refine Cov.goG (nid+20) Hs [_,_,_,_,_,_,_,_,_] [_,_,_] [(nid+400,nid+312)] [] (by omega) hs (by simp [kOK,hz]) (by simp) ?_ | refine Cov.goG (nid+20) Hs [_,_,_,_,_,_,_,_,_,_] [_,_,_] [(nid+400,nid+312)] [] (by omega) hs (by simp [kOK,hz]) (by simp) ?_ | refine Cov.goG (nid+20) Hs [_,_,_,_,_,_,_,_,_,_,_] [_,_,_] [(nid+400,nid+312)] [] (by omega) hs (by simp [kOK,hz]) (by simp) ?_ | refine Cov.goG (nid+20) Hs [_,_,_,_,_,_,_,_,_,_,_,_] [_,_,_] [(nid+400,nid+312)] [] (by omega) hs (by simp [kOK,hz]) (by simp) ?_ | refine Cov.goG (nid+20) Hs [_,_,_,_,_,_,_,_,_,_,_,_,_] [_,_,_] [(nid+400,nid+312)] [] (by omega) hs (by simp [kOK,hz]) (by simp) ?_ | refine Cov.goG (nid+20) Hs [_,_,_,_,_,_,_,_,_,_,_,_,_,_] [_,_,_] [(nid+400,nid+312)] [] (by omega) hs (by simp [kOK,hz]) (by simp) ?_ | refine Cov.goG (nid+20) Hs [_,_,_,_,_,_,_,_,_,_,_,_,_,_,_] [_,_,_] [(nid+400,nid+312)] [] (by omega) hs (by simp [kOK,hz]) (by simp) ?_ | refine Cov.goG (nid+20) Hs [_,_,_,_,_,_,_,_,_,_,_,_,_,_,_,_] [_,_,_] [(nid+400,nid+312)] [] (by omega) hs (by simp [kOK,hz]) (by simp) ?_ | refine Cov.goG (nid+20) Hs [_,_,_,_,_,_,_,_,_,_,_,_,_,_,_,_,_] [_,_,_] [(nid+400,nid+312)] [] (by omega) hs (by simp [kOK,hz]) (by simp) ?_ | refine Cov.goG (nid+20) Hs [_,_,_,_,_,_,_,_,_,_,_,_,_,_,_,_,_,_] [_,_,_] [(nid+400,nid+312)] [] (by omega) hs (by simp [kOK,hz]) (by simp) ?_ | refine Cov.goG (nid+20) Hs [_,_,_,_,_,_,_,_,_,_,_,_,_,_,_,_,_,_,_] [_,_,_] [(nid+400,nid+312)] [] (by omega) hs (by simp [kOK,hz]) (by simp) ?_ | refine Cov.goG (nid+20) Hs [_,_,_,_,_,_,_,_,_,_,_,_,_,_,_,_,_,_,_,_] [_,_,_] [(nid+400,nid+312)] [] (by omega) hs (by simp [kOK,hz]) (by simp) ?_ | refine Cov.goG (nid+20) Hs [_,_,_,_,_,_,_,_,_,_,_,_,_,_,_,_,_,_,_,_,_] [_,_,_] [(nid+400,nid+312)] [] (by omega) hs (by simp [kOK,hz]) (by simp) ?_ | refine Cov.goG (nid+20) Hs [_,_,_,_,_,_,_,_,_,_,_,_,_,_,_,_,_,_,_,_,_,_] [_,_,_] [(nid+400,nid+312)] [] (by omega) hs (by simp [kOK,hz]) (by simp) ?_ | refine Cov.goG (nid+20) Hs [_,_,_,_,_,_,_,_,_,_,_,_,_,_,_,_,_,_,_,_,_,_,_] [_,_,_] [(nid+400,nid+312)] [] (by omega) hs (by simp [kOK,hz]) (by simp) ?_
   simp [cvT,step,res,boxL,chB,litRg,litIn,ColsEq.refl,-List.getD_eq_getElem?_getD]
   exact fun j hj=>by simp [hq j hj]; omega
  generalize hx:D.getD k dev0=x at *
  have hc1:=fun m=>cloneRg_c (n1 k) x.regs m (by omega)
  have hc2:=fun m=>cloneIn_c (n2 k) x.ins m (by omega)
  unfold litRg at hc1
  unfold litIn at hc2
  refine SR.seqTo ⟨[(7,.ptr (nid+400) 0),(20,.int .i64 k),(19,.int .i64 D.length),(18,.lit n0 D.length (devP n1 n2 D)),(5,.ptr nid 0)],[(nid+400,boxDv x (.sl (nid+410) 0 x.regs.length) (.sl (nid+411) 0 x.ins.length)),(nid+410,arrRg x.regs),(nid+411,arrIn x.ins),(nid,chB 0 (nid+1) k),(nid+1,some (.arr 98 k [.q fun k=>nid+(2+3 * k)]))]++Hs,nid+900,nid⟩ ?_ ?_
  ·unfold boxL litRg litIn chB
   simp -dsimp only [aqA,↓seqK,↓blkK,↓loopK,step,stepBin,eqB,Nat.add_assoc nid,↓reduceIte,simprocAttr,LN_succ]
   refine CallX.pure (hc1 _) ?_
   unfold arrRg
   simp -dsimp only [aqA,↓seqK,↓blkK,↓loopK,step,stepBin,eqB,Nat.add_assoc nid,↓reduceIte,simprocAttr,LN_succ]
   refine CallX.pure (hc2 _) ?_
   unfold arrIn
   simp -dsimp only [aqA,↓seqK,↓blkK,↓loopK,step,stepBin,eqB,Nat.add_assoc nid,↓reduceIte,simprocAttr,LN_succ]
   first | refine Cov.goG (nid+20) Hs [_] [_,_,_,_,_] [(nid+410,nid+708),(nid+411,nid+720)] [] (by omega) hs (by simp [kOK,hz]) (by simp) ?_ | refine Cov.goG (nid+20) Hs [_,_] [_,_,_,_,_] [(nid+410,nid+708),(nid+411,nid+720)] [] (by omega) hs (by simp [kOK,hz]) (by simp) ?_ | refine Cov.goG (nid+20) Hs [_,_,_] [_,_,_,_,_] [(nid+410,nid+708),(nid+411,nid+720)] [] (by omega) hs (by simp [kOK,hz]) (by simp) ?_ | refine Cov.goG (nid+20) Hs [_,_,_,_] [_,_,_,_,_] [(nid+410,nid+708),(nid+411,nid+720)] [] (by omega) hs (by simp [kOK,hz]) (by simp) ?_ | refine Cov.goG (nid+20) Hs [_,_,_,_,_] [_,_,_,_,_] [(nid+410,nid+708),(nid+411,nid+720)] [] (by omega) hs (by simp [kOK,hz]) (by simp) ?_ | refine Cov.goG (nid+20) Hs [_,_,_,_,_,_] [_,_,_,_,_] [(nid+410,nid+708),(nid+411,nid+720)] [] (by omega) hs (by simp [kOK,hz]) (by simp) ?_ | refine Cov.goG (nid+20) Hs [_,_,_,_,_,_,_] [_,_,_,_,_] [(nid+410,nid+708),(nid+411,nid+720)] [] (by omega) hs (by simp [kOK,hz]) (by simp) ?_ | refine Cov.goG (nid+20) Hs [_,_,_,_,_,_,_,_] [_,_,_,_,_] [(nid+410,nid+708),(nid+411,nid+720)] [] (by omega) hs (by simp [kOK,hz]) (by simp) ?_ | refine Cov.goG (nid+20) Hs [_,_,_,_,_,_,_,_,_] [_,_,_,_,_] [(nid+410,nid+708),(nid+411,nid+720)] [] (by omega) hs (by simp [kOK,hz]) (by simp) ?_ | refine Cov.goG (nid+20) Hs [_,_,_,_,_,_,_,_,_,_] [_,_,_,_,_] [(nid+410,nid+708),(nid+411,nid+720)] [] (by omega) hs (by simp [kOK,hz]) (by simp) ?_ | refine Cov.goG (nid+20) Hs [_,_,_,_,_,_,_,_,_,_,_] [_,_,_,_,_] [(nid+410,nid+708),(nid+411,nid+720)] [] (by omega) hs (by simp [kOK,hz]) (by simp) ?_ | refine Cov.goG (nid+20) Hs [_,_,_,_,_,_,_,_,_,_,_,_] [_,_,_,_,_] [(nid+410,nid+708),(nid+411,nid+720)] [] (by omega) hs (by simp [kOK,hz]) (by simp) ?_ | refine Cov.goG (nid+20) Hs [_,_,_,_,_,_,_,_,_,_,_,_,_] [_,_,_,_,_] [(nid+410,nid+708),(nid+411,nid+720)] [] (by omega) hs (by simp [kOK,hz]) (by simp) ?_ | refine Cov.goG (nid+20) Hs [_,_,_,_,_,_,_,_,_,_,_,_,_,_] [_,_,_,_,_] [(nid+410,nid+708),(nid+411,nid+720)] [] (by omega) hs (by simp [kOK,hz]) (by simp) ?_ | refine Cov.goG (nid+20) Hs [_,_,_,_,_,_,_,_,_,_,_,_,_,_,_] [_,_,_,_,_] [(nid+410,nid+708),(nid+411,nid+720)] [] (by omega) hs (by simp [kOK,hz]) (by simp) ?_ | refine Cov.goG (nid+20) Hs [_,_,_,_,_,_,_,_,_,_,_,_,_,_,_,_] [_,_,_,_,_] [(nid+410,nid+708),(nid+411,nid+720)] [] (by omega) hs (by simp [kOK,hz]) (by simp) ?_ | refine Cov.goG (nid+20) Hs [_,_,_,_,_,_,_,_,_,_,_,_,_,_,_,_,_] [_,_,_,_,_] [(nid+410,nid+708),(nid+411,nid+720)] [] (by omega) hs (by simp [kOK,hz]) (by simp) ?_ | refine Cov.goG (nid+20) Hs [_,_,_,_,_,_,_,_,_,_,_,_,_,_,_,_,_,_] [_,_,_,_,_] [(nid+410,nid+708),(nid+411,nid+720)] [] (by omega) hs (by simp [kOK,hz]) (by simp) ?_ | refine Cov.goG (nid+20) Hs [_,_,_,_,_,_,_,_,_,_,_,_,_,_,_,_,_,_,_] [_,_,_,_,_] [(nid+410,nid+708),(nid+411,nid+720)] [] (by omega) hs (by simp [kOK,hz]) (by simp) ?_ | refine Cov.goG (nid+20) Hs [_,_,_,_,_,_,_,_,_,_,_,_,_,_,_,_,_,_,_,_] [_,_,_,_,_] [(nid+410,nid+708),(nid+411,nid+720)] [] (by omega) hs (by simp [kOK,hz]) (by simp) ?_ | refine Cov.goG (nid+20) Hs [_,_,_,_,_,_,_,_,_,_,_,_,_,_,_,_,_,_,_,_,_] [_,_,_,_,_] [(nid+410,nid+708),(nid+411,nid+720)] [] (by omega) hs (by simp [kOK,hz]) (by simp) ?_ | refine Cov.goG (nid+20) Hs [_,_,_,_,_,_,_,_,_,_,_,_,_,_,_,_,_,_,_,_,_,_] [_,_,_,_,_] [(nid+410,nid+708),(nid+411,nid+720)] [] (by omega) hs (by simp [kOK,hz]) (by simp) ?_ | refine Cov.goG (nid+20) Hs [_,_,_,_,_,_,_,_,_,_,_,_,_,_,_,_,_,_,_,_,_,_,_] [_,_,_,_,_] [(nid+410,nid+708),(nid+411,nid+720)] [] (by omega) hs (by simp [kOK,hz]) (by simp) ?_
   simp [cvT,step,res,boxDv,arrRg,arrIn,chB,litRg,litIn,ColsEq.refl,-List.getD_eq_getElem?_getD]
   exact fun j hj=>by simp [hq j hj]; omega
  refine SR.freezeB [nid+410,nid+411] (fun nf=>?_)
  simp only [frzS,frzH,frzBlk,lends,lend,kill,noOs,boxDv,arrRg,arrIn,chB,List.cons_append,List.nil_append,aqA,↓seqK,↓blkK,↓loopK,step,stepBin,eqB,Nat.add_assoc nid,↓reduceIte,simprocAttr,LN_succ,hfz]
  generalize nf (nid+410)=b1
  generalize nf (nid+411)=b2
  refine SR.seqTo ⟨[(8,.ptr (nid+420) 0),(7,.ptr (nid+400) 0),(20,.int .i64 k),(19,.int .i64 D.length),(18,.lit n0 D.length (devP n1 n2 D)),(5,.ptr nid 0)],[(nid+420,portB (port0 x b1 b2) (nid+421) (nid+422)),(nid+421,mapS (mapD []) (mapV [])),(nid+422,mapS (mapD []) (mapV [])),(nid+400,boxL b1 b2 x),(nid,chB 0 (nid+1) k),(nid+1,some (.arr 98 k [.q fun k=>nid+(2+3 * k)]))]++Hs,nid+1200,nid⟩ ?_ ?_
  ·simp -dsimp only [aqA,↓seqK,↓blkK,↓loopK,step,stepBin,eqB,Nat.add_assoc nid,↓reduceIte,simprocAttr,LN_succ,mNew]
   first | refine Cov.goG (nid+20) Hs [_] [_,_,_,_,_,_] [(nid+420,nid+916),(nid+421,nid+904),(nid+422,nid+908)] [] (by omega) hs (by simp [kOK,hz]) (by simp) ?_ | refine Cov.goG (nid+20) Hs [_,_] [_,_,_,_,_,_] [(nid+420,nid+916),(nid+421,nid+904),(nid+422,nid+908)] [] (by omega) hs (by simp [kOK,hz]) (by simp) ?_ | refine Cov.goG (nid+20) Hs [_,_,_] [_,_,_,_,_,_] [(nid+420,nid+916),(nid+421,nid+904),(nid+422,nid+908)] [] (by omega) hs (by simp [kOK,hz]) (by simp) ?_ | refine Cov.goG (nid+20) Hs [_,_,_,_] [_,_,_,_,_,_] [(nid+420,nid+916),(nid+421,nid+904),(nid+422,nid+908)] [] (by omega) hs (by simp [kOK,hz]) (by simp) ?_ | refine Cov.goG (nid+20) Hs [_,_,_,_,_] [_,_,_,_,_,_] [(nid+420,nid+916),(nid+421,nid+904),(nid+422,nid+908)] [] (by omega) hs (by simp [kOK,hz]) (by simp) ?_ | refine Cov.goG (nid+20) Hs [_,_,_,_,_,_] [_,_,_,_,_,_] [(nid+420,nid+916),(nid+421,nid+904),(nid+422,nid+908)] [] (by omega) hs (by simp [kOK,hz]) (by simp) ?_ | refine Cov.goG (nid+20) Hs [_,_,_,_,_,_,_] [_,_,_,_,_,_] [(nid+420,nid+916),(nid+421,nid+904),(nid+422,nid+908)] [] (by omega) hs (by simp [kOK,hz]) (by simp) ?_ | refine Cov.goG (nid+20) Hs [_,_,_,_,_,_,_,_] [_,_,_,_,_,_] [(nid+420,nid+916),(nid+421,nid+904),(nid+422,nid+908)] [] (by omega) hs (by simp [kOK,hz]) (by simp) ?_ | refine Cov.goG (nid+20) Hs [_,_,_,_,_,_,_,_,_] [_,_,_,_,_,_] [(nid+420,nid+916),(nid+421,nid+904),(nid+422,nid+908)] [] (by omega) hs (by simp [kOK,hz]) (by simp) ?_ | refine Cov.goG (nid+20) Hs [_,_,_,_,_,_,_,_,_,_] [_,_,_,_,_,_] [(nid+420,nid+916),(nid+421,nid+904),(nid+422,nid+908)] [] (by omega) hs (by simp [kOK,hz]) (by simp) ?_ | refine Cov.goG (nid+20) Hs [_,_,_,_,_,_,_,_,_,_,_] [_,_,_,_,_,_] [(nid+420,nid+916),(nid+421,nid+904),(nid+422,nid+908)] [] (by omega) hs (by simp [kOK,hz]) (by simp) ?_ | refine Cov.goG (nid+20) Hs [_,_,_,_,_,_,_,_,_,_,_,_] [_,_,_,_,_,_] [(nid+420,nid+916),(nid+421,nid+904),(nid+422,nid+908)] [] (by omega) hs (by simp [kOK,hz]) (by simp) ?_ | refine Cov.goG (nid+20) Hs [_,_,_,_,_,_,_,_,_,_,_,_,_] [_,_,_,_,_,_] [(nid+420,nid+916),(nid+421,nid+904),(nid+422,nid+908)] [] (by omega) hs (by simp [kOK,hz]) (by simp) ?_ | refine Cov.goG (nid+20) Hs [_,_,_,_,_,_,_,_,_,_,_,_,_,_] [_,_,_,_,_,_] [(nid+420,nid+916),(nid+421,nid+904),(nid+422,nid+908)] [] (by omega) hs (by simp [kOK,hz]) (by simp) ?_ | refine Cov.goG (nid+20) Hs [_,_,_,_,_,_,_,_,_,_,_,_,_,_,_] [_,_,_,_,_,_] [(nid+420,nid+916),(nid+421,nid+904),(nid+422,nid+908)] [] (by omega) hs (by simp [kOK,hz]) (by simp) ?_ | refine Cov.goG (nid+20) Hs [_,_,_,_,_,_,_,_,_,_,_,_,_,_,_,_] [_,_,_,_,_,_] [(nid+420,nid+916),(nid+421,nid+904),(nid+422,nid+908)] [] (by omega) hs (by simp [kOK,hz]) (by simp) ?_ | refine Cov.goG (nid+20) Hs [_,_,_,_,_,_,_,_,_,_,_,_,_,_,_,_,_] [_,_,_,_,_,_] [(nid+420,nid+916),(nid+421,nid+904),(nid+422,nid+908)] [] (by omega) hs (by simp [kOK,hz]) (by simp) ?_ | refine Cov.goG (nid+20) Hs [_,_,_,_,_,_,_,_,_,_,_,_,_,_,_,_,_,_] [_,_,_,_,_,_] [(nid+420,nid+916),(nid+421,nid+904),(nid+422,nid+908)] [] (by omega) hs (by simp [kOK,hz]) (by simp) ?_ | refine Cov.goG (nid+20) Hs [_,_,_,_,_,_,_,_,_,_,_,_,_,_,_,_,_,_,_] [_,_,_,_,_,_] [(nid+420,nid+916),(nid+421,nid+904),(nid+422,nid+908)] [] (by omega) hs (by simp [kOK,hz]) (by simp) ?_ | refine Cov.goG (nid+20) Hs [_,_,_,_,_,_,_,_,_,_,_,_,_,_,_,_,_,_,_,_] [_,_,_,_,_,_] [(nid+420,nid+916),(nid+421,nid+904),(nid+422,nid+908)] [] (by omega) hs (by simp [kOK,hz]) (by simp) ?_ | refine Cov.goG (nid+20) Hs [_,_,_,_,_,_,_,_,_,_,_,_,_,_,_,_,_,_,_,_,_] [_,_,_,_,_,_] [(nid+420,nid+916),(nid+421,nid+904),(nid+422,nid+908)] [] (by omega) hs (by simp [kOK,hz]) (by simp) ?_ | refine Cov.goG (nid+20) Hs [_,_,_,_,_,_,_,_,_,_,_,_,_,_,_,_,_,_,_,_,_,_] [_,_,_,_,_,_] [(nid+420,nid+916),(nid+421,nid+904),(nid+422,nid+908)] [] (by omega) hs (by simp [kOK,hz]) (by simp) ?_ | refine Cov.goG (nid+20) Hs [_,_,_,_,_,_,_,_,_,_,_,_,_,_,_,_,_,_,_,_,_,_,_] [_,_,_,_,_,_] [(nid+420,nid+916),(nid+421,nid+904),(nid+422,nid+908)] [] (by omega) hs (by simp [kOK,hz]) (by simp) ?_
   simp [cvT,step,res,boxL,portB,mapS,port0,chB,litRg,litIn,mapD,mapV,ColsEq.refl,-List.getD_eq_getElem?_getD]
   exact fun j hj=>by simp [hq j hj]; omega
  refine SR.seqTo ⟨[(8,.ptr (nid+420) 0),(20,.int .i64 k),(19,.int .i64 D.length),(18,.lit n0 D.length (devP n1 n2 D)),(5,.ptr nid 0)],[(nid+420,portB (port0 x b1 b2) (nid+421) (nid+422)),(nid+421,mapS (mapD x.regs) (mapV x.regs)),(nid+422,mapS (mapD x.regs) (mapV x.regs)),(nid,chB 0 (nid+1) k),(nid+1,some (.arr 98 k [.q fun k=>nid+(2+3 * k)]))]++Hs,nid+1800,nid⟩ ?_ ?_
  ·unfold boxL litRg litIn portB mapS chB
   simp -dsimp only [aqA,↓seqK,↓blkK,↓loopK,step,stepBin,eqB,Nat.add_assoc nid,↓reduceIte,simprocAttr,LN_succ]
   refine LP.mkP (fun j:Nat=>j≤x.regs.length) (fun j=>⟨[(40,.int .i64 j),(39,.int .i64 x.regs.length),(38,litRg b1 x.regs),(8,.ptr (nid+420) 0),(20,.int .i64 k),(19,.int .i64 D.length),(18,.lit n0 D.length (devP n1 n2 D)),(5,.ptr nid 0)],[(nid+420,portB (port0 x b1 b2) (nid+421) (nid+422)),(nid+421,mapS (mapD (x.regs.take j)) (mapV (x.regs.take j))),(nid+422,mapS (mapD (x.regs.take j)) (mapV (x.regs.take j))),(nid,chB 0 (nid+1) k),(nid+1,some (.arr 98 k [.q fun k=>nid+(2+3 * k)]))]++Hs,nid+1500,nid⟩) (fun j=>x.regs.length+1 - j) 0 (by omega) ?_ (fun j hj=>?_)
   ·first | refine Cov.goG (nid+20) Hs [_] [_,_,_,_,_] [] [] (by omega) hs (by simp [kOK,hz]) (by simp) ?_ | refine Cov.goG (nid+20) Hs [_,_] [_,_,_,_,_] [] [] (by omega) hs (by simp [kOK,hz]) (by simp) ?_ | refine Cov.goG (nid+20) Hs [_,_,_] [_,_,_,_,_] [] [] (by omega) hs (by simp [kOK,hz]) (by simp) ?_ | refine Cov.goG (nid+20) Hs [_,_,_,_] [_,_,_,_,_] [] [] (by omega) hs (by simp [kOK,hz]) (by simp) ?_ | refine Cov.goG (nid+20) Hs [_,_,_,_,_] [_,_,_,_,_] [] [] (by omega) hs (by simp [kOK,hz]) (by simp) ?_ | refine Cov.goG (nid+20) Hs [_,_,_,_,_,_] [_,_,_,_,_] [] [] (by omega) hs (by simp [kOK,hz]) (by simp) ?_ | refine Cov.goG (nid+20) Hs [_,_,_,_,_,_,_] [_,_,_,_,_] [] [] (by omega) hs (by simp [kOK,hz]) (by simp) ?_ | refine Cov.goG (nid+20) Hs [_,_,_,_,_,_,_,_] [_,_,_,_,_] [] [] (by omega) hs (by simp [kOK,hz]) (by simp) ?_ | refine Cov.goG (nid+20) Hs [_,_,_,_,_,_,_,_,_] [_,_,_,_,_] [] [] (by omega) hs (by simp [kOK,hz]) (by simp) ?_ | refine Cov.goG (nid+20) Hs [_,_,_,_,_,_,_,_,_,_] [_,_,_,_,_] [] [] (by omega) hs (by simp [kOK,hz]) (by simp) ?_ | refine Cov.goG (nid+20) Hs [_,_,_,_,_,_,_,_,_,_,_] [_,_,_,_,_] [] [] (by omega) hs (by simp [kOK,hz]) (by simp) ?_ | refine Cov.goG (nid+20) Hs [_,_,_,_,_,_,_,_,_,_,_,_] [_,_,_,_,_] [] [] (by omega) hs (by simp [kOK,hz]) (by simp) ?_ | refine Cov.goG (nid+20) Hs [_,_,_,_,_,_,_,_,_,_,_,_,_] [_,_,_,_,_] [] [] (by omega) hs (by simp [kOK,hz]) (by simp) ?_ | refine Cov.goG (nid+20) Hs [_,_,_,_,_,_,_,_,_,_,_,_,_,_] [_,_,_,_,_] [] [] (by omega) hs (by simp [kOK,hz]) (by simp) ?_ | refine Cov.goG (nid+20) Hs [_,_,_,_,_,_,_,_,_,_,_,_,_,_,_] [_,_,_,_,_] [] [] (by omega) hs (by simp [kOK,hz]) (by simp) ?_ | refine Cov.goG (nid+20) Hs [_,_,_,_,_,_,_,_,_,_,_,_,_,_,_,_] [_,_,_,_,_] [] [] (by omega) hs (by simp [kOK,hz]) (by simp) ?_ | refine Cov.goG (nid+20) Hs [_,_,_,_,_,_,_,_,_,_,_,_,_,_,_,_,_] [_,_,_,_,_] [] [] (by omega) hs (by simp [kOK,hz]) (by simp) ?_ | refine Cov.goG (nid+20) Hs [_,_,_,_,_,_,_,_,_,_,_,_,_,_,_,_,_,_] [_,_,_,_,_] [] [] (by omega) hs (by simp [kOK,hz]) (by simp) ?_ | refine Cov.goG (nid+20) Hs [_,_,_,_,_,_,_,_,_,_,_,_,_,_,_,_,_,_,_] [_,_,_,_,_] [] [] (by omega) hs (by simp [kOK,hz]) (by simp) ?_ | refine Cov.goG (nid+20) Hs [_,_,_,_,_,_,_,_,_,_,_,_,_,_,_,_,_,_,_,_] [_,_,_,_,_] [] [] (by omega) hs (by simp [kOK,hz]) (by simp) ?_ | refine Cov.goG (nid+20) Hs [_,_,_,_,_,_,_,_,_,_,_,_,_,_,_,_,_,_,_,_,_] [_,_,_,_,_] [] [] (by omega) hs (by simp [kOK,hz]) (by simp) ?_ | refine Cov.goG (nid+20) Hs [_,_,_,_,_,_,_,_,_,_,_,_,_,_,_,_,_,_,_,_,_,_] [_,_,_,_,_] [] [] (by omega) hs (by simp [kOK,hz]) (by simp) ?_ | refine Cov.goG (nid+20) Hs [_,_,_,_,_,_,_,_,_,_,_,_,_,_,_,_,_,_,_,_,_,_,_] [_,_,_,_,_] [] [] (by omega) hs (by simp [kOK,hz]) (by simp) ?_
    simp [cvT,step,res,boxL,portB,mapS,port0,chB,litRg,litIn,ColsEq.refl,-List.getD_eq_getElem?_getD]
    exact fun j hj=>by omega
   unfold litRg portB mapS chB litIn
   simp -dsimp only [aqA,↓seqK,↓blkK,↓loopK,step,stepBin,eqB,Nat.add_assoc nid,↓reduceIte,simprocAttr,LN_succ]
   refine S2.dec (fun h4=>?_) (fun h4=>?_) <;> simp -dsimp only [aqA,↓seqK,↓blkK,↓loopK,step,stepBin,eqB,Nat.add_assoc nid,↓reduceIte,simprocAttr,LN_succ]
   ·have hjl:j<x.regs.length:=by omega
    have hrm:x.regs.getD j reg0∈x.regs:=by rw [List.getD_eq_getElem?_getD,List.getElem?_eq_getElem hjl]; exact List.getElem_mem _
    have hr2:=hbr _ hrm
    have htk:x.regs.take (j+1)=x.regs.take j++[x.regs.getD j reg0]:=by rw [List.take_add_one,List.getElem?_eq_getElem hjl,List.getD_eq_getElem?_getD,List.getElem?_eq_getElem hjl]; rfl
    generalize hr:x.regs.getD j reg0=r at *
    obtain ⟨L,hL⟩:∃ L:Nat,r.2=L:=⟨_,(Int.toNat_of_nonneg hr2.1).symm⟩
    refine ⟨⟨by omega,by omega⟩,?_⟩
    rw [hL]
    refine CallX.pure (repeat_cc [48] L _ (by omega) (by simp; omega)) ?_
    simp -dsimp only [aqA,↓seqK,↓blkK,↓loopK,step,stepBin,eqB,Nat.add_assoc nid,↓reduceIte,simprocAttr,LN_succ,mkKey,mPut,mGet,keyIn]
    refine ⟨by unfold inI64; omega,j+1,⟨by omega,by omega⟩,?_⟩
    rw [htk]
    have hrt:r.2.toNat=L:=by omega
    first | refine Cov.goG (nid+20) Hs [_] [_,_,_,_,_] [] [] (by omega) hs (by simp [kOK,hz]) (by simp) ?_ | refine Cov.goG (nid+20) Hs [_,_] [_,_,_,_,_] [] [] (by omega) hs (by simp [kOK,hz]) (by simp) ?_ | refine Cov.goG (nid+20) Hs [_,_,_] [_,_,_,_,_] [] [] (by omega) hs (by simp [kOK,hz]) (by simp) ?_ | refine Cov.goG (nid+20) Hs [_,_,_,_] [_,_,_,_,_] [] [] (by omega) hs (by simp [kOK,hz]) (by simp) ?_ | refine Cov.goG (nid+20) Hs [_,_,_,_,_] [_,_,_,_,_] [] [] (by omega) hs (by simp [kOK,hz]) (by simp) ?_ | refine Cov.goG (nid+20) Hs [_,_,_,_,_,_] [_,_,_,_,_] [] [] (by omega) hs (by simp [kOK,hz]) (by simp) ?_ | refine Cov.goG (nid+20) Hs [_,_,_,_,_,_,_] [_,_,_,_,_] [] [] (by omega) hs (by simp [kOK,hz]) (by simp) ?_ | refine Cov.goG (nid+20) Hs [_,_,_,_,_,_,_,_] [_,_,_,_,_] [] [] (by omega) hs (by simp [kOK,hz]) (by simp) ?_ | refine Cov.goG (nid+20) Hs [_,_,_,_,_,_,_,_,_] [_,_,_,_,_] [] [] (by omega) hs (by simp [kOK,hz]) (by simp) ?_ | refine Cov.goG (nid+20) Hs [_,_,_,_,_,_,_,_,_,_] [_,_,_,_,_] [] [] (by omega) hs (by simp [kOK,hz]) (by simp) ?_ | refine Cov.goG (nid+20) Hs [_,_,_,_,_,_,_,_,_,_,_] [_,_,_,_,_] [] [] (by omega) hs (by simp [kOK,hz]) (by simp) ?_ | refine Cov.goG (nid+20) Hs [_,_,_,_,_,_,_,_,_,_,_,_] [_,_,_,_,_] [] [] (by omega) hs (by simp [kOK,hz]) (by simp) ?_ | refine Cov.goG (nid+20) Hs [_,_,_,_,_,_,_,_,_,_,_,_,_] [_,_,_,_,_] [] [] (by omega) hs (by simp [kOK,hz]) (by simp) ?_ | refine Cov.goG (nid+20) Hs [_,_,_,_,_,_,_,_,_,_,_,_,_,_] [_,_,_,_,_] [] [] (by omega) hs (by simp [kOK,hz]) (by simp) ?_ | refine Cov.goG (nid+20) Hs [_,_,_,_,_,_,_,_,_,_,_,_,_,_,_] [_,_,_,_,_] [] [] (by omega) hs (by simp [kOK,hz]) (by simp) ?_ | refine Cov.goG (nid+20) Hs [_,_,_,_,_,_,_,_,_,_,_,_,_,_,_,_] [_,_,_,_,_] [] [] (by omega) hs (by simp [kOK,hz]) (by simp) ?_ | refine Cov.goG (nid+20) Hs [_,_,_,_,_,_,_,_,_,_,_,_,_,_,_,_,_] [_,_,_,_,_] [] [] (by omega) hs (by simp [kOK,hz]) (by simp) ?_ | refine Cov.goG (nid+20) Hs [_,_,_,_,_,_,_,_,_,_,_,_,_,_,_,_,_,_] [_,_,_,_,_] [] [] (by omega) hs (by simp [kOK,hz]) (by simp) ?_ | refine Cov.goG (nid+20) Hs [_,_,_,_,_,_,_,_,_,_,_,_,_,_,_,_,_,_,_] [_,_,_,_,_] [] [] (by omega) hs (by simp [kOK,hz]) (by simp) ?_ | refine Cov.goG (nid+20) Hs [_,_,_,_,_,_,_,_,_,_,_,_,_,_,_,_,_,_,_,_] [_,_,_,_,_] [] [] (by omega) hs (by simp [kOK,hz]) (by simp) ?_ | refine Cov.goG (nid+20) Hs [_,_,_,_,_,_,_,_,_,_,_,_,_,_,_,_,_,_,_,_,_] [_,_,_,_,_] [] [] (by omega) hs (by simp [kOK,hz]) (by simp) ?_ | refine Cov.goG (nid+20) Hs [_,_,_,_,_,_,_,_,_,_,_,_,_,_,_,_,_,_,_,_,_,_] [_,_,_,_,_] [] [] (by omega) hs (by simp [kOK,hz]) (by simp) ?_ | refine Cov.goG (nid+20) Hs [_,_,_,_,_,_,_,_,_,_,_,_,_,_,_,_,_,_,_,_,_,_,_] [_,_,_,_,_] [] [] (by omega) hs (by simp [kOK,hz]) (by simp) ?_
    simp [cvT,step,res,boxL,portB,mapS,port0,chB,litRg,litIn,mapD_snoc,mapV_snoc,hrt,ColsEq.refl,-List.getD_eq_getElem?_getD]
    exact ⟨fun q _ _=>by simp [mVal,mapV_snoc,hrt],fun j hj=>by omega⟩
   ·have hje:j=x.regs.length:=by omega
    subst hje
    rw [List.take_length]
    first | refine Cov.goG (nid+20) Hs [_] [_,_,_,_,_] [] [] (by omega) hs (by simp [kOK,hz]) (by simp) ?_ | refine Cov.goG (nid+20) Hs [_,_] [_,_,_,_,_] [] [] (by omega) hs (by simp [kOK,hz]) (by simp) ?_ | refine Cov.goG (nid+20) Hs [_,_,_] [_,_,_,_,_] [] [] (by omega) hs (by simp [kOK,hz]) (by simp) ?_ | refine Cov.goG (nid+20) Hs [_,_,_,_] [_,_,_,_,_] [] [] (by omega) hs (by simp [kOK,hz]) (by simp) ?_ | refine Cov.goG (nid+20) Hs [_,_,_,_,_] [_,_,_,_,_] [] [] (by omega) hs (by simp [kOK,hz]) (by simp) ?_ | refine Cov.goG (nid+20) Hs [_,_,_,_,_,_] [_,_,_,_,_] [] [] (by omega) hs (by simp [kOK,hz]) (by simp) ?_ | refine Cov.goG (nid+20) Hs [_,_,_,_,_,_,_] [_,_,_,_,_] [] [] (by omega) hs (by simp [kOK,hz]) (by simp) ?_ | refine Cov.goG (nid+20) Hs [_,_,_,_,_,_,_,_] [_,_,_,_,_] [] [] (by omega) hs (by simp [kOK,hz]) (by simp) ?_ | refine Cov.goG (nid+20) Hs [_,_,_,_,_,_,_,_,_] [_,_,_,_,_] [] [] (by omega) hs (by simp [kOK,hz]) (by simp) ?_ | refine Cov.goG (nid+20) Hs [_,_,_,_,_,_,_,_,_,_] [_,_,_,_,_] [] [] (by omega) hs (by simp [kOK,hz]) (by simp) ?_ | refine Cov.goG (nid+20) Hs [_,_,_,_,_,_,_,_,_,_,_] [_,_,_,_,_] [] [] (by omega) hs (by simp [kOK,hz]) (by simp) ?_ | refine Cov.goG (nid+20) Hs [_,_,_,_,_,_,_,_,_,_,_,_] [_,_,_,_,_] [] [] (by omega) hs (by simp [kOK,hz]) (by simp) ?_ | refine Cov.goG (nid+20) Hs [_,_,_,_,_,_,_,_,_,_,_,_,_] [_,_,_,_,_] [] [] (by omega) hs (by simp [kOK,hz]) (by simp) ?_ | refine Cov.goG (nid+20) Hs [_,_,_,_,_,_,_,_,_,_,_,_,_,_] [_,_,_,_,_] [] [] (by omega) hs (by simp [kOK,hz]) (by simp) ?_ | refine Cov.goG (nid+20) Hs [_,_,_,_,_,_,_,_,_,_,_,_,_,_,_] [_,_,_,_,_] [] [] (by omega) hs (by simp [kOK,hz]) (by simp) ?_ | refine Cov.goG (nid+20) Hs [_,_,_,_,_,_,_,_,_,_,_,_,_,_,_,_] [_,_,_,_,_] [] [] (by omega) hs (by simp [kOK,hz]) (by simp) ?_ | refine Cov.goG (nid+20) Hs [_,_,_,_,_,_,_,_,_,_,_,_,_,_,_,_,_] [_,_,_,_,_] [] [] (by omega) hs (by simp [kOK,hz]) (by simp) ?_ | refine Cov.goG (nid+20) Hs [_,_,_,_,_,_,_,_,_,_,_,_,_,_,_,_,_,_] [_,_,_,_,_] [] [] (by omega) hs (by simp [kOK,hz]) (by simp) ?_ | refine Cov.goG (nid+20) Hs [_,_,_,_,_,_,_,_,_,_,_,_,_,_,_,_,_,_,_] [_,_,_,_,_] [] [] (by omega) hs (by simp [kOK,hz]) (by simp) ?_ | refine Cov.goG (nid+20) Hs [_,_,_,_,_,_,_,_,_,_,_,_,_,_,_,_,_,_,_,_] [_,_,_,_,_] [] [] (by omega) hs (by simp [kOK,hz]) (by simp) ?_ | refine Cov.goG (nid+20) Hs [_,_,_,_,_,_,_,_,_,_,_,_,_,_,_,_,_,_,_,_,_] [_,_,_,_,_] [] [] (by omega) hs (by simp [kOK,hz]) (by simp) ?_ | refine Cov.goG (nid+20) Hs [_,_,_,_,_,_,_,_,_,_,_,_,_,_,_,_,_,_,_,_,_,_] [_,_,_,_,_] [] [] (by omega) hs (by simp [kOK,hz]) (by simp) ?_ | refine Cov.goG (nid+20) Hs [_,_,_,_,_,_,_,_,_,_,_,_,_,_,_,_,_,_,_,_,_,_,_] [_,_,_,_,_] [] [] (by omega) hs (by simp [kOK,hz]) (by simp) ?_
    simp [cvT,step,res,boxL,portB,mapS,port0,chB,litRg,litIn,ColsEq.refl,-List.getD_eq_getElem?_getD]
    exact fun j hj=>by omega
  refine SR.run (t:=.mk) ?_
  unfold portB mapS chB
  simp -dsimp only [aqA,↓seqK,↓blkK,↓loopK,step,stepBin,eqB,Nat.add_assoc nid,↓reduceIte,simprocAttr,LN_succ]
  refine ⟨⟨by omega,by omega⟩,(b1,b2),?_⟩
  rw [← hH]
  simp only
  have hn:∀ a,1≤a→(nid+a==nid)=false:=fun a ha=>by rw [beq_eq_false_iff_ne]; omega
  have hk3:k=0∨k=1∨k=2:=by omega
  clear hc1 hc2 hcol hlow hnew hfz hz hge hs hlf hck hH hq
  rcases hk3 with rfl | rfl | rfl
  ·simp only [portsK,portsH,List.range_succ,List.range_zero,List.nil_append,List.cons_append,List.map_cons,List.map_nil,Nat.add_assoc,Nat.reduceAdd]
   refine Cov.go [(nid+1,nid+1828),(nid+2,nid+420),(nid+3,nid+421),(nid+4,nid+422)] [] ?_
   simp [cvT,step,res,setF,portB,mapS,port0,litRg,litIn,chB,hx,ColsEq.refl,-List.getD_eq_getElem?_getD]
   rfl
  ·simp only [portsK,portsH,List.range_succ,List.range_zero,List.nil_append,List.cons_append,List.map_cons,List.map_nil,Nat.add_assoc,Nat.reduceAdd]
   refine Cov.go [(nid+1,nid+1828),(nid+5,nid+420),(nid+6,nid+421),(nid+7,nid+422)] [] ?_
   simp [cvT,step,res,setF,portB,mapS,port0,litRg,litIn,chB,hx,ColsEq.refl,-List.getD_eq_getElem?_getD]
   exact fun j hj=>by rcases (by omega:j=0∨j=1) with rfl | rfl <;> simp [hn]
  ·simp only [portsK,portsH,List.range_succ,List.range_zero,List.nil_append,List.cons_append,List.map_cons,List.map_nil,Nat.add_assoc,Nat.reduceAdd]
   refine Cov.go [(nid+1,nid+1828),(nid+8,nid+420),(nid+9,nid+421),(nid+10,nid+422)] [] ?_
   simp [cvT,step,res,setF,portB,mapS,port0,litRg,litIn,chB,hx,ColsEq.refl,-List.getD_eq_getElem?_getD]
   exact fun j hj=>by rcases (by omega:j=0∨j=1∨j=2) with rfl | rfl | rfl <;> simp [hn]
 ·have hkn:k=D.length:=by omega
  subst hkn
  refine ⟨f,?_⟩
  have e:chainH nid 0 (portsK D f D.length)=(nid,some (.box 95 [.int .i64 ((0:Nat):Int),.sl (nid+1) 0 D.length]))::(nid+1,some (.arr 98 D.length [.q fun k=>nid+2+3 * k]))::portsH (nid+2) (portsK D f D.length):=by
   unfold chainH chB
   rw [portsK_len]
  rw [e]
  rw [hcol]
  exact Cov.sub (by omega) (by simp only [SlotsIn,aqA,↓seqK,↓blkK,↓loopK,step,stepBin,eqB,Nat.reduceBEq,Nat.reduceBeqDiff,Nat.add_assoc nid,Nat.reduceAdd,reduceCtorEq,↓reduceIte,Nat.reduceLeDiff,Nat.reduceBneDiff,Nat.reduceLT]; try simp) (subH_refl _)
end Go.Proofs.YtahjohieahehjaaGreatDoor
namespace Go.Proofs.YtahjohieahehjaaGreatDoor
open Go.RowKit
theorem nameEq (a b:Bs):(a==b)=decide (a=b):=strEq a b
set_option maxHeartbeats 4000000 in
theorem instr10_c (st:Nat) (p:Port) (c nid:Nat) (hc:c+11≤nid)  :
  ACall Tryz.prog 36 [.ptr c 0,.str p.d.name] (chainH c st [p]) nid (.tup [.str p.instr,.int .i64 0]) []:=by
 have hf:∀ m,c+11≤m→ACall Tryz.prog 86 [.ptr c 0,.str p.d.name] (chainH c st [p]) m (.ptr (c+2) 0) []:=fun m hm=>by
  have g:=id_row hm (by omega)
  have b0:(p.d.name==p.d.name)=true:=by rw [nameEq]; exact decide_eq_true rfl
  simp only [chainH,portsH,List.length_cons,List.length_nil,Nat.zero_add,Nat.add_assoc,Nat.reduceAdd]
  refine acall_run c86 (by simp [a86]) ?_
  unfold chB portB
  simp -dsimp only [a86,aqA,↓seqK,↓blkK,↓loopK,step,stepBin,eqB,Nat.add_assoc nid,↓reduceIte,simprocAttr,LN_succ,g]
  refine LP.rounds 2 ?_
  simp -dsimp only [aqA,↓seqK,↓blkK,↓loopK,step,stepBin,eqB,Nat.add_assoc nid,↓reduceIte,simprocAttr,LN_succ,g,b0]
  refine RetOK.go [] [] (.inl rfl) ?_
  simp [a86,cvT,step,res,g,mapS,litRg,litIn,ColsEq.refl,-List.getD_eq_getElem?_getD]
  all_goals exact fun j hj=>by omega
 have hs:=chainH_scoped c nid st [p] (by simp) hc
 have hld:getH (chainH c st [p]) (c+2)=portB p (c+3) (c+4):=by
  simp only [chainH,portsH,Nat.add_assoc,Nat.reduceAdd,aqA,↓seqK,↓blkK,↓loopK,step,stepBin,eqB,Nat.add_assoc nid,↓reduceIte,simprocAttr,LN_succ]
 generalize chainH c st [p]=Hs at *
 unfold portB litRg litIn at hld
 refine acall_run c36 (by simp [a36]) ?_
 simp -dsimp only [a36,aqA,↓seqK,↓blkK,↓loopK,step,stepBin,eqB,Nat.add_assoc nid,↓reduceIte,simprocAttr,LN_succ]
 refine CallO.on (hf _ (by omega)) (subH_refl _) ?_
 simp -dsimp only [aqA,↓seqK,↓blkK,↓loopK,step,stepBin,eqB,Nat.add_assoc nid,↓reduceIte,simprocAttr,LN_succ,hld]
 refine RetOK.goF Hs [] [] [] [] [] (.inl rfl) hs (by simp [kOK]) rfl ?_
 simp [a36,cvT,step,res]
set_option maxHeartbeats 4000000 in
theorem instr20_c (st:Nat) (p q:Port) (c nid:Nat) (hc:c+11≤nid)  :
  ACall Tryz.prog 36 [.ptr c 0,.str p.d.name] (chainH c st [p,q]) nid (.tup [.str p.instr,.int .i64 0]) []:=by
 have hf:∀ m,c+11≤m→ACall Tryz.prog 86 [.ptr c 0,.str p.d.name] (chainH c st [p,q]) m (.ptr (c+2) 0) []:=fun m hm=>by
  have g:=id_row hm (by omega)
  have b0:(p.d.name==p.d.name)=true:=by rw [nameEq]; exact decide_eq_true rfl
  simp only [chainH,portsH,List.length_cons,List.length_nil,Nat.zero_add,Nat.add_assoc,Nat.reduceAdd]
  refine acall_run c86 (by simp [a86]) ?_
  unfold chB portB
  simp -dsimp only [a86,aqA,↓seqK,↓blkK,↓loopK,step,stepBin,eqB,Nat.add_assoc nid,↓reduceIte,simprocAttr,LN_succ,g]
  refine LP.rounds 3 ?_
  simp -dsimp only [aqA,↓seqK,↓blkK,↓loopK,step,stepBin,eqB,Nat.add_assoc nid,↓reduceIte,simprocAttr,LN_succ,g,b0]
  refine RetOK.go [] [] (.inl rfl) ?_
  simp [a86,cvT,step,res,g,mapS,litRg,litIn,ColsEq.refl,-List.getD_eq_getElem?_getD]
  all_goals exact fun j hj=>by omega
 have hs:=chainH_scoped c nid st [p,q] (by simp) hc
 have hld:getH (chainH c st [p,q]) (c+2)=portB p (c+3) (c+4):=by
  simp only [chainH,portsH,Nat.add_assoc,Nat.reduceAdd,aqA,↓seqK,↓blkK,↓loopK,step,stepBin,eqB,Nat.add_assoc nid,↓reduceIte,simprocAttr,LN_succ]
 generalize chainH c st [p,q]=Hs at *
 unfold portB litRg litIn at hld
 refine acall_run c36 (by simp [a36]) ?_
 simp -dsimp only [a36,aqA,↓seqK,↓blkK,↓loopK,step,stepBin,eqB,Nat.add_assoc nid,↓reduceIte,simprocAttr,LN_succ]
 refine CallO.on (hf _ (by omega)) (subH_refl _) ?_
 simp -dsimp only [aqA,↓seqK,↓blkK,↓loopK,step,stepBin,eqB,Nat.add_assoc nid,↓reduceIte,simprocAttr,LN_succ,hld]
 refine RetOK.goF Hs [] [] [] [] [] (.inl rfl) hs (by simp [kOK]) rfl ?_
 simp [a36,cvT,step,res]
set_option maxHeartbeats 4000000 in
theorem instr21_c (st:Nat) (p q:Port) (c nid:Nat) (hc:c+11≤nid) (h0:¬ p.d.name=q.d.name) :
  ACall Tryz.prog 36 [.ptr c 0,.str q.d.name] (chainH c st [p,q]) nid (.tup [.str q.instr,.int .i64 0]) []:=by
 have hf:∀ m,c+11≤m→ACall Tryz.prog 86 [.ptr c 0,.str q.d.name] (chainH c st [p,q]) m (.ptr (c+5) 0) []:=fun m hm=>by
  have g:=id_row hm (by omega)
  have b0:(p.d.name==q.d.name)=false:=by rw [nameEq]; exact decide_eq_false h0
  have b1:(q.d.name==q.d.name)=true:=by rw [nameEq]; exact decide_eq_true rfl
  simp only [chainH,portsH,List.length_cons,List.length_nil,Nat.zero_add,Nat.add_assoc,Nat.reduceAdd]
  refine acall_run c86 (by simp [a86]) ?_
  unfold chB portB
  simp -dsimp only [a86,aqA,↓seqK,↓blkK,↓loopK,step,stepBin,eqB,Nat.add_assoc nid,↓reduceIte,simprocAttr,LN_succ,g]
  refine LP.rounds 3 ?_
  simp -dsimp only [aqA,↓seqK,↓blkK,↓loopK,step,stepBin,eqB,Nat.add_assoc nid,↓reduceIte,simprocAttr,LN_succ,g,b0,b1]
  refine ⟨by unfold inI64; omega,?_⟩
  refine RetOK.go [] [] (.inl rfl) ?_
  simp [a86,cvT,step,res,g,mapS,litRg,litIn,ColsEq.refl,-List.getD_eq_getElem?_getD]
  all_goals exact fun j hj=>by omega
 have hs:=chainH_scoped c nid st [p,q] (by simp) hc
 have hld:getH (chainH c st [p,q]) (c+5)=portB q (c+6) (c+7):=by
  simp only [chainH,portsH,Nat.add_assoc,Nat.reduceAdd,aqA,↓seqK,↓blkK,↓loopK,step,stepBin,eqB,Nat.add_assoc nid,↓reduceIte,simprocAttr,LN_succ]
 generalize chainH c st [p,q]=Hs at *
 unfold portB litRg litIn at hld
 refine acall_run c36 (by simp [a36]) ?_
 simp -dsimp only [a36,aqA,↓seqK,↓blkK,↓loopK,step,stepBin,eqB,Nat.add_assoc nid,↓reduceIte,simprocAttr,LN_succ]
 refine CallO.on (hf _ (by omega)) (subH_refl _) ?_
 simp -dsimp only [aqA,↓seqK,↓blkK,↓loopK,step,stepBin,eqB,Nat.add_assoc nid,↓reduceIte,simprocAttr,LN_succ,hld]
 refine RetOK.goF Hs [] [] [] [] [] (.inl rfl) hs (by simp [kOK]) rfl ?_
 simp [a36,cvT,step,res]
set_option maxHeartbeats 4000000 in
theorem instr30_c (st:Nat) (p q r:Port) (c nid:Nat) (hc:c+11≤nid)  :
  ACall Tryz.prog 36 [.ptr c 0,.str p.d.name] (chainH c st [p,q,r]) nid (.tup [.str p.instr,.int .i64 0]) []:=by
 have hf:∀ m,c+11≤m→ACall Tryz.prog 86 [.ptr c 0,.str p.d.name] (chainH c st [p,q,r]) m (.ptr (c+2) 0) []:=fun m hm=>by
  have g:=id_row hm (by omega)
  have b0:(p.d.name==p.d.name)=true:=by rw [nameEq]; exact decide_eq_true rfl
  simp only [chainH,portsH,List.length_cons,List.length_nil,Nat.zero_add,Nat.add_assoc,Nat.reduceAdd]
  refine acall_run c86 (by simp [a86]) ?_
  unfold chB portB
  simp -dsimp only [a86,aqA,↓seqK,↓blkK,↓loopK,step,stepBin,eqB,Nat.add_assoc nid,↓reduceIte,simprocAttr,LN_succ,g]
  refine LP.rounds 4 ?_
  simp -dsimp only [aqA,↓seqK,↓blkK,↓loopK,step,stepBin,eqB,Nat.add_assoc nid,↓reduceIte,simprocAttr,LN_succ,g,b0]
  refine RetOK.go [] [] (.inl rfl) ?_
  simp [a86,cvT,step,res,g,mapS,litRg,litIn,ColsEq.refl,-List.getD_eq_getElem?_getD]
  all_goals exact fun j hj=>by omega
 have hs:=chainH_scoped c nid st [p,q,r] (by simp) hc
 have hld:getH (chainH c st [p,q,r]) (c+2)=portB p (c+3) (c+4):=by
  simp only [chainH,portsH,Nat.add_assoc,Nat.reduceAdd,aqA,↓seqK,↓blkK,↓loopK,step,stepBin,eqB,Nat.add_assoc nid,↓reduceIte,simprocAttr,LN_succ]
 generalize chainH c st [p,q,r]=Hs at *
 unfold portB litRg litIn at hld
 refine acall_run c36 (by simp [a36]) ?_
 simp -dsimp only [a36,aqA,↓seqK,↓blkK,↓loopK,step,stepBin,eqB,Nat.add_assoc nid,↓reduceIte,simprocAttr,LN_succ]
 refine CallO.on (hf _ (by omega)) (subH_refl _) ?_
 simp -dsimp only [aqA,↓seqK,↓blkK,↓loopK,step,stepBin,eqB,Nat.add_assoc nid,↓reduceIte,simprocAttr,LN_succ,hld]
 refine RetOK.goF Hs [] [] [] [] [] (.inl rfl) hs (by simp [kOK]) rfl ?_
 simp [a36,cvT,step,res]
set_option maxHeartbeats 4000000 in
theorem instr31_c (st:Nat) (p q r:Port) (c nid:Nat) (hc:c+11≤nid) (h0:¬ p.d.name=q.d.name) :
  ACall Tryz.prog 36 [.ptr c 0,.str q.d.name] (chainH c st [p,q,r]) nid (.tup [.str q.instr,.int .i64 0]) []:=by
 have hf:∀ m,c+11≤m→ACall Tryz.prog 86 [.ptr c 0,.str q.d.name] (chainH c st [p,q,r]) m (.ptr (c+5) 0) []:=fun m hm=>by
  have g:=id_row hm (by omega)
  have b0:(p.d.name==q.d.name)=false:=by rw [nameEq]; exact decide_eq_false h0
  have b1:(q.d.name==q.d.name)=true:=by rw [nameEq]; exact decide_eq_true rfl
  simp only [chainH,portsH,List.length_cons,List.length_nil,Nat.zero_add,Nat.add_assoc,Nat.reduceAdd]
  refine acall_run c86 (by simp [a86]) ?_
  unfold chB portB
  simp -dsimp only [a86,aqA,↓seqK,↓blkK,↓loopK,step,stepBin,eqB,Nat.add_assoc nid,↓reduceIte,simprocAttr,LN_succ,g]
  refine LP.rounds 4 ?_
  simp -dsimp only [aqA,↓seqK,↓blkK,↓loopK,step,stepBin,eqB,Nat.add_assoc nid,↓reduceIte,simprocAttr,LN_succ,g,b0,b1]
  refine ⟨by unfold inI64; omega,?_⟩
  refine RetOK.go [] [] (.inl rfl) ?_
  simp [a86,cvT,step,res,g,mapS,litRg,litIn,ColsEq.refl,-List.getD_eq_getElem?_getD]
  all_goals exact fun j hj=>by omega
 have hs:=chainH_scoped c nid st [p,q,r] (by simp) hc
 have hld:getH (chainH c st [p,q,r]) (c+5)=portB q (c+6) (c+7):=by
  simp only [chainH,portsH,Nat.add_assoc,Nat.reduceAdd,aqA,↓seqK,↓blkK,↓loopK,step,stepBin,eqB,Nat.add_assoc nid,↓reduceIte,simprocAttr,LN_succ]
 generalize chainH c st [p,q,r]=Hs at *
 unfold portB litRg litIn at hld
 refine acall_run c36 (by simp [a36]) ?_
 simp -dsimp only [a36,aqA,↓seqK,↓blkK,↓loopK,step,stepBin,eqB,Nat.add_assoc nid,↓reduceIte,simprocAttr,LN_succ]
 refine CallO.on (hf _ (by omega)) (subH_refl _) ?_
 simp -dsimp only [aqA,↓seqK,↓blkK,↓loopK,step,stepBin,eqB,Nat.add_assoc nid,↓reduceIte,simprocAttr,LN_succ,hld]
 refine RetOK.goF Hs [] [] [] [] [] (.inl rfl) hs (by simp [kOK]) rfl ?_
 simp [a36,cvT,step,res]
set_option maxHeartbeats 4000000 in
theorem instr32_c (st:Nat) (p q r:Port) (c nid:Nat) (hc:c+11≤nid) (h0:¬ p.d.name=r.d.name) (h1:¬ q.d.name=r.d.name) :
  ACall Tryz.prog 36 [.ptr c 0,.str r.d.name] (chainH c st [p,q,r]) nid (.tup [.str r.instr,.int .i64 0]) []:=by
 have hf:∀ m,c+11≤m→ACall Tryz.prog 86 [.ptr c 0,.str r.d.name] (chainH c st [p,q,r]) m (.ptr (c+8) 0) []:=fun m hm=>by
  have g:=id_row hm (by omega)
  have b0:(p.d.name==r.d.name)=false:=by rw [nameEq]; exact decide_eq_false h0
  have b1:(q.d.name==r.d.name)=false:=by rw [nameEq]; exact decide_eq_false h1
  have b2:(r.d.name==r.d.name)=true:=by rw [nameEq]; exact decide_eq_true rfl
  simp only [chainH,portsH,List.length_cons,List.length_nil,Nat.zero_add,Nat.add_assoc,Nat.reduceAdd]
  refine acall_run c86 (by simp [a86]) ?_
  unfold chB portB
  simp -dsimp only [a86,aqA,↓seqK,↓blkK,↓loopK,step,stepBin,eqB,Nat.add_assoc nid,↓reduceIte,simprocAttr,LN_succ,g]
  refine LP.rounds 4 ?_
  simp -dsimp only [aqA,↓seqK,↓blkK,↓loopK,step,stepBin,eqB,Nat.add_assoc nid,↓reduceIte,simprocAttr,LN_succ,g,b0,b1,b2]
  refine ⟨by unfold inI64; omega,?_⟩
  refine ⟨by unfold inI64; omega,?_⟩
  refine RetOK.go [] [] (.inl rfl) ?_
  simp [a86,cvT,step,res,g,mapS,litRg,litIn,ColsEq.refl,-List.getD_eq_getElem?_getD]
  all_goals exact fun j hj=>by omega
 have hs:=chainH_scoped c nid st [p,q,r] (by simp) hc
 have hld:getH (chainH c st [p,q,r]) (c+8)=portB r (c+9) (c+10):=by
  simp only [chainH,portsH,Nat.add_assoc,Nat.reduceAdd,aqA,↓seqK,↓blkK,↓loopK,step,stepBin,eqB,Nat.add_assoc nid,↓reduceIte,simprocAttr,LN_succ]
 generalize chainH c st [p,q,r]=Hs at *
 unfold portB litRg litIn at hld
 refine acall_run c36 (by simp [a36]) ?_
 simp -dsimp only [a36,aqA,↓seqK,↓blkK,↓loopK,step,stepBin,eqB,Nat.add_assoc nid,↓reduceIte,simprocAttr,LN_succ]
 refine CallO.on (hf _ (by omega)) (subH_refl _) ?_
 simp -dsimp only [aqA,↓seqK,↓blkK,↓loopK,step,stepBin,eqB,Nat.add_assoc nid,↓reduceIte,simprocAttr,LN_succ,hld]
 refine RetOK.goF Hs [] [] [] [] [] (.inl rfl) hs (by simp [kOK]) rfl ?_
 simp [a36,cvT,step,res]
theorem instr_c (st:Nat) (P:List Port) (k c nid:Nat) (p:Port) (hc:c+11≤nid) (hP:P.length≤3) (hk:P[k]?=some p) (hd:∀ j,j<k→∀ q,P[j]?=some q→¬ q.d.name=p.d.name) :
  ACall Tryz.prog 36 [.ptr c 0,.str p.d.name] (chainH c st P) nid (.tup [.str p.instr,.int .i64 0]) []:=by
 rcases P with _ | ⟨p0,_ | ⟨p1,_ | ⟨p2,_ | ⟨p3,P⟩⟩⟩⟩
 ·simp at hk
 ·rcases k with _ | k
  ·simp at hk; subst hk; exact instr10_c st p0 c nid hc
  ·simp at hk
 ·rcases k with _ | _ | k
  ·simp at hk; subst hk; exact instr20_c st p0 p1 c nid hc
  ·simp at hk; subst hk; exact instr21_c st p0 p1 c nid hc (hd 0 (by omega) p0 rfl)
  ·simp at hk
 ·rcases k with _ | _ | _ | k
  ·simp at hk; subst hk; exact instr30_c st p0 p1 p2 c nid hc
  ·simp at hk; subst hk; exact instr31_c st p0 p1 p2 c nid hc (hd 0 (by omega) p0 rfl)
  ·simp at hk; subst hk; exact instr32_c st p0 p1 p2 c nid hc (hd 0 (by omega) p0 rfl) (hd 1 (by omega) p1 rfl)
  ·simp at hk
 ·simp at hP
theorem shiftIR_c (x:ChV) (l:Bs) (n c nid:Nat) (hc:c+11≤nid) (hx:ChOk n x) (hs:x.st<2) (h0:0<l.length) (hf:bitsFaultV l=0) (hn0:0<n) (hn:n≤3) :
  ACall Tryz.prog 35 [.ptr c 0,.str l] (chH c x) nid (.tup [.str (scanO x 11 l),.int .i64 0]) (chH c (scanV x 11 l)):=by
 have hsc:=fun m (hm:c+11≤m)=>scan_c x 11 l n c m hm hx hs (.inr rfl) h0 hf hn0 hn
 obtain ⟨hl,hll⟩:=bits_ok hf
 have hokV:=scanV_ok (T:=11) hx hs (.inr rfl) hl
 have hs2:Scoped nid (chH c (scanV x 11 l)):=chainH_scoped c nid _ _ (by rw [hokV.len]; exact hn) hc
 have hk2:keys (chH c x)=keys (chH c (scanV x 11 l)):=chainH_keys c _ _ _ _ (by rw [hx.len,hokV.len])
 generalize chH c (scanV x 11 l)=Hs2 at *
 generalize chH c x=Hs at *
 refine acall_run c35 (by simp [a35]) ?_
 simp -dsimp only [a35,aqA,↓seqK,↓blkK,↓loopK,step,stepBin,eqB,Nat.add_assoc nid,↓reduceIte,simprocAttr,LN_succ]
 refine CallO.on (hsc _ (by omega)) (subH_refl _) ?_
 simp -dsimp only [aqA,↓seqK,↓blkK,↓loopK,step,stepBin,eqB,Nat.add_assoc nid,↓reduceIte,simprocAttr,LN_succ]
 refine RetOK.whole (.inl rfl) hs2 (fun id hid=>by rw [← hk2]; exact hid) (subH_front _ _) ?_
 simp [a35,cvT,step,res]
theorem shiftDR_c (x:ChV) (l:Bs) (n c nid:Nat) (hc:c+11≤nid) (hx:ChOk n x) (hs:x.st<2) (h0:0<l.length) (hf:bitsFaultV l=0) (hn0:0<n) (hn:n≤3) :
  ACall Tryz.prog 40 [.ptr c 0,.str l] (chH c x) nid (.tup [.str (scanO x 4 l),.int .i64 0]) (chH c (scanV x 4 l)):=by
 have hsc:=fun m (hm:c+11≤m)=>scan_c x 4 l n c m hm hx hs (.inl rfl) h0 hf hn0 hn
 obtain ⟨hl,hll⟩:=bits_ok hf
 have hokV:=scanV_ok (T:=4) hx hs (.inl rfl) hl
 have hs2:Scoped nid (chH c (scanV x 4 l)):=chainH_scoped c nid _ _ (by rw [hokV.len]; exact hn) hc
 have hk2:keys (chH c x)=keys (chH c (scanV x 4 l)):=chainH_keys c _ _ _ _ (by rw [hx.len,hokV.len])
 generalize chH c (scanV x 4 l)=Hs2 at *
 generalize chH c x=Hs at *
 refine acall_run c40 (by simp [a40]) ?_
 simp -dsimp only [a40,aqA,↓seqK,↓blkK,↓loopK,step,stepBin,eqB,Nat.add_assoc nid,↓reduceIte,simprocAttr,LN_succ]
 refine CallO.on (hsc _ (by omega)) (subH_refl _) ?_
 simp -dsimp only [aqA,↓seqK,↓blkK,↓loopK,step,stepBin,eqB,Nat.add_assoc nid,↓reduceIte,simprocAttr,LN_succ]
 refine RetOK.whole (.inl rfl) hs2 (fun id hid=>by rw [← hk2]; exact hid) (subH_front _ _) ?_
 simp [a40,cvT,step,res]
end Go.Proofs.YtahjohieahehjaaGreatDoor
namespace Go.Proofs.YtahjohieahehjaaGreatDoor
def flatS:List Port→Bs
 | []=>[]
 | p::r=>flatS r++p.shift
structure SameP (p q:Port):Prop where
 d:q.d=p.d
 ins:q.instr=p.instr
 l:q.shift.length=p.shift.length
 iD:q.iD=p.iD
 iV:q.iV=p.iV
inductive SamePs:List Port→List Port→Prop
 | nil:SamePs [] []
 | cons {p q:Port} {P Q:List Port}:SameP p q→SamePs P Q→SamePs (p::P) (q::Q)
theorem SameP.refl (p:Port):SameP p p:=⟨rfl,rfl,rfl,rfl,rfl⟩
theorem SamePs.refl:∀ P,SamePs P P
 | []=>.nil
 | p::P=>.cons (.refl p) (SamePs.refl P)
theorem SameP.trans {p q r:Port} (h:SameP p q) (k:SameP q r):SameP p r:=⟨k.d.trans h.d,k.ins.trans h.ins,k.l.trans h.l,k.iD.trans h.iD,k.iV.trans h.iV⟩
theorem SamePs.trans:∀ {P Q R},SamePs P Q→SamePs Q R→SamePs P R
 | [],_,_,.nil,.nil=>.nil
 | _::_,_,_,.cons h hs,.cons k ks=>.cons (h.trans k) (hs.trans ks)
theorem act_shift {st:Nat} (hs:shifts st=true) {p:Port} (h:0<p.shift.length) (b:UInt8):(actV st p b).2::(actV st p b).1.shift=p.shift++[b]∧SameP p (actV st p b).1:=by
 have h411:st=4∨st=11:=by
  unfold shifts at hs
  simpa using hs
 have h0:¬ st=0:=by omega
 have h3:¬ st=3:=by omega
 unfold actV
 rw [if_neg h0,if_neg h3,if_pos h411]
 cases hp:p.shift with
 | nil=>rw [hp] at h; simp at h
 | cons a s=>exact ⟨by simp,rfl,rfl,by simp [hp],rfl,rfl⟩
theorem clock_shift {st:Nat} (hs:shifts st=true):∀ {P:List Port} {b:UInt8},(∀ p∈P,0<p.shift.length)→(clockP st P b).2::flatS (clockP st P b).1=flatS P++[b]∧SamePs P (clockP st P b).1
 | [],b,_=>⟨rfl,.nil⟩
 | p::P,b,h=>by
  obtain ⟨h1,h2⟩:=act_shift hs (h p List.mem_cons_self) b
  obtain ⟨h3,h4⟩:=clock_shift hs (P:=P) (b:=(actV st p b).2) fun q hq=>h q (List.mem_cons_of_mem _ hq)
  refine ⟨?_,.cons h2 h4⟩
  simp only [clockP,flatS]
  rw [← List.cons_append,h3,List.append_assoc,List.append_assoc,List.singleton_append,h1]
def fedP (st:Nat) (P:List Port) (l:Bs):Nat→List Port
 | 0=>P
 | k+1=>(clockP st (fedP st P l k) (l.getD k 0)).1
def fedO (st:Nat) (P:List Port) (l:Bs) (k:Nat):UInt8:=(clockP st (fedP st P l k) (l.getD k 0)).2
theorem fed_law {st:Nat} (hs:shifts st=true) {P:List Port} {l:Bs} (h:∀ p∈P,0<p.shift.length):∀ k,k≤l.length→((List.range k).map (fedO st P l)++flatS (fedP st P l k)=flatS P++l.take k∧SamePs P (fedP st P l k)∧∀ p∈fedP st P l k,0<p.shift.length)
 | 0,_=>⟨by simp [fedP],.refl P,h⟩
 | k+1,hk=>by
  obtain ⟨h1,h2,h3⟩:=fed_law (l:=l) hs h k (by omega)
  obtain ⟨h4,h5⟩:=clock_shift hs (b:=l.getD k 0) h3
  have e:fedP st P l (k+1)=(clockP st (fedP st P l k) (l.getD k 0)).1:=rfl
  have e2:fedO st P l k=(clockP st (fedP st P l k) (l.getD k 0)).2:=rfl
  have htk:l.take (k+1)=l.take k++[l.getD k 0]:=by
   have hk':k<l.length:=by omega
   rw [List.take_add_one,List.getElem?_eq_getElem hk',List.getD_eq_getElem?_getD,List.getElem?_eq_getElem hk']
   rfl
  refine ⟨?_,?_,?_⟩
  ·rw [List.range_succ,List.map_append,htk,List.append_assoc,List.map_singleton,List.singleton_append,e,e2,h4,← List.append_assoc,h1,List.append_assoc]
  ·rw [e]; exact h2.trans h5
  ·rw [e]
   have:∀ {P Q:List Port},SamePs P Q→(∀ p∈P,0<p.shift.length)→∀ p∈Q,0<p.shift.length:=fun hpq=>by
    induction hpq with
    | nil=>exact fun h=>h
    | cons h _ ih =>
     intro hp p hm
     rcases List.mem_cons.1 hm with rfl | hm
     ·rw [h.l]; exact hp _ List.mem_cons_self
     ·exact ih (fun q hq=>hp q (List.mem_cons_of_mem _ hq)) p hm
   exact this h5 h3
end Go.Proofs.YtahjohieahehjaaGreatDoor
