/-
 A device that the stream spoils at one place,by the abstract machine.
-/
import Derived.Test.YtahjohieahehjaaGreatDoorKID6
import Derived.Test.YtahjohieahehjaaGreatDoorKID3
import Derived.Lib.SlTrimSet
import Derived.Test.YtahjohieahehjaaGreatDoorKID5
import Derived.Test.YtahjohieahehjaaGreatDoorKID4
set_option linter.unusedVariables false
set_option linter.unusedSimpArgs false
set_option maxRecDepth 100000
namespace Go.Proofs.YtahjohieahehjaaGreatDoor
open Go.RowKit
structure DevOk (d:Dev):Prop where
 nm:d.name.length≤10
 lg : -1099511627776≤d.long∧d.long≤1099511627776
 idb : -1099511627776≤d.id∧d.id≤1099511627776
 rl:d.regs.length≤2
 rs:∀ x∈d.regs,x.1.length≤10 ∧ -1099511627776≤x.2∧x.2≤1099511627776
 il:d.ins.length≤3
 is:∀ x∈d.ins,x.1.length≤10∧x.2.length≤10
theorem DevG.ok {d:Dev} (h:DevG d):DevOk d:=⟨by have:=h.nm; omega,by have:=h.lg; omega,by have:=h.idb; omega,h.rl,fun x hx=>by have:=h.rs x hx; omega,h.il,h.is⟩
theorem getD_setD (D:List Dev) {I:Nat} (d:Dev) (hI:I<D.length) (j:Nat):(D.set I d).getD j dev0=if j=I then d else D.getD j dev0:=by
 rw [List.getD_eq_getElem?_getD,List.getElem?_set]
 by_cases h:j=I
 ·subst h; simp [hI]
 ·rw [if_neg (fun e=>h e.symm),if_neg h,← List.getD_eq_getElem?_getD]
theorem nm3 {a:Bs} (h:a.length≤10):∀ x∈[a,[],[117,49]],x.length≤10:=fun x hx=>by
 simp only [List.mem_cons,List.not_mem_nil,or_false] at hx
 rcases hx with rfl | rfl | rfl
 ·exact h
 ·decide
 ·decide
theorem nm4 {a:Bs} (h:a.length≤10):∀ x∈[a,[98,121,112,97,115,115],[100,97,116,97],[65]],x.length≤10:=fun x hx=>by
 simp only [List.mem_cons,List.not_mem_nil,or_false] at hx
 rcases hx with rfl | rfl | rfl | rfl
 ·exact h
 all_goals decide
theorem set_proj {β:Type} (f:Dev→β) {D:List Dev} {I:Nat} {d d':Dev} (hI:I<D.length) (hd:D.getD I dev0=d) (hf:f d'=f d) (j:Nat):f ((D.set I d').getD j dev0)=f (D.getD j dev0):=by
 rw [getD_setD D d' hI]
 by_cases e:j=I
 ·rw [if_pos e,hf,e,hd]
 ·rw [if_neg e]
theorem nm5 {a b:Bs} (h:a.length≤10) (h2:b.length≤10):∀ x∈[a,b,[48],[48,120]],x.length≤10:=fun x hx=>by
 simp only [List.mem_cons,List.not_mem_nil,or_false] at hx
 rcases hx with rfl | rfl | rfl | rfl
 ·exact h
 ·exact h2
 all_goals decide
theorem nm6 {a:Bs} (h:a.length≤10):∀ x∈[a,[105,100,99,111,100,101],[122,122]],x.length≤10:=fun x hx=>by
 simp only [List.mem_cons,List.not_mem_nil,or_false] at hx
 rcases hx with rfl | rfl | rfl
 ·exact h
 all_goals decide
structure SpD where
 D:List Dev
 q:Nat
def spPost (D:List Dev) (q:Nat) (x:SpD):Prop:=x.D.length=D.length∧(∀ d∈x.D,DevOk d)∧x.q≤q+8
abbrev SpEnd (s nid q:Nat) (nl:Bool) (A:List Int) (D:List Dev) (e:AEx) (st:ST):Prop:=∃ x:SpD,spPost D q x∧RetOK a58.res ([(s,strmC nl A q)]++devHs nid D) (nid+200) (.tup []) ([(s,strmC nl A x.q)]++devHs nid x.D) e st
def spST (s nid q1:Nat) (nl:Bool) (A:List Int) (D:List Dev) (I k:Nat):ST:=⟨[(7,.int .i64 k),(0,.ptr s 0),(1,.arp (nid+24) I 0)],[(s,strmC nl A q1)]++devHs nid D,nid+300,nid+200⟩
set_option maxHeartbeats 16000000 in
theorem spoil_0 (s nid:Nat) (nl:Bool) (A:List Int) (q I:Nat) (D:List Dev) (h:s<nid) (hq:q≤1099500002000) (hA:A.length≤17592186044416) (hI:I<D.length) (hD:D.length≤3) (hG:∀ d∈D,DevG d) :
  SR Tryz.prog (dropV 1 a58.body) (spST s nid (q+1) nl A D I 0) (SpEnd s nid q nl A D) .mk:=by
 obtain ⟨e1,e2,e3,e4,e5,e6,e7,e8,e9⟩:=id_all h
 simp only [a58,dropV]
 unfold spST
 have hmem:D.getD I dev0∈D:=by rw [List.getD_eq_getElem?_getD,List.getElem?_eq_getElem hI]; exact List.getElem_mem _
 have hgI:=hG _ hmem
 have hset:∀ d,DevOk d→∀ x∈D.set I d,DevOk x:=fun d hd x hx=>by
  rcases List.mem_or_eq_of_mem_set hx with hx | rfl
  ·exact (hG x hx).ok
  ·exact hd
 have hsl:∀ d,(D.set I d).length=D.length:=fun d=>List.length_set
 have hsg:=fun d j=>getD_setD D (I:=I) d hI j
 refine SR.run (t:=.mk) ?_
 unfold devHs arrD
 simp -dsimp only [aqA,↓seqK,↓blkK,↓loopK,step,stepBin,eqB,Nat.add_assoc nid,↓reduceIte,simprocAttr,LN_succ,e1,e2,e3,e4,e5,e6,e7,e8,e9,strmC_low]
 refine CallO.some_go (T:=9) (nl:=nl) (A:=A) (p:=q+1) (g:=fun i=>[(D.getD I dev0).name,[],[117,49]].getD i []) (by simp only [aqA,↓seqK,↓blkK,↓loopK,step,stepBin,eqB,Nat.add_assoc nid,↓reduceIte,simprocAttr,LN_succ,e1,e2,e3,e4,e5,e6,e7,e8,e9]) (by simp only [aqA,↓seqK,↓blkK,↓loopK,step,stepBin,eqB,Nat.add_assoc nid,↓reduceIte,simprocAttr,LN_succ,e1,e2,e3,e4,e5,e6,e7,e8,e9]) (by simp only [aqA,↓seqK,↓blkK,↓loopK,step,stepBin,eqB,Nat.add_assoc nid,↓reduceIte,simprocAttr,LN_succ,e1,e2,e3,e4,e5,e6,e7,e8,e9]) (by omega) (by omega) hA (by omega) (by omega) ?_
 have hb:=getD_all (P:=fun x:Bs=>x.length≤10) (l:=[(D.getD I dev0).name,[],[117,49]]) (d:=[]) (nm3 (by have:=hgI.nm; omega)) (pickI_lt A (q+1) (n:=3) (by omega))
 generalize ([(D.getD I dev0).name,[],[117,49]].getD (pickI A (q+1) 3) []:Bs)=v at hb ⊢
 simp -dsimp only [aqA,↓seqK,↓blkK,↓loopK,step,stepBin,eqB,Nat.add_assoc nid,↓reduceIte,simprocAttr,LN_succ,e1,e2,e3,e4,e5,e6,e7,e8,e9,strmC_low]
 refine CallO.onE (oddI_c s _ nl A (q+1+1) 2 4 (by omega) (by omega) hA (by omega) (by omega) (by omega)) (subH_get (by simp only [aqA,↓seqK,↓blkK,↓loopK,step,stepBin,eqB,Nat.add_assoc nid,↓reduceIte,simprocAttr,LN_succ,e1,e2,e3,e4,e5,e6,e7,e8,e9])) (fun w hw=>?_)
 simp -dsimp only [aqA,↓seqK,↓blkK,↓loopK,step,stepBin,eqB,Nat.add_assoc nid,↓reduceIte,simprocAttr,LN_succ,e1,e2,e3,e4,e5,e6,e7,e8,e9,strmC_low]
 have hok:DevOk { D.getD I dev0 with name:=v,long:=w }:=⟨hb,hw,hgI.ok.idb,hgI.ok.rl,hgI.ok.rs,hgI.ok.il,hgI.ok.is⟩
 have hreg:∀ j,((D.set I { D.getD I dev0 with name:=v,long:=w }).getD j dev0).regs=(D.getD j dev0).regs:=fun j=>by
  rw [hsg]
  by_cases e:j=I
  ·rw [if_pos e,e]
  ·rw [if_neg e]
 have hins:∀ j,((D.set I { D.getD I dev0 with name:=v,long:=w }).getD j dev0).ins=(D.getD j dev0).ins:=fun j=>by
  rw [hsg]
  by_cases e:j=I
  ·rw [if_pos e,e]
  ·rw [if_neg e]
 refine ⟨⟨D.set I { D.getD I dev0 with name:=v,long:=w },q+1+1+2⟩,⟨hsl _,hset _ hok,by simp only; omega⟩,?_⟩
 have hcase:D.length=1∨D.length=2∨D.length=3:=by omega
 have hsl2:=hsl { D.getD I dev0 with name:=v,long:=w }
 have hn1:∀ j,(if j=I then v else (D.getD j dev0).name)=((D.set I { D.getD I dev0 with name:=v,long:=w }).getD j dev0).name:=fun j=>by
  rw [hsg]
  by_cases e:j=I
  ·rw [if_pos e,if_pos e]
  ·rw [if_neg e,if_neg e]
 have hn2:∀ j,(if j=I then w else (D.getD j dev0).long)=((D.set I { D.getD I dev0 with name:=v,long:=w }).getD j dev0).long:=fun j=>by
  rw [hsg]
  by_cases e:j=I
  ·rw [if_pos e,if_pos e]
  ·rw [if_neg e,if_neg e]
 have hn3:∀ j,(D.getD j dev0).id=((D.set I { D.getD I dev0 with name:=v,long:=w }).getD j dev0).id:=fun j=>by
  rw [hsg]
  by_cases e:j=I
  ·rw [if_pos e,e]
  ·rw [if_neg e]
 generalize D.set I { D.getD I dev0 with name:=v,long:=w }=D2 at *
 rcases hcase with hc | hc | hc
 all_goals
  simp only [hsl2,hc,famD,inRg,inIn,hreg,hins,arrRg,arrIn]
  refine RetOK.go [] [] (.inr rfl) ?_
  simp [a58,cvT,step,res,e1,e2,e3,e4,e5,e6,e7,e8,e9,strmC,hn1,hn2,hn3,hreg,hins,hsl2,hc,devHs,famD,inRg,inIn,arrD,arrRg,arrIn,-List.getD_eq_getElem?_getD]
  first | omega | exact ⟨by omega,fun j hj=>by omega,fun j hj=>by omega⟩
set_option maxHeartbeats 16000000 in
theorem spoil_1 (s nid:Nat) (nl:Bool) (A:List Int) (q I:Nat) (D:List Dev) (h:s<nid) (hq:q≤1099500002000) (hA:A.length≤17592186044416) (hI:I<D.length) (hD:D.length≤3) (hG:∀ d∈D,DevG d) :
  SR Tryz.prog (dropV 1 a58.body) (spST s nid (q+1) nl A D I 1) (SpEnd s nid q nl A D) .mk:=by
 obtain ⟨e1,e2,e3,e4,e5,e6,e7,e8,e9⟩:=id_all h
 simp only [a58,dropV]
 unfold spST
 have hmem:D.getD I dev0∈D:=by rw [List.getD_eq_getElem?_getD,List.getElem?_eq_getElem hI]; exact List.getElem_mem _
 have hgI:=hG _ hmem
 have hset:∀ d,DevOk d→∀ x∈D.set I d,DevOk x:=fun d hd x hx=>by
  rcases List.mem_or_eq_of_mem_set hx with hx | rfl
  ·exact (hG x hx).ok
  ·exact hd
 have hsl:∀ d,(D.set I d).length=D.length:=fun d=>List.length_set
 have hsg:=fun d j=>getD_setD D (I:=I) d hI j
 refine SR.run (t:=.mk) ?_
 unfold devHs arrD
 simp -dsimp only [aqA,↓seqK,↓blkK,↓loopK,step,stepBin,eqB,Nat.add_assoc nid,↓reduceIte,simprocAttr,LN_succ,e1,e2,e3,e4,e5,e6,e7,e8,e9,strmC_low]
 refine CallO.pick_go (T:=3) (nl:=nl) (A:=A) (p:=q+1) (g:=fun i=>[(D.getD I dev0).id,4,-1,4294967296,4294967297].getD i 0) (by simp only [aqA,↓seqK,↓blkK,↓loopK,step,stepBin,eqB,Nat.add_assoc nid,↓reduceIte,simprocAttr,LN_succ,e1,e2,e3,e4,e5,e6,e7,e8,e9]) (by simp only [aqA,↓seqK,↓blkK,↓loopK,step,stepBin,eqB,Nat.add_assoc nid,↓reduceIte,simprocAttr,LN_succ,e1,e2,e3,e4,e5,e6,e7,e8,e9]) (by simp only [aqA,↓seqK,↓blkK,↓loopK,step,stepBin,eqB,Nat.add_assoc nid,↓reduceIte,simprocAttr,LN_succ,e1,e2,e3,e4,e5,e6,e7,e8,e9]) (by omega) (by omega) hA (by omega) (by omega) ?_
 have hb:=getD_all (P:=fun x:Int => -1099511627776≤x∧x≤1099511627776) (l:=[(D.getD I dev0).id,4,-1,4294967296,4294967297]) (d:=0) (by have:=hgI.idb; simp only [List.mem_cons,List.not_mem_nil,or_false,forall_eq_or_imp,forall_eq]; omega) (pickI_lt A (q+1) (n:=5) (by omega))
 generalize ([(D.getD I dev0).id,4,-1,4294967296,4294967297].getD (pickI A (q+1) 5) 0:Int)=v at hb ⊢
 simp -dsimp only [aqA,↓seqK,↓blkK,↓loopK,step,stepBin,eqB,Nat.add_assoc nid,↓reduceIte,simprocAttr,LN_succ,e1,e2,e3,e4,e5,e6,e7,e8,e9,strmC_low]
 have hok:DevOk { D.getD I dev0 with id:=v }:=⟨hgI.ok.nm,hgI.ok.lg,hb,hgI.ok.rl,hgI.ok.rs,hgI.ok.il,hgI.ok.is⟩
 have hreg:∀ j,((D.set I { D.getD I dev0 with id:=v }).getD j dev0).regs=(D.getD j dev0).regs:=fun j=>by
  rw [hsg]
  by_cases e:j=I
  ·rw [if_pos e,e]
  ·rw [if_neg e]
 have hins:∀ j,((D.set I { D.getD I dev0 with id:=v }).getD j dev0).ins=(D.getD j dev0).ins:=fun j=>by
  rw [hsg]
  by_cases e:j=I
  ·rw [if_pos e,e]
  ·rw [if_neg e]
 refine ⟨⟨D.set I { D.getD I dev0 with id:=v },q+1+1⟩,⟨hsl _,hset _ hok,by simp only; omega⟩,?_⟩
 have hcase:D.length=1∨D.length=2∨D.length=3:=by omega
 have hsl2:=hsl { D.getD I dev0 with id:=v }
 have hn1:∀ j,(if j=I then v else (D.getD j dev0).id)=((D.set I { D.getD I dev0 with id:=v }).getD j dev0).id:=fun j=>by
  rw [hsg]
  by_cases e:j=I
  ·rw [if_pos e,if_pos e]
  ·rw [if_neg e,if_neg e]
 have hn2:∀ j,(D.getD j dev0).name=((D.set I { D.getD I dev0 with id:=v }).getD j dev0).name:=fun j=>by
  rw [hsg]
  by_cases e:j=I
  ·rw [if_pos e,e]
  ·rw [if_neg e]
 have hn3:∀ j,(D.getD j dev0).long=((D.set I { D.getD I dev0 with id:=v }).getD j dev0).long:=fun j=>by
  rw [hsg]
  by_cases e:j=I
  ·rw [if_pos e,e]
  ·rw [if_neg e]
 generalize D.set I { D.getD I dev0 with id:=v }=D2 at *
 rcases hcase with hc | hc | hc
 all_goals
  simp only [hsl2,hc,famD,inRg,inIn,hreg,hins,arrRg,arrIn]
  refine RetOK.go [] [] (.inr rfl) ?_
  simp [a58,cvT,step,res,e1,e2,e3,e4,e5,e6,e7,e8,e9,strmC,hn1,hn2,hn3,hreg,hins,hsl2,hc,devHs,famD,inRg,inIn,arrD,arrRg,arrIn,-List.getD_eq_getElem?_getD]
  first | omega | exact ⟨by omega,fun j hj=>by omega,fun j hj=>by omega⟩
theorem getD_setR (R:List (Bs × Int)) {J:Nat} (x:Bs × Int) (hJ:J<R.length) (j:Nat):(R.set J x).getD j reg0=if j=J then x else R.getD j reg0:=by
 rw [List.getD_eq_getElem?_getD,List.getElem?_set]
 by_cases h:j=J
 ·subst h; simp [hJ]
 ·rw [if_neg (fun e=>h e.symm),if_neg h,← List.getD_eq_getElem?_getD]
set_option maxHeartbeats 16000000 in
theorem spoil_2 (s nid:Nat) (nl:Bool) (A:List Int) (q I:Nat) (D:List Dev) (h:s<nid) (hq:q≤1099500002000) (hA:A.length≤17592186044416) (hI:I<D.length) (hD:D.length≤3) (hG:∀ d∈D,DevG d) :
  SR Tryz.prog (dropV 1 a58.body) (spST s nid (q+1) nl A D I 2) (SpEnd s nid q nl A D) .mk:=by
 obtain ⟨e1,e2,e3,e4,e5,e6,e7,e8,e9⟩:=id_all h
 simp only [a58,dropV]
 unfold spST
 have hmem:D.getD I dev0∈D:=by rw [List.getD_eq_getElem?_getD,List.getElem?_eq_getElem hI]; exact List.getElem_mem _
 have hgI:=hG _ hmem
 have hset:∀ d,DevOk d→∀ x∈D.set I d,DevOk x:=fun d hd x hx=>by
  rcases List.mem_or_eq_of_mem_set hx with hx | rfl
  ·exact (hG x hx).ok
  ·exact hd
 have hsl:∀ d,(D.set I d).length=D.length:=fun d=>List.length_set
 have hsg:=fun d j=>getD_setD D (I:=I) d hI j
 have hcase:(D.length=1∧I=0)∨(D.length=2∧I=0)∨(D.length=2∧I=1)∨(D.length=3∧I=0)∨(D.length=3∧I=1)∨(D.length=3∧I=2):=by omega
 obtain ⟨d,hd⟩:∃ d,D.getD I dev0=d:=⟨_,rfl⟩
 rw [hd] at hgI
 have hgl:=hgI.rl
 have hgi:=hgI.il
 refine SR.run (t:=.mk) ?_
 rcases hcase with ⟨hc,rfl⟩ | ⟨hc,rfl⟩ | ⟨hc,rfl⟩ | ⟨hc,rfl⟩ | ⟨hc,rfl⟩ | ⟨hc,rfl⟩
 all_goals
  unfold devHs famD inRg inIn arrD arrRg arrIn
  simp -dsimp only [aqA,↓seqK,↓blkK,↓loopK,step,stepBin,eqB,Nat.add_assoc nid,↓reduceIte,simprocAttr,LN_succ,e1,e2,e3,e4,e5,e6,e7,e8,e9,strmC_low,hc,hd,Nat.reduceLT,Nat.lt_irrefl,if_true,if_false]
  refine S2.dec (fun h4=>?_) (fun h4=>?_) <;> simp -dsimp only [aqA,↓seqK,↓blkK,↓loopK,step,stepBin,eqB,Nat.add_assoc nid,↓reduceIte,simprocAttr,LN_succ,e1,e2,e3,e4,e5,e6,e7,e8,e9,strmC_low,hd]
  ·have hR0:0<d.regs.length:=by omega
   have hnd:=nextV_bd A (q+1) (n:=(d.regs.length:Nat)) (by omega)
   obtain ⟨J,hJ⟩:∃ J:Nat,nextV A (q+1) ((d.regs.length:Nat):Int)=J:=⟨_,(Int.toNat_of_nonneg hnd.1).symm⟩
   rw [hJ] at hnd
   have hJR:J<d.regs.length:=by omega
   refine CallX.on (next_c s _ nl A (q+1) _ (by omega) (by omega) hA (by omega)) (subH_get (by simp only [aqA,↓seqK,↓blkK,↓loopK,step,stepBin,eqB,Nat.add_assoc nid,↓reduceIte,simprocAttr,LN_succ,e1,e2,e3,e4,e5,e6,e7,e8,e9])) ?_
   rw [hJ]
   simp -dsimp only [aqA,↓seqK,↓blkK,↓loopK,step,stepBin,eqB,Nat.add_assoc nid,↓reduceIte,simprocAttr,LN_succ,e1,e2,e3,e4,e5,e6,e7,e8,e9,strmC_low,hd]
   refine ⟨⟨by omega,by omega⟩,?_⟩
   have hm2:d.regs.getD J reg0∈d.regs:=by rw [List.getD_eq_getElem?_getD,List.getElem?_eq_getElem hJR]; exact List.getElem_mem _
   refine CallO.some_go (T:=9) (nl:=nl) (A:=A) (p:=q+1+1) (g:=fun i=>[(d.regs.getD J reg0).1,[98,121,112,97,115,115],[100,97,116,97],[65]].getD i []) (by simp only [aqA,↓seqK,↓blkK,↓loopK,step,stepBin,eqB,Nat.add_assoc nid,↓reduceIte,simprocAttr,LN_succ,e1,e2,e3,e4,e5,e6,e7,e8,e9]) (by simp only [aqA,↓seqK,↓blkK,↓loopK,step,stepBin,eqB,Nat.add_assoc nid,↓reduceIte,simprocAttr,LN_succ,e1,e2,e3,e4,e5,e6,e7,e8,e9]) (by simp only [aqA,↓seqK,↓blkK,↓loopK,step,stepBin,eqB,Nat.add_assoc nid,↓reduceIte,simprocAttr,LN_succ,e1,e2,e3,e4,e5,e6,e7,e8,e9]) (by omega) (by omega) hA (by omega) (by omega) ?_
   have hb:=getD_all (P:=fun x:Bs=>x.length≤10) (l:=[(d.regs.getD J reg0).1,[98,121,112,97,115,115],[100,97,116,97],[65]]) (d:=[]) (nm4 (hgI.rs _ hm2).1) (pickI_lt A (q+1+1) (n:=4) (by omega))
   generalize ([(d.regs.getD J reg0).1,[98,121,112,97,115,115],[100,97,116,97],[65]].getD (pickI A (q+1+1) 4) []:Bs)=v at hb ⊢
   simp -dsimp only [aqA,↓seqK,↓blkK,↓loopK,step,stepBin,eqB,Nat.add_assoc nid,↓reduceIte,simprocAttr,LN_succ,e1,e2,e3,e4,e5,e6,e7,e8,e9,strmC_low,hd]
   refine CallO.onE (oddI_c s _ nl A (q+1+1+1) 1 5 (by omega) (by omega) hA (by omega) (by omega) (by omega)) (subH_get (by simp only [aqA,↓seqK,↓blkK,↓loopK,step,stepBin,eqB,Nat.add_assoc nid,↓reduceIte,simprocAttr,LN_succ,e1,e2,e3,e4,e5,e6,e7,e8,e9])) (fun w hw=>?_)
   simp -dsimp only [aqA,↓seqK,↓blkK,↓loopK,step,stepBin,eqB,Nat.add_assoc nid,↓reduceIte,simprocAttr,LN_succ,e1,e2,e3,e4,e5,e6,e7,e8,e9,strmC_low,hd]
   have hrs:=getD_setR d.regs (v,w) hJR
   have hrl:(d.regs.set J (v,w)).length=d.regs.length:=List.length_set
   have hok:DevOk { d with regs:=d.regs.set J (v,w) }:=⟨hgI.ok.nm,hgI.ok.lg,hgI.ok.idb,by simp only [hrl]; exact hgI.ok.rl,fun x hx=>by
    rcases List.mem_or_eq_of_mem_set hx with hx | rfl
    ·exact hgI.ok.rs x hx
    ·exact ⟨hb,hw⟩,hgI.ok.il,hgI.ok.is⟩
   have hr1:∀ j,(if j=J then v else (d.regs.getD j reg0).1)=((d.regs.set J (v,w)).getD j reg0).1:=fun j=>by rw [hrs]; by_cases e:j=J <;> simp [e]
   have hr2:∀ j,(if j=J then w else (d.regs.getD j reg0).2)=((d.regs.set J (v,w)).getD j reg0).2:=fun j=>by rw [hrs]; by_cases e:j=J <;> simp [e]
   refine ⟨⟨D.set _ { d with regs:=d.regs.set J (v,w) },q+1+1+1+2⟩,⟨hsl _,hset _ hok,by simp only; omega⟩,?_⟩
   have hsl2:=hsl { d with regs:=d.regs.set J (v,w) }
   have hg2:=hsg { d with regs:=d.regs.set J (v,w) }
   generalize d.regs.set J (v,w)=R2 at *
   have hn1:∀ j,((D.set _ { d with regs:=R2 }).getD j dev0).name=(D.getD j dev0).name:=set_proj Dev.name hI hd rfl
   have hn2:∀ j,((D.set _ { d with regs:=R2 }).getD j dev0).long=(D.getD j dev0).long:=set_proj Dev.long hI hd rfl
   have hn3:∀ j,((D.set _ { d with regs:=R2 }).getD j dev0).id=(D.getD j dev0).id:=set_proj Dev.id hI hd rfl
   have hn4:∀ j,((D.set _ { d with regs:=R2 }).getD j dev0).ins=(D.getD j dev0).ins:=set_proj Dev.ins hI hd rfl
   have hn5:∀ j,((D.set _ { d with regs:=R2 }).getD j dev0).regs.length=(D.getD j dev0).regs.length:=set_proj (fun x=>x.regs.length) hI hd hrl
   have hg0:=hg2 0
   have hg1:=hg2 1
   have hg3:=hg2 2
   simp only [Nat.reduceEqDiff,if_true,if_false,reduceCtorEq,Nat.one_ne_zero,Nat.zero_ne_one] at hg0 hg1 hg3
   generalize D.set _ { d with regs:=R2 }=D2 at *
   refine RetOK.go [] [] (.inr rfl) ?_
   simp [a58,cvT,step,res,e1,e2,e3,e4,e5,e6,e7,e8,e9,strmC,hr1,hr2,hrl,hn1,hn2,hn3,hn4,hn5,hg0,hg1,hg3,hsl2,hc,hd,devHs,famD,inRg,inIn,arrD,arrRg,arrIn,-List.getD_eq_getElem?_getD]
   first | omega | exact ⟨by omega,fun j hj=>by omega,fun j hj=>by omega⟩
  ·refine ⟨⟨D,q+1⟩,⟨rfl,fun d hd=>(hG d hd).ok,by simp only; omega⟩,?_⟩
   refine RetOK.go [] [] (.inr rfl) ?_
   simp [a58,cvT,step,res,e1,e2,e3,e4,e5,e6,e7,e8,e9,strmC,hc,hd,devHs,famD,inRg,inIn,arrD,arrRg,arrIn,-List.getD_eq_getElem?_getD]
   first | omega | exact ⟨by omega,fun j hj=>by omega,fun j hj=>by omega⟩
theorem getD_setI (R:List (Bs × Bs)) {J:Nat} (x:Bs × Bs) (hJ:J<R.length) (j:Nat):(R.set J x).getD j ins0=if j=J then x else R.getD j ins0:=by
 rw [List.getD_eq_getElem?_getD,List.getElem?_set]
 by_cases h:j=J
 ·subst h; simp [hJ]
 ·rw [if_neg (fun e=>h e.symm),if_neg h,← List.getD_eq_getElem?_getD]
set_option maxHeartbeats 16000000 in
theorem spoil_3 (s nid:Nat) (nl:Bool) (A:List Int) (q I:Nat) (D:List Dev) (h:s<nid) (hq:q≤1099500002000) (hA:A.length≤17592186044416) (hI:I<D.length) (hD:D.length≤3) (hG:∀ d∈D,DevG d) :
  SR Tryz.prog (dropV 1 a58.body) (spST s nid (q+1) nl A D I 3) (SpEnd s nid q nl A D) .mk:=by
 obtain ⟨e1,e2,e3,e4,e5,e6,e7,e8,e9⟩:=id_all h
 simp only [a58,dropV]
 unfold spST
 have hmem:D.getD I dev0∈D:=by rw [List.getD_eq_getElem?_getD,List.getElem?_eq_getElem hI]; exact List.getElem_mem _
 have hgI:=hG _ hmem
 have hset:∀ d,DevOk d→∀ x∈D.set I d,DevOk x:=fun d hd x hx=>by
  rcases List.mem_or_eq_of_mem_set hx with hx | rfl
  ·exact (hG x hx).ok
  ·exact hd
 have hsl:∀ d,(D.set I d).length=D.length:=fun d=>List.length_set
 have hsg:=fun d j=>getD_setD D (I:=I) d hI j
 have hcase:(D.length=1∧I=0)∨(D.length=2∧I=0)∨(D.length=2∧I=1)∨(D.length=3∧I=0)∨(D.length=3∧I=1)∨(D.length=3∧I=2):=by omega
 obtain ⟨d,hd⟩:∃ d,D.getD I dev0=d:=⟨_,rfl⟩
 rw [hd] at hgI
 have hgl:=hgI.rl
 have hgi:=hgI.il
 refine SR.run (t:=.mk) ?_
 rcases hcase with ⟨hc,rfl⟩ | ⟨hc,rfl⟩ | ⟨hc,rfl⟩ | ⟨hc,rfl⟩ | ⟨hc,rfl⟩ | ⟨hc,rfl⟩
 all_goals
  unfold devHs famD inRg inIn arrD arrRg arrIn
  simp -dsimp only [aqA,↓seqK,↓blkK,↓loopK,step,stepBin,eqB,Nat.add_assoc nid,↓reduceIte,simprocAttr,LN_succ,e1,e2,e3,e4,e5,e6,e7,e8,e9,strmC_low,hc,hd,Nat.reduceLT,Nat.lt_irrefl,if_true,if_false]
  refine S2.dec (fun h4=>?_) (fun h4=>?_) <;> simp -dsimp only [aqA,↓seqK,↓blkK,↓loopK,step,stepBin,eqB,Nat.add_assoc nid,↓reduceIte,simprocAttr,LN_succ,e1,e2,e3,e4,e5,e6,e7,e8,e9,strmC_low,hd]
  ·have hR0:0<d.ins.length:=by omega
   have hnd:=nextV_bd A (q+1) (n:=(d.ins.length:Nat)) (by omega)
   obtain ⟨J,hJ⟩:∃ J:Nat,nextV A (q+1) ((d.ins.length:Nat):Int)=J:=⟨_,(Int.toNat_of_nonneg hnd.1).symm⟩
   rw [hJ] at hnd
   have hJR:J<d.ins.length:=by omega
   refine CallX.on (next_c s _ nl A (q+1) _ (by omega) (by omega) hA (by omega)) (subH_get (by simp only [aqA,↓seqK,↓blkK,↓loopK,step,stepBin,eqB,Nat.add_assoc nid,↓reduceIte,simprocAttr,LN_succ,e1,e2,e3,e4,e5,e6,e7,e8,e9])) ?_
   rw [hJ]
   simp -dsimp only [aqA,↓seqK,↓blkK,↓loopK,step,stepBin,eqB,Nat.add_assoc nid,↓reduceIte,simprocAttr,LN_succ,e1,e2,e3,e4,e5,e6,e7,e8,e9,strmC_low,hd]
   refine ⟨⟨by omega,by omega⟩,?_⟩
   have hm2:d.ins.getD J ins0∈d.ins:=by rw [List.getD_eq_getElem?_getD,List.getElem?_eq_getElem hJR]; exact List.getElem_mem _
   obtain ⟨z,hz⟩:∃ z:Nat,d.long=z:=⟨_,(Int.toNat_of_nonneg (by have:=hgI.lg; omega)).symm⟩
   have hz4:z≤4:=by have:=hgI.lg; omega
   have hrl1:=rep1 49 z
   refine CallX.pure (by rw [hz]; exact repeat_cc [49] z _ (by omega) (by simp; omega)) ?_
   generalize Lib.repeatL [49] z=zs at *
   simp -dsimp only [aqA,↓seqK,↓blkK,↓loopK,step,stepBin,eqB,Nat.add_assoc nid,↓reduceIte,simprocAttr,LN_succ,e1,e2,e3,e4,e5,e6,e7,e8,e9,strmC_low,hd]
   refine CallX.some_go (T:=9) (nl:=nl) (A:=A) (p:=q+1+1) (g:=fun i=>[(d.ins.getD J ins0).1,zs,[48],[48,120]].getD i []) (by simp only [aqA,↓seqK,↓blkK,↓loopK,step,stepBin,eqB,Nat.add_assoc nid,↓reduceIte,simprocAttr,LN_succ,e1,e2,e3,e4,e5,e6,e7,e8,e9]) (by simp only [aqA,↓seqK,↓blkK,↓loopK,step,stepBin,eqB,Nat.add_assoc nid,↓reduceIte,simprocAttr,LN_succ,e1,e2,e3,e4,e5,e6,e7,e8,e9]) (by simp only [aqA,↓seqK,↓blkK,↓loopK,step,stepBin,eqB,Nat.add_assoc nid,↓reduceIte,simprocAttr,LN_succ,e1,e2,e3,e4,e5,e6,e7,e8,e9]) (by omega) (by omega) hA (by omega) (by omega) ?_
   have hb:=getD_all (P:=fun x:Bs=>x.length≤10) (l:=[(d.ins.getD J ins0).1,zs,[48],[48,120]]) (d:=[]) (nm5 (hgI.is _ hm2).1 (by omega)) (pickI_lt A (q+1+1) (n:=4) (by omega))
   generalize ([(d.ins.getD J ins0).1,zs,[48],[48,120]].getD (pickI A (q+1+1) 4) []:Bs)=v at hb ⊢
   simp -dsimp only [aqA,↓seqK,↓blkK,↓loopK,step,stepBin,eqB,Nat.add_assoc nid,↓reduceIte,simprocAttr,LN_succ,e1,e2,e3,e4,e5,e6,e7,e8,e9,strmC_low,hd]
   refine CallX.some_go (T:=9) (nl:=nl) (A:=A) (p:=q+1+1+1) (g:=fun i=>[(d.ins.getD J ins0).2,[105,100,99,111,100,101],[122,122]].getD i []) (by simp only [aqA,↓seqK,↓blkK,↓loopK,step,stepBin,eqB,Nat.add_assoc nid,↓reduceIte,simprocAttr,LN_succ,e1,e2,e3,e4,e5,e6,e7,e8,e9]) (by simp only [aqA,↓seqK,↓blkK,↓loopK,step,stepBin,eqB,Nat.add_assoc nid,↓reduceIte,simprocAttr,LN_succ,e1,e2,e3,e4,e5,e6,e7,e8,e9]) (by simp only [aqA,↓seqK,↓blkK,↓loopK,step,stepBin,eqB,Nat.add_assoc nid,↓reduceIte,simprocAttr,LN_succ,e1,e2,e3,e4,e5,e6,e7,e8,e9]) (by omega) (by omega) hA (by omega) (by omega) ?_
   have hw:=getD_all (P:=fun x:Bs=>x.length≤10) (l:=[(d.ins.getD J ins0).2,[105,100,99,111,100,101],[122,122]]) (d:=[]) (nm6 (hgI.is _ hm2).2) (pickI_lt A (q+1+1+1) (n:=3) (by omega))
   generalize ([(d.ins.getD J ins0).2,[105,100,99,111,100,101],[122,122]].getD (pickI A (q+1+1+1) 3) []:Bs)=w at hw ⊢
   simp -dsimp only [aqA,↓seqK,↓blkK,↓loopK,step,stepBin,eqB,Nat.add_assoc nid,↓reduceIte,simprocAttr,LN_succ,e1,e2,e3,e4,e5,e6,e7,e8,e9,strmC_low,hd]
   have hrs:=getD_setI d.ins (v,w) hJR
   have hrl:(d.ins.set J (v,w)).length=d.ins.length:=List.length_set
   have hok:DevOk { d with ins:=d.ins.set J (v,w) }:=⟨hgI.ok.nm,hgI.ok.lg,hgI.ok.idb,hgI.ok.rl,hgI.ok.rs,by simp only [hrl]; exact hgI.ok.il,fun x hx=>by
    rcases List.mem_or_eq_of_mem_set hx with hx | rfl
    ·exact hgI.ok.is x hx
    ·exact ⟨hb,hw⟩⟩
   have hr1:∀ j,(if j=J then v else (d.ins.getD j ins0).1)=((d.ins.set J (v,w)).getD j ins0).1:=fun j=>by rw [hrs]; by_cases e:j=J <;> simp [e]
   have hr2:∀ j,(if j=J then w else (d.ins.getD j ins0).2)=((d.ins.set J (v,w)).getD j ins0).2:=fun j=>by rw [hrs]; by_cases e:j=J <;> simp [e]
   refine ⟨⟨D.set _ { d with ins:=d.ins.set J (v,w) },q+1+1+1+1⟩,⟨hsl _,hset _ hok,by simp only; omega⟩,?_⟩
   have hsl2:=hsl { d with ins:=d.ins.set J (v,w) }
   have hg2:=hsg { d with ins:=d.ins.set J (v,w) }
   generalize d.ins.set J (v,w)=R2 at *
   have hn1:∀ j,((D.set _ { d with ins:=R2 }).getD j dev0).name=(D.getD j dev0).name:=set_proj Dev.name hI hd rfl
   have hn2:∀ j,((D.set _ { d with ins:=R2 }).getD j dev0).long=(D.getD j dev0).long:=set_proj Dev.long hI hd rfl
   have hn3:∀ j,((D.set _ { d with ins:=R2 }).getD j dev0).id=(D.getD j dev0).id:=set_proj Dev.id hI hd rfl
   have hn4:∀ j,((D.set _ { d with ins:=R2 }).getD j dev0).regs=(D.getD j dev0).regs:=set_proj Dev.regs hI hd rfl
   have hn5:∀ j,((D.set _ { d with ins:=R2 }).getD j dev0).ins.length=(D.getD j dev0).ins.length:=set_proj (fun x=>x.ins.length) hI hd hrl
   have hg0:=hg2 0
   have hg1:=hg2 1
   have hg3:=hg2 2
   simp only [Nat.reduceEqDiff,if_true,if_false,reduceCtorEq,Nat.one_ne_zero,Nat.zero_ne_one] at hg0 hg1 hg3
   generalize D.set _ { d with ins:=R2 }=D2 at *
   refine RetOK.go [] [] (.inr rfl) ?_
   simp [a58,cvT,step,res,e1,e2,e3,e4,e5,e6,e7,e8,e9,strmC,hr1,hr2,hrl,hn1,hn2,hn3,hn4,hn5,hg0,hg1,hg3,hsl2,hc,hd,devHs,famD,inRg,inIn,arrD,arrRg,arrIn,-List.getD_eq_getElem?_getD]
   first | omega | exact ⟨by omega,fun j hj=>by omega,fun j hj=>by omega⟩
  ·refine ⟨⟨D,q+1⟩,⟨rfl,fun d hd=>(hG d hd).ok,by simp only; omega⟩,?_⟩
   refine RetOK.go [] [] (.inr rfl) ?_
   simp [a58,cvT,step,res,e1,e2,e3,e4,e5,e6,e7,e8,e9,strmC,hc,hd,devHs,famD,inRg,inIn,arrD,arrRg,arrIn,-List.getD_eq_getElem?_getD]
   first | omega | exact ⟨by omega,fun j hj=>by omega,fun j hj=>by omega⟩
set_option maxHeartbeats 16000000 in
theorem spoil_D (s nid:Nat) (nl:Bool) (A:List Int) (q I:Nat) (D:List Dev) (h:s<nid) (hq:q≤1099500002000) (hA:A.length≤17592186044416) (hI:I<D.length) (hD:D.length≤3) (hG:∀ d∈D,DevG d) :
  ACallI Tryz.prog 58 [.ptr s 0,.arp (nid+24) I 0] ([(s,strmC nl A q)]++devHs nid D) (nid+200) (spPost D q) (fun _=>.tup []) (fun x=>[(s,strmC nl A x.q)]++devHs nid x.D):=by
 obtain ⟨e1,e2,e3,e4,e5,e6,e7,e8,e9⟩:=id_all h
 have hs:=devHs_scoped nid D hD
 have hsk:=devHs_off s nid D h
 have k0:=spoil_0 s nid nl A q I D h hq hA hI hD hG
 have k1:=spoil_1 s nid nl A q I D h hq hA hI hD hG
 have k2:=spoil_2 s nid nl A q I D h hq hA hI hD hG
 have k3:=spoil_3 s nid nl A q I D h hq hA hI hD hG
 refine acallI_sr c58 (by simp [a58]) ?_
 simp only [a58,dropV] at *
 have hkd:=nextV_bd A q (n:=(4:Int)) (by omega)
 have hk:nextV A q 4=0∨nextV A q 4=1∨nextV A q 4=2∨nextV A q 4=3:=by omega
 obtain ⟨kk,hkk,hSR⟩:∃ kk:Nat,nextV A q 4=kk∧True:=⟨_,(Int.toNat_of_nonneg (by omega)).symm,trivial⟩
 refine SR.seqTo (spST s nid (q+1) nl A D I kk) ?_ ?_
 ·simp -dsimp only [aqA,↓seqK,↓blkK,↓loopK,step,stepBin,eqB,Nat.add_assoc nid,↓reduceIte,simprocAttr,LN_succ,e1,e2,e3,e4,e5,e6,e7,e8,e9,strmC_low]
  refine CallO.on (next_c s _ nl A q 4 (by omega) (by omega) hA (by omega)) (subH_get (by simp only [aqA,↓seqK,↓blkK,↓loopK,step,stepBin,eqB,Nat.add_assoc nid,↓reduceIte,simprocAttr,LN_succ,e1,e2,e3,e4,e5,e6,e7,e8,e9])) ?_
  rw [hkk]
  simp -dsimp only [aqA,↓seqK,↓blkK,↓loopK,step,stepBin,eqB,Nat.add_assoc nid,↓reduceIte,simprocAttr,LN_succ,e1,e2,e3,e4,e5,e6,e7,e8,e9,strmC_low]
  unfold spST
  generalize devHs nid D=Hs at *
  first | refine Cov.goG (nid+200) Hs [_] [_] [] [] (by omega) hs (by simp [kOK,hsk]) (by simp) ?_ | refine Cov.goG (nid+200) Hs [_,_] [_] [] [] (by omega) hs (by simp [kOK,hsk]) (by simp) ?_ | refine Cov.goG (nid+200) Hs [_,_,_] [_] [] [] (by omega) hs (by simp [kOK,hsk]) (by simp) ?_ | refine Cov.goG (nid+200) Hs [_,_,_,_] [_] [] [] (by omega) hs (by simp [kOK,hsk]) (by simp) ?_ | refine Cov.goG (nid+200) Hs [_,_,_,_,_] [_] [] [] (by omega) hs (by simp [kOK,hsk]) (by simp) ?_ | refine Cov.goG (nid+200) Hs [_,_,_,_,_,_] [_] [] [] (by omega) hs (by simp [kOK,hsk]) (by simp) ?_ | refine Cov.goG (nid+200) Hs [_,_,_,_,_,_,_] [_] [] [] (by omega) hs (by simp [kOK,hsk]) (by simp) ?_ | refine Cov.goG (nid+200) Hs [_,_,_,_,_,_,_,_] [_] [] [] (by omega) hs (by simp [kOK,hsk]) (by simp) ?_ | refine Cov.goG (nid+200) Hs [_,_,_,_,_,_,_,_,_] [_] [] [] (by omega) hs (by simp [kOK,hsk]) (by simp) ?_ | refine Cov.goG (nid+200) Hs [_,_,_,_,_,_,_,_,_,_] [_] [] [] (by omega) hs (by simp [kOK,hsk]) (by simp) ?_ | refine Cov.goG (nid+200) Hs [_,_,_,_,_,_,_,_,_,_,_] [_] [] [] (by omega) hs (by simp [kOK,hsk]) (by simp) ?_ | refine Cov.goG (nid+200) Hs [_,_,_,_,_,_,_,_,_,_,_,_] [_] [] [] (by omega) hs (by simp [kOK,hsk]) (by simp) ?_ | refine Cov.goG (nid+200) Hs [_,_,_,_,_,_,_,_,_,_,_,_,_] [_] [] [] (by omega) hs (by simp [kOK,hsk]) (by simp) ?_ | refine Cov.goG (nid+200) Hs [_,_,_,_,_,_,_,_,_,_,_,_,_,_] [_] [] [] (by omega) hs (by simp [kOK,hsk]) (by simp) ?_ | refine Cov.goG (nid+200) Hs [_,_,_,_,_,_,_,_,_,_,_,_,_,_,_] [_] [] [] (by omega) hs (by simp [kOK,hsk]) (by simp) ?_ | refine Cov.goG (nid+200) Hs [_,_,_,_,_,_,_,_,_,_,_,_,_,_,_,_] [_] [] [] (by omega) hs (by simp [kOK,hsk]) (by simp) ?_ | refine Cov.goG (nid+200) Hs [_,_,_,_,_,_,_,_,_,_,_,_,_,_,_,_,_] [_] [] [] (by omega) hs (by simp [kOK,hsk]) (by simp) ?_ | refine Cov.goG (nid+200) Hs [_,_,_,_,_,_,_,_,_,_,_,_,_,_,_,_,_,_] [_] [] [] (by omega) hs (by simp [kOK,hsk]) (by simp) ?_ | refine Cov.goG (nid+200) Hs [_,_,_,_,_,_,_,_,_,_,_,_,_,_,_,_,_,_,_] [_] [] [] (by omega) hs (by simp [kOK,hsk]) (by simp) ?_ | refine Cov.goG (nid+200) Hs [_,_,_,_,_,_,_,_,_,_,_,_,_,_,_,_,_,_,_,_] [_] [] [] (by omega) hs (by simp [kOK,hsk]) (by simp) ?_ | refine Cov.goG (nid+200) Hs [_,_,_,_,_,_,_,_,_,_,_,_,_,_,_,_,_,_,_,_,_] [_] [] [] (by omega) hs (by simp [kOK,hsk]) (by simp) ?_ | refine Cov.goG (nid+200) Hs [_,_,_,_,_,_,_,_,_,_,_,_,_,_,_,_,_,_,_,_,_,_] [_] [] [] (by omega) hs (by simp [kOK,hsk]) (by simp) ?_ | refine Cov.goG (nid+200) Hs [_,_,_,_,_,_,_,_,_,_,_,_,_,_,_,_,_,_,_,_,_,_,_] [_] [] [] (by omega) hs (by simp [kOK,hsk]) (by simp) ?_
  simp [cvT,step,res,e1,e2,e3,e4,e5,e6,e7,e8,e9,strmC]
 ·have:kk=0∨kk=1∨kk=2∨kk=3:=by omega
  rcases this with rfl | rfl | rfl | rfl
  ·exact k0
  ·exact k1
  ·exact k2
  ·exact k3
end Go.Proofs.YtahjohieahehjaaGreatDoor
namespace Go.Proofs.YtahjohieahehjaaGreatDoor
open Go.RowKit
structure DvX where
 n0:Bool
 n1:Nat→Bool
 n2:Nat→Bool
 D:List Dev
 q:Nat
structure DevB (most:Nat) (D:List Dev):Prop where
 len:D.length≤most
 ok:∀ d∈D,DevOk d
theorem fam_rg (s nid q:Nat) (nl:Bool) (A:List Int) (D:List Dev) (h:s<nid) (hD:D.length≤3) {k:Nat} (hk:k<D.length):getH ([(s,strmC nl A q)]++devHs nid D) (nid+(100+2 * k))=arrRg (D.getD k dev0).regs:=by
 obtain ⟨e1,e2,e3,e4,e5,e6,e7,e8,e9⟩:=id_all h
 have hk3:k=0∨k=1∨k=2:=by omega
 unfold devHs famD inRg inIn
 rcases hk3 with rfl | rfl | rfl <;> simp -dsimp only [aqA,↓seqK,↓blkK,↓loopK,step,stepBin,eqB,Nat.add_assoc nid,↓reduceIte,simprocAttr,LN_succ,e1,e2,e3,e4,e5,e6,e7,e8,e9,if_pos hk]
theorem fam_in (s nid q:Nat) (nl:Bool) (A:List Int) (D:List Dev) (h:s<nid) (hD:D.length≤3) {k:Nat} (hk:k<D.length):getH ([(s,strmC nl A q)]++devHs nid D) (nid+(101+2 * k))=arrIn (D.getD k dev0).ins:=by
 obtain ⟨e1,e2,e3,e4,e5,e6,e7,e8,e9⟩:=id_all h
 have hk3:k=0∨k=1∨k=2:=by omega
 unfold devHs famD inRg inIn
 rcases hk3 with rfl | rfl | rfl <;> simp -dsimp only [aqA,↓seqK,↓blkK,↓loopK,step,stepBin,eqB,Nat.add_assoc nid,↓reduceIte,simprocAttr,LN_succ,e1,e2,e3,e4,e5,e6,e7,e8,e9,if_pos hk]
set_option maxHeartbeats 4000000 in
theorem devs_end (s nid p q q0 most:Nat) (nl:Bool) (A:List Int) (D:List Dev) (h:s<nid) (hB:DevB most D) (hm:most≤3) (hq:q≤q0) :
  SR Tryz.prog (dropV 5 a11.body) ⟨[(5,.sl (nid+24) 0 D.length)],[(s,strmC nl A q)]++devHs nid D,nid+15000,nid⟩ (fun e st=>∃ x:DvX,(DevB most x.D∧x.q≤q0)∧RetOK a11.res [(s,strmC nl A p)] nid (.lit x.n0 x.D.length (devP x.n1 x.n2 x.D)) [(s,strmC nl A x.q)] e st) .mk:=by
 obtain ⟨e1,e2,e3,e4,e5,e6,e7,e8,e9⟩:=id_all h
 have hD3:D.length≤3:=by have:=hB.len; omega
 have hr:=fun k (hk:k<D.length)=>fam_rg s nid q nl A D h hD3 hk
 have hi:=fun k (hk:k<D.length)=>fam_in s nid q nl A D h hD3 hk
 refine SR.freezeO [nid+100,nid+101,nid+102,nid+103,nid+104,nid+105] (nid+24) 57 D.length [.s fun i=>(D.getD i dev0).name,.i .i64 fun i=>(D.getD i dev0).long,.i .i64 fun i=>(D.getD i dev0).id,.o (fun k=>nid+(100+2 * k)) (fun k=>(D.getD k dev0).regs.length),.o (fun k=>nid+(101+2 * k)) (fun k=>(D.getD k dev0).ins.length)] ?_ ?_ ?_ (fun n1 hn1=>?_)
 ·unfold devHs arrD
  simp only [List.cons_append,List.nil_append,aqA,↓seqK,↓blkK,↓loopK,step,stepBin,eqB,Nat.add_assoc nid,↓reduceIte,simprocAttr,LN_succ,e1,e2,e3,e4,e5,e6,e7,e8,e9]
 ·simp
 ·intro c hc
  simp only [List.mem_cons,List.not_mem_nil,or_false] at hc
  rcases hc with rfl | rfl | rfl | rfl | rfl
  ·trivial
  ·trivial
  ·trivial
  ·intro k hk
   have hk6:k=0∨k=1∨k=2:=by omega
   refine ⟨?_,_,_,_,hr k hk,rfl⟩
   rcases hk6 with rfl | rfl | rfl <;> simp
  ·intro k hk
   have hk6:k=0∨k=1∨k=2:=by omega
   refine ⟨?_,_,_,_,hi k hk,rfl⟩
   rcases hk6 with rfl | rfl | rfl <;> simp
 have hco:∀ k,k<D.length→colsAt ([(s,strmC nl A q)]++devHs nid D) (nid+(100+2 * k))=[.s fun j=>((D.getD k dev0).regs.getD j reg0).1,.i .i64 fun j=>((D.getD k dev0).regs.getD j reg0).2]:=fun k hk=>by
  unfold colsAt
  rw [hr k hk]
  rfl
 have hci:∀ k,k<D.length→colsAt ([(s,strmC nl A q)]++devHs nid D) (nid+(101+2 * k))=[.s fun j=>((D.getD k dev0).ins.getD j ins0).1,.s fun j=>((D.getD k dev0).ins.getD j ins0).2]:=fun k hk=>by
  unfold colsAt
  rw [hi k hk]
  rfl
 simp only [List.map_cons,List.map_nil,oCol]
 generalize hCA:colsAt ([(s,strmC nl A q)]++devHs nid D)=CA at *
 clear hn1 hr hi
 refine SR.cov (t':=.mk) (st':=⟨[(5,.sl (nid+24) 0 D.length)],[(s,strmC nl A q),(nid+24,some (.arr 57 D.length (devP (fun k=>n1 (nid+(100+2 * k))) (fun k=>n1 (nid+(101+2 * k))) D)))],nid+15000,nid⟩) (Cov.go [] [] ?_) ?_
 ·unfold devHs arrD strmC devP
  simp [cvT,step,res,e1,e2,e3,e4,e5,e6,e7,e8,e9,frzS,frzH,frzBlk,lends,lend,kill,noOs,-List.getD_eq_getElem?_getD]
  exact ⟨ColEq.l fun k hk=>⟨rfl,rfl,by rw [hco k hk]; exact ColsEq.refl _ _⟩,ColEq.l fun k hk=>⟨rfl,rfl,by rw [hci k hk]; exact ColsEq.refl _ _⟩⟩
 unfold devP
 refine SR.freezeB [nid+24] (fun n2=>?_)
 simp only [frzS,frzH,frzBlk,lends,lend,kill,strmC,noOs,aqA,↓seqK,↓blkK,↓loopK,step,stepBin,eqB,Nat.add_assoc nid,↓reduceIte,simprocAttr,LN_succ,e1,e2,e3,e4,e5,e6,e7,e8,e9]
 clear hco hci hCA
 simp only [a11,dropV]
 refine SR.run (t:=.mk) ?_
 simp -dsimp only [aqA,↓seqK,↓blkK,↓loopK,step,stepBin,eqB,Nat.add_assoc nid,↓reduceIte,simprocAttr,e1,e2,e3,e4,e5,e6,e7,e8,e9]
 refine ⟨⟨n2 (nid+24),fun k=>n1 (nid+(100+2 * k)),fun k=>n1 (nid+(101+2 * k)),D,q⟩,⟨hB,hq⟩,RetOK.go [] [] (.inl rfl) ?_⟩
 simp [a11,cvT,step,res,e1,e2,e3,e4,e5,e6,e7,e8,e9,strmC,devP,ColsEq.refl,-List.getD_eq_getElem?_getD]
end Go.Proofs.YtahjohieahehjaaGreatDoor
namespace Go.Proofs.YtahjohieahehjaaGreatDoor
open Go.RowKit
theorem Cov.sub {s s':Slots} {H H':Heap} {n n' b:Nat} (hn:n≤n') (hs:SlotsIn s s') (hH:subH H' H):Cov ⟨s,H,n,b⟩ ⟨s',H',n',b⟩:=fun C nt Y m a w h=>by
 refine ⟨Y,m,h.size,h.defers,fun i p hp hne=>?_,(HSF.some_sub h.heap hH).mono (fun id hid=>Nat.le_trans hn hid),h.base⟩
 rcases hs.get i with e | e
 ·exact absurd (hp.symm.trans e) hne
 ·exact h.slots i p (e.symm.trans hp) hne
theorem subH_pre {s:Nat} {c:Option ABlk} {F X:Heap} (hX:∀ id∈keys X,id=s):subH ((s,c)::F) ((s,c)::(X++F)):=fun id b h=>by
 simp only [getH] at h ⊢
 cases hh:(s==id)
 ·rw [hh] at h
  simp only [cond_false] at h ⊢
  rw [getH_appC]
  cases hk:(keys X).contains id
  ·exact h
  ·exfalso
   have h1:=hX id (by simpa using hk)
   subst h1
   simp at hh
 ·rw [hh] at h
  exact h
theorem subH_front (Y Z:Heap):subH Y (Y++Z):=fun id b h=>by
 rw [getH_appC]
 cases hk:(keys Y).contains id
 ·have:=getH_key h
  rw [hk] at this
  cases this
 ·exact h
theorem Scoped.lowHeap {b:Nat} {Hs:Heap} (h:Scoped b Hs):lowHeap b Hs:=⟨h.lt,h.blk⟩
theorem lowHeap_cons {b i:Nat} {c:Option ABlk} {Hs:Heap} (hi:i<b) (hc:lowBlk b c=true) (h:lowHeap b Hs):lowHeap b ((i,c)::Hs):=by
 refine ⟨fun id hid=>?_,fun id x hx=>?_⟩
 ·simp only [keys,List.map_cons,List.mem_cons] at hid
  rcases hid with rfl | hid
  ·exact hi
  ·exact h.1 id hid
 ·simp only [getH] at hx
  cases hh:(i==id)
  ·rw [hh] at hx; exact h.2 id x hx
  ·rw [hh] at hx
   simp only [cond_true] at hx
   rw [hx] at hc
   exact hc
theorem lowHeap_app {b:Nat}:∀ {X Y:Heap},lowHeap b X→lowHeap b Y→lowHeap b (X++Y)
 | [],Y,_,h=>h
 | (i,c)::X,Y,hx,hy=>by
  have hX:lowHeap b X∨True:=.inr trivial
  refine ⟨fun id hid=>?_,fun id x hg=>?_⟩
  ·have hk:keys ((i,c)::X++Y)=keys ((i,c)::X)++keys Y:=by simp [keys]
   rw [hk] at hid
   rcases List.mem_append.1 hid with hid | hid
   ·exact hx.1 id hid
   ·exact hy.1 id hid
  ·rw [getH_appC] at hg
   cases hk:(keys ((i,c)::X)).contains id
   ·rw [hk] at hg; exact hy.2 id x hg
   ·rw [hk] at hg; exact hx.2 id x hg
theorem spoil_later (s nid n:Nat) (nl:Bool) (A:List Int) (q I:Nat) (D:List Dev) (h:s<nid) (hn:nid+200≤n) (hq:q≤1099500002000) (hA:A.length≤17592186044416) (hI:I<D.length) (hD:D.length≤3) (hG:∀ d∈D,DevG d) :
  ACallI Tryz.prog 58 [.ptr s 0,.arp (nid+24) I 0] ([(s,strmC nl A q)]++devHs nid D) n (spPost D q) (fun _=>.tup []) (fun x=>[(s,strmC nl A x.q)]++devHs nid x.D):=by
 have hl:∀ (q:Nat) (D:List Dev),D.length≤3→lowHeap (nid+200) ([(s,strmC nl A q)]++devHs nid D):=fun q D hD=>lowHeap_cons (by omega) (by rfl) (devHs_scoped nid D hD).lowHeap
 refine (spoil_D s nid nl A q I D h hq hA hI hD hG).later hn ?_ (hl q D hD) (fun i hi=>rfl) (fun i hi=>lowHeap_app (hl _ _ (by have:=hi.1; omega)) (hl q D hD))
 simp [lowAll,idsOfs,idsOf]
 omega
set_option maxHeartbeats 16000000 in
theorem devices_I (s nid:Nat) (nl:Bool) (A:List Int) (p most:Nat) (h:s<nid) (hp:p≤1099500000000) (hA:A.length≤17592186044416) (h1:1≤most) (h3:most≤3) :
  ACallI Tryz.prog 11 [.ptr s 0,.int .i64 most] [(s,strmC nl A p)] nid (fun x:DvX=>DevB most x.D∧x.q≤p+60) (fun x=>.lit x.n0 x.D.length (devP x.n1 x.n2 x.D)) (fun x=>[(s,strmC nl A x.q)]):=by
 obtain ⟨e1,e2,e3,e4,e5,e6,e7,e8,e9⟩:=id_all h
 have hend:=fun (q:Nat) D hB hq=>devs_end s nid p q (p+60) most nl A D h hB h3 hq
 have hstep:=fun (n0:Bool) (q n:Nat) D hq hk hn Q=>dev_step s nid nl n0 A q n D h hq hA hk hn Q
 refine acallI_sr c11 (by simp [a11]) ?_
 simp only [a11,dropV,headV,roundV] at *
 refine SR.seq ?_
 simp -dsimp only [aqA,↓seqK,↓blkK,↓loopK,step,stepBin,eqB,Nat.add_assoc nid,↓reduceIte,simprocAttr,e1,e2,e3,e4,e5,e6,e7,e8,e9]
 refine SR.seq ?_
 simp -dsimp only [aqA,↓seqK,↓blkK,↓loopK,step,stepBin,eqB,Nat.add_assoc nid,↓reduceIte,simprocAttr,e1,e2,e3,e4,e5,e6,e7,e8,e9]
 refine SR.seqW (ι:={x:List Dev × Nat // (1≤x.1.length∧x.1.length≤most)∧(∀ d∈x.1,DevG d)∧x.2≤p+40}) (fun x=>⟨[(5,.sl (nid+24) 0 x.1.1.length),(0,.ptr s 0)],[(s,strmC nl A x.1.2)]++devHs nid x.1.1,nid+10000,nid⟩) ?_ (fun ⟨⟨D,q⟩,⟨hD1,hD2⟩,hG,hq⟩=>?_)
 ·refine SR.seqEx (ι:={n:Nat // 1≤n∧n≤most}) (fun n=>⟨[(18,.sl (nid+8) 0 n.1),(19,.int .i64 n.1),(20,.int .i64 0),(5,.lit true 0 []),(0,.ptr s 0)],[(s,strmC nl A (p+1)),(nid+8,some (.arr 9 3 [.s fun i=>u3L.getD i []]))],nid+500,nid⟩) ?_ (fun ⟨n,hn1,hn2⟩=>?_)
  ·simp -dsimp only [aqA,↓seqK,↓blkK,↓loopK,step,stepBin,eqB,Nat.add_assoc nid,↓reduceIte,simprocAttr,e1,e2,e3,e4,e5,e6,e7,e8,e9,strmC_low]
   have hnd:=rangeV_bd A p (lo:=1) (hi:=most) (by omega)
   obtain ⟨m,hm⟩:∃ m:Nat,rangeV A p 1 most=m:=⟨_,(Int.toNat_of_nonneg (by omega)).symm⟩
   rw [hm] at hnd
   refine CallO.on (range_c s _ nl A p 1 most (by omega) (by omega) hA (by omega) (by omega) (by omega)) (subH_get (by simp only [aqA,↓seqK,↓blkK,↓loopK,step,stepBin,eqB,Nat.add_assoc nid,↓reduceIte,simprocAttr,LN_succ,e1,e2,e3,e4,e5,e6,e7,e8,e9])) ?_
   rw [hm]
   simp -dsimp only [aqA,↓seqK,↓blkK,↓loopK,step,stepBin,eqB,Nat.add_assoc nid,↓reduceIte,simprocAttr,LN_succ,e1,e2,e3,e4,e5,e6,e7,e8,e9,strmC_low]
   refine ⟨⟨by omega,by omega⟩,⟨m,by omega,by omega⟩,Cov.go [] [] ?_⟩
   simp [cvT,step,res,e1,e2,e3,e4,e5,e6,e7,e8,e9,strmC,u3L,-List.getD_eq_getElem?_getD]
  simp only
  refine SR.freezeB [nid+8] (fun n9=>?_)
  simp only [frzS,frzH,frzBlk,lends,lend,kill,strmC,noOs,aqA,↓seqK,↓blkK,↓loopK,step,stepBin,eqB,Nat.add_assoc nid,↓reduceIte,simprocAttr,LN_succ,e1,e2,e3,e4,e5,e6,e7,e8,e9]
  generalize n9 (nid+8)=n0
  refine SR.block ?_
  refine SR.loopP (fun x:List Dev × Nat=>x.1.length≤n∧(∀ d∈x.1,DevG d)∧x.2≤p+1+12 * x.1.length) (fun x=>⟨[(20,.int .i64 x.1.length),(19,.int .i64 n),(18,.lit n0 n [.s fun i=>u3L.getD i []]),(5,.sl (nid+24) 0 x.1.length),(0,.ptr s 0)],[(s,strmC nl A x.2)]++devHs nid x.1,nid+1196,nid⟩) (fun x=>n+1 - x.1.length) ([],p+1) ⟨by simp,by simp,by simp⟩ (Cov.go [] [(nid+24,5)] ?_) (fun ⟨D,q⟩ hD=>?_)
  ·simp [cvT,step,res,e1,e2,e3,e4,e5,e6,e7,e8,e9,strmC,devHs,famD,inRg,inIn,arrD,-List.getD_eq_getElem?_getD]
  obtain ⟨hD1,hG,hq⟩:=hD
  simp only at hD1 hG hq
  have hs:=devHs_scoped nid D (by omega)
  have hsk:=devHs_off s nid D h
  refine SR.seq ?_
  simp -dsimp only [aqA,↓seqK,↓blkK,↓loopK,step,stepBin,eqB,Nat.add_assoc nid,↓reduceIte,simprocAttr,LN_succ,e1,e2,e3,e4,e5,e6,e7,e8,e9,strmC_low]
  refine SR.seq ?_
  simp -dsimp only [aqA,↓seqK,↓blkK,↓loopK,step,stepBin,eqB,Nat.add_assoc nid,↓reduceIte,simprocAttr,LN_succ,e1,e2,e3,e4,e5,e6,e7,e8,e9,strmC_low]
  refine S2.dec (fun h3=>?_) (fun h3=>?_) <;> simp -dsimp only [aqA,↓seqK,↓blkK,↓loopK,step,stepBin,eqB,Nat.add_assoc nid,↓reduceIte,simprocAttr,LN_succ,e1,e2,e3,e4,e5,e6,e7,e8,e9,strmC_low]
  ·refine SR.cov (t':=.mk) (st':=⟨[(20,.int .i64 D.length),(19,.int .i64 n),(18,.lit n0 n [.s fun i=>u3L.getD i []]),(5,.sl (nid+24) 0 D.length),(0,.ptr s 0)],[(s,strmC nl A q)]++devHs nid D,nid+1200,nid⟩) ?_ ?_
   ·generalize devHs nid D=Hs at *
    first | refine Cov.goG (nid+200) Hs [_] [_] [] [] (by omega) hs (by simp [kOK,hsk]) (by simp) ?_ | refine Cov.goG (nid+200) Hs [_,_] [_] [] [] (by omega) hs (by simp [kOK,hsk]) (by simp) ?_ | refine Cov.goG (nid+200) Hs [_,_,_] [_] [] [] (by omega) hs (by simp [kOK,hsk]) (by simp) ?_ | refine Cov.goG (nid+200) Hs [_,_,_,_] [_] [] [] (by omega) hs (by simp [kOK,hsk]) (by simp) ?_ | refine Cov.goG (nid+200) Hs [_,_,_,_,_] [_] [] [] (by omega) hs (by simp [kOK,hsk]) (by simp) ?_ | refine Cov.goG (nid+200) Hs [_,_,_,_,_,_] [_] [] [] (by omega) hs (by simp [kOK,hsk]) (by simp) ?_ | refine Cov.goG (nid+200) Hs [_,_,_,_,_,_,_] [_] [] [] (by omega) hs (by simp [kOK,hsk]) (by simp) ?_ | refine Cov.goG (nid+200) Hs [_,_,_,_,_,_,_,_] [_] [] [] (by omega) hs (by simp [kOK,hsk]) (by simp) ?_ | refine Cov.goG (nid+200) Hs [_,_,_,_,_,_,_,_,_] [_] [] [] (by omega) hs (by simp [kOK,hsk]) (by simp) ?_ | refine Cov.goG (nid+200) Hs [_,_,_,_,_,_,_,_,_,_] [_] [] [] (by omega) hs (by simp [kOK,hsk]) (by simp) ?_ | refine Cov.goG (nid+200) Hs [_,_,_,_,_,_,_,_,_,_,_] [_] [] [] (by omega) hs (by simp [kOK,hsk]) (by simp) ?_ | refine Cov.goG (nid+200) Hs [_,_,_,_,_,_,_,_,_,_,_,_] [_] [] [] (by omega) hs (by simp [kOK,hsk]) (by simp) ?_ | refine Cov.goG (nid+200) Hs [_,_,_,_,_,_,_,_,_,_,_,_,_] [_] [] [] (by omega) hs (by simp [kOK,hsk]) (by simp) ?_ | refine Cov.goG (nid+200) Hs [_,_,_,_,_,_,_,_,_,_,_,_,_,_] [_] [] [] (by omega) hs (by simp [kOK,hsk]) (by simp) ?_ | refine Cov.goG (nid+200) Hs [_,_,_,_,_,_,_,_,_,_,_,_,_,_,_] [_] [] [] (by omega) hs (by simp [kOK,hsk]) (by simp) ?_ | refine Cov.goG (nid+200) Hs [_,_,_,_,_,_,_,_,_,_,_,_,_,_,_,_] [_] [] [] (by omega) hs (by simp [kOK,hsk]) (by simp) ?_ | refine Cov.goG (nid+200) Hs [_,_,_,_,_,_,_,_,_,_,_,_,_,_,_,_,_] [_] [] [] (by omega) hs (by simp [kOK,hsk]) (by simp) ?_ | refine Cov.goG (nid+200) Hs [_,_,_,_,_,_,_,_,_,_,_,_,_,_,_,_,_,_] [_] [] [] (by omega) hs (by simp [kOK,hsk]) (by simp) ?_ | refine Cov.goG (nid+200) Hs [_,_,_,_,_,_,_,_,_,_,_,_,_,_,_,_,_,_,_] [_] [] [] (by omega) hs (by simp [kOK,hsk]) (by simp) ?_ | refine Cov.goG (nid+200) Hs [_,_,_,_,_,_,_,_,_,_,_,_,_,_,_,_,_,_,_,_] [_] [] [] (by omega) hs (by simp [kOK,hsk]) (by simp) ?_ | refine Cov.goG (nid+200) Hs [_,_,_,_,_,_,_,_,_,_,_,_,_,_,_,_,_,_,_,_,_] [_] [] [] (by omega) hs (by simp [kOK,hsk]) (by simp) ?_ | refine Cov.goG (nid+200) Hs [_,_,_,_,_,_,_,_,_,_,_,_,_,_,_,_,_,_,_,_,_,_] [_] [] [] (by omega) hs (by simp [kOK,hsk]) (by simp) ?_ | refine Cov.goG (nid+200) Hs [_,_,_,_,_,_,_,_,_,_,_,_,_,_,_,_,_,_,_,_,_,_,_] [_] [] [] (by omega) hs (by simp [kOK,hsk]) (by simp) ?_
    simp [cvT,step,res,e1,e2,e3,e4,e5,e6,e7,e8,e9,strmC,-List.getD_eq_getElem?_getD]
   refine SR.seqW _ (hstep n0 q n D (by omega) (by omega) (by omega) _) (fun ⟨⟨d,q2⟩,hd,hq2⟩=>?_)
   simp only at hd hq2
   have hll:(D++[d]).length=D.length+1:=by simp
   have hs2:=devHs_scoped nid (D++[d]) (by omega)
   have hsk2:=devHs_off s nid (D++[d]) h
   refine SR.run (t:=.mk) ?_
   simp -dsimp only [aqA,↓seqK,↓blkK,↓loopK,step,stepBin,eqB,Nat.add_assoc nid,↓reduceIte,simprocAttr,LN_succ,e1,e2,e3,e4,e5,e6,e7,e8,e9,strmC_low]
   refine ⟨by unfold inI64; omega,(D++[d],q2),⟨⟨by simp only [hll]; omega,fun y hy=>?_,by simp only [hll]; omega⟩,by simp only [hll]; omega⟩,?_⟩
   ·rcases List.mem_append.1 hy with hy | hy
    ·exact hG y hy
    ·rw [List.mem_singleton.1 hy]; exact hd
   simp only
   rw [hll]
   clear hs hsk
   have hs:=hs2
   have hsk:=hsk2
   generalize devHs nid (D++[d])=Hs at *
   first | refine Cov.goG (nid+200) Hs [_] [_] [] [] (by omega) hs (by simp [kOK,hsk]) (by simp) ?_ | refine Cov.goG (nid+200) Hs [_,_] [_] [] [] (by omega) hs (by simp [kOK,hsk]) (by simp) ?_ | refine Cov.goG (nid+200) Hs [_,_,_] [_] [] [] (by omega) hs (by simp [kOK,hsk]) (by simp) ?_ | refine Cov.goG (nid+200) Hs [_,_,_,_] [_] [] [] (by omega) hs (by simp [kOK,hsk]) (by simp) ?_ | refine Cov.goG (nid+200) Hs [_,_,_,_,_] [_] [] [] (by omega) hs (by simp [kOK,hsk]) (by simp) ?_ | refine Cov.goG (nid+200) Hs [_,_,_,_,_,_] [_] [] [] (by omega) hs (by simp [kOK,hsk]) (by simp) ?_ | refine Cov.goG (nid+200) Hs [_,_,_,_,_,_,_] [_] [] [] (by omega) hs (by simp [kOK,hsk]) (by simp) ?_ | refine Cov.goG (nid+200) Hs [_,_,_,_,_,_,_,_] [_] [] [] (by omega) hs (by simp [kOK,hsk]) (by simp) ?_ | refine Cov.goG (nid+200) Hs [_,_,_,_,_,_,_,_,_] [_] [] [] (by omega) hs (by simp [kOK,hsk]) (by simp) ?_ | refine Cov.goG (nid+200) Hs [_,_,_,_,_,_,_,_,_,_] [_] [] [] (by omega) hs (by simp [kOK,hsk]) (by simp) ?_ | refine Cov.goG (nid+200) Hs [_,_,_,_,_,_,_,_,_,_,_] [_] [] [] (by omega) hs (by simp [kOK,hsk]) (by simp) ?_ | refine Cov.goG (nid+200) Hs [_,_,_,_,_,_,_,_,_,_,_,_] [_] [] [] (by omega) hs (by simp [kOK,hsk]) (by simp) ?_ | refine Cov.goG (nid+200) Hs [_,_,_,_,_,_,_,_,_,_,_,_,_] [_] [] [] (by omega) hs (by simp [kOK,hsk]) (by simp) ?_ | refine Cov.goG (nid+200) Hs [_,_,_,_,_,_,_,_,_,_,_,_,_,_] [_] [] [] (by omega) hs (by simp [kOK,hsk]) (by simp) ?_ | refine Cov.goG (nid+200) Hs [_,_,_,_,_,_,_,_,_,_,_,_,_,_,_] [_] [] [] (by omega) hs (by simp [kOK,hsk]) (by simp) ?_ | refine Cov.goG (nid+200) Hs [_,_,_,_,_,_,_,_,_,_,_,_,_,_,_,_] [_] [] [] (by omega) hs (by simp [kOK,hsk]) (by simp) ?_ | refine Cov.goG (nid+200) Hs [_,_,_,_,_,_,_,_,_,_,_,_,_,_,_,_,_] [_] [] [] (by omega) hs (by simp [kOK,hsk]) (by simp) ?_ | refine Cov.goG (nid+200) Hs [_,_,_,_,_,_,_,_,_,_,_,_,_,_,_,_,_,_] [_] [] [] (by omega) hs (by simp [kOK,hsk]) (by simp) ?_ | refine Cov.goG (nid+200) Hs [_,_,_,_,_,_,_,_,_,_,_,_,_,_,_,_,_,_,_] [_] [] [] (by omega) hs (by simp [kOK,hsk]) (by simp) ?_ | refine Cov.goG (nid+200) Hs [_,_,_,_,_,_,_,_,_,_,_,_,_,_,_,_,_,_,_,_] [_] [] [] (by omega) hs (by simp [kOK,hsk]) (by simp) ?_ | refine Cov.goG (nid+200) Hs [_,_,_,_,_,_,_,_,_,_,_,_,_,_,_,_,_,_,_,_,_] [_] [] [] (by omega) hs (by simp [kOK,hsk]) (by simp) ?_ | refine Cov.goG (nid+200) Hs [_,_,_,_,_,_,_,_,_,_,_,_,_,_,_,_,_,_,_,_,_,_] [_] [] [] (by omega) hs (by simp [kOK,hsk]) (by simp) ?_ | refine Cov.goG (nid+200) Hs [_,_,_,_,_,_,_,_,_,_,_,_,_,_,_,_,_,_,_,_,_,_,_] [_] [] [] (by omega) hs (by simp [kOK,hsk]) (by simp) ?_
   simp [cvT,step,res,e1,e2,e3,e4,e5,e6,e7,e8,e9,strmC,-List.getD_eq_getElem?_getD]
  ·refine ⟨⟨(D,q),⟨by simp only; omega,by simp only; omega⟩,hG,by simp only; omega⟩,?_⟩
   simp only
   generalize devHs nid D=Hs at *
   first | refine Cov.goG (nid+200) Hs [_] [_] [] [] (by omega) hs (by simp [kOK,hsk]) (by simp) ?_ | refine Cov.goG (nid+200) Hs [_,_] [_] [] [] (by omega) hs (by simp [kOK,hsk]) (by simp) ?_ | refine Cov.goG (nid+200) Hs [_,_,_] [_] [] [] (by omega) hs (by simp [kOK,hsk]) (by simp) ?_ | refine Cov.goG (nid+200) Hs [_,_,_,_] [_] [] [] (by omega) hs (by simp [kOK,hsk]) (by simp) ?_ | refine Cov.goG (nid+200) Hs [_,_,_,_,_] [_] [] [] (by omega) hs (by simp [kOK,hsk]) (by simp) ?_ | refine Cov.goG (nid+200) Hs [_,_,_,_,_,_] [_] [] [] (by omega) hs (by simp [kOK,hsk]) (by simp) ?_ | refine Cov.goG (nid+200) Hs [_,_,_,_,_,_,_] [_] [] [] (by omega) hs (by simp [kOK,hsk]) (by simp) ?_ | refine Cov.goG (nid+200) Hs [_,_,_,_,_,_,_,_] [_] [] [] (by omega) hs (by simp [kOK,hsk]) (by simp) ?_ | refine Cov.goG (nid+200) Hs [_,_,_,_,_,_,_,_,_] [_] [] [] (by omega) hs (by simp [kOK,hsk]) (by simp) ?_ | refine Cov.goG (nid+200) Hs [_,_,_,_,_,_,_,_,_,_] [_] [] [] (by omega) hs (by simp [kOK,hsk]) (by simp) ?_ | refine Cov.goG (nid+200) Hs [_,_,_,_,_,_,_,_,_,_,_] [_] [] [] (by omega) hs (by simp [kOK,hsk]) (by simp) ?_ | refine Cov.goG (nid+200) Hs [_,_,_,_,_,_,_,_,_,_,_,_] [_] [] [] (by omega) hs (by simp [kOK,hsk]) (by simp) ?_ | refine Cov.goG (nid+200) Hs [_,_,_,_,_,_,_,_,_,_,_,_,_] [_] [] [] (by omega) hs (by simp [kOK,hsk]) (by simp) ?_ | refine Cov.goG (nid+200) Hs [_,_,_,_,_,_,_,_,_,_,_,_,_,_] [_] [] [] (by omega) hs (by simp [kOK,hsk]) (by simp) ?_ | refine Cov.goG (nid+200) Hs [_,_,_,_,_,_,_,_,_,_,_,_,_,_,_] [_] [] [] (by omega) hs (by simp [kOK,hsk]) (by simp) ?_ | refine Cov.goG (nid+200) Hs [_,_,_,_,_,_,_,_,_,_,_,_,_,_,_,_] [_] [] [] (by omega) hs (by simp [kOK,hsk]) (by simp) ?_ | refine Cov.goG (nid+200) Hs [_,_,_,_,_,_,_,_,_,_,_,_,_,_,_,_,_] [_] [] [] (by omega) hs (by simp [kOK,hsk]) (by simp) ?_ | refine Cov.goG (nid+200) Hs [_,_,_,_,_,_,_,_,_,_,_,_,_,_,_,_,_,_] [_] [] [] (by omega) hs (by simp [kOK,hsk]) (by simp) ?_ | refine Cov.goG (nid+200) Hs [_,_,_,_,_,_,_,_,_,_,_,_,_,_,_,_,_,_,_] [_] [] [] (by omega) hs (by simp [kOK,hsk]) (by simp) ?_ | refine Cov.goG (nid+200) Hs [_,_,_,_,_,_,_,_,_,_,_,_,_,_,_,_,_,_,_,_] [_] [] [] (by omega) hs (by simp [kOK,hsk]) (by simp) ?_ | refine Cov.goG (nid+200) Hs [_,_,_,_,_,_,_,_,_,_,_,_,_,_,_,_,_,_,_,_,_] [_] [] [] (by omega) hs (by simp [kOK,hsk]) (by simp) ?_ | refine Cov.goG (nid+200) Hs [_,_,_,_,_,_,_,_,_,_,_,_,_,_,_,_,_,_,_,_,_,_] [_] [] [] (by omega) hs (by simp [kOK,hsk]) (by simp) ?_ | refine Cov.goG (nid+200) Hs [_,_,_,_,_,_,_,_,_,_,_,_,_,_,_,_,_,_,_,_,_,_,_] [_] [] [] (by omega) hs (by simp [kOK,hsk]) (by simp) ?_
   simp [cvT,step,res,e1,e2,e3,e4,e5,e6,e7,e8,e9,strmC,-List.getD_eq_getElem?_getD]
 simp only at hD1 hD2 hG hq
 have hs:=devHs_scoped nid D (by omega)
 have hsk:=devHs_off s nid D h
 refine SR.seqEx (ι:={x:List Dev × Nat // x.1.length=D.length∧(∀ d∈x.1,DevOk d)∧x.2≤p+50}) (fun x=>⟨[(5,.sl (nid+24) 0 x.1.1.length),(0,.ptr s 0)],[(s,strmC nl A x.1.2)]++devHs nid x.1.1,nid+12000,nid⟩) ?_ (fun ⟨⟨D2,q2⟩,hl2,hok2,hq2⟩=>?_)
 ·simp -dsimp only [aqA,↓seqK,↓blkK,↓loopK,step,stepBin,eqB,Nat.add_assoc nid,↓reduceIte,simprocAttr,LN_succ,e1,e2,e3,e4,e5,e6,e7,e8,e9,strmC_low]
  refine CallO.on (flip_c s _ nl A q 12 (by omega) (by omega) hA (by omega)) (subH_get (by simp only [aqA,↓seqK,↓blkK,↓loopK,step,stepBin,eqB,Nat.add_assoc nid,↓reduceIte,simprocAttr,LN_succ,e1,e2,e3,e4,e5,e6,e7,e8,e9])) ?_
  simp -dsimp only [aqA,↓seqK,↓blkK,↓loopK,step,stepBin,eqB,Nat.add_assoc nid,↓reduceIte,simprocAttr,LN_succ,e1,e2,e3,e4,e5,e6,e7,e8,e9,strmC_low]
  refine S2.intro (fun h=>?_) (fun h=>?_) <;> simp -dsimp only [aqA,↓seqK,↓blkK,↓loopK,step,stepBin,eqB,Nat.add_assoc nid,↓reduceIte,simprocAttr,LN_succ,e1,e2,e3,e4,e5,e6,e7,e8,e9,strmC_low]
  ·have hnd:=nextV_bd A (q+1) (n:=(D.length:Nat)) (by omega)
   obtain ⟨I,hI⟩:∃ I:Nat,nextV A (q+1) ((D.length:Nat):Int)=I:=⟨_,(Int.toNat_of_nonneg hnd.1).symm⟩
   rw [hI] at hnd
   refine CallO.on (next_c s _ nl A (q+1) _ (by omega) (by omega) hA (by omega)) (subH_get (by simp only [aqA,↓seqK,↓blkK,↓loopK,step,stepBin,eqB,Nat.add_assoc nid,↓reduceIte,simprocAttr,LN_succ,e1,e2,e3,e4,e5,e6,e7,e8,e9])) ?_
   rw [hI]
   have hga:getH (devHs nid D) (nid+24)=some (.arr 57 D.length [.s fun i=>(D.getD i dev0).name,.i .i64 fun i=>(D.getD i dev0).long,.i .i64 fun i=>(D.getD i dev0).id,.o (fun k=>nid+(100+2 * k)) (fun k=>(D.getD k dev0).regs.length),.o (fun k=>nid+(101+2 * k)) (fun k=>(D.getD k dev0).ins.length)]):=by simp [devHs,getH,arrD]
   simp -dsimp only [aqA,↓seqK,↓blkK,↓loopK,step,stepBin,eqB,Nat.add_assoc nid,↓reduceIte,simprocAttr,LN_succ,e1,e2,e3,e4,e5,e6,e7,e8,e9,strmC_low,hga]
   refine ⟨⟨by omega,by omega⟩,?_⟩
   refine CallO.any (spoil_later s nid _ nl A (q+1+1) I D (by assumption) (by omega) (by omega) hA (by omega) (by omega) hG) (subH_pre (X:=[(s,_),(s,_)]) (by simp [keys])) (fun x hx=>?_)
   obtain ⟨x1,x2,x3⟩:=hx
   simp -dsimp only [aqA,↓seqK,↓blkK,↓loopK,step,stepBin,eqB,Nat.add_assoc nid,↓reduceIte,simprocAttr,LN_succ,e1,e2,e3,e4,e5,e6,e7,e8,e9,strmC_low]
   refine ⟨⟨(x.D,x.q),x1,x2,by simp only; omega⟩,?_⟩
   simp only
   rw [← x1]
   refine Cov.sub (by omega) (by simp only [SlotsIn,aqA,↓seqK,↓blkK,↓loopK,step,stepBin,eqB,Nat.add_assoc nid,↓reduceIte,simprocAttr]; try simp) (subH_front ((s,strmC nl A x.q)::devHs nid x.D) _)
  ·refine ⟨⟨(D,q+1),rfl,fun d hd=>(hG d hd).ok,by simp only; omega⟩,?_⟩
   simp only
   generalize devHs nid D=Hs at *
   first | refine Cov.goG (nid+200) Hs [_] [_] [] [] (by omega) hs (by simp [kOK,hsk]) (by simp) ?_ | refine Cov.goG (nid+200) Hs [_,_] [_] [] [] (by omega) hs (by simp [kOK,hsk]) (by simp) ?_ | refine Cov.goG (nid+200) Hs [_,_,_] [_] [] [] (by omega) hs (by simp [kOK,hsk]) (by simp) ?_ | refine Cov.goG (nid+200) Hs [_,_,_,_] [_] [] [] (by omega) hs (by simp [kOK,hsk]) (by simp) ?_ | refine Cov.goG (nid+200) Hs [_,_,_,_,_] [_] [] [] (by omega) hs (by simp [kOK,hsk]) (by simp) ?_ | refine Cov.goG (nid+200) Hs [_,_,_,_,_,_] [_] [] [] (by omega) hs (by simp [kOK,hsk]) (by simp) ?_ | refine Cov.goG (nid+200) Hs [_,_,_,_,_,_,_] [_] [] [] (by omega) hs (by simp [kOK,hsk]) (by simp) ?_ | refine Cov.goG (nid+200) Hs [_,_,_,_,_,_,_,_] [_] [] [] (by omega) hs (by simp [kOK,hsk]) (by simp) ?_ | refine Cov.goG (nid+200) Hs [_,_,_,_,_,_,_,_,_] [_] [] [] (by omega) hs (by simp [kOK,hsk]) (by simp) ?_ | refine Cov.goG (nid+200) Hs [_,_,_,_,_,_,_,_,_,_] [_] [] [] (by omega) hs (by simp [kOK,hsk]) (by simp) ?_ | refine Cov.goG (nid+200) Hs [_,_,_,_,_,_,_,_,_,_,_] [_] [] [] (by omega) hs (by simp [kOK,hsk]) (by simp) ?_ | refine Cov.goG (nid+200) Hs [_,_,_,_,_,_,_,_,_,_,_,_] [_] [] [] (by omega) hs (by simp [kOK,hsk]) (by simp) ?_ | refine Cov.goG (nid+200) Hs [_,_,_,_,_,_,_,_,_,_,_,_,_] [_] [] [] (by omega) hs (by simp [kOK,hsk]) (by simp) ?_ | refine Cov.goG (nid+200) Hs [_,_,_,_,_,_,_,_,_,_,_,_,_,_] [_] [] [] (by omega) hs (by simp [kOK,hsk]) (by simp) ?_ | refine Cov.goG (nid+200) Hs [_,_,_,_,_,_,_,_,_,_,_,_,_,_,_] [_] [] [] (by omega) hs (by simp [kOK,hsk]) (by simp) ?_ | refine Cov.goG (nid+200) Hs [_,_,_,_,_,_,_,_,_,_,_,_,_,_,_,_] [_] [] [] (by omega) hs (by simp [kOK,hsk]) (by simp) ?_ | refine Cov.goG (nid+200) Hs [_,_,_,_,_,_,_,_,_,_,_,_,_,_,_,_,_] [_] [] [] (by omega) hs (by simp [kOK,hsk]) (by simp) ?_ | refine Cov.goG (nid+200) Hs [_,_,_,_,_,_,_,_,_,_,_,_,_,_,_,_,_,_] [_] [] [] (by omega) hs (by simp [kOK,hsk]) (by simp) ?_ | refine Cov.goG (nid+200) Hs [_,_,_,_,_,_,_,_,_,_,_,_,_,_,_,_,_,_,_] [_] [] [] (by omega) hs (by simp [kOK,hsk]) (by simp) ?_ | refine Cov.goG (nid+200) Hs [_,_,_,_,_,_,_,_,_,_,_,_,_,_,_,_,_,_,_,_] [_] [] [] (by omega) hs (by simp [kOK,hsk]) (by simp) ?_ | refine Cov.goG (nid+200) Hs [_,_,_,_,_,_,_,_,_,_,_,_,_,_,_,_,_,_,_,_,_] [_] [] [] (by omega) hs (by simp [kOK,hsk]) (by simp) ?_ | refine Cov.goG (nid+200) Hs [_,_,_,_,_,_,_,_,_,_,_,_,_,_,_,_,_,_,_,_,_,_] [_] [] [] (by omega) hs (by simp [kOK,hsk]) (by simp) ?_ | refine Cov.goG (nid+200) Hs [_,_,_,_,_,_,_,_,_,_,_,_,_,_,_,_,_,_,_,_,_,_,_] [_] [] [] (by omega) hs (by simp [kOK,hsk]) (by simp) ?_
   simp [cvT,step,res,e1,e2,e3,e4,e5,e6,e7,e8,e9,strmC,-List.getD_eq_getElem?_getD]
 simp only at hl2 hok2 hq2
 clear hs hsk
 have hs:=devHs_scoped nid D2 (by omega)
 have hsk:=devHs_off s nid D2 h
 refine SR.seqEx (ι:={D3:List Dev // DevB most D3}) (fun D3=>⟨[(5,.sl (nid+24) 0 D3.1.length)],[(s,strmC nl A (q2+1))]++devHs nid D3.1,nid+15000,nid⟩) ?_ (fun ⟨D3,hB3⟩=>?_)
 ·simp -dsimp only [aqA,↓seqK,↓blkK,↓loopK,step,stepBin,eqB,Nat.add_assoc nid,↓reduceIte,simprocAttr,LN_succ,e1,e2,e3,e4,e5,e6,e7,e8,e9,strmC_low]
  refine CallO.on (flip_c s _ nl A q2 60 (by omega) (by omega) hA (by omega)) (subH_get (by simp only [aqA,↓seqK,↓blkK,↓loopK,step,stepBin,eqB,Nat.add_assoc nid,↓reduceIte,simprocAttr,LN_succ,e1,e2,e3,e4,e5,e6,e7,e8,e9])) ?_
  simp -dsimp only [aqA,↓seqK,↓blkK,↓loopK,step,stepBin,eqB,Nat.add_assoc nid,↓reduceIte,simprocAttr,LN_succ,e1,e2,e3,e4,e5,e6,e7,e8,e9,strmC_low]
  refine S2.intro (fun h=>?_) (fun h=>?_) <;> simp -dsimp only [aqA,↓seqK,↓blkK,↓loopK,step,stepBin,eqB,Nat.add_assoc nid,↓reduceIte,simprocAttr,LN_succ,e1,e2,e3,e4,e5,e6,e7,e8,e9,strmC_low]
  ·refine ⟨⟨[],by simp,by simp⟩,Cov.go [] [(nid+24,5)] ?_⟩
   simp [cvT,step,res,e1,e2,e3,e4,e5,e6,e7,e8,e9,strmC,devHs,famD,inRg,inIn,arrD,-List.getD_eq_getElem?_getD]
  ·refine ⟨⟨D2,by omega,hok2⟩,?_⟩
   generalize devHs nid D2=Hs at *
   first | refine Cov.goG (nid+200) Hs [_] [_] [] [] (by omega) hs (by simp [kOK,hsk]) (by simp) ?_ | refine Cov.goG (nid+200) Hs [_,_] [_] [] [] (by omega) hs (by simp [kOK,hsk]) (by simp) ?_ | refine Cov.goG (nid+200) Hs [_,_,_] [_] [] [] (by omega) hs (by simp [kOK,hsk]) (by simp) ?_ | refine Cov.goG (nid+200) Hs [_,_,_,_] [_] [] [] (by omega) hs (by simp [kOK,hsk]) (by simp) ?_ | refine Cov.goG (nid+200) Hs [_,_,_,_,_] [_] [] [] (by omega) hs (by simp [kOK,hsk]) (by simp) ?_ | refine Cov.goG (nid+200) Hs [_,_,_,_,_,_] [_] [] [] (by omega) hs (by simp [kOK,hsk]) (by simp) ?_ | refine Cov.goG (nid+200) Hs [_,_,_,_,_,_,_] [_] [] [] (by omega) hs (by simp [kOK,hsk]) (by simp) ?_ | refine Cov.goG (nid+200) Hs [_,_,_,_,_,_,_,_] [_] [] [] (by omega) hs (by simp [kOK,hsk]) (by simp) ?_ | refine Cov.goG (nid+200) Hs [_,_,_,_,_,_,_,_,_] [_] [] [] (by omega) hs (by simp [kOK,hsk]) (by simp) ?_ | refine Cov.goG (nid+200) Hs [_,_,_,_,_,_,_,_,_,_] [_] [] [] (by omega) hs (by simp [kOK,hsk]) (by simp) ?_ | refine Cov.goG (nid+200) Hs [_,_,_,_,_,_,_,_,_,_,_] [_] [] [] (by omega) hs (by simp [kOK,hsk]) (by simp) ?_ | refine Cov.goG (nid+200) Hs [_,_,_,_,_,_,_,_,_,_,_,_] [_] [] [] (by omega) hs (by simp [kOK,hsk]) (by simp) ?_ | refine Cov.goG (nid+200) Hs [_,_,_,_,_,_,_,_,_,_,_,_,_] [_] [] [] (by omega) hs (by simp [kOK,hsk]) (by simp) ?_ | refine Cov.goG (nid+200) Hs [_,_,_,_,_,_,_,_,_,_,_,_,_,_] [_] [] [] (by omega) hs (by simp [kOK,hsk]) (by simp) ?_ | refine Cov.goG (nid+200) Hs [_,_,_,_,_,_,_,_,_,_,_,_,_,_,_] [_] [] [] (by omega) hs (by simp [kOK,hsk]) (by simp) ?_ | refine Cov.goG (nid+200) Hs [_,_,_,_,_,_,_,_,_,_,_,_,_,_,_,_] [_] [] [] (by omega) hs (by simp [kOK,hsk]) (by simp) ?_ | refine Cov.goG (nid+200) Hs [_,_,_,_,_,_,_,_,_,_,_,_,_,_,_,_,_] [_] [] [] (by omega) hs (by simp [kOK,hsk]) (by simp) ?_ | refine Cov.goG (nid+200) Hs [_,_,_,_,_,_,_,_,_,_,_,_,_,_,_,_,_,_] [_] [] [] (by omega) hs (by simp [kOK,hsk]) (by simp) ?_ | refine Cov.goG (nid+200) Hs [_,_,_,_,_,_,_,_,_,_,_,_,_,_,_,_,_,_,_] [_] [] [] (by omega) hs (by simp [kOK,hsk]) (by simp) ?_ | refine Cov.goG (nid+200) Hs [_,_,_,_,_,_,_,_,_,_,_,_,_,_,_,_,_,_,_,_] [_] [] [] (by omega) hs (by simp [kOK,hsk]) (by simp) ?_ | refine Cov.goG (nid+200) Hs [_,_,_,_,_,_,_,_,_,_,_,_,_,_,_,_,_,_,_,_,_] [_] [] [] (by omega) hs (by simp [kOK,hsk]) (by simp) ?_ | refine Cov.goG (nid+200) Hs [_,_,_,_,_,_,_,_,_,_,_,_,_,_,_,_,_,_,_,_,_,_] [_] [] [] (by omega) hs (by simp [kOK,hsk]) (by simp) ?_ | refine Cov.goG (nid+200) Hs [_,_,_,_,_,_,_,_,_,_,_,_,_,_,_,_,_,_,_,_,_,_,_] [_] [] [] (by omega) hs (by simp [kOK,hsk]) (by simp) ?_
   simp [cvT,step,res,e1,e2,e3,e4,e5,e6,e7,e8,e9,strmC,-List.getD_eq_getElem?_getD]
 exact hend (q2+1) D3 hB3 (by omega)
end Go.Proofs.YtahjohieahehjaaGreatDoor
namespace Go.Proofs.YtahjohieahehjaaGreatDoor
open Go.RowKit
def devU:Dev:=⟨[117,49],2,0,[],[]⟩
theorem ColEq.l0 {n:Nat} {nl nl':Nat→Bool} {len len':Nat→Nat} {cols cols':Nat→List Col} (e:∀ j,j<n→nl j=nl' j∧len j=0∧len' j=0):ColEq n (.l nl len cols) (.l nl' len' cols'):=fun Y w j v hj hv=>by
 obtain ⟨h1,h2,h3⟩:=e j hj
 cases hv with
 | @l _ _ _ _ A cap u e2 e3 e4 e5 e6 =>
  have h:=ColRep.l (Y:=Y) (w:=w) (nl:=nl') (len:=len') (cols:=cols') (n:=j) (A:=A) (cap:=cap) u (by rw [← h1]; exact e2) (fun hA=>⟨h3,(e3 hA).2⟩) (by omega) (fun k m hk=>by omega) (fun k m c hk=>by omega)
  rw [h3] at h
  rw [h2]
  exact h
theorem DevOk.s {d:Dev} (h:DevOk d):DevS d :=
 ⟨by have:=h.nm; omega,by have:=h.lg; unfold inI64; omega,by have:=h.idb; unfold inI64; omega,by have:=h.rl; omega,fun x hx=>by have:=h.rs x hx; unfold inI64; omega,by have:=h.il; omega,fun x hx=>by have:=h.is x hx; omega⟩
theorem devU_ok:devsE [devU]=0∧DevOk devU:=by
 refine ⟨by decide,?_⟩
 constructor <;> simp [devU]
set_option maxHeartbeats 4000000 in
theorem rightDevices_I (s nid:Nat) (nl:Bool) (A:List Int) (p most:Nat) (h:s<nid) (hp:p≤1099499000000) (hA:A.length≤17592186044416) (h1:1≤most) (h3:most≤3) :
  ACallI Tryz.prog 33 [.ptr s 0,.int .i64 most] [(s,strmC nl A p)] nid (fun x:DvX=>(DevB most x.D∧devsE x.D=0)∧x.q≤p+360) (fun x=>.lit x.n0 x.D.length (devP x.n1 x.n2 x.D)) (fun x=>[(s,strmC nl A x.q)]):=by
 obtain ⟨e1,e2,e3,e4,e5,e6,e7,e8,e9⟩:=id_all h
 refine acallI_sr c33 (by simp [a33]) ?_
 unfold a33
 refine SR.seq ?_
 simp -dsimp only [aqA,↓seqK,↓blkK,↓loopK,step,stepBin,eqB,Nat.add_assoc nid,↓reduceIte,simprocAttr,e1,e2,e3,e4,e5,e6,e7,e8,e9]
 refine SR.seqW (ι:={q:Nat // q≤p+360}) (fun q=>⟨[],[(s,strmC nl A q.1)],nid+90000,nid⟩) ?_ (fun ⟨q,hq⟩=>?_)
 ·refine SR.seqTo ⟨[(6,.int .i64 0),(0,.ptr s 0),(1,.int .i64 most)],[(s,strmC nl A p)],nid+20,nid⟩ ?_ ?_
  ·simp -dsimp only [aqA,↓seqK,↓blkK,↓loopK,step,stepBin,eqB,Nat.add_assoc nid,↓reduceIte,simprocAttr,e1,e2,e3,e4,e5,e6,e7,e8,e9]
   refine Cov.go [] [] ?_
   simp [cvT,step,res,e1,e2,e3,e4,e5,e6,e7,e8,e9,strmC]
  refine SR.block ?_
  refine SR.loopP (fun x:Nat × Nat=>x.1≤6∧x.2≤p+60 * x.1) (fun x=>⟨[(6,.int .i64 x.1),(0,.ptr s 0),(1,.int .i64 most)],[(s,strmC nl A x.2)],nid+40,nid⟩) (fun x=>7 - x.1) (0,p) ⟨by simp,by simp⟩ (Cov.go [] [] ?_) (fun ⟨k,q⟩ hk=>?_)
  ·simp [cvT,step,res,e1,e2,e3,e4,e5,e6,e7,e8,e9,strmC]
  obtain ⟨hk,hq⟩:=hk
  simp only at hk hq
  refine SR.seq ?_
  simp -dsimp only [aqA,↓seqK,↓blkK,↓loopK,step,stepBin,eqB,Nat.add_assoc nid,↓reduceIte,simprocAttr,e1,e2,e3,e4,e5,e6,e7,e8,e9,strmC_low]
  refine SR.seq ?_
  simp -dsimp only [aqA,↓seqK,↓blkK,↓loopK,step,stepBin,eqB,Nat.add_assoc nid,↓reduceIte,simprocAttr,e1,e2,e3,e4,e5,e6,e7,e8,e9,strmC_low]
  refine S2.dec (fun h3=>?_) (fun h3=>?_) <;> simp -dsimp only [aqA,↓seqK,↓blkK,↓loopK,step,stepBin,eqB,Nat.add_assoc nid,↓reduceIte,simprocAttr,e1,e2,e3,e4,e5,e6,e7,e8,e9,strmC_low]
  ·refine SR.run (t:=.mk) ?_
   simp -dsimp only [aqA,↓seqK,↓blkK,↓loopK,step,stepBin,eqB,Nat.add_assoc nid,↓reduceIte,simprocAttr,e1,e2,e3,e4,e5,e6,e7,e8,e9,strmC_low]
   refine CallO.any (devices_I s _ nl A q most (by omega) (by omega) hA h1 (by assumption)) (subH_get (by simp only [aqA,↓seqK,↓blkK,↓loopK,step,stepBin,eqB,Nat.add_assoc nid,↓reduceIte,simprocAttr,LN_succ,e1,e2,e3,e4,e5,e6,e7,e8,e9])) (fun x hx=>?_)
   obtain ⟨x1,x2⟩:=hx
   have hfc:=fun m=>devsFault_c x.n0 x.n1 x.n2 x.D m (by have:=x1.len; omega) (fun d hd=>(x1.ok d hd).s)
   simp -dsimp only [aqA,↓seqK,↓blkK,↓loopK,step,stepBin,eqB,Nat.add_assoc nid,↓reduceIte,simprocAttr,e1,e2,e3,e4,e5,e6,e7,e8,e9,strmC_low]
   refine CallO.pure (hfc _) ?_
   simp -dsimp only [aqA,↓seqK,↓blkK,↓loopK,step,stepBin,eqB,Nat.add_assoc nid,↓reduceIte,simprocAttr,e1,e2,e3,e4,e5,e6,e7,e8,e9,strmC_low]
   by_cases he:devsE x.D=0
   ·have b1:(devsE x.D==0)=true:=by simp [he]
    simp -dsimp only [aqA,↓seqK,↓blkK,↓loopK,step,stepBin,eqB,Nat.add_assoc nid,↓reduceIte,simprocAttr,e1,e2,e3,e4,e5,e6,e7,e8,e9,strmC_low,b1]
    refine ⟨x,⟨⟨x1,he⟩,by omega⟩,RetOK.go [] [] (.inl rfl) ?_⟩
    simp [a33,cvT,step,res,e1,e2,e3,e4,e5,e6,e7,e8,e9,strmC,ColsEq.refl]
   ·have b1:(devsE x.D==0)=false:=by simp [he]
    simp -dsimp only [aqA,↓seqK,↓blkK,↓loopK,step,stepBin,eqB,Nat.add_assoc nid,↓reduceIte,simprocAttr,e1,e2,e3,e4,e5,e6,e7,e8,e9,strmC_low,b1]
    refine ⟨by unfold inI64; omega,(k+1,x.q),⟨⟨by omega,by omega⟩,by omega⟩,Cov.go [] [] ?_⟩
    simp [cvT,step,res,e1,e2,e3,e4,e5,e6,e7,e8,e9,strmC,ColsEq.refl]
  ·refine ⟨⟨q,by omega⟩,Cov.go [] [] ?_⟩
   simp [cvT,step,res,e1,e2,e3,e4,e5,e6,e7,e8,e9,strmC]
 simp only
 refine SR.seqTo ⟨[(4,.sl (nid+91000) 0 1)],[(s,strmC nl A q),(nid+91000,some (.arr 57 1 (devP (fun _=>true) (fun _=>true) [devU])))],nid+100000,nid⟩ ?_ ?_
 ·simp -dsimp only [aqA,↓seqK,↓blkK,↓loopK,step,stepBin,eqB,Nat.add_assoc nid,↓reduceIte,simprocAttr,e1,e2,e3,e4,e5,e6,e7,e8,e9,strmC_low]
  refine Cov.go [(nid+91000,nid+90004)] [] ?_
  simp [cvT,step,res,e1,e2,e3,e4,e5,e6,e7,e8,e9,strmC,devP,-List.getD_eq_getElem?_getD]
  refine ⟨ColEq.s fun j hj=>?_,ColEq.i fun j hj=>?_,ColEq.i fun j hj=>?_,ColEq.l0 fun j hj=>?_,ColEq.l0 fun j hj=>?_⟩ <;> (have e:j=0:=by omega) <;> subst e <;> simp [devU]
 unfold devP
 refine SR.freezeB [nid+91000] (fun n2=>?_)
 simp only [frzS,frzH,frzBlk,lends,lend,kill,strmC,noOs,aqA,↓seqK,↓blkK,↓loopK,step,stepBin,eqB,Nat.add_assoc nid,↓reduceIte,simprocAttr,LN_succ,e1,e2,e3,e4,e5,e6,e7,e8,e9]
 refine SR.run (t:=.mk) ?_
 simp -dsimp only [aqA,↓seqK,↓blkK,↓loopK,step,stepBin,eqB,Nat.add_assoc nid,↓reduceIte,simprocAttr,e1,e2,e3,e4,e5,e6,e7,e8,e9]
 refine ⟨⟨n2 (nid+91000),fun _=>true,fun _=>true,[devU],q⟩,⟨⟨⟨by simpa using h1,fun d hd=>by rw [List.mem_singleton.1 hd]; exact devU_ok.2⟩,devU_ok.1⟩,hq⟩,RetOK.go [] [] (.inl rfl) ?_⟩
 simp [a33,cvT,step,res,e1,e2,e3,e4,e5,e6,e7,e8,e9,strmC,devP,ColsEq.refl,-List.getD_eq_getElem?_getD]
end Go.Proofs.YtahjohieahehjaaGreatDoor
namespace Go.Proofs.YtahjohieahehjaaGreatDoor
open Go.RowKit
theorem portsH_keys (i:Nat):∀ (P Q:List Port),P.length=Q.length→keys (portsH i P)=keys (portsH i Q):=by
 intro P
 induction P generalizing i with
 | nil=>intro Q h; cases Q with
  | nil=>rfl
  | cons=>simp at h
 | cons p P ih=>intro Q h; cases Q with
  | nil=>simp at h
  | cons q Q =>
   simp only [portsH,keys,List.map_cons]
   have:=ih (i+3) Q (by simpa using h)
   simp only [keys] at this
   rw [this]
theorem chainH_keys (c s t:Nat) (P Q:List Port) (h:P.length=Q.length):keys (chainH c s P)=keys (chainH c t Q):=by
 have:=portsH_keys (c+2) P Q h
 simp only [keys] at this
 simp only [chainH,keys,List.map_cons,this]
theorem portsH_low (b:Nat):∀ (P:List Port) (i:Nat),i+3 * P.length≤b→∀ x∈portsH i P,x.1<b∧lowBlk b x.2=true
 | [],i,_,x,hx=>by simp [portsH] at hx
 | p::P,i,h,x,hx=>by
  simp only [List.length_cons] at h
  simp only [portsH,List.mem_cons] at hx
  rcases hx with rfl | rfl | rfl | hx
  ·refine ⟨by simp only; omega,?_⟩
   simp [portB,lowBlk_box,lowAll,idsOfs,idsOf,litRg,litIn]
   omega
  ·exact ⟨by simp only; omega,rfl⟩
  ·exact ⟨by simp only; omega,rfl⟩
  ·exact portsH_low b P (i+3) (by omega) x hx
theorem chainH_scoped (c b st:Nat) (P:List Port) (hP:P.length≤3) (h:c+11≤b):Scoped b (chainH c st P):=scoped_list fun x hx=>by
 simp only [chainH,List.mem_cons] at hx
 rcases hx with rfl | rfl | hx
 ·refine ⟨by simp only; omega,?_⟩
  simp [chB,lowBlk_box,lowAll,idsOfs,idsOf]
  omega
 ·refine ⟨by simp only; omega,?_⟩
  show lowCols b P.length _=true
  simp only [lowCols,Bool.and_eq_true,Bool.and_true]
  exact allTo_all fun j hj=>by simp; omega
 ·exact portsH_low b P (c+2) (by omega) x hx
theorem HCov.whole {b hi:Nat} {Hs Z:Heap} (hs:Scoped b Hs) (hb:b≤hi) (hZ:subH Hs Z):HCov hi [] [] Z Hs:=fun id x hx=>by
 have h:=frame_cov (b:=b) (hi:=hi) (ren:=[]) (nils:=[]) (n:=0) Hs [] [] hs (by simp [keys]) rfl rfl hb trivial id x hx
 simp only [List.nil_append] at h
 have e1:getH Z (srcOf [] id)=getH Hs (srcOf [] id):=by
  show getH Z id=getH Hs id
  rw [hx]
  exact hZ id x hx
 rw [e1]
 exact h
theorem RetOK.whole {rs:List ARes} {nid:Nat} {r:PV} {e:AEx} {s:Slots} {n1 b1:Nat} {Hs u Z:Heap} (he:e=.ret∨e=.normal) (hs:Scoped nid u) (hk:∀ id∈keys Hs,id∈keys u) (hZ:subH u Z)
  (h:onAll (readAll ⟨s,Z,n1,b1⟩ rs) fun ps=>PVCov (nid+4) [] [] (retPV ps) r):RetOK rs Hs nid r u e ⟨s,Z,n1,b1⟩:=by
 cases hp:readAll ⟨s,Z,n1,b1⟩ rs with
 | none=>rw [hp] at h; exact h.elim
 | some ps =>
  rw [hp] at h
  have hall:∃ (ren nils:List (Nat × Nat)) (H2:Heap),(∀ id,getH H2 id=getH (u++Hs) id)∧inRange nid (nid+4) ren=true∧inRange nid (nid+4) nils=true∧apart ren nils (liveIds H2)=true∧(liveIds H2).all (fun id=>decide (id<nid+4))=true ∧
    HCov (nid+4) ren nils Z H2∧PVCov (nid+4) ren nils (retPV ps) r:=by
   refine ⟨[],[],u,fun id=>?_,rfl,rfl,frame_apart (b:=nid) (hi:=nid+4) u [] hs rfl rfl rfl,frame_lt (b:=nid) (hi:=nid+4) u [] hs (by omega) rfl,HCov.whole hs (by omega) hZ,h⟩
   rw [getH_appC]
   cases hc:(keys u).contains id
   ·simp only [cond_false]
    have h1:getH u id=none:=by
     cases hg:getH u id with
     | none=>rfl
     | some x=>rw [getH_key hg] at hc; cases hc
    have h2:getH Hs id=none:=by
     cases hg:getH Hs id with
     | none=>rfl
     | some x =>
      have:=hk id (by simpa using getH_key hg)
      rw [show (keys u).contains id=true by simpa using this] at hc
      cases hc
    rw [h1,h2]
   ·rfl
  rcases he with rfl | rfl
  ·show onAll (readAll ⟨s,Z,n1,b1⟩ rs) _
   rw [hp]
   exact hall
  ·show onAll (readAll ⟨s,Z,n1,b1⟩ rs) _
   rw [hp]
   exact hall
theorem subH_refl (H:Heap):subH H H:=fun id b h=>h
theorem Cov.whole {s1 s2:Slots} {n1 n2 b:Nat} {u Z:Heap} (hs:Scoped b u) (hZ:subH u Z) (hn:b≤n2) (h:SlotsCov n2 [] [] s1 s2):Cov ⟨s1,Z,n1,b⟩ ⟨s2,u,n2,b⟩ :=
 Cov.mk [] [] rfl hn rfl rfl (frame_apart (b:=b) (hi:=n2) u [] hs rfl rfl rfl) (frame_lt (b:=b) (hi:=n2) u [] hs hn rfl) (HCov.whole hs hn hZ) h
def chH (c:Nat) (x:ChV):Heap:=chainH c x.st x.P
theorem PortV.s {st:Nat} {p:Port} (h:PortV p):PortS st p:=by
 have hw:=h.sh
 have hb:=h.sh.head
 have:=(bitM_lt hb)
 exact ⟨⟨h.rl,h.il,h.idb,h.lg⟩,by have:=hw.l1; omega,fun _=>hw.l0,fun _=>by omega⟩
def outB1 (st:Nat) (b:UInt8):Int:=if shifts st=true then (bitM b:Nat) else -1
theorem outV_bit {st:Nat} {b:UInt8} (hb:oneBit b=true):outV st b=outB1 st b:=by
 unfold outV outB1
 unfold oneBit at hb
 simp only [Bool.or_eq_true,beq_iff_eq] at hb
 rcases hb with rfl | rfl <;> rfl
theorem tick_c (x:ChV) (tms:Nat) (tdi:UInt8) (n c nid:Nat) (hc:c+11≤nid) (h1:tms<2) (hb:oneBit tdi=true) (hx:ChOk n x) (hl0:0<n) (hl:n≤3) :
  ACall Tryz.prog 62 [.ptr c 0,.int .i64 (tms:Nat),.int .i64 (bitM tdi:Nat)] (chH c x) nid (.int .i64 (outB1 x.st (tickO x tdi))) (chH c (tickV nextN x tms tdi)):=by
 have hm:=bitM_lt hb
 have h:=clock_c x.st x.P tms (bitM tdi) c nid hc h1 hm.1 hx.st (fun p hp=>(hx.ok p hp).s) (by rw [hx.len]; exact hl0) (by rw [hx.len]; exact hl)
 have e:UInt8.ofNat (48+bitM tdi)=tdi:=by rw [← hm.2]; exact UInt8.ofNat_toNat
 rw [e,outV_bit (clockP_V hx.ok hb).2] at h
 exact h
theorem bitW8 {b:UInt8} (hb:oneBit b=true):IntKind.i64.wrap (IntKind.u8.wrap (((b.toNat:Nat):Int) - 48))=(bitM b:Nat):=by
 unfold oneBit at hb
 simp only [Bool.or_eq_true,beq_iff_eq] at hb
 rcases hb with rfl | rfl <;> rfl
theorem walkV_take {x:ChV} {l:Bs} {k:Nat} (hk:k<l.length):walkV nextN x (l.take (k+1))=tickV nextN (walkV nextN x (l.take k)) (bitM (l.getD k 0)) 48:=by
 rw [List.take_add_one,List.getElem?_eq_getElem hk,Option.toList_some,walkV_snoc,List.getD_eq_getElem?_getD,List.getElem?_eq_getElem hk]
 rfl
theorem bits_at {l:Bs} (h:l.all oneBit=true) {k:Nat} (hk:k<l.length):oneBit (l.getD k 0)=true:=by
 rw [List.getD_eq_getElem?_getD,List.getElem?_eq_getElem hk]
 exact List.all_eq_true.1 h _ (List.getElem_mem _)
theorem take_bits {l:Bs} (h:l.all oneBit=true) (k:Nat):(l.take k).all oneBit=true:=List.all_eq_true.2 fun b hb=>List.all_eq_true.1 h b (List.mem_of_mem_take hb)
set_option maxHeartbeats 4000000 in
theorem walk_c (x:ChV) (l:Bs) (n c nid:Nat) (hc:c+11≤nid) (hl:l.all oneBit=true) (hll:l.length≤1000000) (hx:ChOk n x) (hn0:0<n) (hn:n≤3) :
  ACall Tryz.prog 126 [.ptr c 0,.str l] (chH c x) nid (.tup []) (chH c (walkV nextN x l)):=by
 have hok:∀ k,ChOk n (walkV nextN x (l.take k)):=fun k=>walk_ok (fun s t hs ht=>nextN_lt hs ht) hx (take_bits hl k)
 have hsc:∀ (y:ChV),ChOk n y→∀ m,c+11≤m→Scoped m (chH c y):=fun y hy m hm=>chainH_scoped c m y.st y.P (by rw [hy.len]; exact hn) hm
 have hks:∀ (y z:ChV),ChOk n y→ChOk n z→keys (chH c y)=keys (chH c z):=fun y z hy hz=>chainH_keys c _ _ _ _ (by rw [hy.len,hz.len])
 have htk:=fun k (hk:k<l.length) m (hm:c+11≤m)=>tick_c (walkV nextN x (l.take k)) (bitM (l.getD k 0)) 48 n c m hm (bitM_lt (bits_at hl hk)).1 (by decide) (hok k) hn0 hn
 have g:=id_row hc (by omega)
 refine acall_sr c126 (by simp [a126]) ?_
 unfold a126
 have h0:walkV nextN x (l.take 0)=x:=rfl
 refine SR.run (t:=.mk) ?_
 simp -dsimp only [aqA,↓seqK,↓blkK,↓loopK,step,stepBin,eqB,Nat.add_assoc nid,↓reduceIte,simprocAttr,LN_succ,g]
 refine LP.mkP (fun k:Nat=>k≤l.length) (fun k=>⟨[(7,.int .i64 k),(6,.int .i64 l.length),(1,.str l),(0,.ptr c 0)],chH c (walkV nextN x (l.take k)),nid+100,nid⟩) (fun k=>l.length+1 - k) 0 (by omega) ?_ (fun k hk=>?_)
 ·rw [h0]
  refine Cov.sub (by omega) (by simp only [SlotsIn,aqA,↓seqK,↓blkK,↓loopK,step,stepBin,eqB,Nat.reduceBEq,Nat.reduceBeqDiff,Nat.add_assoc nid,Nat.reduceAdd,reduceCtorEq,↓reduceIte,Nat.reduceLeDiff,Nat.reduceBneDiff,Nat.reduceLT]; try simp) (subH_refl _)
 simp -dsimp only [aqA,↓seqK,↓blkK,↓loopK,step,stepBin,eqB,Nat.add_assoc nid,↓reduceIte,simprocAttr,LN_succ,g]
 refine S2.dec (fun h3=>?_) (fun h3=>?_) <;> simp -dsimp only [aqA,↓seqK,↓blkK,↓loopK,step,stepBin,eqB,Nat.add_assoc nid,↓reduceIte,simprocAttr,LN_succ,g]
 ·have hkl:k<l.length:=by omega
  have hb:=bits_at hl hkl
  have ht:=htk k hkl
  rw [← walkV_take hkl] at ht
  rw [show (bitM 48:Nat)=0 from rfl] at ht
  have hsk:=hsc _ (hok k)
  generalize hH:chH c (walkV nextN x (l.take k))=Hs at *
  rw [bitW8 hb]
  refine ⟨⟨by omega,by omega⟩,CallO.on (ht _ (by omega)) (subH_refl _) ?_⟩
  simp -dsimp only [aqA,↓seqK,↓blkK,↓loopK,step,stepBin,eqB,Nat.add_assoc nid,↓reduceIte,simprocAttr,LN_succ,g]
  refine ⟨by unfold inI64; omega,k+1,⟨by omega,by omega⟩,?_⟩
  refine Cov.whole (hsc _ (hok (k+1)) _ hc) (subH_front _ _) (by omega) ?_
  simp [cvT,step,res,g]
 ·have hkn:k=l.length:=by omega
  rw [hkn,List.take_length] at *
  refine RetOK.whole (.inr rfl) (hsc _ (by have:=hok l.length; rwa [List.take_length] at this) _ hc) (fun id hid=>?_) (subH_refl _) ?_
  ·rw [hks _ x (by have:=hok l.length; rwa [List.take_length] at this) hx]; exact hid
  ·simp [cvT,step,res]
end Go.Proofs.YtahjohieahehjaaGreatDoor
namespace Go.Proofs.YtahjohieahehjaaGreatDoor
def bitsFaultV (s:List UInt8):Int:=if 20000<s.length then 2 else if bitsOk s=true then 0 else 9
theorem bitsFaultV_ok {s:List UInt8} (h:bitsFaultV s=0):s.length≤20000∧bitsOk s=true:=by
 unfold bitsFaultV at h
 split at h
 ·cases h
 ·split at h
  ·exact ⟨by omega,by assumption⟩
  ·cases h
end Go.Proofs.YtahjohieahehjaaGreatDoor
namespace Go.Proofs.YtahjohieahehjaaGreatDoor
open Go.RowKit
def tmsAt (n k:Nat):Nat:=if k+1=n then 1 else 0
def feedV (x:ChV) (l:Bs):Nat→ChV
 | 0=>x
 | k+1=>tickV nextN (feedV x l k) (tmsAt l.length k) (l.getD k 0)
def feedO (x:ChV) (l:Bs) (k:Nat):UInt8:=tickO (feedV x l k) (l.getD k 0)
def scan1 (x:ChV) (T:Nat):ChV:=walkV nextN x (pathV x.st T)
def scanV (x:ChV) (T:Nat) (l:Bs):ChV:=walkV nextN (feedV (scan1 x T) l l.length) [49,48]
def scanO (x:ChV) (T:Nat) (l:Bs):Bs:=(List.range l.length).map (feedO (scan1 x T) l)
theorem walkV_st (x:ChV):∀ (l:Bs),(walkV nextN x l).st=l.foldl (fun a b=>nextN a (bitM b)) x.st:=by
 intro l
 induction l generalizing x with
 | nil=>rfl
 | cons b l ih=>exact ih (tickV nextN x (bitM b) 48)
theorem way_all:∀ s,s<2→∀ T,T=4∨T=11→(pathV s T).foldl (fun a b=>nextN a (bitM b)) s=T∧(pathV s T).all oneBit=true∧(pathV s T).length≤20:=by
 intro s hs T hT
 have:s=0∨s=1:=by omega
 rcases this with rfl | rfl <;> rcases hT with rfl | rfl <;> decide
theorem tmsAt_lt (n k:Nat):tmsAt n k<2:=by unfold tmsAt; split <;> omega
theorem feed_ok {n:Nat} {x:ChV} {l:Bs} (h:ChOk n x) (hl:l.all oneBit=true):∀ k,k≤l.length→ChOk n (feedV x l k)
 | 0,_=>h
 | k+1,hk=>tick_ok (fun s t hs ht=>nextN_lt hs ht) (feed_ok h hl k (by omega)) (tmsAt_lt _ _) (bits_at hl (by omega))
theorem feed_st {x:ChV} {l:Bs} {T:Nat} (hx:x.st=T) (hT:T=4∨T=11):∀ k,k<l.length→(feedV x l k).st=T
 | 0,_=>hx
 | k+1,hk=>by
  show nextN (feedV x l k).st (tmsAt l.length k)=T
  rw [feed_st hx hT k (by omega)]
  have:tmsAt l.length k=0:=by unfold tmsAt; rw [if_neg (by omega)]
  rw [this]
  rcases hT with rfl | rfl <;> rfl
theorem scan1_ok {n T:Nat} {x:ChV} (h:ChOk n x) (hs:x.st<2) (hT:T=4∨T=11):ChOk n (scan1 x T)∧(scan1 x T).st=T:=by
 obtain ⟨w1,w2,w3⟩:=way_all x.st hs T hT
 exact ⟨walk_ok (fun s t hs ht=>nextN_lt hs ht) h w2,by unfold scan1; rw [walkV_st]; exact w1⟩
theorem scanV_ok {n T:Nat} {x:ChV} {l:Bs} (h:ChOk n x) (hs:x.st<2) (hT:T=4∨T=11) (hl:l.all oneBit=true):ChOk n (scanV x T l) :=
 walk_ok (fun s t hs ht=>nextN_lt hs ht) (feed_ok (scan1_ok h hs hT).1 hl _ (Nat.le_refl _)) (by decide)
theorem subH_mix {b:Nat} {Hs R:Heap} {k:Nat} {A:ABlk} (E:Heap) (hs:Scoped b Hs) (hE:E.all (fun x=>decide (b≤x.1))=true) (hk:getH E k=some A):subH ((k,some A)::Hs) (E++(Hs++R)):=fun id y hy=>by
 have hkE:∀ id,(keys E).contains id=true→b≤id:=fun id h=>by
  simp only [keys,List.contains_iff_mem,List.mem_map] at h
  obtain ⟨x,hx,rfl⟩:=h
  have:=List.all_eq_true.1 hE x hx
  simpa using this
 simp only [getH] at hy
 rw [getH_appC]
 cases e:(k==id)
 ·rw [e] at hy
  simp only [cond_false] at hy
  have hlt:=hs.lt id (by simpa using getH_key hy)
  cases hc:(keys E).contains id
  ·simp only [cond_false]
   exact subH_front Hs R id y hy
  ·have:=hkE id hc
   omega
 ·rw [e] at hy
  simp only [cond_true] at hy
  have e':=eq_of_beq e
  subst e'
  rw [getH_key hk]
  simp only [cond_true]
  rw [hk]
  exact hy
theorem Cov.heap {s:Slots} {H H':Heap} {n b:Nat} (hH:subH H' H):Cov ⟨s,H,n,b⟩ ⟨s,H',n,b⟩:=fun C nt Y m a w h =>
 ⟨Y,m,h.size,h.defers,h.slots,HSF.some_sub h.heap hH,h.base⟩
theorem bitsFaultT_c (s:List UInt8) (nid:Nat) (hs:s.length≤1099511627776):ACall Tryz.prog 69 [.str s] [] nid (.int .i64 (bitsFaultV s)) []:=by
 refine acall_run c69 (by simp [a69]) ?_
 simp -dsimp only [aqA,↓seqK,↓blkK,↓loopK,step,stepBin,eqB,Nat.reduceBEq,Nat.reduceBeqDiff,Nat.add_assoc nid,Nat.reduceAdd,reduceCtorEq,↓reduceIte,Nat.reduceLeDiff,Nat.reduceBneDiff,Nat.reduceLT,a69]
 refine S2.dec (fun h=>?_) (fun h=>?_) <;> simp -dsimp only [aqA,↓seqK,↓blkK,↓loopK,step,stepBin,eqB,Nat.reduceBEq,Nat.reduceBeqDiff,Nat.add_assoc nid,Nat.reduceAdd,reduceCtorEq,↓reduceIte,Nat.reduceLeDiff,Nat.reduceBneDiff,Nat.reduceLT]
 ·have e:bitsFaultV s=2:=by unfold bitsFaultV; rw [if_pos (by omega)]
  rw [e]
  refine RetOK.pure (.inl rfl) rfl ?_
  simp [cvT,step,res]
 have e:bitsFaultV s=if bitsOk s=true then 0 else 9:=by unfold bitsFaultV; rw [if_neg (by omega)]
 rw [e]
 refine CallO.pure (bits_c s _ hs) ?_
 simp -dsimp only [aqA,↓seqK,↓blkK,↓loopK,step,stepBin,eqB,Nat.reduceBEq,Nat.reduceBeqDiff,Nat.add_assoc nid,Nat.reduceAdd,reduceCtorEq,↓reduceIte,Nat.reduceLeDiff,Nat.reduceBneDiff,Nat.reduceLT]
 cases hb:bitsOk s <;> simp -dsimp only [aqA,↓seqK,↓blkK,↓loopK,step,stepBin,eqB,Nat.reduceBEq,Nat.reduceBeqDiff,Nat.add_assoc nid,Nat.reduceAdd,reduceCtorEq,↓reduceIte,Nat.reduceLeDiff,Nat.reduceBneDiff,Nat.reduceLT]
 ·refine RetOK.pure (.inl rfl) rfl ?_
  simp [cvT,step,res]
 ·refine RetOK.pure (.inl rfl) rfl ?_
  simp [cvT,step,res]
theorem outByte {b:UInt8} (hb:oneBit b=true):IntKind.u8.wrap (48+((bitM b:Nat):Int))=(b.toNat:Nat):=by
 unfold oneBit at hb
 simp only [Bool.or_eq_true,beq_iff_eq] at hb
 rcases hb with rfl | rfl <;> rfl
theorem bits_ok {l:Bs} (h:bitsFaultV l=0):l.all oneBit=true∧l.length≤20000:=by
 obtain ⟨h1,h2⟩:=bitsFaultV_ok h
 exact ⟨h2,h1⟩
set_option maxHeartbeats 8000000 in
theorem scan_c (x:ChV) (T:Nat) (l:Bs) (n c nid:Nat) (hc:c+11≤nid) (hx:ChOk n x) (hs:x.st<2) (hT:T=4∨T=11) (h0:0<l.length) (hf:bitsFaultV l=0) (hn0:0<n) (hn:n≤3) :
  ACall Tryz.prog 85 [.ptr c 0,.int .i64 (T:Nat),.str l] (chH c x) nid (.tup [.str (scanO x T l),.int .i64 0]) (chH c (scanV x T l)):=by
 obtain ⟨hl,hll⟩:=bits_ok hf
 obtain ⟨hok1,hst1⟩:=scan1_ok hx hs hT
 obtain ⟨w1,w2,w3⟩:=way_all x.st hs T hT
 have hsc:∀ (y:ChV),ChOk n y→∀ m,c+11≤m→Scoped m (chH c y):=fun y hy m hm=>chainH_scoped c m y.st y.P (by rw [hy.len]; exact hn) hm
 have hks:∀ (y z:ChV),ChOk n y→ChOk n z→keys (chH c y)=keys (chH c z):=fun y z hy hz=>chainH_keys c _ _ _ _ (by rw [hy.len,hz.len])
 have hokV:=scanV_ok hx hs hT hl
 have hfo:=fun k hk=>feed_ok hok1 hl k hk
 have g:=id_row hc (by omega)
 refine acall_sr c85 (by simp [a85]) ?_
 unfold a85
 have hbf:=fun m=>bitsFaultT_c l m (by omega)
 rw [hf] at hbf
 have hpt:=fun m=>path_st x.st T m hx.st
 have hwk:=fun m (hm:c+11≤m)=>walk_c x (pathV x.st T) n c m hm w2 (by omega) hx hn0 hn
 refine SR.seq ?_
 simp -dsimp only [aqA,↓seqK,↓blkK,↓loopK,step,stepBin,eqB,Nat.add_assoc nid,↓reduceIte,simprocAttr,LN_succ,g]
 refine SR.seqTo ⟨[(0,.ptr c 0),(1,.int .i64 (T:Nat)),(2,.str l)],chH c x,nid+100,nid⟩ ?_ ?_
 ·unfold chH chainH chB
  simp -dsimp only [aqA,↓seqK,↓blkK,↓loopK,step,stepBin,eqB,Nat.add_assoc nid,↓reduceIte,simprocAttr,LN_succ,g]
  have hst2:x.st=0∨x.st=1:=by omega
  have hb:(((x.st:Nat):Int) != 1)=false∨((((x.st:Nat):Int) != 1)=true∧(((x.st:Nat):Int) != 0)=false):=by
   rcases hst2 with h | h <;> rw [h]
   ·exact .inr ⟨rfl,rfl⟩
   ·exact .inl rfl
  have hend:∀ (s:Slots) (m:Nat),getS s 0=.ptr c 0→getS s 1=.int .i64 (T:Nat)→getS s 2=.str l→Cov ⟨s,(c,some (.box 95 [.int .i64 (x.st:Nat),.sl (c+1) 0 x.P.length]))::(c+1,some (.arr 98 x.P.length [.q fun k=>c+2+3 * k]))::portsH (c+2) x.P,m,nid⟩ ⟨[(0,.ptr c 0),(1,.int .i64 (T:Nat)),(2,.str l)],chH c x,nid+100,nid⟩:=fun s m h1 h2 h3=>by
   refine Cov.whole (hsc x hx _ hc) (subH_refl _) (by omega) ?_
   simp [cvT,step,res,g,h1,h2,h3]
  rcases hb with hb | ⟨hb,hb'⟩
  ·simp -dsimp only [aqA,↓seqK,↓blkK,↓loopK,step,stepBin,eqB,Nat.add_assoc nid,↓reduceIte,simprocAttr,LN_succ,g,hb]
   refine S2.intro (fun h=>absurd h0 (by simp at h; simp [h])) (fun h=>?_)
   simp -dsimp only [aqA,↓seqK,↓blkK,↓loopK,step,stepBin,eqB,Nat.add_assoc nid,↓reduceIte,simprocAttr,LN_succ,g]
   exact hend _ _ rfl rfl rfl
  ·simp -dsimp only [aqA,↓seqK,↓blkK,↓loopK,step,stepBin,eqB,Nat.add_assoc nid,↓reduceIte,simprocAttr,LN_succ,g,hb,hb']
   refine S2.intro (fun h=>absurd h0 (by simp at h; simp [h])) (fun h=>?_)
   simp -dsimp only [aqA,↓seqK,↓blkK,↓loopK,step,stepBin,eqB,Nat.add_assoc nid,↓reduceIte,simprocAttr,LN_succ,g]
   exact hend _ _ rfl rfl rfl
 refine SR.seqTo ⟨[(0,.ptr c 0),(1,.int .i64 (T:Nat)),(2,.str l)],chH c x,nid+200,nid⟩ ?_ ?_
 ·have hsx:=hsc x hx
  generalize chH c x=Hs at *
  simp -dsimp only [aqA,↓seqK,↓blkK,↓loopK,step,stepBin,eqB,Nat.add_assoc nid,↓reduceIte,simprocAttr,LN_succ,g]
  refine CallO.pure (hbf _) ?_
  simp -dsimp only [aqA,↓seqK,↓blkK,↓loopK,step,stepBin,eqB,Nat.add_assoc nid,↓reduceIte,simprocAttr,LN_succ,g]
  refine Cov.whole (hsx _ hc) (subH_refl _) (by omega) ?_
  simp [cvT,step,res,g]
 refine SR.seqTo ⟨[(0,.ptr c 0),(2,.str l)],chH c (scan1 x T),nid+300,nid⟩ ?_ ?_
 ·have hs1:=hsc (scan1 x T) hok1
  have hwk':=fun m hm=>hwk m hm
  unfold scan1 at hs1 ⊢
  have hld:getH (chH c x) c=some (.box 95 [.int .i64 (x.st:Nat),.sl (c+1) 0 x.P.length]):=by
   unfold chH chainH chB
   simp only [aqA,↓seqK,↓blkK,↓loopK,step,stepBin,eqB,Nat.add_assoc nid,↓reduceIte,simprocAttr,LN_succ]
  generalize chH c x=Hs at *
  simp -dsimp only [aqA,↓seqK,↓blkK,↓loopK,step,stepBin,eqB,Nat.add_assoc nid,↓reduceIte,simprocAttr,LN_succ,g,hld]
  refine CallO.pure (hpt _) ?_
  simp -dsimp only [aqA,↓seqK,↓blkK,↓loopK,step,stepBin,eqB,Nat.add_assoc nid,↓reduceIte,simprocAttr,LN_succ,g,hld]
  refine CallO.on (hwk _ (by omega)) (subH_refl _) ?_
  simp -dsimp only [aqA,↓seqK,↓blkK,↓loopK,step,stepBin,eqB,Nat.add_assoc nid,↓reduceIte,simprocAttr,LN_succ,g,hld]
  refine Cov.whole (hs1 _ hc) (subH_front _ _) (by omega) ?_
  simp [cvT,step,res,g]
 have hx1:scan1 x T=scan1 x T:=rfl
 unfold scanO scanV
 generalize scan1 x T=y at *
 have htk:=fun k (hk:k<l.length) m (hm:c+11≤m)=>tick_c (feedV y l k) (tmsAt l.length k) (l.getD k 0) n c m hm (tmsAt_lt _ _) (bits_at hl hk) (hfo k (by omega)) hn0 hn
 refine SR.seq ?_
 simp -dsimp only [aqA,↓seqK,↓blkK,↓loopK,step,stepBin,eqB,Nat.add_assoc nid,↓reduceIte,simprocAttr,LN_succ,g]
 refine SR.seqTo ⟨[(9,.sl (nid+200) 0 l.length),(0,.ptr c 0)],(nid+200,some (.arr 5 l.length [.i .u8 fun j=>((feedO y l j).toNat:Nat)]))::chH c (feedV y l l.length),nid+2000,nid⟩ ?_ ?_
 ·have hsy:=hsc y hok1
  simp -dsimp only [aqA,↓seqK,↓blkK,↓loopK,step,stepBin,eqB,Nat.add_assoc nid,↓reduceIte,simprocAttr,LN_succ,g]
  refine LP.mkP (fun k:Nat=>k≤l.length) (fun k=>⟨[(9,.sl (nid+200) 0 k),(43,.int .i64 k),(42,.int .i64 l.length),(2,.str l),(0,.ptr c 0)],(nid+200,some (.arr 5 k [.i .u8 fun j=>((feedO y l j).toNat:Nat)]))::chH c (feedV y l k),nid+1000,nid⟩) (fun k=>l.length+1 - k) 0 (by omega) ?_ (fun k hk=>?_)
  ·refine Cov.goF (chH c y) [] [(nid+200,_)] [] [(nid+200,1)] (hsy _ hc) (by simp [kOK]) rfl ?_
   simp [cvT,step,res,g]
  simp -dsimp only [aqA,↓seqK,↓blkK,↓loopK,step,stepBin,eqB,Nat.add_assoc nid,↓reduceIte,simprocAttr,LN_succ,g]
  refine S2.dec (fun h3=>?_) (fun h3=>?_) <;> simp -dsimp only [aqA,↓seqK,↓blkK,↓loopK,step,stepBin,eqB,Nat.add_assoc nid,↓reduceIte,simprocAttr,LN_succ,g]
  ·have hkl:k<l.length:=by omega
   have hb:=bits_at hl hkl
   have hst:=feed_st hst1 hT k hkl
   have hob:oneBit (feedO y l k)=true:=(clockP_V (hfo k (by omega)).ok hb).2
   have hO:outB1 (feedV y l k).st (tickO (feedV y l k) (l.getD k 0))=((bitM (feedO y l k):Nat):Int):=by
    unfold outB1 shifts
    rw [hst]
    rcases hT with rfl | rfl <;> rfl
   have hbl:=bitM_lt hob
   have hob2:=outByte hob
   have ht:=htk k hkl
   rw [hO] at ht
   have hsk:=hsc _ (hfo k (by omega))
   have hsk1:=hsc _ (hfo (k+1) (by omega))
   have hf1:chH c (tickV nextN (feedV y l k) (tmsAt l.length k) (l.getD k 0))=chH c (feedV y l (k+1)):=rfl
   rw [hf1] at ht
   have htm:(((k:Nat):Int)==((l.length:Nat):Int) - 1)=decide (k+1=l.length):=by
    rw [Bool.eq_iff_iff,beq_iff_eq,decide_eq_true_eq]
    omega
   generalize hH:chH c (feedV y l k)=Hs at *
   generalize hH1:chH c (feedV y l (k+1))=Hs1 at *
   have hg:∀ A:Option ABlk,getH (Hs1++(nid+200,A)::Hs) (nid+200)=A:=fun A=>by
    rw [getH_appC]
    cases hk:(keys Hs1).contains (nid+200)
    ·simp [getH]
    ·have:=(hsk1 nid hc).lt (nid+200) (by simpa using hk)
     omega
   refine ⟨by unfold inI64; omega,?_⟩
   have hcol:ColEq (k+1) (.i .u8 fun i=>if i<k then ((feedO y l i).toNat:Nat) else [IntKind.u8.wrap (48+((bitM (feedO y l k):Nat):Int))].getD (i - k) 0) (.i .u8 fun j=>((feedO y l j).toNat:Nat)):=ColEq.i fun j hj=>by
    by_cases hjk:j<k
    ·rw [if_pos hjk]
    ·have e:j=k:=by omega
     rw [if_neg hjk,e,Nat.sub_self,hob2]
     rfl
   by_cases hlast:k+1=l.length
   ·have e1:tmsAt l.length k=1:=by unfold tmsAt; rw [if_pos hlast]
    rw [e1] at ht
    rw [decide_eq_true hlast] at htm
    rw [htm]
    simp -dsimp only [aqA,↓seqK,↓blkK,↓loopK,step,stepBin,eqB,Nat.add_assoc nid,↓reduceIte,simprocAttr,LN_succ,g]
    rw [bitW8 hb]
    refine ⟨⟨by omega,by omega⟩,CallO.on (ht _ (by omega)) (subH_frame (X:=[(nid+200,_)]) (hsk nid hc) (by simp [kOK])) ?_⟩
    simp -dsimp only [aqA,↓seqK,↓blkK,↓loopK,step,stepBin,eqB,Nat.add_assoc nid,↓reduceIte,simprocAttr,LN_succ,g,hg]
    refine ⟨by unfold inI64; omega,⟨by omega,by omega⟩,by unfold inI64; omega,k+1,⟨by omega,by omega⟩,?_⟩
    rw [hH1]
    show Cov ⟨_,[_,_,_]++(Hs1++_),_,_⟩ _
    refine Cov.trans (Cov.heap (subH_mix (b:=nid) (k:=nid+1088) (A:=.arr 5 (k+1) [.i .u8 fun i=>if i<k then ((feedO y l i).toNat:Nat) else [IntKind.u8.wrap (48+((bitM (feedO y l k):Nat):Int))].getD (i - k) 0]) _ (hsk1 nid hc) (by simp) (by simp only [aqA,↓seqK,↓blkK,↓loopK,step,stepBin,eqB,Nat.add_assoc nid,↓reduceIte,simprocAttr,LN_succ]))) (Cov.goF Hs1 [(nid+1088,_)] [(nid+200,_)] [(nid+200,nid+1088)] [] (hsk1 nid hc) (by simp [kOK]) (by simp) ?_)
    simp [cvT,step,res,g]
    exact hcol
   ·have e1:tmsAt l.length k=0:=by unfold tmsAt; rw [if_neg hlast]
    rw [e1] at ht
    rw [decide_eq_false hlast] at htm
    rw [htm]
    simp -dsimp only [aqA,↓seqK,↓blkK,↓loopK,step,stepBin,eqB,Nat.add_assoc nid,↓reduceIte,simprocAttr,LN_succ,g]
    rw [bitW8 hb]
    refine ⟨⟨by omega,by omega⟩,CallO.on (ht _ (by omega)) (subH_frame (X:=[(nid+200,_)]) (hsk nid hc) (by simp [kOK])) ?_⟩
    simp -dsimp only [aqA,↓seqK,↓blkK,↓loopK,step,stepBin,eqB,Nat.add_assoc nid,↓reduceIte,simprocAttr,LN_succ,g,hg]
    refine ⟨by unfold inI64; omega,⟨by omega,by omega⟩,by unfold inI64; omega,k+1,⟨by omega,by omega⟩,?_⟩
    rw [hH1]
    show Cov ⟨_,[_,_,_]++(Hs1++_),_,_⟩ _
    refine Cov.trans (Cov.heap (subH_mix (b:=nid) (k:=nid+1084) (A:=.arr 5 (k+1) [.i .u8 fun i=>if i<k then ((feedO y l i).toNat:Nat) else [IntKind.u8.wrap (48+((bitM (feedO y l k):Nat):Int))].getD (i - k) 0]) _ (hsk1 nid hc) (by simp) (by simp only [aqA,↓seqK,↓blkK,↓loopK,step,stepBin,eqB,Nat.add_assoc nid,↓reduceIte,simprocAttr,LN_succ]))) (Cov.goF Hs1 [(nid+1084,_)] [(nid+200,_)] [(nid+200,nid+1084)] [] (hsk1 nid hc) (by simp [kOK]) (by simp) ?_)
    simp [cvT,step,res,g]
    exact hcol
  ·have hkl:k=l.length:=by omega
   subst hkl
   refine Cov.goF (chH c (feedV y l l.length)) [(nid+200,_)] [(nid+200,_)] [] [] (hsc _ (hfo _ (Nat.le_refl _)) _ hc) (by simp [kOK]) rfl ?_
   simp [cvT,step,res,g]
 have hoky:=hfo l.length (Nat.le_refl _)
 have hok2:ChOk n (walkV nextN (feedV y l l.length) [49,48]):=walk_ok (fun s t hs ht=>nextN_lt hs ht) hoky (by decide)
 have hwk2:=fun m (hm:c+11≤m)=>walk_c (feedV y l l.length) [49,48] n c m hm (by decide) (by simp) hoky hn0 hn
 have hk2:=hks x _ hx hok2
 have hs1:=hsc _ hoky
 have hs2:=hsc _ hok2
 have hout:(List.range l.length).map (fun i=>UInt8.ofNat (feedO y l i).toNat)=(List.range l.length).map (feedO y l):=List.map_congr_left fun i _=>UInt8.ofNat_toNat
 generalize chH c (walkV nextN (feedV y l l.length) [49,48])=Hs2 at *
 generalize chH c (feedV y l l.length)=Hs1 at *
 have hg:∀ A:Option ABlk,getH (Hs2++(nid+200,A)::Hs1) (nid+200)=A:=fun A=>by
  rw [getH_appC]
  cases hk:(keys Hs2).contains (nid+200)
  ·simp [getH]
  ·have:=(hs2 nid hc).lt (nid+200) (by simpa using hk)
   omega
 refine SR.run (t:=.mk) ?_
 simp -dsimp only [aqA,↓seqK,↓blkK,↓loopK,step,stepBin,eqB,Nat.add_assoc nid,↓reduceIte,simprocAttr,LN_succ,g]
 refine CallO.on (hwk2 _ (by omega)) (subH_frame (X:=[(nid+200,_)]) (hs1 nid hc) (by simp [kOK])) ?_
 simp -dsimp only [aqA,↓seqK,↓blkK,↓loopK,step,stepBin,eqB,Nat.add_assoc nid,↓reduceIte,simprocAttr,LN_succ,g,hg]
 refine RetOK.whole (.inl rfl) (hs2 nid hc) (fun id hid=>by rw [← hk2]; exact hid) (subH_front _ _) ?_
 simp [a85,cvT,step,res,hout]
end Go.Proofs.YtahjohieahehjaaGreatDoor
namespace Go.Proofs.YtahjohieahehjaaGreatDoor
open Go.RowKit
theorem cloneRg_c (nl:Bool) (R:List (Bs × Int)) (nid:Nat) (hR:R.length≤1000):ACall Tryz.prog 73 [litRg nl R] [] nid (.sl nid 0 R.length) [(nid,arrRg R)]:=by
 refine ACall.nonnil 0 rfl (fun hnl=>?_)
 refine acall_run c73 (by simp [a73]) ?_
 unfold litRg
 simp -dsimp only [aqA,↓seqK,↓blkK,↓loopK,step,stepBin,eqB,Nat.add_assoc nid,↓reduceIte,simprocAttr,LN_succ,a73]
 refine S2.intro (fun h=>?_) (fun h=>?_)
 ·simp -dsimp only [aqA,↓seqK,↓blkK,↓loopK,step,stepBin,eqB,Nat.add_assoc nid,↓reduceIte,simprocAttr,LN_succ]
  have hR0:R=[]:=List.eq_nil_of_length_eq_zero (hnl h)
  subst hR0
  refine RetOK.go [] [(nid,2)] (.inl rfl) ?_
  simp [a73,cvT,step,res,arrRg]
 ·simp -dsimp only [aqA,↓seqK,↓blkK,↓loopK,step,stepBin,eqB,Nat.add_assoc nid,↓reduceIte,simprocAttr,LN_succ]
  refine ⟨⟨by omega,by omega⟩,RetOK.go [(nid,nid+20)] [] (.inl rfl) ?_⟩
  simp [a73,cvT,step,res,arrRg,-List.getD_eq_getElem?_getD]
theorem cloneIn_c (nl:Bool) (R:List (Bs × Bs)) (nid:Nat) (hR:R.length≤1000):ACall Tryz.prog 74 [litIn nl R] [] nid (.sl nid 0 R.length) [(nid,arrIn R)]:=by
 refine ACall.nonnil 0 rfl (fun hnl=>?_)
 refine acall_run c74 (by simp [a74]) ?_
 unfold litIn
 simp -dsimp only [aqA,↓seqK,↓blkK,↓loopK,step,stepBin,eqB,Nat.add_assoc nid,↓reduceIte,simprocAttr,LN_succ,a74]
 refine S2.intro (fun h=>?_) (fun h=>?_)
 ·simp -dsimp only [aqA,↓seqK,↓blkK,↓loopK,step,stepBin,eqB,Nat.add_assoc nid,↓reduceIte,simprocAttr,LN_succ]
  have hR0:R=[]:=List.eq_nil_of_length_eq_zero (hnl h)
  subst hR0
  refine RetOK.go [] [(nid,2)] (.inl rfl) ?_
  simp [a74,cvT,step,res,arrIn]
 ·simp -dsimp only [aqA,↓seqK,↓blkK,↓loopK,step,stepBin,eqB,Nat.add_assoc nid,↓reduceIte,simprocAttr,LN_succ]
  refine ⟨⟨by omega,by omega⟩,RetOK.go [(nid,nid+20)] [] (.inl rfl) ?_⟩
  simp [a74,cvT,step,res,arrIn,-List.getD_eq_getElem?_getD]
mutual
theorem lend_out (H:Heap) (G:List Nat) (nl:Nat→Bool):∀ p:PV,(∀ id∈idsOf p,id ∉ G)→lend H G nl p=p
 | .sl id off n,h=>by
  have:G.contains id=false:=by simpa using h id (by simp [idsOf])
  simp only [lend,this,Bool.false_and,cond_false]
 | .agg ps,h=>by
  simp only [lend]
  rw [lends_out H G nl ps h]
 | .int _ _,_=>rfl
 | .bool _,_=>rfl
 | .str _,_=>rfl
 | .lit _ _ _,_=>rfl
 | .ptr _ _,_=>rfl
 | .nilp,_=>rfl
 | .nili,_=>rfl
 | .elp _ _,_=>rfl
 | .arp _ _ _,_=>rfl
 | .arv _,_=>rfl
 | .tup _,_=>rfl
 | .fn _ _,_=>rfl
 | .mp _,_=>rfl
 | .stp _,_=>rfl
 | .any,_=>rfl
theorem lends_out (H:Heap) (G:List Nat) (nl:Nat→Bool):∀ ps:List PV,(∀ id∈idsOfs ps,id ∉ G)→lends H G nl ps=ps
 | [],_=>rfl
 | p::ps,h=>by
  simp only [lends]
  rw [lend_out H G nl p fun id hid=>h id (by simp [idsOfs,hid]),lends_out H G nl ps fun id hid=>h id (by simp [idsOfs,hid])]
end
theorem frzH_low {c:Nat} (H:Heap) (G:List Nat) (nl:Nat→Bool) (hG:∀ g∈G,c≤g):∀ F:Heap,(∀ x∈F,lowBlk c x.2=true)→frzH H G nl F=F
 | [],_=>rfl
 | (i,none)::F,h=>by
  simp only [frzH]
  rw [frzH_low H G nl hG F fun x hx=>h x (List.mem_cons_of_mem _ hx)]
 | (i,some b)::F,h=>by
  simp only [frzH]
  rw [frzH_low H G nl hG F fun x hx=>h x (List.mem_cons_of_mem _ hx)]
  have hb:=h _ List.mem_cons_self
  cases b with
  | box T cs =>
   have:lends H G nl cs=cs:=lends_out H G nl cs fun id hid hg=>by
    have hb':lowAll c (idsOfs cs)=true:=hb
    have h1:=List.all_eq_true.1 hb' id hid
    simp only [decide_eq_true_eq] at h1
    have:=hG id hg
    omega
   simp only [frzBlk,this]
  | arr T n cols=>rfl
  | map kk dom cc=>rfl
  | mape kk dom cc q sid=>rfl
def mapD (R:List (Bs × Int)) (q:MK):Bool:=R.any fun r=>decide (q=.s r.1)
def mapV (R:List (Bs × Int)) (q:MK):Bs:=R.foldl (fun v r=>if q=.s r.1 then Lib.repeatL [48] r.2.toNat else v) []
theorem mapD_snoc (R:List (Bs × Int)) (r:Bs × Int) (q:MK):mapD (R++[r]) q=if q=.s r.1 then true else mapD R q:=by
 unfold mapD
 rw [List.any_append]
 by_cases h:q=.s r.1 <;> simp [h]
theorem mapV_snoc (R:List (Bs × Int)) (r:Bs × Int) (q:MK):mapV (R++[r]) q=if q=.s r.1 then Lib.repeatL [48] r.2.toNat else mapV R q:=by
 unfold mapV
 rw [List.foldl_append]
 rfl
def port0 (d:Dev) (b1 b2:Bool):Port:=⟨d,b1,b2,[],[48],mapD d.regs,mapV d.regs,mapD d.regs,mapV d.regs⟩
def portsK (D:List Dev) (f:(Nat→Bool) × (Nat→Bool)) (k:Nat):List Port:=(List.range k).map fun j=>port0 (D.getD j dev0) (f.1 j) (f.2 j)
theorem portsK_len (D:List Dev) (f:(Nat→Bool) × (Nat→Bool)) (k:Nat):(portsK D f k).length=k:=by simp [portsK]
theorem portsH_app (i:Nat):∀ (P Q:List Port),portsH i (P++Q)=portsH i P++portsH (i+3 * P.length) Q:=by
 intro P
 induction P generalizing i with
 | nil=>intro Q; rfl
 | cons p P ih =>
  intro Q
  simp only [portsH,List.cons_append,List.length_cons]
  rw [ih (i+3) Q]
  rw [show i+3+3 * P.length=i+3 * (P.length+1) by omega]
theorem portsH_ge:∀ (P:List Port) (i:Nat),∀ x∈portsH i P,i≤x.1
 | [],i,x,hx=>by simp [portsH] at hx
 | p::P,i,x,hx=>by
  simp only [portsH,List.mem_cons] at hx
  rcases hx with rfl | rfl | rfl | hx
  ·exact Nat.le_refl _
  ·simp only; omega
  ·simp only; omega
  ·have:=portsH_ge P (i+3) x hx; omega
def setF (f:(Nat→Bool) × (Nat→Bool)) (k:Nat) (b1 b2:Bool):(Nat→Bool) × (Nat→Bool):=(fun j=>if j=k then b1 else f.1 j,fun j=>if j=k then b2 else f.2 j)
theorem portsK_succ (D:List Dev) (f:(Nat→Bool) × (Nat→Bool)) (k:Nat) (b1 b2:Bool):portsK D (setF f k b1 b2) (k+1)=portsK D f k++[port0 (D.getD k dev0) b1 b2]:=by
 unfold portsK
 rw [List.range_succ,List.map_append]
 congr 1
 ·refine List.map_congr_left fun j hj=>?_
  have:=List.mem_range.1 hj
  have hne:¬ j=k:=by omega
  simp [setF,hne]
 ·simp [setF]
theorem Cov.wholeG (c:Nat) {s1 s2:Slots} {n1 n2 b:Nat} {u Z:Heap} (hbc:b≤c) (hs:Scoped c u) (hZ:subH u Z) (hn:c≤n2) (h:SlotsCov n2 [] [] s1 s2):Cov ⟨s1,Z,n1,b⟩ ⟨s2,u,n2,b⟩ :=
 Cov.mk [] [] rfl (by simp only; omega) rfl rfl (frame_apart (b:=c) (hi:=n2) u [] hs rfl rfl rfl) (frame_lt (b:=c) (hi:=n2) u [] hs hn rfl) (HCov.whole hs hn hZ) h
theorem RetOKW.whole {k:Nat} {rs:List ARes} {nid:Nat} {r:PV} {e:AEx} {s:Slots} {n1 b1:Nat} {u Z:Heap} (he:e=.ret∨e=.normal) (hs:Scoped (nid+k) u) (hZ:subH u Z)
  (h:onAll (readAll ⟨s,Z,n1,b1⟩ rs) fun ps=>PVCov (nid+k) [] [] (retPV ps) r):RetOKW k rs [] nid r u e ⟨s,Z,n1,b1⟩:=by
 cases hp:readAll ⟨s,Z,n1,b1⟩ rs with
 | none=>rw [hp] at h; exact h.elim
 | some ps =>
  rw [hp] at h
  have hall:∃ (ren nils:List (Nat × Nat)) (H2:Heap),(∀ id,getH H2 id=getH (u++[]) id)∧inRange nid (nid+k) ren=true∧inRange nid (nid+k) nils=true∧apart ren nils (liveIds H2)=true∧(liveIds H2).all (fun id=>decide (id<nid+k))=true ∧
    HCov (nid+k) ren nils Z H2∧PVCov (nid+k) ren nils (retPV ps) r :=
   ⟨[],[],u,fun id=>by rw [List.append_nil],rfl,rfl,frame_apart (b:=nid+k) (hi:=nid+k) u [] hs rfl rfl rfl,frame_lt (b:=nid+k) (hi:=nid+k) u [] hs (Nat.le_refl _) rfl,HCov.whole hs (Nat.le_refl _) hZ,h⟩
  rcases he with rfl | rfl
  ·show onAll (readAll ⟨s,Z,n1,b1⟩ rs) _
   rw [hp]
   exact hall
  ·show onAll (readAll ⟨s,Z,n1,b1⟩ rs) _
   rw [hp]
   exact hall
set_option maxHeartbeats 16000000 in
theorem new_I (n0:Bool) (n1 n2:Nat→Bool) (D:List Dev) (nid:Nat) (hD1:1≤D.length) (hD:D.length≤3) (hS:∀ d∈D,DevS d∧∀ r∈d.regs,0≤r.2∧r.2≤1000) (he:devsE D=0) :
  ACallIW Tryz.prog 11 25 [.lit n0 D.length (devP n1 n2 D)] [] nid (fun _:(Nat→Bool) × (Nat→Bool)=>True) (fun _=>.tup [.ptr nid 0,.int .i64 0]) (fun f=>chainH nid 0 (portsK D f D.length)):=by
 have hck:=fun m=>checkDevices_c n0 n1 n2 D m (by omega) (fun d hd=>(hS d hd).1)
 rw [he] at hck
 refine acallIW_sr c25 (by simp [a25]) ?_
 unfold a25
 refine SR.seq ?_
 simp -dsimp only [aqA,↓seqK,↓blkK,↓loopK,step,stepBin,eqB,Nat.add_assoc nid,↓reduceIte,simprocAttr,LN_succ]
 refine SR.seqTo ⟨[(0,.lit n0 D.length (devP n1 n2 D))],[],nid+100,nid⟩ ?_ ?_
 ·simp -dsimp only [aqA,↓seqK,↓blkK,↓loopK,step,stepBin,eqB,Nat.add_assoc nid,↓reduceIte,simprocAttr,LN_succ]
  refine CallO.pure (hck _) ?_
  simp -dsimp only [aqA,↓seqK,↓blkK,↓loopK,step,stepBin,eqB,Nat.add_assoc nid,↓reduceIte,simprocAttr,LN_succ]
  refine Cov.go [] [] ?_
  simp [cvT,step,res,ColsEq.refl]
 refine SR.seqTo ⟨[(5,.ptr nid 0),(0,.lit n0 D.length (devP n1 n2 D))],[(nid,chB 0 (nid+1) 0),(nid+1,some (.arr 98 0 [.q fun k=>nid+2+3 * k]))],nid+200,nid⟩ ?_ ?_
 ·simp -dsimp only [aqA,↓seqK,↓blkK,↓loopK,step,stepBin,eqB,Nat.add_assoc nid,↓reduceIte,simprocAttr,LN_succ]
  refine Cov.go [(nid,nid+104)] [(nid+1,1)] ?_
  simp [cvT,step,res,ColsEq.refl,chB]
 refine SR.seqW (ι:=(Nat→Bool) × (Nat→Bool)) (fun f=>⟨[(5,.ptr nid 0)],chainH nid 0 (portsK D f D.length),nid+9000,nid⟩) ?_ (fun f=>?_)
 rotate_left
 ·have hs:Scoped (nid+11) (chainH nid 0 (portsK D f D.length)):=chainH_scoped nid (nid+11) 0 _ (by rw [portsK_len]; exact hD) (Nat.le_refl _)
  generalize hH:chainH nid 0 (portsK D f D.length)=Hs at *
  refine SR.run (t:=.mk) ?_
  simp -dsimp only [aqA,↓seqK,↓blkK,↓loopK,step,stepBin,eqB,Nat.add_assoc nid,↓reduceIte,simprocAttr,LN_succ]
  refine ⟨f,?_⟩
  rw [hH]
  refine RetOKW.whole (.inl rfl) hs (subH_refl _) ?_
  simp [a25,cvT,step,res]
 have hcol:(fun k=>nid+2+3 * k)=fun k=>nid+(2+3 * k):=by funext k; omega
 have hlow:∀ (f:(Nat→Bool) × (Nat→Bool)) (k:Nat),k<D.length→∀ x∈portsH (nid+2) (portsK D f k),x.1<nid+20∧lowBlk (nid+20) x.2=true:=fun f k hk=>portsH_low (nid+20) _ _ (by rw [portsK_len]; omega)
 refine SR.seqTo ⟨[(20,.int .i64 0),(19,.int .i64 D.length),(18,.lit n0 D.length (devP n1 n2 D)),(5,.ptr nid 0)],[(nid,chB 0 (nid+1) 0),(nid+1,some (.arr 98 0 [.q fun k=>nid+2+3 * k]))],nid+250,nid⟩ ?_ ?_
 ·unfold chB
  simp -dsimp only [aqA,↓seqK,↓blkK,↓loopK,step,stepBin,eqB,Nat.add_assoc nid,↓reduceIte,simprocAttr,LN_succ]
  refine Cov.go [] [] ?_
  simp [cvT,step,res,ColsEq.refl,chB]
 refine SR.block ?_
 refine SR.loopP (fun x:Nat × ((Nat→Bool) × (Nat→Bool))=>x.1≤D.length) (fun x=>⟨[(20,.int .i64 x.1),(19,.int .i64 D.length),(18,.lit n0 D.length (devP n1 n2 D)),(5,.ptr nid 0)],(nid,chB 0 (nid+1) x.1)::(nid+1,some (.arr 98 x.1 [.q fun k=>nid+2+3 * k]))::portsH (nid+2) (portsK D x.2 x.1),nid+300,nid⟩) (fun x=>D.length+1 - x.1) (0,(fun _=>false,fun _=>false)) (by simp) (Cov.go [] [] ?_) (fun ⟨k,f⟩ hk=>?_)
 ·simp [cvT,step,res,ColsEq.refl,chB,portsK,portsH]
 simp only at hk ⊢
 refine SR.seq ?_
 unfold chB
 simp -dsimp only [aqA,↓seqK,↓blkK,↓loopK,step,stepBin,eqB,Nat.add_assoc nid,↓reduceIte,simprocAttr,LN_succ]
 refine SR.seq ?_
 simp -dsimp only [aqA,↓seqK,↓blkK,↓loopK,step,stepBin,eqB,Nat.add_assoc nid,↓reduceIte,simprocAttr,LN_succ]
 refine S2.dec (fun h3=>?_) (fun h3=>?_) <;> simp -dsimp only [aqA,↓seqK,↓blkK,↓loopK,step,stepBin,eqB,Nat.add_assoc nid,↓reduceIte,simprocAttr,LN_succ]
 ·have hkl:k<D.length:=by omega
  have hlf:=hlow f k hkl
  have hm:D.getD k dev0∈D:=by rw [List.getD_eq_getElem?_getD,List.getElem?_eq_getElem hkl]; exact List.getElem_mem _
  obtain ⟨hb,hbr⟩:=hS _ hm
  have hrl:=hb.rl
  have hil:=hb.il
  refine SR.seqW (ι:=Bool × Bool) (fun b=>⟨[(20,.int .i64 k),(19,.int .i64 D.length),(18,.lit n0 D.length (devP n1 n2 D)),(5,.ptr nid 0)],(nid,chB 0 (nid+1) (k+1))::(nid+1,some (.arr 98 (k+1) [.q fun k=>nid+(2+3 * k)]))::portsH (nid+2) (portsK D (setF f k b.1 b.2) (k+1)),nid+4000,nid⟩) ?_ (fun ⟨b1,b2⟩=>?_)
  rotate_left
  ·simp only
   have hsc:Scoped (nid+20) ((nid,chB 0 (nid+1) (k+1))::(nid+1,some (.arr 98 (k+1) [.q fun k=>nid+(2+3 * k)]))::portsH (nid+2) (portsK D (setF f k b1 b2) (k+1))):=by
    have h:=chainH_scoped nid (nid+20) 0 (portsK D (setF f k b1 b2) (k+1)) (by rw [portsK_len]; omega) (by omega)
    unfold chainH at h
    rw [portsK_len,hcol] at h
    exact h
   unfold chB at hsc ⊢
   refine SR.run (t:=.mk) ?_
   generalize hH:portsH (nid+2) (portsK D (setF f k b1 b2) (k+1))=Hs at *
   simp -dsimp only [aqA,↓seqK,↓blkK,↓loopK,step,stepBin,eqB,Nat.add_assoc nid,↓reduceIte,simprocAttr,LN_succ]
   refine ⟨by unfold inI64; omega,(k+1,setF f k b1 b2),⟨by omega,by omega⟩,?_⟩
   simp only
   rw [hH]
   refine Cov.wholeG (nid+20) (by omega) hsc (subH_refl _) (by omega) ?_
   simp [cvT,step,res,ColsEq.refl]
  have hq:∀ j,j<k→∀ a,30≤a→(nid+a==nid+(2+3 * j))=false:=fun j hj a ha=>by rw [beq_eq_false_iff_ne]; omega
  have hs:Scoped (nid+20) (portsH (nid+2) (portsK D f k)):=scoped_list hlf
  have hge:=portsH_ge (portsK D f k) (nid+2)
  have hz:nid ∉ keys (portsH (nid+2) (portsK D f k))∧nid+1 ∉ keys (portsH (nid+2) (portsK D f k)):=by
   constructor <;> intro hid <;> simp only [keys,List.mem_map] at hid <;> obtain ⟨x,hx,hx2⟩:=hid <;> have:=hge x hx <;> omega
  have hfz:∀ (H:Heap) (nl:Nat→Bool),frzH H [nid+410,nid+411] nl (portsH (nid+2) (portsK D f k))=portsH (nid+2) (portsK D f k):=fun H nl=>frzH_low (c:=nid+20) H _ nl (by simp) _ fun x hx=>(hlf x hx).2
  have hsucc:=fun b1 b2=>portsK_succ D f k b1 b2
  have hcat:=fun b1 b2=>portsH_app (nid+2) (portsK D f k) [port0 (D.getD k dev0) b1 b2]
  rw [portsK_len] at hcat
  have hnew:∀ b1 b2,portsH (nid+2) (portsK D (setF f k b1 b2) (k+1))=portsH (nid+2) (portsK D f k)++portsH (nid+2+3 * k) [port0 (D.getD k dev0) b1 b2]:=fun b1 b2=>by rw [hsucc,hcat]
  clear hsucc hcat
  generalize hH:portsH (nid+2) (portsK D f k)=Hs at *
  refine SR.block ?_
  refine SR.seqTo ⟨[(7,.ptr (nid+400) 0),(20,.int .i64 k),(19,.int .i64 D.length),(18,.lit n0 D.length (devP n1 n2 D)),(5,.ptr nid 0)],[(nid+400,boxL (n1 k) (n2 k) (D.getD k dev0)),(nid,chB 0 (nid+1) k),(nid+1,some (.arr 98 k [.q fun k=>nid+(2+3 * k)]))]++Hs,nid+700,nid⟩ ?_ ?_
  ·unfold devP
   simp -dsimp only [aqA,↓seqK,↓blkK,↓loopK,step,stepBin,eqB,Nat.add_assoc nid,↓reduceIte,simprocAttr,LN_succ]
   refine ⟨⟨by omega,by omega⟩,?_⟩
   first | refine Cov.goG (nid+20) Hs [_] [_,_,_] [(nid+400,nid+312)] [] (by omega) hs (by simp [kOK,hz]) (by simp) ?_ | refine Cov.goG (nid+20) Hs [_,_] [_,_,_] [(nid+400,nid+312)] [] (by omega) hs (by simp [kOK,hz]) (by simp) ?_ | refine Cov.goG (nid+20) Hs [_,_,_] [_,_,_] [(nid+400,nid+312)] [] (by omega) hs (by simp [kOK,hz]) (by simp) ?_ | refine Cov.goG (nid+20) Hs [_,_,_,_] [_,_,_] [(nid+400,nid+312)] [] (by omega) hs (by simp [kOK,hz]) (by simp) ?_ | refine Cov.goG (nid+20) Hs [_,_,_,_,_] [_,_,_] [(nid+400,nid+312)] [] (by omega) hs (by simp [kOK,hz]) (by simp) ?_ | refine Cov.goG (nid+20) Hs [_,_,_,_,_,_] [_,_,_] [(nid+400,nid+312)] [] (by omega) hs (by simp [kOK,hz]) (by simp) ?_ | refine Cov.goG (nid+20) Hs [_,_,_,_,_,_,_] [_,_,_] [(nid+400,nid+312)] [] (by omega) hs (by simp [kOK,hz]) (by simp) ?_ | refine Cov.goG (nid+20) Hs [_,_,_,_,_,_,_,_] [_,_,_] [(nid+400,nid+312)] [] (by omega) hs (by simp [kOK,hz]) (by simp) ?_ | refine Cov.goG (nid+20) Hs [_,_,_,_,_,_,_,_,_] [_,_,_] [(nid+400,nid+312)] [] (by omega) hs (by simp [kOK,hz]) (by simp) ?_ | refine Cov.goG (nid+20) Hs [_,_,_,_,_,_,_,_,_,_] [_,_,_] [(nid+400,nid+312)] [] (by omega) hs (by simp [kOK,hz]) (by simp) ?_ | refine Cov.goG (nid+20) Hs [_,_,_,_,_,_,_,_,_,_,_] [_,_,_] [(nid+400,nid+312)] [] (by omega) hs (by simp [kOK,hz]) (by simp) ?_ | refine Cov.goG (nid+20) Hs [_,_,_,_,_,_,_,_,_,_,_,_] [_,_,_] [(nid+400,nid+312)] [] (by omega) hs (by simp [kOK,hz]) (by simp) ?_ | refine Cov.goG (nid+20) Hs [_,_,_,_,_,_,_,_,_,_,_,_,_] [_,_,_] [(nid+400,nid+312)] [] (by omega) hs (by simp [kOK,hz]) (by simp) ?_ | refine Cov.goG (nid+20) Hs [_,_,_,_,_,_,_,_,_,_,_,_,_,_] [_,_,_] [(nid+400,nid+312)] [] (by omega) hs (by simp [kOK,hz]) (by simp) ?_ | refine Cov.goG (nid+20) Hs [_,_,_,_,_,_,_,_,_,_,_,_,_,_,_] [_,_,_] [(nid+400,nid+312)] [] (by omega) hs (by simp [kOK,hz]) (by simp) ?_ | refine Cov.goG (nid+20) Hs [_,_,_,_,_,_,_,_,_,_,_,_,_,_,_,_] [_,_,_] [(nid+400,nid+312)] [] (by omega) hs (by simp [kOK,hz]) (by simp) ?_ | refine Cov.goG (nid+20) Hs [_,_,_,_,_,_,_,_,_,_,_,_,_,_,_,_,_] [_,_,_] [(nid+400,nid+312)] [] (by omega) hs (by simp [kOK,hz]) (by simp) ?_ | refine Cov.goG (nid+20) Hs [_,_,_,_,_,_,_,_,_,_,_,_,_,_,_,_,_,_] [_,_,_] [(nid+400,nid+312)] [] (by omega) hs (by simp [kOK,hz]) (by simp) ?_ | refine Cov.goG (nid+20) Hs [_,_,_,_,_,_,_,_,_,_,_,_,_,_,_,_,_,_,_] [_,_,_] [(nid+400,nid+312)] [] (by omega) hs (by simp [kOK,hz]) (by simp) ?_ | refine Cov.goG (nid+20) Hs [_,_,_,_,_,_,_,_,_,_,_,_,_,_,_,_,_,_,_,_] [_,_,_] [(nid+400,nid+312)] [] (by omega) hs (by simp [kOK,hz]) (by simp) ?_ | refine Cov.goG (nid+20) Hs [_,_,_,_,_,_,_,_,_,_,_,_,_,_,_,_,_,_,_,_,_] [_,_,_] [(nid+400,nid+312)] [] (by omega) hs (by simp [kOK,hz]) (by simp) ?_ | refine Cov.goG (nid+20) Hs [_,_,_,_,_,_,_,_,_,_,_,_,_,_,_,_,_,_,_,_,_,_] [_,_,_] [(nid+400,nid+312)] [] (by omega) hs (by simp [kOK,hz]) (by simp) ?_ | refine Cov.goG (nid+20) Hs [_,_,_,_,_,_,_,_,_,_,_,_,_,_,_,_,_,_,_,_,_,_,_] [_,_,_] [(nid+400,nid+312)] [] (by omega) hs (by simp [kOK,hz]) (by simp) ?_
   simp [cvT,step,res,boxL,chB,litRg,litIn,ColsEq.refl,-List.getD_eq_getElem?_getD]
   exact fun j hj=>by simp [hq j hj]; omega
  generalize hx:D.getD k dev0=x at *
  have hc1:=fun m=>cloneRg_c (n1 k) x.regs m (by omega)
  have hc2:=fun m=>cloneIn_c (n2 k) x.ins m (by omega)
  unfold litRg at hc1
  unfold litIn at hc2
  refine SR.seqTo ⟨[(7,.ptr (nid+400) 0),(20,.int .i64 k),(19,.int .i64 D.length),(18,.lit n0 D.length (devP n1 n2 D)),(5,.ptr nid 0)],[(nid+400,boxDv x (.sl (nid+410) 0 x.regs.length) (.sl (nid+411) 0 x.ins.length)),(nid+410,arrRg x.regs),(nid+411,arrIn x.ins),(nid,chB 0 (nid+1) k),(nid+1,some (.arr 98 k [.q fun k=>nid+(2+3 * k)]))]++Hs,nid+900,nid⟩ ?_ ?_
  ·unfold boxL litRg litIn chB
   simp -dsimp only [aqA,↓seqK,↓blkK,↓loopK,step,stepBin,eqB,Nat.add_assoc nid,↓reduceIte,simprocAttr,LN_succ]
   refine CallX.pure (hc1 _) ?_
   unfold arrRg
   simp -dsimp only [aqA,↓seqK,↓blkK,↓loopK,step,stepBin,eqB,Nat.add_assoc nid,↓reduceIte,simprocAttr,LN_succ]
   refine CallX.pure (hc2 _) ?_
   unfold arrIn
   simp -dsimp only [aqA,↓seqK,↓blkK,↓loopK,step,stepBin,eqB,Nat.add_assoc nid,↓reduceIte,simprocAttr,LN_succ]
   first | refine Cov.goG (nid+20) Hs [_] [_,_,_,_,_] [(nid+410,nid+708),(nid+411,nid+720)] [] (by omega) hs (by simp [kOK,hz]) (by simp) ?_ | refine Cov.goG (nid+20) Hs [_,_] [_,_,_,_,_] [(nid+410,nid+708),(nid+411,nid+720)] [] (by omega) hs (by simp [kOK,hz]) (by simp) ?_ | refine Cov.goG (nid+20) Hs [_,_,_] [_,_,_,_,_] [(nid+410,nid+708),(nid+411,nid+720)] [] (by omega) hs (by simp [kOK,hz]) (by simp) ?_ | refine Cov.goG (nid+20) Hs [_,_,_,_] [_,_,_,_,_] [(nid+410,nid+708),(nid+411,nid+720)] [] (by omega) hs (by simp [kOK,hz]) (by simp) ?_ | refine Cov.goG (nid+20) Hs [_,_,_,_,_] [_,_,_,_,_] [(nid+410,nid+708),(nid+411,nid+720)] [] (by omega) hs (by simp [kOK,hz]) (by simp) ?_ | refine Cov.goG (nid+20) Hs [_,_,_,_,_,_] [_,_,_,_,_] [(nid+410,nid+708),(nid+411,nid+720)] [] (by omega) hs (by simp [kOK,hz]) (by simp) ?_ | refine Cov.goG (nid+20) Hs [_,_,_,_,_,_,_] [_,_,_,_,_] [(nid+410,nid+708),(nid+411,nid+720)] [] (by omega) hs (by simp [kOK,hz]) (by simp) ?_ | refine Cov.goG (nid+20) Hs [_,_,_,_,_,_,_,_] [_,_,_,_,_] [(nid+410,nid+708),(nid+411,nid+720)] [] (by omega) hs (by simp [kOK,hz]) (by simp) ?_ | refine Cov.goG (nid+20) Hs [_,_,_,_,_,_,_,_,_] [_,_,_,_,_] [(nid+410,nid+708),(nid+411,nid+720)] [] (by omega) hs (by simp [kOK,hz]) (by simp) ?_ | refine Cov.goG (nid+20) Hs [_,_,_,_,_,_,_,_,_,_] [_,_,_,_,_] [(nid+410,nid+708),(nid+411,nid+720)] [] (by omega) hs (by simp [kOK,hz]) (by simp) ?_ | refine Cov.goG (nid+20) Hs [_,_,_,_,_,_,_,_,_,_,_] [_,_,_,_,_] [(nid+410,nid+708),(nid+411,nid+720)] [] (by omega) hs (by simp [kOK,hz]) (by simp) ?_ | refine Cov.goG (nid+20) Hs [_,_,_,_,_,_,_,_,_,_,_,_] [_,_,_,_,_] [(nid+410,nid+708),(nid+411,nid+720)] [] (by omega) hs (by simp [kOK,hz]) (by simp) ?_ | refine Cov.goG (nid+20) Hs [_,_,_,_,_,_,_,_,_,_,_,_,_] [_,_,_,_,_] [(nid+410,nid+708),(nid+411,nid+720)] [] (by omega) hs (by simp [kOK,hz]) (by simp) ?_ | refine Cov.goG (nid+20) Hs [_,_,_,_,_,_,_,_,_,_,_,_,_,_] [_,_,_,_,_] [(nid+410,nid+708),(nid+411,nid+720)] [] (by omega) hs (by simp [kOK,hz]) (by simp) ?_ | refine Cov.goG (nid+20) Hs [_,_,_,_,_,_,_,_,_,_,_,_,_,_,_] [_,_,_,_,_] [(nid+410,nid+708),(nid+411,nid+720)] [] (by omega) hs (by simp [kOK,hz]) (by simp) ?_ | refine Cov.goG (nid+20) Hs [_,_,_,_,_,_,_,_,_,_,_,_,_,_,_,_] [_,_,_,_,_] [(nid+410,nid+708),(nid+411,nid+720)] [] (by omega) hs (by simp [kOK,hz]) (by simp) ?_ | refine Cov.goG (nid+20) Hs [_,_,_,_,_,_,_,_,_,_,_,_,_,_,_,_,_] [_,_,_,_,_] [(nid+410,nid+708),(nid+411,nid+720)] [] (by omega) hs (by simp [kOK,hz]) (by simp) ?_ | refine Cov.goG (nid+20) Hs [_,_,_,_,_,_,_,_,_,_,_,_,_,_,_,_,_,_] [_,_,_,_,_] [(nid+410,nid+708),(nid+411,nid+720)] [] (by omega) hs (by simp [kOK,hz]) (by simp) ?_ | refine Cov.goG (nid+20) Hs [_,_,_,_,_,_,_,_,_,_,_,_,_,_,_,_,_,_,_] [_,_,_,_,_] [(nid+410,nid+708),(nid+411,nid+720)] [] (by omega) hs (by simp [kOK,hz]) (by simp) ?_ | refine Cov.goG (nid+20) Hs [_,_,_,_,_,_,_,_,_,_,_,_,_,_,_,_,_,_,_,_] [_,_,_,_,_] [(nid+410,nid+708),(nid+411,nid+720)] [] (by omega) hs (by simp [kOK,hz]) (by simp) ?_ | refine Cov.goG (nid+20) Hs [_,_,_,_,_,_,_,_,_,_,_,_,_,_,_,_,_,_,_,_,_] [_,_,_,_,_] [(nid+410,nid+708),(nid+411,nid+720)] [] (by omega) hs (by simp [kOK,hz]) (by simp) ?_ | refine Cov.goG (nid+20) Hs [_,_,_,_,_,_,_,_,_,_,_,_,_,_,_,_,_,_,_,_,_,_] [_,_,_,_,_] [(nid+410,nid+708),(nid+411,nid+720)] [] (by omega) hs (by simp [kOK,hz]) (by simp) ?_ | refine Cov.goG (nid+20) Hs [_,_,_,_,_,_,_,_,_,_,_,_,_,_,_,_,_,_,_,_,_,_,_] [_,_,_,_,_] [(nid+410,nid+708),(nid+411,nid+720)] [] (by omega) hs (by simp [kOK,hz]) (by simp) ?_
   simp [cvT,step,res,boxDv,arrRg,arrIn,chB,litRg,litIn,ColsEq.refl,-List.getD_eq_getElem?_getD]
   exact fun j hj=>by simp [hq j hj]; omega
  refine SR.freezeB [nid+410,nid+411] (fun nf=>?_)
  simp only [frzS,frzH,frzBlk,lends,lend,kill,noOs,boxDv,arrRg,arrIn,chB,List.cons_append,List.nil_append,aqA,↓seqK,↓blkK,↓loopK,step,stepBin,eqB,Nat.add_assoc nid,↓reduceIte,simprocAttr,LN_succ,hfz]
  generalize nf (nid+410)=b1
  generalize nf (nid+411)=b2
  refine SR.seqTo ⟨[(8,.ptr (nid+420) 0),(7,.ptr (nid+400) 0),(20,.int .i64 k),(19,.int .i64 D.length),(18,.lit n0 D.length (devP n1 n2 D)),(5,.ptr nid 0)],[(nid+420,portB (port0 x b1 b2) (nid+421) (nid+422)),(nid+421,mapS (mapD []) (mapV [])),(nid+422,mapS (mapD []) (mapV [])),(nid+400,boxL b1 b2 x),(nid,chB 0 (nid+1) k),(nid+1,some (.arr 98 k [.q fun k=>nid+(2+3 * k)]))]++Hs,nid+1200,nid⟩ ?_ ?_
  ·simp -dsimp only [aqA,↓seqK,↓blkK,↓loopK,step,stepBin,eqB,Nat.add_assoc nid,↓reduceIte,simprocAttr,LN_succ,mNew]
   first | refine Cov.goG (nid+20) Hs [_] [_,_,_,_,_,_] [(nid+420,nid+916),(nid+421,nid+904),(nid+422,nid+908)] [] (by omega) hs (by simp [kOK,hz]) (by simp) ?_ | refine Cov.goG (nid+20) Hs [_,_] [_,_,_,_,_,_] [(nid+420,nid+916),(nid+421,nid+904),(nid+422,nid+908)] [] (by omega) hs (by simp [kOK,hz]) (by simp) ?_ | refine Cov.goG (nid+20) Hs [_,_,_] [_,_,_,_,_,_] [(nid+420,nid+916),(nid+421,nid+904),(nid+422,nid+908)] [] (by omega) hs (by simp [kOK,hz]) (by simp) ?_ | refine Cov.goG (nid+20) Hs [_,_,_,_] [_,_,_,_,_,_] [(nid+420,nid+916),(nid+421,nid+904),(nid+422,nid+908)] [] (by omega) hs (by simp [kOK,hz]) (by simp) ?_ | refine Cov.goG (nid+20) Hs [_,_,_,_,_] [_,_,_,_,_,_] [(nid+420,nid+916),(nid+421,nid+904),(nid+422,nid+908)] [] (by omega) hs (by simp [kOK,hz]) (by simp) ?_ | refine Cov.goG (nid+20) Hs [_,_,_,_,_,_] [_,_,_,_,_,_] [(nid+420,nid+916),(nid+421,nid+904),(nid+422,nid+908)] [] (by omega) hs (by simp [kOK,hz]) (by simp) ?_ | refine Cov.goG (nid+20) Hs [_,_,_,_,_,_,_] [_,_,_,_,_,_] [(nid+420,nid+916),(nid+421,nid+904),(nid+422,nid+908)] [] (by omega) hs (by simp [kOK,hz]) (by simp) ?_ | refine Cov.goG (nid+20) Hs [_,_,_,_,_,_,_,_] [_,_,_,_,_,_] [(nid+420,nid+916),(nid+421,nid+904),(nid+422,nid+908)] [] (by omega) hs (by simp [kOK,hz]) (by simp) ?_ | refine Cov.goG (nid+20) Hs [_,_,_,_,_,_,_,_,_] [_,_,_,_,_,_] [(nid+420,nid+916),(nid+421,nid+904),(nid+422,nid+908)] [] (by omega) hs (by simp [kOK,hz]) (by simp) ?_ | refine Cov.goG (nid+20) Hs [_,_,_,_,_,_,_,_,_,_] [_,_,_,_,_,_] [(nid+420,nid+916),(nid+421,nid+904),(nid+422,nid+908)] [] (by omega) hs (by simp [kOK,hz]) (by simp) ?_ | refine Cov.goG (nid+20) Hs [_,_,_,_,_,_,_,_,_,_,_] [_,_,_,_,_,_] [(nid+420,nid+916),(nid+421,nid+904),(nid+422,nid+908)] [] (by omega) hs (by simp [kOK,hz]) (by simp) ?_ | refine Cov.goG (nid+20) Hs [_,_,_,_,_,_,_,_,_,_,_,_] [_,_,_,_,_,_] [(nid+420,nid+916),(nid+421,nid+904),(nid+422,nid+908)] [] (by omega) hs (by simp [kOK,hz]) (by simp) ?_ | refine Cov.goG (nid+20) Hs [_,_,_,_,_,_,_,_,_,_,_,_,_] [_,_,_,_,_,_] [(nid+420,nid+916),(nid+421,nid+904),(nid+422,nid+908)] [] (by omega) hs (by simp [kOK,hz]) (by simp) ?_ | refine Cov.goG (nid+20) Hs [_,_,_,_,_,_,_,_,_,_,_,_,_,_] [_,_,_,_,_,_] [(nid+420,nid+916),(nid+421,nid+904),(nid+422,nid+908)] [] (by omega) hs (by simp [kOK,hz]) (by simp) ?_ | refine Cov.goG (nid+20) Hs [_,_,_,_,_,_,_,_,_,_,_,_,_,_,_] [_,_,_,_,_,_] [(nid+420,nid+916),(nid+421,nid+904),(nid+422,nid+908)] [] (by omega) hs (by simp [kOK,hz]) (by simp) ?_ | refine Cov.goG (nid+20) Hs [_,_,_,_,_,_,_,_,_,_,_,_,_,_,_,_] [_,_,_,_,_,_] [(nid+420,nid+916),(nid+421,nid+904),(nid+422,nid+908)] [] (by omega) hs (by simp [kOK,hz]) (by simp) ?_ | refine Cov.goG (nid+20) Hs [_,_,_,_,_,_,_,_,_,_,_,_,_,_,_,_,_] [_,_,_,_,_,_] [(nid+420,nid+916),(nid+421,nid+904),(nid+422,nid+908)] [] (by omega) hs (by simp [kOK,hz]) (by simp) ?_ | refine Cov.goG (nid+20) Hs [_,_,_,_,_,_,_,_,_,_,_,_,_,_,_,_,_,_] [_,_,_,_,_,_] [(nid+420,nid+916),(nid+421,nid+904),(nid+422,nid+908)] [] (by omega) hs (by simp [kOK,hz]) (by simp) ?_ | refine Cov.goG (nid+20) Hs [_,_,_,_,_,_,_,_,_,_,_,_,_,_,_,_,_,_,_] [_,_,_,_,_,_] [(nid+420,nid+916),(nid+421,nid+904),(nid+422,nid+908)] [] (by omega) hs (by simp [kOK,hz]) (by simp) ?_ | refine Cov.goG (nid+20) Hs [_,_,_,_,_,_,_,_,_,_,_,_,_,_,_,_,_,_,_,_] [_,_,_,_,_,_] [(nid+420,nid+916),(nid+421,nid+904),(nid+422,nid+908)] [] (by omega) hs (by simp [kOK,hz]) (by simp) ?_ | refine Cov.goG (nid+20) Hs [_,_,_,_,_,_,_,_,_,_,_,_,_,_,_,_,_,_,_,_,_] [_,_,_,_,_,_] [(nid+420,nid+916),(nid+421,nid+904),(nid+422,nid+908)] [] (by omega) hs (by simp [kOK,hz]) (by simp) ?_ | refine Cov.goG (nid+20) Hs [_,_,_,_,_,_,_,_,_,_,_,_,_,_,_,_,_,_,_,_,_,_] [_,_,_,_,_,_] [(nid+420,nid+916),(nid+421,nid+904),(nid+422,nid+908)] [] (by omega) hs (by simp [kOK,hz]) (by simp) ?_ | refine Cov.goG (nid+20) Hs [_,_,_,_,_,_,_,_,_,_,_,_,_,_,_,_,_,_,_,_,_,_,_] [_,_,_,_,_,_] [(nid+420,nid+916),(nid+421,nid+904),(nid+422,nid+908)] [] (by omega) hs (by simp [kOK,hz]) (by simp) ?_
   simp [cvT,step,res,boxL,portB,mapS,port0,chB,litRg,litIn,mapD,mapV,ColsEq.refl,-List.getD_eq_getElem?_getD]
   exact fun j hj=>by simp [hq j hj]; omega
  refine SR.seqTo ⟨[(8,.ptr (nid+420) 0),(20,.int .i64 k),(19,.int .i64 D.length),(18,.lit n0 D.length (devP n1 n2 D)),(5,.ptr nid 0)],[(nid+420,portB (port0 x b1 b2) (nid+421) (nid+422)),(nid+421,mapS (mapD x.regs) (mapV x.regs)),(nid+422,mapS (mapD x.regs) (mapV x.regs)),(nid,chB 0 (nid+1) k),(nid+1,some (.arr 98 k [.q fun k=>nid+(2+3 * k)]))]++Hs,nid+1800,nid⟩ ?_ ?_
  ·unfold boxL litRg litIn portB mapS chB
   simp -dsimp only [aqA,↓seqK,↓blkK,↓loopK,step,stepBin,eqB,Nat.add_assoc nid,↓reduceIte,simprocAttr,LN_succ]
   refine LP.mkP (fun j:Nat=>j≤x.regs.length) (fun j=>⟨[(40,.int .i64 j),(39,.int .i64 x.regs.length),(38,litRg b1 x.regs),(8,.ptr (nid+420) 0),(20,.int .i64 k),(19,.int .i64 D.length),(18,.lit n0 D.length (devP n1 n2 D)),(5,.ptr nid 0)],[(nid+420,portB (port0 x b1 b2) (nid+421) (nid+422)),(nid+421,mapS (mapD (x.regs.take j)) (mapV (x.regs.take j))),(nid+422,mapS (mapD (x.regs.take j)) (mapV (x.regs.take j))),(nid,chB 0 (nid+1) k),(nid+1,some (.arr 98 k [.q fun k=>nid+(2+3 * k)]))]++Hs,nid+1500,nid⟩) (fun j=>x.regs.length+1 - j) 0 (by omega) ?_ (fun j hj=>?_)
   ·first | refine Cov.goG (nid+20) Hs [_] [_,_,_,_,_] [] [] (by omega) hs (by simp [kOK,hz]) (by simp) ?_ | refine Cov.goG (nid+20) Hs [_,_] [_,_,_,_,_] [] [] (by omega) hs (by simp [kOK,hz]) (by simp) ?_ | refine Cov.goG (nid+20) Hs [_,_,_] [_,_,_,_,_] [] [] (by omega) hs (by simp [kOK,hz]) (by simp) ?_ | refine Cov.goG (nid+20) Hs [_,_,_,_] [_,_,_,_,_] [] [] (by omega) hs (by simp [kOK,hz]) (by simp) ?_ | refine Cov.goG (nid+20) Hs [_,_,_,_,_] [_,_,_,_,_] [] [] (by omega) hs (by simp [kOK,hz]) (by simp) ?_ | refine Cov.goG (nid+20) Hs [_,_,_,_,_,_] [_,_,_,_,_] [] [] (by omega) hs (by simp [kOK,hz]) (by simp) ?_ | refine Cov.goG (nid+20) Hs [_,_,_,_,_,_,_] [_,_,_,_,_] [] [] (by omega) hs (by simp [kOK,hz]) (by simp) ?_ | refine Cov.goG (nid+20) Hs [_,_,_,_,_,_,_,_] [_,_,_,_,_] [] [] (by omega) hs (by simp [kOK,hz]) (by simp) ?_ | refine Cov.goG (nid+20) Hs [_,_,_,_,_,_,_,_,_] [_,_,_,_,_] [] [] (by omega) hs (by simp [kOK,hz]) (by simp) ?_ | refine Cov.goG (nid+20) Hs [_,_,_,_,_,_,_,_,_,_] [_,_,_,_,_] [] [] (by omega) hs (by simp [kOK,hz]) (by simp) ?_ | refine Cov.goG (nid+20) Hs [_,_,_,_,_,_,_,_,_,_,_] [_,_,_,_,_] [] [] (by omega) hs (by simp [kOK,hz]) (by simp) ?_ | refine Cov.goG (nid+20) Hs [_,_,_,_,_,_,_,_,_,_,_,_] [_,_,_,_,_] [] [] (by omega) hs (by simp [kOK,hz]) (by simp) ?_ | refine Cov.goG (nid+20) Hs [_,_,_,_,_,_,_,_,_,_,_,_,_] [_,_,_,_,_] [] [] (by omega) hs (by simp [kOK,hz]) (by simp) ?_ | refine Cov.goG (nid+20) Hs [_,_,_,_,_,_,_,_,_,_,_,_,_,_] [_,_,_,_,_] [] [] (by omega) hs (by simp [kOK,hz]) (by simp) ?_ | refine Cov.goG (nid+20) Hs [_,_,_,_,_,_,_,_,_,_,_,_,_,_,_] [_,_,_,_,_] [] [] (by omega) hs (by simp [kOK,hz]) (by simp) ?_ | refine Cov.goG (nid+20) Hs [_,_,_,_,_,_,_,_,_,_,_,_,_,_,_,_] [_,_,_,_,_] [] [] (by omega) hs (by simp [kOK,hz]) (by simp) ?_ | refine Cov.goG (nid+20) Hs [_,_,_,_,_,_,_,_,_,_,_,_,_,_,_,_,_] [_,_,_,_,_] [] [] (by omega) hs (by simp [kOK,hz]) (by simp) ?_ | refine Cov.goG (nid+20) Hs [_,_,_,_,_,_,_,_,_,_,_,_,_,_,_,_,_,_] [_,_,_,_,_] [] [] (by omega) hs (by simp [kOK,hz]) (by simp) ?_ | refine Cov.goG (nid+20) Hs [_,_,_,_,_,_,_,_,_,_,_,_,_,_,_,_,_,_,_] [_,_,_,_,_] [] [] (by omega) hs (by simp [kOK,hz]) (by simp) ?_ | refine Cov.goG (nid+20) Hs [_,_,_,_,_,_,_,_,_,_,_,_,_,_,_,_,_,_,_,_] [_,_,_,_,_] [] [] (by omega) hs (by simp [kOK,hz]) (by simp) ?_ | refine Cov.goG (nid+20) Hs [_,_,_,_,_,_,_,_,_,_,_,_,_,_,_,_,_,_,_,_,_] [_,_,_,_,_] [] [] (by omega) hs (by simp [kOK,hz]) (by simp) ?_ | refine Cov.goG (nid+20) Hs [_,_,_,_,_,_,_,_,_,_,_,_,_,_,_,_,_,_,_,_,_,_] [_,_,_,_,_] [] [] (by omega) hs (by simp [kOK,hz]) (by simp) ?_ | refine Cov.goG (nid+20) Hs [_,_,_,_,_,_,_,_,_,_,_,_,_,_,_,_,_,_,_,_,_,_,_] [_,_,_,_,_] [] [] (by omega) hs (by simp [kOK,hz]) (by simp) ?_
    simp [cvT,step,res,boxL,portB,mapS,port0,chB,litRg,litIn,ColsEq.refl,-List.getD_eq_getElem?_getD]
    exact fun j hj=>by omega
   unfold litRg portB mapS chB litIn
   simp -dsimp only [aqA,↓seqK,↓blkK,↓loopK,step,stepBin,eqB,Nat.add_assoc nid,↓reduceIte,simprocAttr,LN_succ]
   refine S2.dec (fun h4=>?_) (fun h4=>?_) <;> simp -dsimp only [aqA,↓seqK,↓blkK,↓loopK,step,stepBin,eqB,Nat.add_assoc nid,↓reduceIte,simprocAttr,LN_succ]
   ·have hjl:j<x.regs.length:=by omega
    have hrm:x.regs.getD j reg0∈x.regs:=by rw [List.getD_eq_getElem?_getD,List.getElem?_eq_getElem hjl]; exact List.getElem_mem _
    have hr2:=hbr _ hrm
    have htk:x.regs.take (j+1)=x.regs.take j++[x.regs.getD j reg0]:=by rw [List.take_add_one,List.getElem?_eq_getElem hjl,List.getD_eq_getElem?_getD,List.getElem?_eq_getElem hjl]; rfl
    generalize hr:x.regs.getD j reg0=r at *
    obtain ⟨L,hL⟩:∃ L:Nat,r.2=L:=⟨_,(Int.toNat_of_nonneg hr2.1).symm⟩
    refine ⟨⟨by omega,by omega⟩,?_⟩
    rw [hL]
    refine CallX.pure (repeat_cc [48] L _ (by omega) (by simp; omega)) ?_
    simp -dsimp only [aqA,↓seqK,↓blkK,↓loopK,step,stepBin,eqB,Nat.add_assoc nid,↓reduceIte,simprocAttr,LN_succ,mkKey,mPut,mGet,keyIn]
    refine ⟨by unfold inI64; omega,j+1,⟨by omega,by omega⟩,?_⟩
    rw [htk]
    have hrt:r.2.toNat=L:=by omega
    first | refine Cov.goG (nid+20) Hs [_] [_,_,_,_,_] [] [] (by omega) hs (by simp [kOK,hz]) (by simp) ?_ | refine Cov.goG (nid+20) Hs [_,_] [_,_,_,_,_] [] [] (by omega) hs (by simp [kOK,hz]) (by simp) ?_ | refine Cov.goG (nid+20) Hs [_,_,_] [_,_,_,_,_] [] [] (by omega) hs (by simp [kOK,hz]) (by simp) ?_ | refine Cov.goG (nid+20) Hs [_,_,_,_] [_,_,_,_,_] [] [] (by omega) hs (by simp [kOK,hz]) (by simp) ?_ | refine Cov.goG (nid+20) Hs [_,_,_,_,_] [_,_,_,_,_] [] [] (by omega) hs (by simp [kOK,hz]) (by simp) ?_ | refine Cov.goG (nid+20) Hs [_,_,_,_,_,_] [_,_,_,_,_] [] [] (by omega) hs (by simp [kOK,hz]) (by simp) ?_ | refine Cov.goG (nid+20) Hs [_,_,_,_,_,_,_] [_,_,_,_,_] [] [] (by omega) hs (by simp [kOK,hz]) (by simp) ?_ | refine Cov.goG (nid+20) Hs [_,_,_,_,_,_,_,_] [_,_,_,_,_] [] [] (by omega) hs (by simp [kOK,hz]) (by simp) ?_ | refine Cov.goG (nid+20) Hs [_,_,_,_,_,_,_,_,_] [_,_,_,_,_] [] [] (by omega) hs (by simp [kOK,hz]) (by simp) ?_ | refine Cov.goG (nid+20) Hs [_,_,_,_,_,_,_,_,_,_] [_,_,_,_,_] [] [] (by omega) hs (by simp [kOK,hz]) (by simp) ?_ | refine Cov.goG (nid+20) Hs [_,_,_,_,_,_,_,_,_,_,_] [_,_,_,_,_] [] [] (by omega) hs (by simp [kOK,hz]) (by simp) ?_ | refine Cov.goG (nid+20) Hs [_,_,_,_,_,_,_,_,_,_,_,_] [_,_,_,_,_] [] [] (by omega) hs (by simp [kOK,hz]) (by simp) ?_ | refine Cov.goG (nid+20) Hs [_,_,_,_,_,_,_,_,_,_,_,_,_] [_,_,_,_,_] [] [] (by omega) hs (by simp [kOK,hz]) (by simp) ?_ | refine Cov.goG (nid+20) Hs [_,_,_,_,_,_,_,_,_,_,_,_,_,_] [_,_,_,_,_] [] [] (by omega) hs (by simp [kOK,hz]) (by simp) ?_ | refine Cov.goG (nid+20) Hs [_,_,_,_,_,_,_,_,_,_,_,_,_,_,_] [_,_,_,_,_] [] [] (by omega) hs (by simp [kOK,hz]) (by simp) ?_ | refine Cov.goG (nid+20) Hs [_,_,_,_,_,_,_,_,_,_,_,_,_,_,_,_] [_,_,_,_,_] [] [] (by omega) hs (by simp [kOK,hz]) (by simp) ?_ | refine Cov.goG (nid+20) Hs [_,_,_,_,_,_,_,_,_,_,_,_,_,_,_,_,_] [_,_,_,_,_] [] [] (by omega) hs (by simp [kOK,hz]) (by simp) ?_ | refine Cov.goG (nid+20) Hs [_,_,_,_,_,_,_,_,_,_,_,_,_,_,_,_,_,_] [_,_,_,_,_] [] [] (by omega) hs (by simp [kOK,hz]) (by simp) ?_ | refine Cov.goG (nid+20) Hs [_,_,_,_,_,_,_,_,_,_,_,_,_,_,_,_,_,_,_] [_,_,_,_,_] [] [] (by omega) hs (by simp [kOK,hz]) (by simp) ?_ | refine Cov.goG (nid+20) Hs [_,_,_,_,_,_,_,_,_,_,_,_,_,_,_,_,_,_,_,_] [_,_,_,_,_] [] [] (by omega) hs (by simp [kOK,hz]) (by simp) ?_ | refine Cov.goG (nid+20) Hs [_,_,_,_,_,_,_,_,_,_,_,_,_,_,_,_,_,_,_,_,_] [_,_,_,_,_] [] [] (by omega) hs (by simp [kOK,hz]) (by simp) ?_ | refine Cov.goG (nid+20) Hs [_,_,_,_,_,_,_,_,_,_,_,_,_,_,_,_,_,_,_,_,_,_] [_,_,_,_,_] [] [] (by omega) hs (by simp [kOK,hz]) (by simp) ?_ | refine Cov.goG (nid+20) Hs [_,_,_,_,_,_,_,_,_,_,_,_,_,_,_,_,_,_,_,_,_,_,_] [_,_,_,_,_] [] [] (by omega) hs (by simp [kOK,hz]) (by simp) ?_
    simp [cvT,step,res,boxL,portB,mapS,port0,chB,litRg,litIn,mapD_snoc,mapV_snoc,hrt,ColsEq.refl,-List.getD_eq_getElem?_getD]
    exact ⟨fun q _ _=>by simp [mVal,mapV_snoc,hrt],fun j hj=>by omega⟩
   ·have hje:j=x.regs.length:=by omega
    subst hje
    rw [List.take_length]
    first | refine Cov.goG (nid+20) Hs [_] [_,_,_,_,_] [] [] (by omega) hs (by simp [kOK,hz]) (by simp) ?_ | refine Cov.goG (nid+20) Hs [_,_] [_,_,_,_,_] [] [] (by omega) hs (by simp [kOK,hz]) (by simp) ?_ | refine Cov.goG (nid+20) Hs [_,_,_] [_,_,_,_,_] [] [] (by omega) hs (by simp [kOK,hz]) (by simp) ?_ | refine Cov.goG (nid+20) Hs [_,_,_,_] [_,_,_,_,_] [] [] (by omega) hs (by simp [kOK,hz]) (by simp) ?_ | refine Cov.goG (nid+20) Hs [_,_,_,_,_] [_,_,_,_,_] [] [] (by omega) hs (by simp [kOK,hz]) (by simp) ?_ | refine Cov.goG (nid+20) Hs [_,_,_,_,_,_] [_,_,_,_,_] [] [] (by omega) hs (by simp [kOK,hz]) (by simp) ?_ | refine Cov.goG (nid+20) Hs [_,_,_,_,_,_,_] [_,_,_,_,_] [] [] (by omega) hs (by simp [kOK,hz]) (by simp) ?_ | refine Cov.goG (nid+20) Hs [_,_,_,_,_,_,_,_] [_,_,_,_,_] [] [] (by omega) hs (by simp [kOK,hz]) (by simp) ?_ | refine Cov.goG (nid+20) Hs [_,_,_,_,_,_,_,_,_] [_,_,_,_,_] [] [] (by omega) hs (by simp [kOK,hz]) (by simp) ?_ | refine Cov.goG (nid+20) Hs [_,_,_,_,_,_,_,_,_,_] [_,_,_,_,_] [] [] (by omega) hs (by simp [kOK,hz]) (by simp) ?_ | refine Cov.goG (nid+20) Hs [_,_,_,_,_,_,_,_,_,_,_] [_,_,_,_,_] [] [] (by omega) hs (by simp [kOK,hz]) (by simp) ?_ | refine Cov.goG (nid+20) Hs [_,_,_,_,_,_,_,_,_,_,_,_] [_,_,_,_,_] [] [] (by omega) hs (by simp [kOK,hz]) (by simp) ?_ | refine Cov.goG (nid+20) Hs [_,_,_,_,_,_,_,_,_,_,_,_,_] [_,_,_,_,_] [] [] (by omega) hs (by simp [kOK,hz]) (by simp) ?_ | refine Cov.goG (nid+20) Hs [_,_,_,_,_,_,_,_,_,_,_,_,_,_] [_,_,_,_,_] [] [] (by omega) hs (by simp [kOK,hz]) (by simp) ?_ | refine Cov.goG (nid+20) Hs [_,_,_,_,_,_,_,_,_,_,_,_,_,_,_] [_,_,_,_,_] [] [] (by omega) hs (by simp [kOK,hz]) (by simp) ?_ | refine Cov.goG (nid+20) Hs [_,_,_,_,_,_,_,_,_,_,_,_,_,_,_,_] [_,_,_,_,_] [] [] (by omega) hs (by simp [kOK,hz]) (by simp) ?_ | refine Cov.goG (nid+20) Hs [_,_,_,_,_,_,_,_,_,_,_,_,_,_,_,_,_] [_,_,_,_,_] [] [] (by omega) hs (by simp [kOK,hz]) (by simp) ?_ | refine Cov.goG (nid+20) Hs [_,_,_,_,_,_,_,_,_,_,_,_,_,_,_,_,_,_] [_,_,_,_,_] [] [] (by omega) hs (by simp [kOK,hz]) (by simp) ?_ | refine Cov.goG (nid+20) Hs [_,_,_,_,_,_,_,_,_,_,_,_,_,_,_,_,_,_,_] [_,_,_,_,_] [] [] (by omega) hs (by simp [kOK,hz]) (by simp) ?_ | refine Cov.goG (nid+20) Hs [_,_,_,_,_,_,_,_,_,_,_,_,_,_,_,_,_,_,_,_] [_,_,_,_,_] [] [] (by omega) hs (by simp [kOK,hz]) (by simp) ?_ | refine Cov.goG (nid+20) Hs [_,_,_,_,_,_,_,_,_,_,_,_,_,_,_,_,_,_,_,_,_] [_,_,_,_,_] [] [] (by omega) hs (by simp [kOK,hz]) (by simp) ?_ | refine Cov.goG (nid+20) Hs [_,_,_,_,_,_,_,_,_,_,_,_,_,_,_,_,_,_,_,_,_,_] [_,_,_,_,_] [] [] (by omega) hs (by simp [kOK,hz]) (by simp) ?_ | refine Cov.goG (nid+20) Hs [_,_,_,_,_,_,_,_,_,_,_,_,_,_,_,_,_,_,_,_,_,_,_] [_,_,_,_,_] [] [] (by omega) hs (by simp [kOK,hz]) (by simp) ?_
    simp [cvT,step,res,boxL,portB,mapS,port0,chB,litRg,litIn,ColsEq.refl,-List.getD_eq_getElem?_getD]
    exact fun j hj=>by omega
  refine SR.run (t:=.mk) ?_
  unfold portB mapS chB
  simp -dsimp only [aqA,↓seqK,↓blkK,↓loopK,step,stepBin,eqB,Nat.add_assoc nid,↓reduceIte,simprocAttr,LN_succ]
  refine ⟨⟨by omega,by omega⟩,(b1,b2),?_⟩
  rw [← hH]
  simp only
  have hn:∀ a,1≤a→(nid+a==nid)=false:=fun a ha=>by rw [beq_eq_false_iff_ne]; omega
  have hk3:k=0∨k=1∨k=2:=by omega
  clear hc1 hc2 hcol hlow hnew hfz hz hge hs hlf hck hH hq
  rcases hk3 with rfl | rfl | rfl
  ·simp only [portsK,portsH,List.range_succ,List.range_zero,List.nil_append,List.cons_append,List.map_cons,List.map_nil,Nat.add_assoc,Nat.reduceAdd]
   refine Cov.go [(nid+1,nid+1828),(nid+2,nid+420),(nid+3,nid+421),(nid+4,nid+422)] [] ?_
   simp [cvT,step,res,setF,portB,mapS,port0,litRg,litIn,chB,hx,ColsEq.refl,-List.getD_eq_getElem?_getD]
   rfl
  ·simp only [portsK,portsH,List.range_succ,List.range_zero,List.nil_append,List.cons_append,List.map_cons,List.map_nil,Nat.add_assoc,Nat.reduceAdd]
   refine Cov.go [(nid+1,nid+1828),(nid+5,nid+420),(nid+6,nid+421),(nid+7,nid+422)] [] ?_
   simp [cvT,step,res,setF,portB,mapS,port0,litRg,litIn,chB,hx,ColsEq.refl,-List.getD_eq_getElem?_getD]
   exact fun j hj=>by rcases (by omega:j=0∨j=1) with rfl | rfl <;> simp [hn]
  ·simp only [portsK,portsH,List.range_succ,List.range_zero,List.nil_append,List.cons_append,List.map_cons,List.map_nil,Nat.add_assoc,Nat.reduceAdd]
   refine Cov.go [(nid+1,nid+1828),(nid+8,nid+420),(nid+9,nid+421),(nid+10,nid+422)] [] ?_
   simp [cvT,step,res,setF,portB,mapS,port0,litRg,litIn,chB,hx,ColsEq.refl,-List.getD_eq_getElem?_getD]
   exact fun j hj=>by rcases (by omega:j=0∨j=1∨j=2) with rfl | rfl | rfl <;> simp [hn]
 ·have hkn:k=D.length:=by omega
  subst hkn
  refine ⟨f,?_⟩
  have e:chainH nid 0 (portsK D f D.length)=(nid,some (.box 95 [.int .i64 ((0:Nat):Int),.sl (nid+1) 0 D.length]))::(nid+1,some (.arr 98 D.length [.q fun k=>nid+2+3 * k]))::portsH (nid+2) (portsK D f D.length):=by
   unfold chainH chB
   rw [portsK_len]
  rw [e]
  rw [hcol]
  exact Cov.sub (by omega) (by simp only [SlotsIn,aqA,↓seqK,↓blkK,↓loopK,step,stepBin,eqB,Nat.reduceBEq,Nat.reduceBeqDiff,Nat.add_assoc nid,Nat.reduceAdd,reduceCtorEq,↓reduceIte,Nat.reduceLeDiff,Nat.reduceBneDiff,Nat.reduceLT]; try simp) (subH_refl _)
end Go.Proofs.YtahjohieahehjaaGreatDoor
namespace Go.Proofs.YtahjohieahehjaaGreatDoor
open Go.RowKit
theorem shiftDR_c (x:ChV) (l:Bs) (n c nid:Nat) (hc:c+11≤nid) (hx:ChOk n x) (hs:x.st<2) (h0:0<l.length) (hf:bitsFaultV l=0) (hn0:0<n) (hn:n≤3) :
  ACall Tryz.prog 40 [.ptr c 0,.str l] (chH c x) nid (.tup [.str (scanO x 4 l),.int .i64 0]) (chH c (scanV x 4 l)):=by
 have hsc:=fun m (hm:c+11≤m)=>scan_c x 4 l n c m hm hx hs (.inl rfl) h0 hf hn0 hn
 obtain ⟨hl,hll⟩:=bits_ok hf
 have hokV:=scanV_ok (T:=4) hx hs (.inl rfl) hl
 have hs2:Scoped nid (chH c (scanV x 4 l)):=chainH_scoped c nid _ _ (by rw [hokV.len]; exact hn) hc
 have hk2:keys (chH c x)=keys (chH c (scanV x 4 l)):=chainH_keys c _ _ _ _ (by rw [hx.len,hokV.len])
 generalize chH c (scanV x 4 l)=Hs2 at *
 generalize chH c x=Hs at *
 refine acall_run c40 (by simp [a40]) ?_
 simp -dsimp only [a40,aqA,↓seqK,↓blkK,↓loopK,step,stepBin,eqB,Nat.add_assoc nid,↓reduceIte,simprocAttr,LN_succ]
 refine CallO.on (hsc _ (by omega)) (subH_refl _) ?_
 simp -dsimp only [aqA,↓seqK,↓blkK,↓loopK,step,stepBin,eqB,Nat.add_assoc nid,↓reduceIte,simprocAttr,LN_succ]
 refine RetOK.whole (.inl rfl) hs2 (fun id hid=>by rw [← hk2]; exact hid) (subH_front _ _) ?_
 simp [a40,cvT,step,res]
end Go.Proofs.YtahjohieahehjaaGreatDoor
namespace Go.Proofs.YtahjohieahehjaaGreatDoor
def flatS:List Port→Bs
 | []=>[]
 | p::r=>flatS r++p.shift
structure SameP (p q:Port):Prop where
 d:q.d=p.d
 ins:q.instr=p.instr
 l:q.shift.length=p.shift.length
 iD:q.iD=p.iD
 iV:q.iV=p.iV
inductive SamePs:List Port→List Port→Prop
 | nil:SamePs [] []
 | cons {p q:Port} {P Q:List Port}:SameP p q→SamePs P Q→SamePs (p::P) (q::Q)
theorem SameP.refl (p:Port):SameP p p:=⟨rfl,rfl,rfl,rfl,rfl⟩
theorem SamePs.refl:∀ P,SamePs P P
 | []=>.nil
 | p::P=>.cons (.refl p) (SamePs.refl P)
theorem SameP.trans {p q r:Port} (h:SameP p q) (k:SameP q r):SameP p r:=⟨k.d.trans h.d,k.ins.trans h.ins,k.l.trans h.l,k.iD.trans h.iD,k.iV.trans h.iV⟩
theorem SamePs.trans:∀ {P Q R},SamePs P Q→SamePs Q R→SamePs P R
 | [],_,_,.nil,.nil=>.nil
 | _::_,_,_,.cons h hs,.cons k ks=>.cons (h.trans k) (hs.trans ks)
theorem act_shift {st:Nat} (hs:shifts st=true) {p:Port} (h:0<p.shift.length) (b:UInt8):(actV st p b).2::(actV st p b).1.shift=p.shift++[b]∧SameP p (actV st p b).1:=by
 have h411:st=4∨st=11:=by
  unfold shifts at hs
  simpa using hs
 have h0:¬ st=0:=by omega
 have h3:¬ st=3:=by omega
 unfold actV
 rw [if_neg h0,if_neg h3,if_pos h411]
 cases hp:p.shift with
 | nil=>rw [hp] at h; simp at h
 | cons a s=>exact ⟨by simp,rfl,rfl,by simp [hp],rfl,rfl⟩
theorem clock_shift {st:Nat} (hs:shifts st=true):∀ {P:List Port} {b:UInt8},(∀ p∈P,0<p.shift.length)→(clockP st P b).2::flatS (clockP st P b).1=flatS P++[b]∧SamePs P (clockP st P b).1
 | [],b,_=>⟨rfl,.nil⟩
 | p::P,b,h=>by
  obtain ⟨h1,h2⟩:=act_shift hs (h p List.mem_cons_self) b
  obtain ⟨h3,h4⟩:=clock_shift hs (P:=P) (b:=(actV st p b).2) fun q hq=>h q (List.mem_cons_of_mem _ hq)
  refine ⟨?_,.cons h2 h4⟩
  simp only [clockP,flatS]
  rw [← List.cons_append,h3,List.append_assoc,List.append_assoc,List.singleton_append,h1]
def fedP (st:Nat) (P:List Port) (l:Bs):Nat→List Port
 | 0=>P
 | k+1=>(clockP st (fedP st P l k) (l.getD k 0)).1
def fedO (st:Nat) (P:List Port) (l:Bs) (k:Nat):UInt8:=(clockP st (fedP st P l k) (l.getD k 0)).2
theorem fed_law {st:Nat} (hs:shifts st=true) {P:List Port} {l:Bs} (h:∀ p∈P,0<p.shift.length):∀ k,k≤l.length→((List.range k).map (fedO st P l)++flatS (fedP st P l k)=flatS P++l.take k∧SamePs P (fedP st P l k)∧∀ p∈fedP st P l k,0<p.shift.length)
 | 0,_=>⟨by simp [fedP],.refl P,h⟩
 | k+1,hk=>by
  obtain ⟨h1,h2,h3⟩:=fed_law (l:=l) hs h k (by omega)
  obtain ⟨h4,h5⟩:=clock_shift hs (b:=l.getD k 0) h3
  have e:fedP st P l (k+1)=(clockP st (fedP st P l k) (l.getD k 0)).1:=rfl
  have e2:fedO st P l k=(clockP st (fedP st P l k) (l.getD k 0)).2:=rfl
  have htk:l.take (k+1)=l.take k++[l.getD k 0]:=by
   have hk':k<l.length:=by omega
   rw [List.take_add_one,List.getElem?_eq_getElem hk',List.getD_eq_getElem?_getD,List.getElem?_eq_getElem hk']
   rfl
  refine ⟨?_,?_,?_⟩
  ·rw [List.range_succ,List.map_append,htk,List.append_assoc,List.map_singleton,List.singleton_append,e,e2,h4,← List.append_assoc,h1,List.append_assoc]
  ·rw [e]; exact h2.trans h5
  ·rw [e]
   have:∀ {P Q:List Port},SamePs P Q→(∀ p∈P,0<p.shift.length)→∀ p∈Q,0<p.shift.length:=fun hpq=>by
    induction hpq with
    | nil=>exact fun h=>h
    | cons h _ ih =>
     intro hp p hm
     rcases List.mem_cons.1 hm with rfl | hm
     ·rw [h.l]; exact hp _ List.mem_cons_self
     ·exact ih (fun q hq=>hp q (List.mem_cons_of_mem _ hq)) p hm
   exact this h5 h3
end Go.Proofs.YtahjohieahehjaaGreatDoor
namespace Go.Proofs.YtahjohieahehjaaGreatDoor
theorem act_still {st:Nat} (h:shifts st=false) (p:Port) (b:UInt8):actV st p b=((actV st p 48).1,b):=by
 have h411:¬ (st=4∨st=11):=by
  unfold shifts at h
  simpa using h
 unfold actV
 rw [if_neg h411,if_neg h411]
 by_cases h0:st=0
 ·rw [if_pos h0,if_pos h0]
 ·rw [if_neg h0,if_neg h0]
  by_cases h3:st=3
  ·rw [if_pos h3,if_pos h3]
  ·rw [if_neg h3,if_neg h3]
   by_cases h8:st=8
   ·rw [if_pos h8,if_pos h8]
   ·rw [if_neg h8,if_neg h8]
    by_cases h10:st=10
    ·rw [if_pos h10,if_pos h10]
    ·rw [if_neg h10,if_neg h10]
     by_cases h15:st=15
     ·rw [if_pos h15,if_pos h15]
     ·rw [if_neg h15,if_neg h15]
theorem clock_still {st:Nat} (h:shifts st=false):∀ (P:List Port) (b:UInt8),clockP st P b=(P.map (fun p=>(actV st p 48).1),b)
 | [],b=>rfl
 | p::P,b=>by
  simp only [clockP,List.map_cons]
  rw [act_still h p b,clock_still h P b]
theorem feed_fed {x:ChV} {l:Bs} {T:Nat} (hx:x.st=T) (hT:T=4∨T=11):∀ k,k≤l.length→(feedV x l k).P=fedP T x.P l k
 | 0,_=>rfl
 | k+1,hk=>by
  show (clockP (feedV x l k).st (feedV x l k).P (l.getD k 0)).1=_
  rw [feed_st hx hT k (by omega),feed_fed hx hT k (by omega)]
  rfl
theorem feedO_fed {x:ChV} {l:Bs} {T:Nat} (hx:x.st=T) (hT:T=4∨T=11) {k:Nat} (hk:k<l.length):feedO x l k=fedO T x.P l k:=by
 show (clockP (feedV x l k).st (feedV x l k).P (l.getD k 0)).2=_
 rw [feed_st hx hT k hk,feed_fed hx hT k (by omega)]
 rfl
end Go.Proofs.YtahjohieahehjaaGreatDoor
namespace Go.Proofs.YtahjohieahehjaaGreatDoor
theorem fb_all {α:Type} {f:α→Int} {l:List α} (h:firstBad f l=0):∀ a∈l,f a=0:=by
 intro a ha
 exact Classical.byContradiction fun hne=>by
  induction l with
  | nil=>cases ha
  | cons b l ih =>
   by_cases hb:f b=0
   ·have h':firstBad f (b::l)=firstBad f l:=by simp [firstBad,hb]
    rw [h'] at h
    rcases List.mem_cons.1 ha with rfl | ha
    ·exact hne hb
    ·exact ih h ha
   ·have h':firstBad f (b::l)=f b:=by simp [firstBad,hb]
    rw [h'] at h
    exact hb h
structure DevR (d:Dev):Prop where
 lg:2≤d.long∧d.long≤32
 idb:0≤d.id∧d.id≤4294967295
 rl:d.regs.length≤10
 il:d.ins.length≤100
 rs:∀ r∈d.regs,1≤r.2∧r.2≤1000
 is:∀ x∈d.ins,regIs d x.2=true
theorem outB_no {x a b:Int} (h:outB x a b=false):a≤x∧x≤b:=by
 unfold outB at h
 simp at h
 omega
theorem devR_of {D:List Dev} (h:devsE D=0):∀ d∈D,DevR d:=by
 intro d hd
 unfold devsE at h
 split at h
 ·cases h
 split at h
 ·cases h
 obtain ⟨i,hi,rfl⟩:=List.getElem_of_mem hd
 have hf:=fb_all h i (List.mem_range.2 hi)
 have e:D.getD i dev0=D[i]:=by rw [List.getD_eq_getElem?_getD,List.getElem?_eq_getElem hi]; rfl
 unfold devE at hf
 rw [e] at hf
 generalize D[i]=d at *
 split at hf
 ·cases hf
 split at hf
 ·cases hf
 split at hf
 ·cases hf
 rename_i h1 h2 h3
 split at hf
 ·cases hf
 split at hf
 ·cases hf
 rename_i h4 h5
 have hr:regsE d=0:=Classical.byContradiction fun hne=>by rw [if_pos hne] at hf; exact hne hf
 have hi:inssE d=0:=by rw [if_neg (by simpa using hr)] at hf; exact hf
 have hlg:outB d.long 2 32=false:=by
  cases ho:outB d.long 2 32
  ·rfl
  ·exact absurd (.inl ho) h3
 have hib:outB d.id 0 4294967295=false:=by
  cases ho:outB d.id 0 4294967295
  ·rfl
  ·exact absurd (.inr ho) h3
 refine ⟨outB_no hlg,outB_no hib,by omega,by omega,fun r hr'=>?_,fun x hx=>?_⟩
 ·obtain ⟨j,hj,rfl⟩:=List.getElem_of_mem hr'
  have hz:=fb_all hr j (List.mem_range.2 hj)
  have e2:d.regs.getD j reg0=d.regs[j]:=by rw [List.getD_eq_getElem?_getD,List.getElem?_eq_getElem hj]; rfl
  unfold regE at hz
  rw [e2] at hz
  split at hz
  ·cases hz
  split at hz
  ·cases hz
  split at hz
  ·cases hz
  rename_i h6
  exact outB_no (by simpa using h6)
 ·obtain ⟨j,hj,rfl⟩:=List.getElem_of_mem hx
  have hz:=fb_all hi j (List.mem_range.2 hj)
  have e2:d.ins.getD j ins0=d.ins[j]:=by rw [List.getD_eq_getElem?_getD,List.getElem?_eq_getElem hj]; rfl
  unfold insE at hz
  rw [e2] at hz
  split at hz
  ·cases hz
  split at hz
  ·cases hz
  split at hz
  ·cases hz
  split at hz
  ·cases hz
  split at hz
  ·rename_i h6
   unfold regIs
   simp only [Bool.or_eq_true,Bool.and_eq_true,decide_eq_true_eq]
   rcases h6 with h6 | h6 | h6
   ·exact .inl (.inl h6)
   ·exact .inl (.inr h6)
   ·exact .inr h6
  ·cases hz
theorem repW {n:Nat} (h1:1≤n) (h2:n≤1000):BitsW (Lib.repeatL [48] n):=by
 rw [rep48]
 refine ⟨by simp; omega,by simp; omega,?_⟩
 simp only [List.all_replicate]
 simp [oneBit]
theorem mapV_ok {R : List (Bs × Int)} (h : ∀ r ∈ R,1 ≤ r.2 ∧ r.2 ≤ 1000) (q : MK) (hq : mapD R q = true) : BitsW (mapV R q) := by
  have key : ∀ (R : List (Bs × Int)) (v : Bs),(∀ r ∈ R,1 ≤ r.2 ∧ r.2 ≤ 1000) → (BitsW v ∨ mapD R q = true) → BitsW (R.foldl (fun v r => if q = .s r.1 then Lib.repeatL [48] r.2.toNat else v) v) := by
    intro R
    induction R with
    | nil => intro v _ hv; rcases hv with hv | hv
             · exact hv
             · simp [mapD] at hv
    | cons r R ih =>
      intro v hR hv
      simp only [List.foldl_cons]
      refine ih _ (fun x hx => hR x (List.mem_cons_of_mem _ hx)) ?_
      have hr := hR r List.mem_cons_self
      by_cases hqr : q = .s r.1
      · rw [if_pos hqr]; exact .inl (repW (by omega) (by omega))
      · rw [if_neg hqr]
        rcases hv with hv | hv
        · exact .inl hv
        · refine .inr ?_
          unfold mapD at hv ⊢
          simpa [hqr] using hv
  exact key R [] h (.inr hq)
theorem regOf_ok {d:Dev} (hd:DevR d) {n:Bs} (hn:regIs d n=true):(regOf d n).1=byL∨(regOf d n).1=idL∨mapD d.regs (.s (regOf d n).1)=true:=by
 unfold regOf
 split
 ·exact .inl rfl
 ·split
  ·exact .inr (.inl rfl)
  ·rename_i h1 h2
   refine .inr (.inr ?_)
   have ho:ownB d n=true:=by
    unfold regIs at hn
    simp only [Bool.or_eq_true,Bool.and_eq_true,decide_eq_true_eq] at hn
    rcases hn with (hn | hn) | hn
    ·exact absurd hn h1
    ·exact absurd hn h2
    ·exact hn
   rw [ownB_find] at ho
   obtain ⟨r,hr⟩:=Option.isSome_iff_exists.1 ho
   rw [hr]
   have hm:=List.mem_of_find?_eq_some hr
   unfold mapD
   exact List.any_eq_true.2 ⟨r,hm,by simp⟩
theorem nameOf_ok {d:Dev} (hd:DevR d) (code:Bs):regIs d (nameOf d code)=true:=by
 unfold nameOf
 have key:∀ (l:List (Bs × Bs)) (n:Bs),(∀ x∈l,regIs d x.2=true)→regIs d n=true→regIs d (l.foldl (fun n x=>if x.1=code then x.2 else n) n)=true:=by
  intro l
  induction l with
  | nil=>intro n _ h; exact h
  | cons x l ih =>
   intro n hl hn
   simp only [List.foldl_cons]
   refine ih _ (fun y hy=>hl y (List.mem_cons_of_mem _ hy)) ?_
   split
   ·exact hl x List.mem_cons_self
   ·exact hn
 exact key _ _ hd.is (by unfold regIs; simp)
theorem port0_V {d:Dev} (hd:DevR d) (b1 b2:Bool):PortV (port0 d b1 b2):=by
 have hrl:=hd.rl
 have hil:=hd.il
 refine ⟨by simp only [port0]; omega,by simp only [port0]; omega,hd.idb,hd.lg,fun code=>?_,⟨by simp [port0],by simp [port0],by simp [port0,oneBit]⟩⟩
 have hsel:(selP d code).1=byL∨(selP d code).1=idL∨mapD d.regs (.s (selP d code).1)=true:=by
  unfold selP
  split
  ·split
   ·rename_i h
    exact regOf_ok hd h
   ·exact .inl rfl
  ·exact regOf_ok hd (nameOf_ok hd code)
 unfold captV
 show BitsW (if (selP d code).1=byL then [48] else if (selP d code).1=idL then idBits d.id else bif mapD d.regs (.s (selP d code).1) then mapV d.regs (.s (selP d code).1) else [])
 split
 ·exact ⟨by simp,by simp,by simp [oneBit]⟩
 ·split
  ·obtain ⟨N,hN⟩:∃ N:Nat,d.id=N:=⟨_,(Int.toNat_of_nonneg hd.idb.1).symm⟩
   rw [hN]
   refine ⟨by rw [idBits_len]; omega,by rw [idBits_len]; omega,List.all_eq_true.2 fun b hb=>?_⟩
   unfold idBits at hb
   obtain ⟨i,_,rfl⟩:=List.mem_map.1 hb
   rcases Nat.mod_two_eq_zero_or_one ((N:Int).toNat >>> i) with e | e <;> rw [e] <;> rfl
  ·rename_i h1 h2
   have hm:mapD d.regs (.s (selP d code).1)=true:=by
    rcases hsel with h | h | h
    ·exact absurd h h1
    ·exact absurd h h2
    ·exact h
   rw [hm]
   exact mapV_ok hd.rs _ hm
end Go.Proofs.YtahjohieahehjaaGreatDoor
namespace Go.Proofs.YtahjohieahehjaaGreatDoor
open Go.RowKit
def w1x (nl:Bool):PV:=.lit nl 1 [.s fun i=>[[49,120]].getD i []]
theorem out_00:outB 0 0 0=false:=by decide
theorem out_01:outB 0 0 1=false:=by decide
theorem out_11:outB 1 0 1=false:=by decide
theorem t49:(isBinV 49 || (49:Int)==42)=true:=by decide
theorem t120:(isBinV 120 || (120:Int)==42)=true:=by decide
theorem p49:passedV [49] 49=true:=by decide
theorem p120:passedV [49] 120=false:=by decide
theorem s1x:(([49,120]:List UInt8)==[])=false:=by decide
theorem at_1x (nl:Bool) (x:Int) (c:Int) (hx:(x=0∧c=49)∨(x=1∧c=120)) (nid:Nat):ACall Tryz.prog 180 [.agg [w1x nl,.str [49]],.agg [.int .i64 x,.int .i64 0]] [] nid (.int .u8 c) []:=by
 refine acall_run c180 (by simp [a180]) ?_
 unfold w1x
 rcases hx with ⟨rfl,rfl⟩ | ⟨rfl,rfl⟩
 ·simp -dsimp only [a180,aqT,aqU,aqN,aqP,aqM,↓seqK,↓blkK,↓loopK,step,stepBin,eqB,Nat.reduceBEq,Nat.reduceBeqDiff,Nat.add_assoc nid,Nat.reduceAdd,reduceCtorEq,↓reduceIte,Nat.reduceLeDiff,Nat.reduceBneDiff,Option.toList,← Int.ofNat_tmod,← Int.ofNat_tdiv,Nat.reduceLT,Int.cast_ofNat_Int,Int.reduceBEq,Int.reduceBNe,Int.reduceLT,Int.reduceLE,Int.reduceAdd,Int.reduceSub,Int.reduceMul,Int.reduceToNat,Int.reduceNeg,Int.reduceTMod,Int.reduceEq,not_false_eq_true,Int.reducePow,Int.reduceFDiv,Nat.reducePow,Nat.reduceSub,Nat.reduceMul,Nat.min_eq_left,Nat.reduceEqDiff,BEq.rfl,Int.tdiv_one,LN_succ]
  refine ⟨by unfold inI64; omega,CallX.pure (out_c _ _ _ _) ?_⟩
  simp -dsimp only [aqT,aqU,aqN,aqP,aqM,↓seqK,↓blkK,↓loopK,step,stepBin,eqB,Nat.reduceBEq,Nat.reduceBeqDiff,Nat.add_assoc nid,Nat.reduceAdd,reduceCtorEq,↓reduceIte,Nat.reduceLeDiff,Nat.reduceBneDiff,Option.toList,← Int.ofNat_tmod,← Int.ofNat_tdiv,Nat.reduceLT,Int.cast_ofNat_Int,Int.reduceBEq,Int.reduceBNe,Int.reduceLT,Int.reduceLE,Int.reduceAdd,Int.reduceSub,Int.reduceMul,Int.reduceToNat,Int.reduceNeg,Int.reduceTMod,Int.reduceEq,not_false_eq_true,Int.reducePow,Int.reduceFDiv,Nat.reducePow,Nat.reduceSub,Nat.reduceMul,Nat.min_eq_left,Nat.reduceEqDiff,BEq.rfl,Int.tdiv_one,LN_succ,out_00,List.getD_cons_zero]
  refine ⟨by unfold inI64; omega,CallX.pure (out_c _ _ _ _) ?_⟩
  simp -dsimp only [aqT,aqU,aqN,aqP,aqM,↓seqK,↓blkK,↓loopK,step,stepBin,eqB,Nat.reduceBEq,Nat.reduceBeqDiff,Nat.add_assoc nid,Nat.reduceAdd,reduceCtorEq,↓reduceIte,Nat.reduceLeDiff,Nat.reduceBneDiff,Option.toList,← Int.ofNat_tmod,← Int.ofNat_tdiv,Nat.reduceLT,Int.cast_ofNat_Int,Int.reduceBEq,Int.reduceBNe,Int.reduceLT,Int.reduceLE,Int.reduceAdd,Int.reduceSub,Int.reduceMul,Int.reduceToNat,Int.reduceNeg,Int.reduceTMod,Int.reduceEq,not_false_eq_true,Int.reducePow,Int.reduceFDiv,Nat.reducePow,Nat.reduceSub,Nat.reduceMul,Nat.min_eq_left,Nat.reduceEqDiff,BEq.rfl,Int.tdiv_one,LN_succ,out_01,List.getD_cons_zero]
  refine RetOK.pure (.inl rfl) rfl ?_
  simp [retPV,over,keys,List.map_nil,List.map_cons,List.contains_cons,List.contains_nil,Bool.or_false,Bool.or_true,Bool.true_or,Bool.false_or,beq_self_eq_true,cond_true,cond_false,HeapCov,orNil,nilSz,onBlk,srcOf,getH_hit,getH_miss,getH.eq_1,getS_hit,getS_miss,getS.eq_1,BlkCov,MEq,PVCovs,PVCov,ColsEq,AColsEq,ACEq,ColEq.refl,liveIds,SlotsCov,List.all_nil,List.all_cons,List.any_nil,List.any_cons,List.nil_append,List.cons_append,inRange,apart,nilBlk,idS1,idS2,readAll,readRes,onAll,step,res,AX.val,List.drop_zero,List.drop_succ_cons,List.take_succ_cons,List.take_zero]
 ·simp -dsimp only [a180,aqT,aqU,aqN,aqP,aqM,↓seqK,↓blkK,↓loopK,step,stepBin,eqB,Nat.reduceBEq,Nat.reduceBeqDiff,Nat.add_assoc nid,Nat.reduceAdd,reduceCtorEq,↓reduceIte,Nat.reduceLeDiff,Nat.reduceBneDiff,Option.toList,← Int.ofNat_tmod,← Int.ofNat_tdiv,Nat.reduceLT,Int.cast_ofNat_Int,Int.reduceBEq,Int.reduceBNe,Int.reduceLT,Int.reduceLE,Int.reduceAdd,Int.reduceSub,Int.reduceMul,Int.reduceToNat,Int.reduceNeg,Int.reduceTMod,Int.reduceEq,not_false_eq_true,Int.reducePow,Int.reduceFDiv,Nat.reducePow,Nat.reduceSub,Nat.reduceMul,Nat.min_eq_left,Nat.reduceEqDiff,BEq.rfl,Int.tdiv_one,LN_succ]
  refine ⟨by unfold inI64; omega,CallX.pure (out_c _ _ _ _) ?_⟩
  simp -dsimp only [aqT,aqU,aqN,aqP,aqM,↓seqK,↓blkK,↓loopK,step,stepBin,eqB,Nat.reduceBEq,Nat.reduceBeqDiff,Nat.add_assoc nid,Nat.reduceAdd,reduceCtorEq,↓reduceIte,Nat.reduceLeDiff,Nat.reduceBneDiff,Option.toList,← Int.ofNat_tmod,← Int.ofNat_tdiv,Nat.reduceLT,Int.cast_ofNat_Int,Int.reduceBEq,Int.reduceBNe,Int.reduceLT,Int.reduceLE,Int.reduceAdd,Int.reduceSub,Int.reduceMul,Int.reduceToNat,Int.reduceNeg,Int.reduceTMod,Int.reduceEq,not_false_eq_true,Int.reducePow,Int.reduceFDiv,Nat.reducePow,Nat.reduceSub,Nat.reduceMul,Nat.min_eq_left,Nat.reduceEqDiff,BEq.rfl,Int.tdiv_one,LN_succ,out_00,List.getD_cons_zero]
  refine ⟨by unfold inI64; omega,CallX.pure (out_c _ _ _ _) ?_⟩
  simp -dsimp only [aqT,aqU,aqN,aqP,aqM,↓seqK,↓blkK,↓loopK,step,stepBin,eqB,Nat.reduceBEq,Nat.reduceBeqDiff,Nat.add_assoc nid,Nat.reduceAdd,reduceCtorEq,↓reduceIte,Nat.reduceLeDiff,Nat.reduceBneDiff,Option.toList,← Int.ofNat_tmod,← Int.ofNat_tdiv,Nat.reduceLT,Int.cast_ofNat_Int,Int.reduceBEq,Int.reduceBNe,Int.reduceLT,Int.reduceLE,Int.reduceAdd,Int.reduceSub,Int.reduceMul,Int.reduceToNat,Int.reduceNeg,Int.reduceTMod,Int.reduceEq,not_false_eq_true,Int.reducePow,Int.reduceFDiv,Nat.reducePow,Nat.reduceSub,Nat.reduceMul,Nat.min_eq_left,Nat.reduceEqDiff,BEq.rfl,Int.tdiv_one,LN_succ,out_11,List.getD_cons_zero]
  refine RetOK.pure (.inl rfl) rfl ?_
  simp [retPV,over,keys,List.map_nil,List.map_cons,List.contains_cons,List.contains_nil,Bool.or_false,Bool.or_true,Bool.true_or,Bool.false_or,beq_self_eq_true,cond_true,cond_false,HeapCov,orNil,nilSz,onBlk,srcOf,getH_hit,getH_miss,getH.eq_1,getS_hit,getS_miss,getS.eq_1,BlkCov,MEq,PVCovs,PVCov,ColsEq,AColsEq,ACEq,ColEq.refl,liveIds,SlotsCov,List.all_nil,List.all_cons,List.any_nil,List.any_cons,List.nil_append,List.cons_append,inRange,apart,nilBlk,idS1,idS2,readAll,readRes,onAll,step,res,AX.val,List.drop_zero,List.drop_succ_cons,List.take_succ_cons,List.take_zero]
theorem places_c (nl:Bool) (nid:Nat):ACall Tryz.prog 135 [.agg [w1x nl,.str [49]]] [] nid (.sl nid 0 2) [(nid,some (.arr 206 2 [.i .i64 fun i=>[0,1].getD i 0,.i .i64 fun i=>[0,0].getD i 0]))]:=by
 refine acall_run c135 (by simp [a135]) ?_
 unfold w1x
 simp -dsimp only [a135,aqT,aqU,aqN,aqP,aqM,↓seqK,↓blkK,↓loopK,step,stepBin,eqB,Nat.reduceBEq,Nat.reduceBeqDiff,Nat.add_assoc nid,Nat.reduceAdd,reduceCtorEq,↓reduceIte,Nat.reduceLeDiff,Nat.reduceBneDiff,Option.toList,← Int.ofNat_tmod,← Int.ofNat_tdiv,Nat.reduceLT,Int.cast_ofNat_Int,Int.reduceBEq,Int.reduceBNe,Int.reduceLT,Int.reduceLE,Int.reduceAdd,Int.reduceSub,Int.reduceMul,Int.reduceToNat,Int.reduceNeg,Int.reduceTMod,Int.reduceEq,not_false_eq_true,Int.reducePow,Int.reduceFDiv,Nat.reducePow,Nat.reduceSub,Nat.reduceMul,Nat.min_eq_left,Nat.reduceEqDiff,BEq.rfl,Int.tdiv_one,LN_succ]
 refine LP.rounds 3 ?_
 simp -dsimp only [aqT,aqU,aqN,aqP,aqM,↓seqK,↓blkK,↓loopK,step,stepBin,eqB,Nat.reduceBEq,Nat.reduceBeqDiff,Nat.add_assoc nid,Nat.reduceAdd,reduceCtorEq,↓reduceIte,Nat.reduceLeDiff,Nat.reduceBneDiff,Option.toList,← Int.ofNat_tmod,← Int.ofNat_tdiv,Nat.reduceLT,Int.cast_ofNat_Int,Int.reduceBEq,Int.reduceBNe,Int.reduceLT,Int.reduceLE,Int.reduceAdd,Int.reduceSub,Int.reduceMul,Int.reduceToNat,Int.reduceNeg,Int.reduceTMod,Int.reduceEq,not_false_eq_true,Int.reducePow,Int.reduceFDiv,Nat.reducePow,Nat.reduceSub,Nat.reduceMul,Nat.min_eq_left,Nat.reduceEqDiff,BEq.rfl,Int.tdiv_one,LN_succ,List.getD_cons_zero]
 refine LP.rounds 4 ?_
 simp -dsimp only [aqT,aqU,aqN,aqP,aqM,↓seqK,↓blkK,↓loopK,step,stepBin,eqB,Nat.reduceBEq,Nat.reduceBeqDiff,Nat.add_assoc nid,Nat.reduceAdd,reduceCtorEq,↓reduceIte,Nat.reduceLeDiff,Nat.reduceBneDiff,Option.toList,← Int.ofNat_tmod,← Int.ofNat_tdiv,Nat.reduceLT,Int.cast_ofNat_Int,Int.reduceBEq,Int.reduceBNe,Int.reduceLT,Int.reduceLE,Int.reduceAdd,Int.reduceSub,Int.reduceMul,Int.reduceToNat,Int.reduceNeg,Int.reduceTMod,Int.reduceEq,not_false_eq_true,Int.reducePow,Int.reduceFDiv,Nat.reducePow,Nat.reduceSub,Nat.reduceMul,Nat.min_eq_left,Nat.reduceEqDiff,BEq.rfl,Int.tdiv_one,LN_succ,List.getD_cons_zero]
 refine ⟨by unfold inI64; omega,by unfold inI64; omega,by unfold inI64; omega,RetOK.go [(nid,nid+144)] [] (.inl rfl) ?_⟩
 simp [a135,retPV,over,keys,List.map_nil,List.map_cons,List.contains_cons,List.contains_nil,Bool.or_false,Bool.or_true,Bool.true_or,Bool.false_or,beq_self_eq_true,cond_true,cond_false,HeapCov,orNil,nilSz,onBlk,srcOf,getH_hit,getH_miss,getH.eq_1,getS_hit,getS_miss,getS.eq_1,BlkCov,MEq,PVCovs,PVCov,ColsEq,AColsEq,ACEq,ColEq.refl,liveIds,SlotsCov,List.all_nil,List.all_cons,List.any_nil,List.any_cons,List.nil_append,List.cons_append,inRange,apart,nilBlk,idS1,idS2,readAll,readRes,onAll,step,res,AX.val,List.drop_zero,List.drop_succ_cons,List.take_succ_cons,List.take_zero]
 constructor <;> refine ColEq.i fun i hi=>?_ <;> (have:i=0∨i=1:=by omega) <;> rcases this with rfl | rfl <;> simp
theorem share_c (nl nlp:Bool) (nid:Nat):ACall Tryz.prog 134 [.agg [w1x nl,.str [49]],.lit nlp 2 [.i .i64 fun i=>[0,1].getD i 0,.i .i64 fun i=>[0,0].getD i 0]] [] nid (.tup [.int .i64 1,.int .i64 2]) []:=by
 refine acall_run c134 (by simp [a134]) ?_
 unfold w1x
 simp -dsimp only [a134,aqT,aqU,aqN,aqP,aqM,↓seqK,↓blkK,↓loopK,step,stepBin,eqB,Nat.reduceBEq,Nat.reduceBeqDiff,Nat.add_assoc nid,Nat.reduceAdd,reduceCtorEq,↓reduceIte,Nat.reduceLeDiff,Nat.reduceBneDiff,Option.toList,← Int.ofNat_tmod,← Int.ofNat_tdiv,Nat.reduceLT,Int.cast_ofNat_Int,Int.reduceBEq,Int.reduceBNe,Int.reduceLT,Int.reduceLE,Int.reduceAdd,Int.reduceSub,Int.reduceMul,Int.reduceToNat,Int.reduceNeg,Int.reduceTMod,Int.reduceEq,not_false_eq_true,Int.reducePow,Int.reduceFDiv,Nat.reducePow,Nat.reduceSub,Nat.reduceMul,Nat.min_eq_left,Nat.reduceEqDiff,BEq.rfl,Int.tdiv_one,LN_succ]
 refine LP.rounds 4 ?_
 simp -dsimp only [aqT,aqU,aqN,aqP,aqM,↓seqK,↓blkK,↓loopK,step,stepBin,eqB,Nat.reduceBEq,Nat.reduceBeqDiff,Nat.add_assoc nid,Nat.reduceAdd,reduceCtorEq,↓reduceIte,Nat.reduceLeDiff,Nat.reduceBneDiff,Option.toList,← Int.ofNat_tmod,← Int.ofNat_tdiv,Nat.reduceLT,Int.cast_ofNat_Int,Int.reduceBEq,Int.reduceBNe,Int.reduceLT,Int.reduceLE,Int.reduceAdd,Int.reduceSub,Int.reduceMul,Int.reduceToNat,Int.reduceNeg,Int.reduceTMod,Int.reduceEq,not_false_eq_true,Int.reducePow,Int.reduceFDiv,Nat.reducePow,Nat.reduceSub,Nat.reduceMul,Nat.min_eq_left,Nat.reduceEqDiff,BEq.rfl,Int.tdiv_one,LN_succ,List.getD_cons_zero,List.getD_cons_succ]
 refine CallO.pure (at_1x nl 0 49 (.inl ⟨rfl,rfl⟩) _) ?_
 simp -dsimp only [aqT,aqU,aqN,aqP,aqM,↓seqK,↓blkK,↓loopK,step,stepBin,eqB,Nat.reduceBEq,Nat.reduceBeqDiff,Nat.add_assoc nid,Nat.reduceAdd,reduceCtorEq,↓reduceIte,Nat.reduceLeDiff,Nat.reduceBneDiff,Option.toList,← Int.ofNat_tmod,← Int.ofNat_tdiv,Nat.reduceLT,Int.cast_ofNat_Int,Int.reduceBEq,Int.reduceBNe,Int.reduceLT,Int.reduceLE,Int.reduceAdd,Int.reduceSub,Int.reduceMul,Int.reduceToNat,Int.reduceNeg,Int.reduceTMod,Int.reduceEq,not_false_eq_true,Int.reducePow,Int.reduceFDiv,Nat.reducePow,Nat.reduceSub,Nat.reduceMul,Nat.min_eq_left,Nat.reduceEqDiff,BEq.rfl,Int.tdiv_one,LN_succ]
 refine CallO.pure (tested_c _ _) ?_
 rw [t49]
 simp -dsimp only [aqT,aqU,aqN,aqP,aqM,↓seqK,↓blkK,↓loopK,step,stepBin,eqB,Nat.reduceBEq,Nat.reduceBeqDiff,Nat.add_assoc nid,Nat.reduceAdd,reduceCtorEq,↓reduceIte,Nat.reduceLeDiff,Nat.reduceBneDiff,Option.toList,← Int.ofNat_tmod,← Int.ofNat_tdiv,Nat.reduceLT,Int.cast_ofNat_Int,Int.reduceBEq,Int.reduceBNe,Int.reduceLT,Int.reduceLE,Int.reduceAdd,Int.reduceSub,Int.reduceMul,Int.reduceToNat,Int.reduceNeg,Int.reduceTMod,Int.reduceEq,not_false_eq_true,Int.reducePow,Int.reduceFDiv,Nat.reducePow,Nat.reduceSub,Nat.reduceMul,Nat.min_eq_left,Nat.reduceEqDiff,BEq.rfl,Int.tdiv_one,LN_succ]
 refine ⟨by unfold inI64; omega,CallO.pure (passed_c _ _ _ _ _ _ _ rfl) ?_⟩
 rw [p49]
 simp -dsimp only [aqT,aqU,aqN,aqP,aqM,↓seqK,↓blkK,↓loopK,step,stepBin,eqB,Nat.reduceBEq,Nat.reduceBeqDiff,Nat.add_assoc nid,Nat.reduceAdd,reduceCtorEq,↓reduceIte,Nat.reduceLeDiff,Nat.reduceBneDiff,Option.toList,← Int.ofNat_tmod,← Int.ofNat_tdiv,Nat.reduceLT,Int.cast_ofNat_Int,Int.reduceBEq,Int.reduceBNe,Int.reduceLT,Int.reduceLE,Int.reduceAdd,Int.reduceSub,Int.reduceMul,Int.reduceToNat,Int.reduceNeg,Int.reduceTMod,Int.reduceEq,not_false_eq_true,Int.reducePow,Int.reduceFDiv,Nat.reducePow,Nat.reduceSub,Nat.reduceMul,Nat.min_eq_left,Nat.reduceEqDiff,BEq.rfl,Int.tdiv_one,LN_succ,List.getD_cons_zero,List.getD_cons_succ]
 refine ⟨by unfold inI64; omega,by unfold inI64; omega,CallO.pure (at_1x nl 1 120 (.inr ⟨rfl,rfl⟩) _) ?_⟩
 simp -dsimp only [aqT,aqU,aqN,aqP,aqM,↓seqK,↓blkK,↓loopK,step,stepBin,eqB,Nat.reduceBEq,Nat.reduceBeqDiff,Nat.add_assoc nid,Nat.reduceAdd,reduceCtorEq,↓reduceIte,Nat.reduceLeDiff,Nat.reduceBneDiff,Option.toList,← Int.ofNat_tmod,← Int.ofNat_tdiv,Nat.reduceLT,Int.cast_ofNat_Int,Int.reduceBEq,Int.reduceBNe,Int.reduceLT,Int.reduceLE,Int.reduceAdd,Int.reduceSub,Int.reduceMul,Int.reduceToNat,Int.reduceNeg,Int.reduceTMod,Int.reduceEq,not_false_eq_true,Int.reducePow,Int.reduceFDiv,Nat.reducePow,Nat.reduceSub,Nat.reduceMul,Nat.min_eq_left,Nat.reduceEqDiff,BEq.rfl,Int.tdiv_one,LN_succ]
 refine CallO.pure (tested_c _ _) ?_
 rw [t120]
 simp -dsimp only [aqT,aqU,aqN,aqP,aqM,↓seqK,↓blkK,↓loopK,step,stepBin,eqB,Nat.reduceBEq,Nat.reduceBeqDiff,Nat.add_assoc nid,Nat.reduceAdd,reduceCtorEq,↓reduceIte,Nat.reduceLeDiff,Nat.reduceBneDiff,Option.toList,← Int.ofNat_tmod,← Int.ofNat_tdiv,Nat.reduceLT,Int.cast_ofNat_Int,Int.reduceBEq,Int.reduceBNe,Int.reduceLT,Int.reduceLE,Int.reduceAdd,Int.reduceSub,Int.reduceMul,Int.reduceToNat,Int.reduceNeg,Int.reduceTMod,Int.reduceEq,not_false_eq_true,Int.reducePow,Int.reduceFDiv,Nat.reducePow,Nat.reduceSub,Nat.reduceMul,Nat.min_eq_left,Nat.reduceEqDiff,BEq.rfl,Int.tdiv_one,LN_succ]
 refine ⟨by unfold inI64; omega,CallO.pure (passed_c _ _ _ _ _ _ _ rfl) ?_⟩
 rw [p120]
 simp -dsimp only [aqT,aqU,aqN,aqP,aqM,↓seqK,↓blkK,↓loopK,step,stepBin,eqB,Nat.reduceBEq,Nat.reduceBeqDiff,Nat.add_assoc nid,Nat.reduceAdd,reduceCtorEq,↓reduceIte,Nat.reduceLeDiff,Nat.reduceBneDiff,Option.toList,← Int.ofNat_tmod,← Int.ofNat_tdiv,Nat.reduceLT,Int.cast_ofNat_Int,Int.reduceBEq,Int.reduceBNe,Int.reduceLT,Int.reduceLE,Int.reduceAdd,Int.reduceSub,Int.reduceMul,Int.reduceToNat,Int.reduceNeg,Int.reduceTMod,Int.reduceEq,not_false_eq_true,Int.reducePow,Int.reduceFDiv,Nat.reducePow,Nat.reduceSub,Nat.reduceMul,Nat.min_eq_left,Nat.reduceEqDiff,BEq.rfl,Int.tdiv_one,LN_succ,List.getD_cons_zero,List.getD_cons_succ]
 refine ⟨by unfold inI64; omega,RetOK.pure (.inl rfl) rfl ?_⟩
 simp [retPV,over,keys,List.map_nil,List.map_cons,List.contains_cons,List.contains_nil,Bool.or_false,Bool.or_true,Bool.true_or,Bool.false_or,beq_self_eq_true,cond_true,cond_false,HeapCov,orNil,nilSz,onBlk,srcOf,getH_hit,getH_miss,getH.eq_1,getS_hit,getS_miss,getS.eq_1,BlkCov,MEq,PVCovs,PVCov,ColsEq,AColsEq,ACEq,ColEq.refl,liveIds,SlotsCov,List.all_nil,List.all_cons,List.any_nil,List.any_cons,List.nil_append,List.cons_append,inRange,apart,nilBlk,idS1,idS2,readAll,readRes,onAll,step,res,AX.val,List.drop_zero,List.drop_succ_cons,List.take_succ_cons,List.take_zero]
theorem checkWafer_c (nl:Bool) (nid:Nat):ACall Tryz.prog 133 [.agg [w1x nl,.str [49]]] [] nid (.int .i64 0) []:=by
 refine acall_run c133 (by simp [a133]) ?_
 unfold w1x
 simp -dsimp only [a133,aqT,aqU,aqN,aqP,aqM,↓seqK,↓blkK,↓loopK,step,stepBin,eqB,Nat.reduceBEq,Nat.reduceBeqDiff,Nat.add_assoc nid,Nat.reduceAdd,reduceCtorEq,↓reduceIte,Nat.reduceLeDiff,Nat.reduceBneDiff,Option.toList,← Int.ofNat_tmod,← Int.ofNat_tdiv,Nat.reduceLT,Int.cast_ofNat_Int,Int.reduceBEq,Int.reduceBNe,Int.reduceLT,Int.reduceLE,Int.reduceAdd,Int.reduceSub,Int.reduceMul,Int.reduceToNat,Int.reduceNeg,Int.reduceTMod,Int.reduceEq,not_false_eq_true,Int.reducePow,Int.reduceFDiv,Nat.reducePow,Nat.reduceSub,Nat.reduceMul,Nat.min_eq_left,Nat.reduceEqDiff,BEq.rfl,Int.tdiv_one,LN_succ]
 refine LP.rounds 3 ?_
 simp -dsimp only [aqT,aqU,aqN,aqP,aqM,↓seqK,↓blkK,↓loopK,step,stepBin,eqB,Nat.reduceBEq,Nat.reduceBeqDiff,Nat.add_assoc nid,Nat.reduceAdd,reduceCtorEq,↓reduceIte,Nat.reduceLeDiff,Nat.reduceBneDiff,Option.toList,← Int.ofNat_tmod,← Int.ofNat_tdiv,Nat.reduceLT,Int.cast_ofNat_Int,Int.reduceBEq,Int.reduceBNe,Int.reduceLT,Int.reduceLE,Int.reduceAdd,Int.reduceSub,Int.reduceMul,Int.reduceToNat,Int.reduceNeg,Int.reduceTMod,Int.reduceEq,not_false_eq_true,Int.reducePow,Int.reduceFDiv,Nat.reducePow,Nat.reduceSub,Nat.reduceMul,Nat.min_eq_left,Nat.reduceEqDiff,BEq.rfl,Int.tdiv_one,LN_succ,List.getD_cons_zero,List.getD_cons_succ,s1x]
 refine CallO.pure (odd_c' [49,120] _ (by simp) (fun i hi=>by
  have:i=0∨i=1:=by simp at hi; omega
  rcases this with rfl | rfl <;> decide)) ?_
 simp -dsimp only [aqT,aqU,aqN,aqP,aqM,↓seqK,↓blkK,↓loopK,step,stepBin,eqB,Nat.reduceBEq,Nat.reduceBeqDiff,Nat.add_assoc nid,Nat.reduceAdd,reduceCtorEq,↓reduceIte,Nat.reduceLeDiff,Nat.reduceBneDiff,Option.toList,← Int.ofNat_tmod,← Int.ofNat_tdiv,Nat.reduceLT,Int.cast_ofNat_Int,Int.reduceBEq,Int.reduceBNe,Int.reduceLT,Int.reduceLE,Int.reduceAdd,Int.reduceSub,Int.reduceMul,Int.reduceToNat,Int.reduceNeg,Int.reduceTMod,Int.reduceEq,not_false_eq_true,Int.reducePow,Int.reduceFDiv,Nat.reducePow,Nat.reduceSub,Nat.reduceMul,Nat.min_eq_left,Nat.reduceEqDiff,BEq.rfl,Int.tdiv_one,LN_succ,List.getD_cons_zero,List.getD_cons_succ,s1x]
 refine ⟨by unfold inI64; omega,LP.rounds 3 ?_⟩
 simp -dsimp only [aqT,aqU,aqN,aqP,aqM,↓seqK,↓blkK,↓loopK,step,stepBin,eqB,Nat.reduceBEq,Nat.reduceBeqDiff,Nat.add_assoc nid,Nat.reduceAdd,reduceCtorEq,↓reduceIte,Nat.reduceLeDiff,Nat.reduceBneDiff,Option.toList,← Int.ofNat_tmod,← Int.ofNat_tdiv,Nat.reduceLT,Int.cast_ofNat_Int,Int.reduceBEq,Int.reduceBNe,Int.reduceLT,Int.reduceLE,Int.reduceAdd,Int.reduceSub,Int.reduceMul,Int.reduceToNat,Int.reduceNeg,Int.reduceTMod,Int.reduceEq,not_false_eq_true,Int.reducePow,Int.reduceFDiv,Nat.reducePow,Nat.reduceSub,Nat.reduceMul,Nat.min_eq_left,Nat.reduceEqDiff,BEq.rfl,Int.tdiv_one,LN_succ,List.getD_cons_zero,List.getD_cons_succ,s1x]
 refine CallO.pure (isBin_c _ _) ?_
 have b49:isBinV ((UInt8.toNat 49:Nat):Int)=true:=by decide
 rw [b49]
 simp -dsimp only [aqT,aqU,aqN,aqP,aqM,↓seqK,↓blkK,↓loopK,step,stepBin,eqB,Nat.reduceBEq,Nat.reduceBeqDiff,Nat.add_assoc nid,Nat.reduceAdd,reduceCtorEq,↓reduceIte,Nat.reduceLeDiff,Nat.reduceBneDiff,Option.toList,← Int.ofNat_tmod,← Int.ofNat_tdiv,Nat.reduceLT,Int.cast_ofNat_Int,Int.reduceBEq,Int.reduceBNe,Int.reduceLT,Int.reduceLE,Int.reduceAdd,Int.reduceSub,Int.reduceMul,Int.reduceToNat,Int.reduceNeg,Int.reduceTMod,Int.reduceEq,not_false_eq_true,Int.reducePow,Int.reduceFDiv,Nat.reducePow,Nat.reduceSub,Nat.reduceMul,Nat.min_eq_left,Nat.reduceEqDiff,BEq.rfl,Int.tdiv_one,LN_succ,List.getD_cons_zero,List.getD_cons_succ,s1x]
 refine ⟨by unfold inI64; omega,RetOK.pure (.inl rfl) rfl ?_⟩
 simp [retPV,over,keys,List.map_nil,List.map_cons,List.contains_cons,List.contains_nil,Bool.or_false,Bool.or_true,Bool.true_or,Bool.false_or,beq_self_eq_true,cond_true,cond_false,HeapCov,orNil,nilSz,onBlk,srcOf,getH_hit,getH_miss,getH.eq_1,getS_hit,getS_miss,getS.eq_1,BlkCov,MEq,PVCovs,PVCov,ColsEq,AColsEq,ACEq,ColEq.refl,liveIds,SlotsCov,List.all_nil,List.all_cons,List.any_nil,List.any_cons,List.nil_append,List.cons_append,inRange,apart,nilBlk,idS1,idS2,readAll,readRes,onAll,step,res,AX.val,List.drop_zero,List.drop_succ_cons,List.take_succ_cons,List.take_zero]
theorem yield_c (nl:Bool) (nid:Nat):ACall Tryz.prog 89 [.agg [w1x nl,.str [49]]] [] nid (.tup [.agg [.int .i64 1,.int .i64 2],.bool true,.int .i64 0]) []:=by
 refine acall_run c89 (by simp [a89]) ?_
 unfold w1x
 simp -dsimp only [a89,aqT,aqU,aqN,aqP,aqM,↓seqK,↓blkK,↓loopK,step,stepBin,eqB,Nat.reduceBEq,Nat.reduceBeqDiff,Nat.add_assoc nid,Nat.reduceAdd,reduceCtorEq,↓reduceIte,Nat.reduceLeDiff,Nat.reduceBneDiff,Option.toList,← Int.ofNat_tmod,← Int.ofNat_tdiv,Nat.reduceLT,Int.cast_ofNat_Int,Int.reduceBEq,Int.reduceBNe,Int.reduceLT,Int.reduceLE,Int.reduceAdd,Int.reduceSub,Int.reduceMul,Int.reduceToNat,Int.reduceNeg,Int.reduceTMod,Int.reduceEq,not_false_eq_true,Int.reducePow,Int.reduceFDiv,Nat.reducePow,Nat.reduceSub,Nat.reduceMul,Nat.min_eq_left,Nat.reduceEqDiff,BEq.rfl,Int.tdiv_one,LN_succ]
 refine CallO.pure (checkWafer_c nl _) ?_
 simp -dsimp only [aqT,aqU,aqN,aqP,aqM,↓seqK,↓blkK,↓loopK,step,stepBin,eqB,Nat.reduceBEq,Nat.reduceBeqDiff,Nat.add_assoc nid,Nat.reduceAdd,reduceCtorEq,↓reduceIte,Nat.reduceLeDiff,Nat.reduceBneDiff,Option.toList,← Int.ofNat_tmod,← Int.ofNat_tdiv,Nat.reduceLT,Int.cast_ofNat_Int,Int.reduceBEq,Int.reduceBNe,Int.reduceLT,Int.reduceLE,Int.reduceAdd,Int.reduceSub,Int.reduceMul,Int.reduceToNat,Int.reduceNeg,Int.reduceTMod,Int.reduceEq,not_false_eq_true,Int.reducePow,Int.reduceFDiv,Nat.reducePow,Nat.reduceSub,Nat.reduceMul,Nat.min_eq_left,Nat.reduceEqDiff,BEq.rfl,Int.tdiv_one,LN_succ]
 refine CallX.pure (places_c nl _) ?_
 simp -dsimp only [aqT,aqU,aqN,aqP,aqM,↓seqK,↓blkK,↓loopK,step,stepBin,eqB,Nat.reduceBEq,Nat.reduceBeqDiff,Nat.add_assoc nid,Nat.reduceAdd,reduceCtorEq,↓reduceIte,Nat.reduceLeDiff,Nat.reduceBneDiff,Option.toList,← Int.ofNat_tmod,← Int.ofNat_tdiv,Nat.reduceLT,Int.cast_ofNat_Int,Int.reduceBEq,Int.reduceBNe,Int.reduceLT,Int.reduceLE,Int.reduceAdd,Int.reduceSub,Int.reduceMul,Int.reduceToNat,Int.reduceNeg,Int.reduceTMod,Int.reduceEq,not_false_eq_true,Int.reducePow,Int.reduceFDiv,Nat.reducePow,Nat.reduceSub,Nat.reduceMul,Nat.min_eq_left,Nat.reduceEqDiff,BEq.rfl,Int.tdiv_one,LN_succ]
 refine CallX.gave [nid+44] (fun nl'=>by
  simp only [lends,lend,aqT,aqU,aqN,aqP,aqM,↓seqK,↓blkK,↓loopK,step,stepBin,eqB,Nat.reduceBEq,Nat.reduceBeqDiff,Nat.add_assoc nid,Nat.reduceAdd,reduceCtorEq,↓reduceIte,Nat.reduceLeDiff,Nat.reduceBneDiff,Option.toList,← Int.ofNat_tmod,← Int.ofNat_tdiv,Nat.reduceLT]
  exact share_c nl (nl' _) _) (by simp [getH]) ?_
 simp -dsimp only [aqT,aqU,aqN,aqP,aqM,↓seqK,↓blkK,↓loopK,step,stepBin,eqB,Nat.reduceBEq,Nat.reduceBeqDiff,Nat.add_assoc nid,Nat.reduceAdd,reduceCtorEq,↓reduceIte,Nat.reduceLeDiff,Nat.reduceBneDiff,Option.toList,← Int.ofNat_tmod,← Int.ofNat_tdiv,Nat.reduceLT,Int.cast_ofNat_Int,Int.reduceBEq,Int.reduceBNe,Int.reduceLT,Int.reduceLE,Int.reduceAdd,Int.reduceSub,Int.reduceMul,Int.reduceToNat,Int.reduceNeg,Int.reduceTMod,Int.reduceEq,not_false_eq_true,Int.reducePow,Int.reduceFDiv,Nat.reducePow,Nat.reduceSub,Nat.reduceMul,Nat.min_eq_left,Nat.reduceEqDiff,BEq.rfl,Int.tdiv_one,LN_succ,kill]
 refine CallO.pure (frac12_c _) ?_
 simp -dsimp only [aqT,aqU,aqN,aqP,aqM,↓seqK,↓blkK,↓loopK,step,stepBin,eqB,Nat.reduceBEq,Nat.reduceBeqDiff,Nat.add_assoc nid,Nat.reduceAdd,reduceCtorEq,↓reduceIte,Nat.reduceLeDiff,Nat.reduceBneDiff,Option.toList,← Int.ofNat_tmod,← Int.ofNat_tdiv,Nat.reduceLT,Int.cast_ofNat_Int,Int.reduceBEq,Int.reduceBNe,Int.reduceLT,Int.reduceLE,Int.reduceAdd,Int.reduceSub,Int.reduceMul,Int.reduceToNat,Int.reduceNeg,Int.reduceTMod,Int.reduceEq,not_false_eq_true,Int.reducePow,Int.reduceFDiv,Nat.reducePow,Nat.reduceSub,Nat.reduceMul,Nat.min_eq_left,Nat.reduceEqDiff,BEq.rfl,Int.tdiv_one,LN_succ]
 refine RetOK.go [] [] (.inl rfl) ?_
 simp [a89,retPV,over,keys,List.map_nil,List.map_cons,List.contains_cons,List.contains_nil,Bool.or_false,Bool.or_true,Bool.true_or,Bool.false_or,beq_self_eq_true,cond_true,cond_false,HeapCov,orNil,nilSz,onBlk,srcOf,getH_hit,getH_miss,getH.eq_1,getS_hit,getS_miss,getS.eq_1,BlkCov,MEq,PVCovs,PVCov,ColsEq,AColsEq,ACEq,ColEq.refl,liveIds,SlotsCov,List.all_nil,List.all_cons,List.any_nil,List.any_cons,List.nil_append,List.cons_append,inRange,apart,nilBlk,idS1,idS2,readAll,readRes,onAll,step,res,AX.val,List.drop_zero,List.drop_succ_cons,List.take_succ_cons,List.take_zero]
end Go.Proofs.YtahjohieahehjaaGreatDoor
namespace Go.Proofs.YtahjohieahehjaaGreatDoor
open Go.RowKit
theorem enough_c (id:Nat) (k v:Int) (b:Bool) (hk:(k=0∧v=1∧b=false)∨(k=1∧v=2∧b=false)∨(k=2∧v=4∧b=false)∨(k=3∧v=8∧b=true)) (nid:Nat) (h:id<nid) :
  ACall Tryz.prog 130 [.int .i64 k,.ptr id 0] [(id,some (.box 3 [.int .i64 3]))] nid (.bool b) []:=by
 obtain ⟨e1,e2,e3,e4,e5,e6,e7,e8,e9⟩:=id_all h
 have hv:IntKind.i64.wrap (1 * 2 ^ (min k.toNat IntKind.i64.bits))=v∧0≤k∧inI64 (v - 2)∧decide (3≤v - 2)=b:=by
  rcases hk with ⟨rfl,rfl,rfl⟩ | ⟨rfl,rfl,rfl⟩ | ⟨rfl,rfl,rfl⟩ | ⟨rfl,rfl,rfl⟩ <;> exact ⟨by decide,by decide,by unfold inI64; omega,by decide⟩
 obtain ⟨h1,h2,h3,h4⟩:=hv
 refine acall_run c130 (by simp [a130]) ?_
 simp -dsimp only [a130,aqT,aqU,aqN,aqP,aqM,↓seqK,↓blkK,↓loopK,step,stepBin,eqB,Nat.reduceBEq,Nat.reduceBeqDiff,Nat.add_assoc nid,Nat.reduceAdd,reduceCtorEq,↓reduceIte,Nat.reduceLeDiff,Nat.reduceBneDiff,Option.toList,← Int.ofNat_tmod,← Int.ofNat_tdiv,Nat.reduceLT,e1,e2,e3,e4,e5,e6,e7,e8,e9,h1,h4]
 refine ⟨h2,h3,RetOK.same (.inl rfl) rfl ?_ ?_ ?_⟩ <;> simp [cvT,step,res,e1,e2,e3,e4,e5,e6,e7,e8,e9]
theorem least_c (id nid:Nat) (h:id<nid):ACall Tryz.prog 129 [.int .i64 0,.fn 130 [.ptr id 0]] [(id,some (.box 3 [.int .i64 3]))] nid (.int .i64 3) []:=by
 obtain ⟨e1,e2,e3,e4,e5,e6,e7,e8,e9⟩:=id_all h
 refine acall_run c129 (by simp [a129]) ?_
 simp -dsimp only [a129,aqT,aqU,aqN,aqP,aqM,↓seqK,↓blkK,↓loopK,step,stepBin,eqB,Nat.reduceBEq,Nat.reduceBeqDiff,Nat.add_assoc nid,Nat.reduceAdd,reduceCtorEq,↓reduceIte,Nat.reduceLeDiff,Nat.reduceBneDiff,Option.toList,← Int.ofNat_tmod,← Int.ofNat_tdiv,Nat.reduceLT,e1,e2,e3,e4,e5,e6,e7,e8,e9]
 refine LP.rounds 5 ?_
 simp -dsimp only [aqT,aqU,aqN,aqP,aqM,↓seqK,↓blkK,↓loopK,step,stepBin,eqB,Nat.reduceBEq,Nat.reduceBeqDiff,Nat.add_assoc nid,Nat.reduceAdd,reduceCtorEq,↓reduceIte,Nat.reduceLeDiff,Nat.reduceBneDiff,Option.toList,← Int.ofNat_tmod,← Int.ofNat_tdiv,Nat.reduceLT,Int.cast_ofNat_Int,Int.reduceBEq,Int.reduceBNe,Int.reduceLT,Int.reduceLE,Int.reduceAdd,Int.reduceSub,Int.reduceMul,Int.reduceToNat,Int.reduceNeg,Int.reduceTMod,Int.reduceEq,not_false_eq_true,Int.reducePow,Int.reduceFDiv,Nat.reducePow,Nat.reduceSub,Nat.reduceMul,Nat.min_eq_left,Nat.reduceEqDiff,BEq.rfl,Int.tdiv_one,LN_succ,e1,e2,e3,e4,e5,e6,e7,e8,e9]
 refine CallO.on (enough_c id 0 1 false (by simp) _ (by omega)) (subH_get (by simp only [aqT,aqU,aqN,aqP,aqM,↓seqK,↓blkK,↓loopK,step,stepBin,eqB,Nat.reduceBEq,Nat.reduceBeqDiff,Nat.add_assoc nid,Nat.reduceAdd,reduceCtorEq,↓reduceIte,Nat.reduceLeDiff,Nat.reduceBneDiff,Option.toList,← Int.ofNat_tmod,← Int.ofNat_tdiv,Nat.reduceLT,e1,e2,e3,e4,e5,e6,e7,e8,e9])) ?_
 simp -dsimp only [aqT,aqU,aqN,aqP,aqM,↓seqK,↓blkK,↓loopK,step,stepBin,eqB,Nat.reduceBEq,Nat.reduceBeqDiff,Nat.add_assoc nid,Nat.reduceAdd,reduceCtorEq,↓reduceIte,Nat.reduceLeDiff,Nat.reduceBneDiff,Option.toList,← Int.ofNat_tmod,← Int.ofNat_tdiv,Nat.reduceLT,Int.cast_ofNat_Int,Int.reduceBEq,Int.reduceBNe,Int.reduceLT,Int.reduceLE,Int.reduceAdd,Int.reduceSub,Int.reduceMul,Int.reduceToNat,Int.reduceNeg,Int.reduceTMod,Int.reduceEq,not_false_eq_true,Int.reducePow,Int.reduceFDiv,Nat.reducePow,Nat.reduceSub,Nat.reduceMul,Nat.min_eq_left,Nat.reduceEqDiff,BEq.rfl,Int.tdiv_one,LN_succ,e1,e2,e3,e4,e5,e6,e7,e8,e9]
 refine ⟨by unfold inI64; omega,CallO.on (enough_c id 1 2 false (by simp) _ (by omega)) (subH_get (by simp only [aqT,aqU,aqN,aqP,aqM,↓seqK,↓blkK,↓loopK,step,stepBin,eqB,Nat.reduceBEq,Nat.reduceBeqDiff,Nat.add_assoc nid,Nat.reduceAdd,reduceCtorEq,↓reduceIte,Nat.reduceLeDiff,Nat.reduceBneDiff,Option.toList,← Int.ofNat_tmod,← Int.ofNat_tdiv,Nat.reduceLT,e1,e2,e3,e4,e5,e6,e7,e8,e9])) ?_⟩
 simp -dsimp only [aqT,aqU,aqN,aqP,aqM,↓seqK,↓blkK,↓loopK,step,stepBin,eqB,Nat.reduceBEq,Nat.reduceBeqDiff,Nat.add_assoc nid,Nat.reduceAdd,reduceCtorEq,↓reduceIte,Nat.reduceLeDiff,Nat.reduceBneDiff,Option.toList,← Int.ofNat_tmod,← Int.ofNat_tdiv,Nat.reduceLT,Int.cast_ofNat_Int,Int.reduceBEq,Int.reduceBNe,Int.reduceLT,Int.reduceLE,Int.reduceAdd,Int.reduceSub,Int.reduceMul,Int.reduceToNat,Int.reduceNeg,Int.reduceTMod,Int.reduceEq,not_false_eq_true,Int.reducePow,Int.reduceFDiv,Nat.reducePow,Nat.reduceSub,Nat.reduceMul,Nat.min_eq_left,Nat.reduceEqDiff,BEq.rfl,Int.tdiv_one,LN_succ,e1,e2,e3,e4,e5,e6,e7,e8,e9]
 refine ⟨by unfold inI64; omega,CallO.on (enough_c id 2 4 false (by simp) _ (by omega)) (subH_get (by simp only [aqT,aqU,aqN,aqP,aqM,↓seqK,↓blkK,↓loopK,step,stepBin,eqB,Nat.reduceBEq,Nat.reduceBeqDiff,Nat.add_assoc nid,Nat.reduceAdd,reduceCtorEq,↓reduceIte,Nat.reduceLeDiff,Nat.reduceBneDiff,Option.toList,← Int.ofNat_tmod,← Int.ofNat_tdiv,Nat.reduceLT,e1,e2,e3,e4,e5,e6,e7,e8,e9])) ?_⟩
 simp -dsimp only [aqT,aqU,aqN,aqP,aqM,↓seqK,↓blkK,↓loopK,step,stepBin,eqB,Nat.reduceBEq,Nat.reduceBeqDiff,Nat.add_assoc nid,Nat.reduceAdd,reduceCtorEq,↓reduceIte,Nat.reduceLeDiff,Nat.reduceBneDiff,Option.toList,← Int.ofNat_tmod,← Int.ofNat_tdiv,Nat.reduceLT,Int.cast_ofNat_Int,Int.reduceBEq,Int.reduceBNe,Int.reduceLT,Int.reduceLE,Int.reduceAdd,Int.reduceSub,Int.reduceMul,Int.reduceToNat,Int.reduceNeg,Int.reduceTMod,Int.reduceEq,not_false_eq_true,Int.reducePow,Int.reduceFDiv,Nat.reducePow,Nat.reduceSub,Nat.reduceMul,Nat.min_eq_left,Nat.reduceEqDiff,BEq.rfl,Int.tdiv_one,LN_succ,e1,e2,e3,e4,e5,e6,e7,e8,e9]
 refine ⟨by unfold inI64; omega,CallO.on (enough_c id 3 8 true (by simp) _ (by omega)) (subH_get (by simp only [aqT,aqU,aqN,aqP,aqM,↓seqK,↓blkK,↓loopK,step,stepBin,eqB,Nat.reduceBEq,Nat.reduceBeqDiff,Nat.add_assoc nid,Nat.reduceAdd,reduceCtorEq,↓reduceIte,Nat.reduceLeDiff,Nat.reduceBneDiff,Option.toList,← Int.ofNat_tmod,← Int.ofNat_tdiv,Nat.reduceLT,e1,e2,e3,e4,e5,e6,e7,e8,e9])) ?_⟩
 simp -dsimp only [aqT,aqU,aqN,aqP,aqM,↓seqK,↓blkK,↓loopK,step,stepBin,eqB,Nat.reduceBEq,Nat.reduceBeqDiff,Nat.add_assoc nid,Nat.reduceAdd,reduceCtorEq,↓reduceIte,Nat.reduceLeDiff,Nat.reduceBneDiff,Option.toList,← Int.ofNat_tmod,← Int.ofNat_tdiv,Nat.reduceLT,Int.cast_ofNat_Int,Int.reduceBEq,Int.reduceBNe,Int.reduceLT,Int.reduceLE,Int.reduceAdd,Int.reduceSub,Int.reduceMul,Int.reduceToNat,Int.reduceNeg,Int.reduceTMod,Int.reduceEq,not_false_eq_true,Int.reducePow,Int.reduceFDiv,Nat.reducePow,Nat.reduceSub,Nat.reduceMul,Nat.min_eq_left,Nat.reduceEqDiff,BEq.rfl,Int.tdiv_one,LN_succ,e1,e2,e3,e4,e5,e6,e7,e8,e9]
 refine RetOK.same (.inl rfl) rfl ?_ ?_ ?_ <;> simp [cvT,step,res,e1,e2,e3,e4,e5,e6,e7,e8,e9]
def bitW (x:Int) (j:Nat):Int:=IntKind.i64.wrap ((BitVec.ofInt IntKind.i64.bits (x.fdiv (2 ^ min j IntKind.i64.bits)) &&& BitVec.ofInt IntKind.i64.bits 1).toNat:Int)
theorem number_c (x b2 b1 b0:Int) (s:List UInt8) (h2:bitW x 2=b2) (h1:bitW x 1=b1) (h0:bitW x 0=b0) (hb:(0≤b2∧b2≤1)∧(0≤b1∧b1≤1)∧(0≤b0∧b0≤1))
  (hs:s=[UInt8.ofNat (IntKind.u8.wrap (48+b2)).toNat,UInt8.ofNat (IntKind.u8.wrap (48+b1)).toNat,UInt8.ofNat (IntKind.u8.wrap (48+b0)).toNat]) (nid:Nat) :
  ACall Tryz.prog 131 [.int .i64 x,.int .i64 3] [] nid (.str s) []:=by
 unfold bitW at h2 h1 h0
 refine acall_run c131 (by simp [a131]) ?_
 simp -dsimp only [a131,aqT,aqU,aqN,aqP,aqM,↓seqK,↓blkK,↓loopK,step,stepBin,eqB,Nat.reduceBEq,Nat.reduceBeqDiff,Nat.add_assoc nid,Nat.reduceAdd,reduceCtorEq,↓reduceIte,Nat.reduceLeDiff,Nat.reduceBneDiff,Option.toList,← Int.ofNat_tmod,← Int.ofNat_tdiv,Nat.reduceLT,Int.cast_ofNat_Int,Int.reduceBEq,Int.reduceBNe,Int.reduceLT,Int.reduceLE,Int.reduceAdd,Int.reduceSub,Int.reduceMul,Int.reduceToNat,Int.reduceNeg,Int.reduceTMod,Int.reduceEq,not_false_eq_true,Int.reducePow,Int.reduceFDiv,Nat.reducePow,Nat.reduceSub,Nat.reduceMul,Nat.min_eq_left,Nat.reduceEqDiff,BEq.rfl,Int.tdiv_one,LN_succ]
 refine ⟨by unfold inI64; omega,LP.rounds 5 ?_⟩
 simp -dsimp only [aqT,aqU,aqN,aqP,aqM,↓seqK,↓blkK,↓loopK,step,stepBin,eqB,Nat.reduceBEq,Nat.reduceBeqDiff,Nat.add_assoc nid,Nat.reduceAdd,reduceCtorEq,↓reduceIte,Nat.reduceLeDiff,Nat.reduceBneDiff,Option.toList,← Int.ofNat_tmod,← Int.ofNat_tdiv,Nat.reduceLT,Int.cast_ofNat_Int,Int.reduceBEq,Int.reduceBNe,Int.reduceLT,Int.reduceLE,Int.reduceAdd,Int.reduceSub,Int.reduceMul,Int.reduceToNat,Int.reduceNeg,Int.reduceTMod,Int.reduceEq,not_false_eq_true,Int.reducePow,Int.reduceFDiv,Nat.reducePow,Nat.reduceSub,Nat.reduceMul,Nat.min_eq_left,Nat.reduceEqDiff,BEq.rfl,Int.tdiv_one,LN_succ]
 rw [h2,h1,h0]
 obtain ⟨⟨a1,a2⟩,⟨a3,a4⟩,a5,a6⟩:=hb
 refine ⟨by unfold inI64; omega,by unfold inI64; omega,by unfold inI64; omega,by unfold inI64; omega,by unfold inI64; omega,by unfold inI64; omega,RetOK.pure (.inl rfl) rfl ?_⟩
 subst hs
 simp [cvT,step,res,List.range_succ]
theorem netsFault_c (nid:Nat):ACall Tryz.prog 128 [.int .i64 3] [] nid (.int .i64 0) []:=by
 have ho:outB 3 1 100=false:=by decide
 refine acall_run c128 (by simp [a128]) ?_
 simp -dsimp only [a128,aqT,aqU,aqN,aqP,aqM,↓seqK,↓blkK,↓loopK,step,stepBin,eqB,Nat.reduceBEq,Nat.reduceBeqDiff,Nat.add_assoc nid,Nat.reduceAdd,reduceCtorEq,↓reduceIte,Nat.reduceLeDiff,Nat.reduceBneDiff,Option.toList,← Int.ofNat_tmod,← Int.ofNat_tdiv,Nat.reduceLT,Int.cast_ofNat_Int,Int.reduceBEq,Int.reduceBNe,Int.reduceLT,Int.reduceLE,Int.reduceAdd,Int.reduceSub,Int.reduceMul,Int.reduceToNat,Int.reduceNeg,Int.reduceTMod,Int.reduceEq,not_false_eq_true,Int.reducePow,Int.reduceFDiv,Nat.reducePow,Nat.reduceSub,Nat.reduceMul,Nat.min_eq_left,Nat.reduceEqDiff,BEq.rfl,Int.tdiv_one,LN_succ]
 refine CallO.pure (out_c _ _ _ _) ?_
 rw [ho]
 simp -dsimp only [aqT,aqU,aqN,aqP,aqM,↓seqK,↓blkK,↓loopK,step,stepBin,eqB,Nat.reduceBEq,Nat.reduceBeqDiff,Nat.add_assoc nid,Nat.reduceAdd,reduceCtorEq,↓reduceIte,Nat.reduceLeDiff,Nat.reduceBneDiff,Option.toList,← Int.ofNat_tmod,← Int.ofNat_tdiv,Nat.reduceLT,Int.cast_ofNat_Int,Int.reduceBEq,Int.reduceBNe,Int.reduceLT,Int.reduceLE,Int.reduceAdd,Int.reduceSub,Int.reduceMul,Int.reduceToNat,Int.reduceNeg,Int.reduceTMod,Int.reduceEq,not_false_eq_true,Int.reducePow,Int.reduceFDiv,Nat.reducePow,Nat.reduceSub,Nat.reduceMul,Nat.min_eq_left,Nat.reduceEqDiff,BEq.rfl,Int.tdiv_one,LN_succ]
 refine RetOK.pure (.inl rfl) rfl ?_
 simp [cvT,step,res]
def vecs:List (List UInt8):=[[48,48,48],[48,49,49],[49,48,49]]
theorem turned_c (nl:Bool) (nid:Nat):ACall Tryz.prog 132 [.lit nl 3 [.s fun i=>[[48,48,49],[48,49,48],[48,49,49]].getD i []],.int .i64 3] [] nid (.sl nid 0 3) [(nid,some (.arr 9 3 [.s fun i=>vecs.getD i []]))]:=by
 refine acall_run c132 (by simp [a132]) ?_
 simp -dsimp only [a132,aqT,aqU,aqN,aqP,aqM,↓seqK,↓blkK,↓loopK,step,stepBin,eqB,Nat.reduceBEq,Nat.reduceBeqDiff,Nat.add_assoc nid,Nat.reduceAdd,reduceCtorEq,↓reduceIte,Nat.reduceLeDiff,Nat.reduceBneDiff,Option.toList,← Int.ofNat_tmod,← Int.ofNat_tdiv,Nat.reduceLT,Int.cast_ofNat_Int,Int.reduceBEq,Int.reduceBNe,Int.reduceLT,Int.reduceLE,Int.reduceAdd,Int.reduceSub,Int.reduceMul,Int.reduceToNat,Int.reduceNeg,Int.reduceTMod,Int.reduceEq,not_false_eq_true,Int.reducePow,Int.reduceFDiv,Nat.reducePow,Nat.reduceSub,Nat.reduceMul,Nat.min_eq_left,Nat.reduceEqDiff,BEq.rfl,Int.tdiv_one,LN_succ]
 refine LP.rounds 5 ?_
 simp -dsimp only [aqT,aqU,aqN,aqP,aqM,↓seqK,↓blkK,↓loopK,step,stepBin,eqB,Nat.reduceBEq,Nat.reduceBeqDiff,Nat.add_assoc nid,Nat.reduceAdd,reduceCtorEq,↓reduceIte,Nat.reduceLeDiff,Nat.reduceBneDiff,Option.toList,← Int.ofNat_tmod,← Int.ofNat_tdiv,Nat.reduceLT,Int.cast_ofNat_Int,Int.reduceBEq,Int.reduceBNe,Int.reduceLT,Int.reduceLE,Int.reduceAdd,Int.reduceSub,Int.reduceMul,Int.reduceToNat,Int.reduceNeg,Int.reduceTMod,Int.reduceEq,not_false_eq_true,Int.reducePow,Int.reduceFDiv,Nat.reducePow,Nat.reduceSub,Nat.reduceMul,Nat.min_eq_left,Nat.reduceEqDiff,BEq.rfl,Int.tdiv_one,LN_succ]
 refine LP.rounds 5 ?_
 simp -dsimp only [aqT,aqU,aqN,aqP,aqM,↓seqK,↓blkK,↓loopK,step,stepBin,eqB,Nat.reduceBEq,Nat.reduceBeqDiff,Nat.add_assoc nid,Nat.reduceAdd,reduceCtorEq,↓reduceIte,Nat.reduceLeDiff,Nat.reduceBneDiff,Option.toList,← Int.ofNat_tmod,← Int.ofNat_tdiv,Nat.reduceLT,Int.cast_ofNat_Int,Int.reduceBEq,Int.reduceBNe,Int.reduceLT,Int.reduceLE,Int.reduceAdd,Int.reduceSub,Int.reduceMul,Int.reduceToNat,Int.reduceNeg,Int.reduceTMod,Int.reduceEq,not_false_eq_true,Int.reducePow,Int.reduceFDiv,Nat.reducePow,Nat.reduceSub,Nat.reduceMul,Nat.min_eq_left,Nat.reduceEqDiff,BEq.rfl,Int.tdiv_one,LN_succ,Col.const,List.getD_cons_zero,List.getD_cons_succ]
 refine ⟨by unfold inI64; omega,by unfold inI64; omega,by unfold inI64; omega,by unfold inI64; omega,LP.rounds 5 ?_⟩
 simp -dsimp only [aqT,aqU,aqN,aqP,aqM,↓seqK,↓blkK,↓loopK,step,stepBin,eqB,Nat.reduceBEq,Nat.reduceBeqDiff,Nat.add_assoc nid,Nat.reduceAdd,reduceCtorEq,↓reduceIte,Nat.reduceLeDiff,Nat.reduceBneDiff,Option.toList,← Int.ofNat_tmod,← Int.ofNat_tdiv,Nat.reduceLT,Int.cast_ofNat_Int,Int.reduceBEq,Int.reduceBNe,Int.reduceLT,Int.reduceLE,Int.reduceAdd,Int.reduceSub,Int.reduceMul,Int.reduceToNat,Int.reduceNeg,Int.reduceTMod,Int.reduceEq,not_false_eq_true,Int.reducePow,Int.reduceFDiv,Nat.reducePow,Nat.reduceSub,Nat.reduceMul,Nat.min_eq_left,Nat.reduceEqDiff,BEq.rfl,Int.tdiv_one,LN_succ,Col.const,List.getD_cons_zero,List.getD_cons_succ]
 refine ⟨by unfold inI64; omega,by unfold inI64; omega,by unfold inI64; omega,by unfold inI64; omega,LP.rounds 5 ?_⟩
 simp -dsimp only [aqT,aqU,aqN,aqP,aqM,↓seqK,↓blkK,↓loopK,step,stepBin,eqB,Nat.reduceBEq,Nat.reduceBeqDiff,Nat.add_assoc nid,Nat.reduceAdd,reduceCtorEq,↓reduceIte,Nat.reduceLeDiff,Nat.reduceBneDiff,Option.toList,← Int.ofNat_tmod,← Int.ofNat_tdiv,Nat.reduceLT,Int.cast_ofNat_Int,Int.reduceBEq,Int.reduceBNe,Int.reduceLT,Int.reduceLE,Int.reduceAdd,Int.reduceSub,Int.reduceMul,Int.reduceToNat,Int.reduceNeg,Int.reduceTMod,Int.reduceEq,not_false_eq_true,Int.reducePow,Int.reduceFDiv,Nat.reducePow,Nat.reduceSub,Nat.reduceMul,Nat.min_eq_left,Nat.reduceEqDiff,BEq.rfl,Int.tdiv_one,LN_succ,Col.const,List.getD_cons_zero,List.getD_cons_succ]
 refine ⟨by unfold inI64; omega,by unfold inI64; omega,by unfold inI64; omega,by unfold inI64; omega,RetOK.go [(nid,nid+768)] [] (.inl rfl) ?_⟩
 simp [a132,cvT,step,res,-List.getD_eq_getElem?_getD]
 trace_state
 refine ColEq.s fun i hi=>?_
 have:i=0∨i=1∨i=2:=by omega
 rcases this with rfl | rfl | rfl <;> decide
theorem counting_c (nid:Nat):ACall Tryz.prog 88 [.int .i64 3] [] nid (.tup [.sl nid 0 3,.int .i64 0]) [(nid,some (.arr 9 3 [.s fun i=>vecs.getD i []]))]:=by
 refine acall_run c88 (by simp [a88]) ?_
 simp -dsimp only [a88,aqT,aqU,aqN,aqP,aqM,↓seqK,↓blkK,↓loopK,step,stepBin,eqB,Nat.reduceBEq,Nat.reduceBeqDiff,Nat.add_assoc nid,Nat.reduceAdd,reduceCtorEq,↓reduceIte,Nat.reduceLeDiff,Nat.reduceBneDiff,Option.toList,← Int.ofNat_tmod,← Int.ofNat_tdiv,Nat.reduceLT,Int.cast_ofNat_Int,Int.reduceBEq,Int.reduceBNe,Int.reduceLT,Int.reduceLE,Int.reduceAdd,Int.reduceSub,Int.reduceMul,Int.reduceToNat,Int.reduceNeg,Int.reduceTMod,Int.reduceEq,not_false_eq_true,Int.reducePow,Int.reduceFDiv,Nat.reducePow,Nat.reduceSub,Nat.reduceMul,Nat.min_eq_left,Nat.reduceEqDiff,BEq.rfl,Int.tdiv_one,LN_succ]
 refine CallO.pure (netsFault_c _) ?_
 simp -dsimp only [aqT,aqU,aqN,aqP,aqM,↓seqK,↓blkK,↓loopK,step,stepBin,eqB,Nat.reduceBEq,Nat.reduceBeqDiff,Nat.add_assoc nid,Nat.reduceAdd,reduceCtorEq,↓reduceIte,Nat.reduceLeDiff,Nat.reduceBneDiff,Option.toList,← Int.ofNat_tmod,← Int.ofNat_tdiv,Nat.reduceLT,Int.cast_ofNat_Int,Int.reduceBEq,Int.reduceBNe,Int.reduceLT,Int.reduceLE,Int.reduceAdd,Int.reduceSub,Int.reduceMul,Int.reduceToNat,Int.reduceNeg,Int.reduceTMod,Int.reduceEq,not_false_eq_true,Int.reducePow,Int.reduceFDiv,Nat.reducePow,Nat.reduceSub,Nat.reduceMul,Nat.min_eq_left,Nat.reduceEqDiff,BEq.rfl,Int.tdiv_one,LN_succ]
 refine CallO.on (least_c nid _ (by omega)) (subH_get (by simp only [aqT,aqU,aqN,aqP,aqM,↓seqK,↓blkK,↓loopK,step,stepBin,eqB,Nat.reduceBEq,Nat.reduceBeqDiff,Nat.add_assoc nid,Nat.reduceAdd,reduceCtorEq,↓reduceIte,Nat.reduceLeDiff,Nat.reduceBneDiff,Option.toList,← Int.ofNat_tmod,← Int.ofNat_tdiv,Nat.reduceLT])) ?_
 simp -dsimp only [aqT,aqU,aqN,aqP,aqM,↓seqK,↓blkK,↓loopK,step,stepBin,eqB,Nat.reduceBEq,Nat.reduceBeqDiff,Nat.add_assoc nid,Nat.reduceAdd,reduceCtorEq,↓reduceIte,Nat.reduceLeDiff,Nat.reduceBneDiff,Option.toList,← Int.ofNat_tmod,← Int.ofNat_tdiv,Nat.reduceLT,Int.cast_ofNat_Int,Int.reduceBEq,Int.reduceBNe,Int.reduceLT,Int.reduceLE,Int.reduceAdd,Int.reduceSub,Int.reduceMul,Int.reduceToNat,Int.reduceNeg,Int.reduceTMod,Int.reduceEq,not_false_eq_true,Int.reducePow,Int.reduceFDiv,Nat.reducePow,Nat.reduceSub,Nat.reduceMul,Nat.min_eq_left,Nat.reduceEqDiff,BEq.rfl,Int.tdiv_one,LN_succ]
 refine LP.rounds 5 ?_
 simp -dsimp only [aqT,aqU,aqN,aqP,aqM,↓seqK,↓blkK,↓loopK,step,stepBin,eqB,Nat.reduceBEq,Nat.reduceBeqDiff,Nat.add_assoc nid,Nat.reduceAdd,reduceCtorEq,↓reduceIte,Nat.reduceLeDiff,Nat.reduceBneDiff,Option.toList,← Int.ofNat_tmod,← Int.ofNat_tdiv,Nat.reduceLT,Int.cast_ofNat_Int,Int.reduceBEq,Int.reduceBNe,Int.reduceLT,Int.reduceLE,Int.reduceAdd,Int.reduceSub,Int.reduceMul,Int.reduceToNat,Int.reduceNeg,Int.reduceTMod,Int.reduceEq,not_false_eq_true,Int.reducePow,Int.reduceFDiv,Nat.reducePow,Nat.reduceSub,Nat.reduceMul,Nat.min_eq_left,Nat.reduceEqDiff,BEq.rfl,Int.tdiv_one,LN_succ]
 refine ⟨by unfold inI64; omega,CallO.pure (number_c 1 0 0 1 [48,48,49] (by decide) (by decide) (by decide) (by omega) (by decide) _) ?_⟩
 simp -dsimp only [aqT,aqU,aqN,aqP,aqM,↓seqK,↓blkK,↓loopK,step,stepBin,eqB,Nat.reduceBEq,Nat.reduceBeqDiff,Nat.add_assoc nid,Nat.reduceAdd,reduceCtorEq,↓reduceIte,Nat.reduceLeDiff,Nat.reduceBneDiff,Option.toList,← Int.ofNat_tmod,← Int.ofNat_tdiv,Nat.reduceLT,Int.cast_ofNat_Int,Int.reduceBEq,Int.reduceBNe,Int.reduceLT,Int.reduceLE,Int.reduceAdd,Int.reduceSub,Int.reduceMul,Int.reduceToNat,Int.reduceNeg,Int.reduceTMod,Int.reduceEq,not_false_eq_true,Int.reducePow,Int.reduceFDiv,Nat.reducePow,Nat.reduceSub,Nat.reduceMul,Nat.min_eq_left,Nat.reduceEqDiff,BEq.rfl,Int.tdiv_one,LN_succ]
 refine ⟨by unfold inI64; omega,by unfold inI64; omega,CallO.pure (number_c 2 0 1 0 [48,49,48] (by decide) (by decide) (by decide) (by omega) (by decide) _) ?_⟩
 simp -dsimp only [aqT,aqU,aqN,aqP,aqM,↓seqK,↓blkK,↓loopK,step,stepBin,eqB,Nat.reduceBEq,Nat.reduceBeqDiff,Nat.add_assoc nid,Nat.reduceAdd,reduceCtorEq,↓reduceIte,Nat.reduceLeDiff,Nat.reduceBneDiff,Option.toList,← Int.ofNat_tmod,← Int.ofNat_tdiv,Nat.reduceLT,Int.cast_ofNat_Int,Int.reduceBEq,Int.reduceBNe,Int.reduceLT,Int.reduceLE,Int.reduceAdd,Int.reduceSub,Int.reduceMul,Int.reduceToNat,Int.reduceNeg,Int.reduceTMod,Int.reduceEq,not_false_eq_true,Int.reducePow,Int.reduceFDiv,Nat.reducePow,Nat.reduceSub,Nat.reduceMul,Nat.min_eq_left,Nat.reduceEqDiff,BEq.rfl,Int.tdiv_one,LN_succ]
 refine ⟨by unfold inI64; omega,by unfold inI64; omega,CallO.pure (number_c 3 0 1 1 [48,49,49] (by decide) (by decide) (by decide) (by omega) (by decide) _) ?_⟩
 simp -dsimp only [aqT,aqU,aqN,aqP,aqM,↓seqK,↓blkK,↓loopK,step,stepBin,eqB,Nat.reduceBEq,Nat.reduceBeqDiff,Nat.add_assoc nid,Nat.reduceAdd,reduceCtorEq,↓reduceIte,Nat.reduceLeDiff,Nat.reduceBneDiff,Option.toList,← Int.ofNat_tmod,← Int.ofNat_tdiv,Nat.reduceLT,Int.cast_ofNat_Int,Int.reduceBEq,Int.reduceBNe,Int.reduceLT,Int.reduceLE,Int.reduceAdd,Int.reduceSub,Int.reduceMul,Int.reduceToNat,Int.reduceNeg,Int.reduceTMod,Int.reduceEq,not_false_eq_true,Int.reducePow,Int.reduceFDiv,Nat.reducePow,Nat.reduceSub,Nat.reduceMul,Nat.min_eq_left,Nat.reduceEqDiff,BEq.rfl,Int.tdiv_one,LN_succ]
 refine ⟨by unfold inI64; omega,CallO.gave [nid+196] (fun nl'=>by
  simp only [lends,lend,aqT,aqU,aqN,aqP,aqM,↓seqK,↓blkK,↓loopK,step,stepBin,eqB,Nat.reduceBEq,Nat.reduceBeqDiff,Nat.add_assoc nid,Nat.reduceAdd,reduceCtorEq,↓reduceIte,Nat.reduceLeDiff,Nat.reduceBneDiff,Option.toList,← Int.ofNat_tmod,← Int.ofNat_tdiv,Nat.reduceLT]
  exact (turned_c (nl' _) _).args ⟨⟨rfl,rfl,ColEq.s fun i hi=>by
   have:i=0∨i=1∨i=2:=by omega
   rcases this with rfl | rfl | rfl <;> rfl,trivial⟩,rfl,trivial⟩) (fun id hid=>by simp only [List.mem_singleton] at hid; subst hid; simp only [aqT,aqU,aqN,aqP,aqM,↓seqK,↓blkK,↓loopK,step,stepBin,eqB,Nat.reduceBEq,Nat.reduceBeqDiff,Nat.add_assoc nid,Nat.reduceAdd,reduceCtorEq,↓reduceIte,Nat.reduceLeDiff,Nat.reduceBneDiff,Option.toList,← Int.ofNat_tmod,← Int.ofNat_tdiv,Nat.reduceLT]) ?_⟩
 simp -dsimp only [aqT,aqU,aqN,aqP,aqM,↓seqK,↓blkK,↓loopK,step,stepBin,eqB,Nat.reduceBEq,Nat.reduceBeqDiff,Nat.add_assoc nid,Nat.reduceAdd,reduceCtorEq,↓reduceIte,Nat.reduceLeDiff,Nat.reduceBneDiff,Option.toList,← Int.ofNat_tmod,← Int.ofNat_tdiv,Nat.reduceLT,Int.cast_ofNat_Int,Int.reduceBEq,Int.reduceBNe,Int.reduceLT,Int.reduceLE,Int.reduceAdd,Int.reduceSub,Int.reduceMul,Int.reduceToNat,Int.reduceNeg,Int.reduceTMod,Int.reduceEq,not_false_eq_true,Int.reducePow,Int.reduceFDiv,Nat.reducePow,Nat.reduceSub,Nat.reduceMul,Nat.min_eq_left,Nat.reduceEqDiff,BEq.rfl,Int.tdiv_one,LN_succ,kill]
 refine RetOK.go [(nid,nid+224)] [] (.inl rfl) ?_
 simp [a88,cvT,step,res]
end Go.Proofs.YtahjohieahehjaaGreatDoor
namespace Go.Proofs.YtahjohieahehjaaGreatDoor
open Go.RowKit
theorem isState_c (n:Int) (nid:Nat):ACall Tryz.prog 122 [.int .i64 n] [] nid (.bool (!outB n 0 15)) []:=by
 refine acall_run c122 (by simp [a122]) ?_
 simp -dsimp only [a122,aqT,aqU,aqN,aqP,aqM,↓seqK,↓blkK,↓loopK,step,stepBin,eqB,Nat.reduceBEq,Nat.reduceBeqDiff,Nat.add_assoc nid,Nat.reduceAdd,reduceCtorEq,↓reduceIte,Nat.reduceLeDiff,Nat.reduceBneDiff,Option.toList,← Int.ofNat_tmod,← Int.ofNat_tdiv,Nat.reduceLT]
 refine CallO.pure (out_c _ _ _ _) ?_
 simp -dsimp only [aqT,aqU,aqN,aqP,aqM,↓seqK,↓blkK,↓loopK,step,stepBin,eqB,Nat.reduceBEq,Nat.reduceBeqDiff,Nat.add_assoc nid,Nat.reduceAdd,reduceCtorEq,↓reduceIte,Nat.reduceLeDiff,Nat.reduceBneDiff,Option.toList,← Int.ofNat_tmod,← Int.ofNat_tdiv,Nat.reduceLT]
 refine RetOK.pure (.inl rfl) rfl ?_
 simp [cvT,step,res]
theorem pathP (s t nid:Nat) (hs:s<16) (ht:t<16):ACall Tryz.prog 72 [.int .i64 (s:Nat),.int .i64 (t:Nat)] [] nid (.tup [.str (pathV s t),.int .i64 0]) []:=by
 have h1:outB (s:Nat) 0 15=false:=by unfold outB; simp; omega
 have h2:outB (t:Nat) 0 15=false:=by unfold outB; simp; omega
 refine acall_run c72 (by simp [a72]) ?_
 simp -dsimp only [a72,aqT,aqU,aqN,aqP,aqM,↓seqK,↓blkK,↓loopK,step,stepBin,eqB,Nat.reduceBEq,Nat.reduceBeqDiff,Nat.add_assoc nid,Nat.reduceAdd,reduceCtorEq,↓reduceIte,Nat.reduceLeDiff,Nat.reduceBneDiff,Option.toList,← Int.ofNat_tmod,← Int.ofNat_tdiv,Nat.reduceLT]
 refine CallO.pure (isState_c _ _) ?_
 rw [h1]
 simp -dsimp only [aqT,aqU,aqN,aqP,aqM,↓seqK,↓blkK,↓loopK,step,stepBin,eqB,Nat.reduceBEq,Nat.reduceBeqDiff,Nat.add_assoc nid,Nat.reduceAdd,reduceCtorEq,↓reduceIte,Nat.reduceLeDiff,Nat.reduceBneDiff,Option.toList,← Int.ofNat_tmod,← Int.ofNat_tdiv,Nat.reduceLT,Bool.not_false,Bool.not_true]
 refine CallO.pure (isState_c _ _) ?_
 rw [h2]
 simp -dsimp only [aqT,aqU,aqN,aqP,aqM,↓seqK,↓blkK,↓loopK,step,stepBin,eqB,Nat.reduceBEq,Nat.reduceBeqDiff,Nat.add_assoc nid,Nat.reduceAdd,reduceCtorEq,↓reduceIte,Nat.reduceLeDiff,Nat.reduceBneDiff,Option.toList,← Int.ofNat_tmod,← Int.ofNat_tdiv,Nat.reduceLT,Bool.not_false,Bool.not_true]
 refine CallO.pure (path_st s t _ hs) ?_
 simp -dsimp only [aqT,aqU,aqN,aqP,aqM,↓seqK,↓blkK,↓loopK,step,stepBin,eqB,Nat.reduceBEq,Nat.reduceBeqDiff,Nat.add_assoc nid,Nat.reduceAdd,reduceCtorEq,↓reduceIte,Nat.reduceLeDiff,Nat.reduceBneDiff,Option.toList,← Int.ofNat_tmod,← Int.ofNat_tdiv,Nat.reduceLT]
 refine RetOK.pure (.inl rfl) rfl ?_
 simp [cvT,step,res]
theorem path41:pathV 4 1=[49,49,48]:=by decide
theorem path41_c (nid:Nat):ACall Tryz.prog 72 [.int .i64 4,.int .i64 1] [] nid (.tup [.str [49,49,48],.int .i64 0]) []:=by
 have h:=pathP 4 1 nid (by omega) (by omega)
 rw [path41] at h
 exact h
theorem e110:(([49,49,48]:List UInt8)==[49,49,48])=true:=by decide
theorem ready_c (nid:Nat):ACall Tryz.prog 38 [] [] nid (.bool true) []:=by
 refine acall_run c38 (by simp [a38]) ?_
 simp -dsimp only [a38,aqT,aqU,aqN,aqP,aqM,↓seqK,↓blkK,↓loopK,step,stepBin,eqB,Nat.reduceBEq,Nat.reduceBeqDiff,Nat.add_assoc nid,Nat.reduceAdd,reduceCtorEq,↓reduceIte,Nat.reduceLeDiff,Nat.reduceBneDiff,Option.toList,← Int.ofNat_tmod,← Int.ofNat_tdiv,Nat.reduceLT]
 refine CallO.pure (path41_c _) ?_
 simp -dsimp only [aqT,aqU,aqN,aqP,aqM,↓seqK,↓blkK,↓loopK,step,stepBin,eqB,Nat.reduceBEq,Nat.reduceBeqDiff,Nat.add_assoc nid,Nat.reduceAdd,reduceCtorEq,↓reduceIte,Nat.reduceLeDiff,Nat.reduceBneDiff,Option.toList,← Int.ofNat_tmod,← Int.ofNat_tdiv,Nat.reduceLT]
 refine CallO.pure (counting_c _) ?_
 simp -dsimp only [aqT,aqU,aqN,aqP,aqM,↓seqK,↓blkK,↓loopK,step,stepBin,eqB,Nat.reduceBEq,Nat.reduceBeqDiff,Nat.add_assoc nid,Nat.reduceAdd,reduceCtorEq,↓reduceIte,Nat.reduceLeDiff,Nat.reduceBneDiff,Option.toList,← Int.ofNat_tmod,← Int.ofNat_tdiv,Nat.reduceLT]
 refine CallO.gave [nid+52] (fun nl'=>by
  simp only [lends,lend,aqT,aqU,aqN,aqP,aqM,↓seqK,↓blkK,↓loopK,step,stepBin,eqB,Nat.reduceBEq,Nat.reduceBeqDiff,Nat.add_assoc nid,Nat.reduceAdd,reduceCtorEq,↓reduceIte,Nat.reduceLeDiff,Nat.reduceBneDiff,Option.toList,← Int.ofNat_tmod,← Int.ofNat_tdiv,Nat.reduceLT]
  exact yield_c (nl' _) _) (by simp [getH]) ?_
 simp -dsimp only [aqT,aqU,aqN,aqP,aqM,↓seqK,↓blkK,↓loopK,step,stepBin,eqB,Nat.reduceBEq,Nat.reduceBeqDiff,Nat.add_assoc nid,Nat.reduceAdd,reduceCtorEq,↓reduceIte,Nat.reduceLeDiff,Nat.reduceBneDiff,Option.toList,← Int.ofNat_tmod,← Int.ofNat_tdiv,Nat.reduceLT,kill,e110,-seqK]
 refine S2.yes (by decide) ?_
 simp -dsimp only [aqT,aqU,aqN,aqP,aqM,↓seqK,↓blkK,↓loopK,step,stepBin,eqB,Nat.reduceBEq,Nat.reduceBeqDiff,Nat.add_assoc nid,Nat.reduceAdd,reduceCtorEq,↓reduceIte,Nat.reduceLeDiff,Nat.reduceBneDiff,Option.toList,← Int.ofNat_tmod,← Int.ofNat_tdiv,Nat.reduceLT,-seqK]
 refine RetOK.pure (.inl rfl) rfl ?_
 simp [cvT,step,res]
end Go.Proofs.YtahjohieahehjaaGreatDoor
namespace Go.Proofs.YtahjohieahehjaaGreatDoor
open Go.RowKit
theorem Scoped.cons {b i:Nat} {c:Option ABlk} {Hs:Heap} (hi:i<b) (hc:lowBlk b c=true) (h:Scoped b Hs):Scoped b ((i,c)::Hs):=by
 have:=lowHeap_cons hi hc h.lowHeap
 exact ⟨this.1,this.2⟩
theorem subH_swap {s:Nat} {A:Option ABlk} {Hs:Heap} (h:s ∉ keys Hs):subH ((s,A)::Hs) (Hs++[(s,A)]):=fun id x hx=>by
 simp only [getH] at hx
 rw [getH_appC]
 cases e:(s==id)
 ·rw [e] at hx
  simp only [cond_false] at hx
  rw [getH_key hx]
  exact hx
 ·rw [e] at hx
  simp only [cond_true] at hx
  have e':=eq_of_beq e
  subst e'
  have:(keys Hs).contains s=false:=by simpa using h
  rw [this]
  simp only [cond_false,getH,e,cond_true]
  exact hx
theorem chH_off {c s:Nat} {x:ChV} (h:s<c):s ∉ keys (chH c x):=by
 intro hid
 unfold chH chainH at hid
 simp only [keys,List.map_cons,List.mem_cons,List.mem_map] at hid
 rcases hid with rfl | rfl | ⟨y,hy,hy2⟩
 ·omega
 ·omega
 ·have:=portsH_ge x.P (c+2) y hy
  omega
theorem portsK_ok {D:List Dev} (he:devsE D=0) (f:(Nat→Bool) × (Nat→Bool)):ChOk D.length ⟨0,portsK D f D.length⟩ :=
 ⟨by simp only; omega,portsK_len _ _ _,fun p hp=>by
  unfold portsK at hp
  obtain ⟨j,hj,rfl⟩:=List.mem_map.1 hp
  have hj':=List.mem_range.1 hj
  exact port0_V (devR_of he _ (by rw [List.getD_eq_getElem?_getD,List.getElem?_eq_getElem hj']; exact List.getElem_mem _)) _ _⟩
end Go.Proofs.YtahjohieahehjaaGreatDoor
namespace Go.Proofs.YtahjohieahehjaaGreatDoor
structure DevN (d:Dev):Prop where
 nb:∀ r∈d.regs,r.1≠byL∧r.1≠idL
 nd:∀ r∈d.regs,∀ x∈d.regs,x.1=r.1→x=r
 ic:∀ x∈d.ins,((x.1.length:Nat):Int)=d.long
 io:d.id≠0→d.id % 2=1
theorem devN_of {D:List Dev} (h:devsE D=0):∀ d∈D,DevN d:=by
 intro d hd
 have hR:=devR_of h d hd
 unfold devsE at h
 split at h
 ·cases h
 split at h
 ·cases h
 obtain ⟨i,hi,rfl⟩:=List.getElem_of_mem hd
 have hf:=fb_all h i (List.mem_range.2 hi)
 have e:D.getD i dev0=D[i]:=by rw [List.getD_eq_getElem?_getD,List.getElem?_eq_getElem hi]; rfl
 unfold devE at hf
 rw [e] at hf
 generalize D[i]=d at *
 split at hf
 ·cases hf
 split at hf
 ·cases hf
 split at hf
 ·cases hf
 rename_i h1 h2 h3
 split at hf
 ·cases hf
 split at hf
 ·cases hf
 rename_i h4 h5
 have hr:regsE d=0:=Classical.byContradiction fun hne=>by rw [if_pos hne] at hf; exact hne hf
 have hi:inssE d=0:=by rw [if_neg (by simpa using hr)] at hf; exact hf
 have hreg:∀ j,j<d.regs.length→¬ ((d.regs.getD j reg0).1=byL∨(d.regs.getD j reg0).1=idL∨(d.regs.take j).any (fun x=>x.1==(d.regs.getD j reg0).1)=true):=by
  intro j hj hc
  have hz:=fb_all hr j (List.mem_range.2 hj)
  unfold regE at hz
  split at hz
  ·cases hz
  ·cases hz
 have hlt:∀ j k,j<k→k<d.regs.length→¬ (d.regs.getD j reg0).1=(d.regs.getD k reg0).1:=by
  intro j k hjk hk hn
  refine hreg k hk (.inr (.inr (List.any_eq_true.2 ⟨d.regs.getD j reg0,?_,by simp only [beq_iff_eq]; exact hn⟩)))
  rw [List.getD_eq_getElem?_getD,List.getElem?_eq_getElem (by omega)]
  exact List.mem_take_iff_getElem.2 ⟨j,by omega,rfl⟩
 have hg:∀ j (hj:j<d.regs.length),d.regs.getD j reg0=d.regs[j]:=fun j hj=>by rw [List.getD_eq_getElem?_getD,List.getElem?_eq_getElem hj]; rfl
 refine ⟨fun r hr'=>?_,fun r hr' x hx hn=>?_,fun x hx=>?_,fun h0=>?_⟩
 ·obtain ⟨j,hj,rfl⟩:=List.getElem_of_mem hr'
  have:=hreg j hj
  rw [hg j hj] at this
  exact ⟨fun h=>this (.inl h),fun h=>this (.inr (.inl h))⟩
 ·obtain ⟨j,hj,rfl⟩:=List.getElem_of_mem hr'
  obtain ⟨k,hk,rfl⟩:=List.getElem_of_mem hx
  rcases Nat.lt_trichotomy j k with hjk | hjk | hjk
  ·have:=hlt j k hjk hk
   rw [hg j hj,hg k hk] at this
   exact absurd hn.symm this
  ·subst hjk; rfl
  ·have:=hlt k j hjk hj
   rw [hg j hj,hg k hk] at this
   exact absurd hn this
 ·obtain ⟨j,hj,rfl⟩:=List.getElem_of_mem hx
  have hz:=fb_all hi j (List.mem_range.2 hj)
  have e2:d.ins.getD j ins0=d.ins[j]:=by rw [List.getD_eq_getElem?_getD,List.getElem?_eq_getElem hj]; rfl
  unfold insE at hz
  rw [e2] at hz
  split at hz
  ·cases hz
  rename_i h6
  exact Classical.byContradiction fun h=>h6 h
 ·have h6:¬ d.id.tmod 2=0:=fun h=>h4 ⟨h0,h⟩
  have h7:=hR.idb
  rw [Int.tmod_eq_emod_of_nonneg h7.1] at h6
  omega
structure PortN (p:Port):Prop where
 r:DevR p.d
 n:DevN p.d
 iD:p.iD=mapD p.d.regs
 iV:p.iV=mapV p.d.regs
def capD (p:Port):Port:={ p with shift:=captV p }
def rstP (p:Port):Port:={ p with instr:=[] }
theorem scan1_dr0 (P:List Port):scan1 ⟨0,P⟩ 4=⟨4,(P.map rstP).map capD⟩:=by
 have hp:pathV 0 4=[48,49,48,48]:=by decide
 unfold scan1
 show walkV nextN ⟨0,P⟩ (pathV 0 4)=_
 rw [hp]
 unfold walkV
 simp only [List.foldl_cons,List.foldl_nil,tickV]
 rw [show nextN 0 (bitM 48)=1 from rfl,show nextN 1 (bitM 49)=2 from rfl,show nextN 2 (bitM 48)=3 from rfl,show nextN 3 (bitM 48)=4 from rfl]
 rw [clock_still (st:=0) rfl,clock_still (st:=1) rfl,clock_still (st:=2) rfl,clock_still (st:=3) rfl]
 simp only [List.map_map]
 congr 1
theorem scan_out {x:ChV} {P:List Port} {l:Bs} (hx:scan1 x 4=⟨4,P⟩) (h:∀ p∈P,0<p.shift.length):scanO x 4 l=(flatS P++l).take l.length:=by
 have e:scanO x 4 l=(List.range l.length).map (fedO 4 P l):=by
  unfold scanO
  rw [hx]
  exact List.map_congr_left fun k hk=>feedO_fed rfl (.inl rfl) (List.mem_range.1 hk)
 obtain ⟨h1,_⟩:=fed_law (st:=4) (l:=l) rfl h l.length (Nat.le_refl _)
 rw [List.take_length] at h1
 rw [e,← h1,List.take_append_of_le_length (by simp),List.take_of_length_le (by simp)]
end Go.Proofs.YtahjohieahehjaaGreatDoor
namespace Go.Proofs.YtahjohieahehjaaGreatDoor
def idTo (l:Bs):Nat→Nat
 | 0=>0
 | k+1=>idTo l k+bitM (l.getD k 0) * 2 ^ k
theorem idTo_lt {l:Bs} (h:∀ i,bitM (l.getD i 0)<2∨l.length≤i):∀ k,k≤l.length→idTo l k<2 ^ k
 | 0,_=>by simp [idTo]
 | k+1,hk=>by
  have h1:=idTo_lt h k (by omega)
  have h2:bitM (l.getD k 0)<2:=(h k).resolve_right (by omega)
  simp only [idTo]
  have h3:bitM (l.getD k 0)=0∨bitM (l.getD k 0)=1:=by omega
  rw [Nat.pow_succ]
  rcases h3 with e | e <;> rw [e] <;> omega
def identF (s:Bs):Nat→List Nat→Nat→List Nat × Nat × Int
 | 0,_,_=>([],0,8)
 | f+1,out,k =>
  if s.length≤k then ([],0,8)
  else if s.getD k 0=48 then identF s f (out++[0]) (k+1)
  else if s.length - k<32 then ([],0,9)
  else if idTo (s.drop k) 32=4294967295 then (if 20<out.length then ([],0,2) else (out,k,0))
  else identF s f (out++[idTo (s.drop k) 32]) (k+32)
def identV (s:Bs):List Nat × Nat × Int:=identF s (s.length+1) [] 0
theorem identF_len (s:Bs):∀ f out k,out.length≤k→k≤s.length→(identF s f out k).1.length≤s.length
 | 0,out,k,h,h2=>by simp [identF]
 | f+1,out,k,h,h2=>by
  unfold identF
  split
  ·simp
  ·split
   ·exact identF_len s f _ _ (by simp; omega) (by omega)
   ·split
    ·simp
    ·split
     ·split
      ·simp
      ·simp only; omega
     ·exact identF_len s f _ _ (by simp; omega) (by omega)
theorem idTo_idBits (n:Nat):∀ k,k≤32→∀ t,idTo (idBits (n:Nat)++t) k=n % 2 ^ k
 | 0,_,t=>by simp [idTo,Nat.mod_one]
 | k+1,hk,t=>by
  simp only [idTo]
  rw [idTo_idBits n k (by omega) t]
  have e:(idBits (n:Nat)++t).getD k 0=UInt8.ofNat (48+(n >>> k) % 2):=by
   rw [List.getD_eq_getElem?_getD,List.getElem?_append_left (by rw [idBits_len]; omega)]
   unfold idBits
   rw [List.getElem?_map,List.getElem?_range (by omega)]
   simp
  have e2:bitM (UInt8.ofNat (48+(n >>> k) % 2))=(n >>> k) % 2:=by
   rcases Nat.mod_two_eq_zero_or_one (n >>> k) with h | h <;> rw [h] <;> decide
  rw [e,e2,Nat.mod_pow_succ,Nat.shiftRight_eq_div_pow,Nat.mul_comm]
theorem idTo_ones (m:Nat) (h:32≤m):idTo (List.replicate m 49) 32=4294967295:=by
 have e:∀ k,k<32→(List.replicate m (49:UInt8)).getD k 0=49:=fun k hk=>by
  rw [List.getD_eq_getElem?_getD,List.getElem?_replicate,if_pos (by omega)]; rfl
 have key:∀ k,k≤32→idTo (List.replicate m 49) k=2 ^ k - 1:=by
  intro k
  induction k with
  | zero=>intro _; rfl
  | succ k ih =>
   intro hk
   simp only [idTo]
   rw [ih (by omega),e k (by omega)]
   have:bitM 49=1:=by decide
   rw [this,Nat.pow_succ]
   have:=Nat.two_pow_pos k
   omega
 exact key 32 (by omega)
def pieceV (n:Nat):Bs:=if n=0 then [48] else idBits (n:Nat)
def piecesV:List Nat→Bs
 | []=>[]
 | n::r=>pieceV n++piecesV r
theorem getD_app (a b:Bs) (i:Nat):(a++b).getD (a.length+i) 0=b.getD i 0:=by
 rw [List.getD_eq_getElem?_getD,List.getD_eq_getElem?_getD,List.getElem?_append_right (by omega),Nat.add_sub_cancel_left]
theorem ident_pieces (m:Nat) (hm:32≤m) (s:Bs):∀ (E:List Nat) (pre:Bs) (out:List Nat) (f:Nat),(∀ n∈E,n=0∨(n % 2=1∧n<4294967295))→s=pre++(piecesV E++List.replicate m 49)→(piecesV E).length<f→out.length+E.length≤20 →
  identF s f out pre.length=(out++E,pre.length+(piecesV E).length,0)
 | [],pre,out,f,hE,hs,hf,ho=>by
  obtain ⟨f,rfl⟩:∃ g,f=g+1:=⟨f - 1,by omega⟩
  simp only [piecesV,List.nil_append,List.length_nil,Nat.add_zero,List.append_nil] at *
  have hg:s.getD pre.length 0=49:=by
   rw [hs]
   have:=getD_app pre (List.replicate m 49) 0
   rw [Nat.add_zero] at this
   rw [this,List.getD_eq_getElem?_getD,List.getElem?_replicate,if_pos (by omega)]
   rfl
  have hl:s.length=pre.length+m:=by rw [hs]; simp
  have hd:s.drop pre.length=List.replicate m 49:=by rw [hs]; simp
  unfold identF
  rw [if_neg (by omega),hg,if_neg (by decide),if_neg (by omega),hd,idTo_ones m hm,if_pos rfl,if_neg (by omega)]
 | n::E,pre,out,f,hE,hs,hf,ho=>by
  obtain ⟨f,rfl⟩:∃ g,f=g+1:=⟨f - 1,by omega⟩
  have hE':∀ x∈E,x=0∨(x % 2=1∧x<4294967295):=fun x hx=>hE x (List.mem_cons_of_mem _ hx)
  have hl:s.length=pre.length+((pieceV n++piecesV E).length+m):=by rw [hs]; simp [piecesV]; omega
  have hp0:0<(pieceV n).length:=by
   unfold pieceV
   split
   ·simp
   ·rw [idBits_len]; omega
  simp only [piecesV,List.length_append,List.length_cons] at hl hf ho ⊢
  have hs2:s=(pre++pieceV n)++(piecesV E++List.replicate m 49):=by rw [hs]; simp [piecesV]
  have hd:s.drop pre.length=pieceV n++(piecesV E++List.replicate m 49):=by rw [hs]; simp [piecesV]
  have hg:s.getD pre.length 0=(pieceV n++(piecesV E++List.replicate m 49)).getD 0 0:=by
   rw [← hd]
   rw [List.getD_eq_getElem?_getD,List.getD_eq_getElem?_getD,List.getElem?_drop,Nat.add_zero]
  unfold identF
  rw [if_neg (by omega),hg]
  rcases hE n List.mem_cons_self with h0 | ⟨h1,h2⟩
  ·have e:pieceV n=[48]:=by unfold pieceV; rw [if_pos h0]
   rw [e]
   simp only [List.cons_append,List.getD_cons_zero]
   rw [if_pos trivial]
   have ih:=ident_pieces m hm s E (pre++pieceV n) (out++[0]) f hE' hs2 (by rw [e] at hf; simp at hf; omega) (by simp; omega)
   rw [e] at ih
   simp only [List.length_append,List.length_singleton] at ih
   rw [ih,h0]
   simp [Nat.add_assoc]
  ·have hn0:¬ n=0:=by omega
   have e:pieceV n=idBits (n:Nat):=by unfold pieceV; rw [if_neg hn0]
   have el:(pieceV n).length=32:=by rw [e,idBits_len]
   have e0:(pieceV n++(piecesV E++List.replicate m 49)).getD 0 0=49:=by
    rw [e]
    unfold idBits
    simp only [List.range_succ_eq_map,List.map_cons,List.cons_append,List.getD_cons_zero]
    have:((n:Int).toNat >>> 0) % 2=1:=by simpa using h1
    rw [this]
    decide
   rw [e0,if_neg (by decide),if_neg (by omega),hd,e,idTo_idBits n 32 (Nat.le_refl _) _,Nat.mod_eq_of_lt (by omega),if_neg (by omega)]
   have ih:=ident_pieces m hm s E (pre++pieceV n) (out++[n]) f hE' hs2 (by omega) (by simp; omega)
   simp only [List.length_append,el] at ih
   rw [ih,← e,el]
   simp [Nat.add_assoc]
theorem pieces_app (A B:List Nat):piecesV (A++B)=piecesV A++piecesV B:=by
 induction A with
 | nil=>rfl
 | cons n A ih=>simp only [List.cons_append,piecesV,ih,List.append_assoc]
def longTo (I:List Nat) (k:Nat):Nat:=(piecesV (I.take k)).length
theorem longTo_succ {I:List Nat} {k:Nat} (hk:k<I.length):longTo I (k+1)=longTo I k+(if I.getD k 0=0 then 1 else 32):=by
 unfold longTo
 rw [List.take_add_one,List.getElem?_eq_getElem hk,Option.toList_some,pieces_app,List.length_append]
 congr 1
 rw [List.getD_eq_getElem?_getD,List.getElem?_eq_getElem hk]
 show (pieceV I[k]++[]).length=if I[k]=0 then 1 else 32
 rw [List.append_nil]
 unfold pieceV
 split
 ·rfl
 ·rw [idBits_len]
theorem pieces_len_rev:∀ (I:List Nat),(piecesV I.reverse).length=(piecesV I).length
 | []=>rfl
 | n::I=>by
  rw [List.reverse_cons,pieces_app,List.length_append,pieces_len_rev I]
  simp only [piecesV,List.append_nil,List.length_append]
  omega
theorem pieces_le:∀ (I:List Nat),(piecesV I).length≤32 * I.length
 | []=>by simp [piecesV]
 | n::I=>by
  have:=pieces_le I
  have h:(pieceV n).length≤32:=by
   unfold pieceV
   split
   ·simp
   ·rw [idBits_len]; omega
  simp only [piecesV,List.length_append,List.length_cons]
  omega
def idsV (D:List Dev):List Nat:=D.map fun d=>d.id.toNat
theorem capt_rst {p:Port} (h:PortN p):captV (rstP p)=pieceV p.d.id.toNat:=by
 have hid0:regIs p.d idL=decide (p.d.id≠0):=by
  have h1:ownB p.d idL=false:=by
   unfold ownB
   rw [List.any_eq_false]
   intro r hr
   simp only [beq_iff_eq]
   exact (h.n.nb r hr).2
  unfold regIs
  rw [h1]
  have:decide (idL=byL)=false:=by decide
  rw [this]
  simp
 have hb:=h.r.idb
 unfold captV
 rw [show (rstP p).instr=[] from rfl,show (rstP p).d=p.d from rfl]
 by_cases hz:p.d.id=0
 ·have hs:selP p.d []=(byL,1):=by
   unfold selP
   rw [if_pos rfl,hid0]
   simp [hz]
  rw [hs,if_pos rfl,hz]
  rfl
 ·have hs:selP p.d []=(idL,32):=by
   unfold selP
   rw [if_pos rfl,hid0]
   simp [hz,regOf]
   decide
  rw [hs,if_neg (by decide),if_pos rfl]
  unfold pieceV
  rw [if_neg (by omega),Int.toNat_of_nonneg hb.1]
theorem flat_rst:∀ {P:List Port},(∀ p∈P,PortN p)→flatS ((P.map rstP).map capD)=piecesV (P.map fun p=>p.d.id.toNat).reverse
 | [],_=>rfl
 | p::P,h=>by
  simp only [List.map_cons,flatS,List.reverse_cons]
  rw [pieces_app,flat_rst (P:=P) fun q hq=>h q (List.mem_cons_of_mem _ hq)]
  show _++captV (rstP p)=_++(pieceV p.d.id.toNat++[])
  rw [List.append_nil,capt_rst (h p List.mem_cons_self)]
theorem portsK_N {D:List Dev} (he:devsE D=0) (f:(Nat→Bool) × (Nat→Bool)):∀ p∈portsK D f D.length,PortN p:=fun p hp=>by
 unfold portsK at hp
 obtain ⟨j,hj,rfl⟩:=List.mem_map.1 hp
 have hj':=List.mem_range.1 hj
 have hm:D.getD j dev0∈D:=by rw [List.getD_eq_getElem?_getD,List.getElem?_eq_getElem hj']; exact List.getElem_mem _
 exact ⟨devR_of he _ hm,devN_of he _ hm,rfl,rfl⟩
theorem portsK_ids (D:List Dev) (f:(Nat→Bool) × (Nat→Bool)):(portsK D f D.length).map (fun p=>p.d.id.toNat)=idsV D:=by
 unfold portsK idsV
 rw [List.map_map]
 refine List.ext_getElem (by simp) fun i h1 h2=>?_
 have hi:i<D.length:=by simpa using h1
 simp [port0,List.getElem?_eq_getElem hi]
theorem ident_law {D:List Dev} (he:devsE D=0) (hD:D.length≤20) (f:(Nat→Bool) × (Nat→Bool)) (hno:∀ d∈D,¬ d.id=4294967295) :
  identV (scanO ⟨0,portsK D f D.length⟩ 4 (List.replicate (32 * D.length+32) 49))=((idsV D).reverse,longTo (idsV D) D.length,0):=by
 have hN:=portsK_N he f
 have hpos:∀ p∈((portsK D f D.length).map rstP).map capD,0<p.shift.length:=fun p hp=>by
  obtain ⟨q,hq,rfl⟩:=List.mem_map.1 hp
  obtain ⟨r,hr,rfl⟩:=List.mem_map.1 hq
  have h1:(capD (rstP r)).shift=pieceV r.d.id.toNat:=capt_rst (hN r hr)
  rw [h1]
  unfold pieceV
  split
  ·simp
  ·rw [idBits_len]; omega
 rw [scan_out (scan1_dr0 _) hpos,flat_rst hN,portsK_ids,List.length_replicate]
 have hle:=pieces_le (idsV D)
 have hrl:=pieces_len_rev (idsV D)
 have hil:(idsV D).length=D.length:=by simp [idsV]
 have e:(piecesV (idsV D).reverse++List.replicate (32 * D.length+32) (49:UInt8)).take (32 * D.length+32)=[]++(piecesV (idsV D).reverse++List.replicate (32 * D.length+32 - (piecesV (idsV D)).length) 49):=by
  rw [List.take_append,List.take_of_length_le (by omega),List.take_replicate,hrl,List.nil_append,Nat.min_eq_left (by omega)]
 rw [e]
 unfold identV
 have hE:∀ n∈(idsV D).reverse,n=0∨(n % 2=1∧n<4294967295):=fun n hn=>by
  rw [List.mem_reverse] at hn
  obtain ⟨d,hd,rfl⟩:=List.mem_map.1 hn
  have h1:=(devR_of he d hd).idb
  have h2:=(devN_of he d hd).io
  have h3:=hno d hd
  by_cases hz:d.id=0
  ·exact .inl (by simp [hz])
  ·have:=h2 hz
   exact .inr (by omega)
 obtain ⟨s,hs⟩:∃ s,s=[]++(piecesV (idsV D).reverse++List.replicate (32 * D.length+32 - (piecesV (idsV D)).length) (49:UInt8)):=⟨_,rfl⟩
 rw [← hs]
 have hsl:(piecesV (idsV D)).length<s.length+1:=by rw [hs]; simp; omega
 have h:=ident_pieces (32 * D.length+32 - (piecesV (idsV D)).length) (by omega) s (idsV D).reverse [] [] (s.length+1) hE hs (by omega) (by simp; omega)
 simp only [List.length_nil,Nat.zero_add,List.nil_append] at h
 rw [h,hrl]
 unfold longTo
 rw [← hil,List.take_length]
end Go.Proofs.YtahjohieahehjaaGreatDoor
namespace Go.Proofs.YtahjohieahehjaaGreatDoor
open Go.RowKit
theorem snocN (l:List Nat) (x:Nat) (xi:Int) (hx:xi=x):∀ j,j<l.length+1→(if j<l.length then ((l.getD j 0:Nat):Int) else [xi].getD (j - l.length) 0)=(((l++[x]).getD j 0:Nat):Int):=by
 intro j hj
 by_cases h:j<l.length
 ·rw [if_pos h,List.getD_eq_getElem?_getD,List.getD_eq_getElem?_getD,List.getElem?_append_left h]
 ·have e:j=l.length:=by omega
  subst e
  rw [if_neg h,Nat.sub_self,List.getD_eq_getElem?_getD (l:=l++[x]),List.getElem?_append_right (Nat.le_refl _),Nat.sub_self,hx]
  rfl
theorem idStep (a b i:Nat) (ha:a<2 ^ i) (hb:b<2) (hi:i<32):IntKind.i64.wrap ((BitVec.ofInt IntKind.i64.bits ((a:Nat):Int) ||| BitVec.ofInt IntKind.i64.bits (IntKind.i64.wrap (((b:Nat):Int) * 2 ^ (min i IntKind.i64.bits)))).toNat:Int)=((a+b * 2 ^ i:Nat):Int):=by
 have e:min i IntKind.i64.bits=i:=Nat.min_eq_left (by show i≤64; omega)
 have hp:(2:Nat) ^ i<2147483649:=by
  have:=Nat.pow_lt_pow_right (a:=2) (by omega) (show i<32 from hi)
  have:=Nat.pow_le_pow_right (n:=2) (by omega) (show i≤31 by omega)
  omega
 have hbp:b * 2 ^ i<2147483649:=by
  rcases (by omega:b=0∨b=1) with rfl | rfl <;> omega
 have e2:(((b:Nat):Int) * 2 ^ i)=((b * 2 ^ i:Nat):Int):=by push_cast; rfl
 rw [e,e2,i64_nat (a:=b * 2 ^ i) (by omega),or64 a (b * 2 ^ i) (by omega) (by omega)]
 congr 1
 have:=Nat.shiftLeft_add_eq_or_of_lt ha b
 rw [Nat.shiftLeft_eq] at this
 rw [Nat.or_comm,← this,Nat.add_comm]
set_option maxHeartbeats 4000000 in
theorem identify_c (s:Bs) (nid:Nat) (hs:s.length≤1099511627776) (hf:bitsFaultV s=0) :
  ACall Tryz.prog 21 [.str s] [] nid (.tup [.sl nid 0 (identV s).1.length,.int .i64 ((identV s).2.1:Nat),.int .i64 (identV s).2.2]) [(nid,some (.arr 3 (identV s).1.length [.i .i64 fun i=>((identV s).1.getD i 0:Nat)]))]:=by
 obtain ⟨hbits,hsl⟩:=bits_ok hf
 refine acall_sr c21 (by simp [a21]) ?_
 unfold a21
 refine SR.seq ?_
 simp -dsimp only [aqA,↓seqK,↓blkK,↓loopK,step,stepBin,eqB,Nat.add_assoc nid,↓reduceIte,simprocAttr,LN_succ]
 refine SR.seqTo ⟨[(0,.str s)],[],nid+20,nid⟩ ?_ ?_
 ·simp -dsimp only [aqA,↓seqK,↓blkK,↓loopK,step,stepBin,eqB,Nat.add_assoc nid,↓reduceIte,simprocAttr,LN_succ]
  refine CallO.pure (bitsFaultT_c s _ hs) ?_
  rw [hf]
  simp -dsimp only [aqA,↓seqK,↓blkK,↓loopK,step,stepBin,eqB,Nat.add_assoc nid,↓reduceIte,simprocAttr,LN_succ]
  refine Cov.go [] [] ?_
  simp [cvT,step,res]
 refine SR.seq ?_
 simp -dsimp only [aqA,↓seqK,↓blkK,↓loopK,step,stepBin,eqB,Nat.add_assoc nid,↓reduceIte,simprocAttr,LN_succ]
 refine SR.seqW (ι:={_x:Unit // identV s=([],0,8)}) (fun _=>⟨[],[],nid+9000,nid⟩) ?_ (fun ⟨_,he⟩=>?_)
 ·refine SR.seq ?_
  simp -dsimp only [aqA,↓seqK,↓blkK,↓loopK,step,stepBin,eqB,Nat.add_assoc nid,↓reduceIte,simprocAttr,LN_succ]
  refine SR.block ?_
  refine SR.loopP (fun z:Nat × List Nat × Nat=>(z.2.1.length≤z.2.2∧z.2.2≤s.length∧s.length<z.2.2+z.1)∧identF s z.1 z.2.1 z.2.2=identV s) (fun z=>⟨[(7,.int .i64 (z.2.2:Nat)),(6,.sl (nid+300) 0 z.2.1.length),(0,.str s)],[(nid+300,some (.arr 3 z.2.1.length [.i .i64 fun i=>(z.2.1.getD i 0:Nat)]))],nid+400,nid⟩) (fun z=>z.1) (s.length+1,[],0) ⟨⟨by simp,by simp,by simp⟩,rfl⟩ ?_ (fun ⟨f,out,k⟩ hz=>?_)
  ·refine Cov.go [] [(nid+300,1)] ?_
   simp [cvT,step,res,ColsEq.refl]
  obtain ⟨⟨hz1,hz2,hz3⟩,hz4⟩:=hz
  simp only at hz1 hz2 hz3 hz4 ⊢
  obtain ⟨g,rfl⟩:∃ g,f=g+1:=⟨f - 1,by omega⟩
  unfold identF at hz4
  refine SR.seq ?_
  simp -dsimp only [aqA,↓seqK,↓blkK,↓loopK,step,stepBin,eqB,Nat.add_assoc nid,↓reduceIte,simprocAttr,LN_succ]
  refine S2.dec (fun h3=>?_) (fun h3=>?_) <;> simp -dsimp only [aqA,↓seqK,↓blkK,↓loopK,step,stepBin,eqB,Nat.add_assoc nid,↓reduceIte,simprocAttr,LN_succ]
  ·have hkl:k<s.length:=by omega
   rw [if_neg (by omega)] at hz4
   have hb:=bits_at hbits hkl
   refine SR.block ?_
   have e8:((((s.getD k 0).toNat:Nat):Int)==48)=decide (s.getD k 0=48):=by
    rcases (by unfold oneBit at hb; simpa using hb:s.getD k 0=48∨s.getD k 0=49) with h | h <;> rw [h] <;> rfl
   have hbO:=fun i (hi:k+i<s.length)=>bits_at hbits (k:=k+i) hi
   have hltA:=idTo_lt (l:=s.drop k) (fun j=>by
    rcases Nat.lt_or_ge j (s.drop k).length with hj | hj
    ·rw [List.length_drop] at hj
     have:=hbO j (by omega)
     left
     rw [List.getD_eq_getElem?_getD,List.getElem?_drop,← List.getD_eq_getElem?_getD]
     exact (bitM_lt this).1
    ·exact .inr hj)
   by_cases h0:s.getD k 0=48
   ·rw [decide_eq_true h0] at e8
    rw [if_pos h0] at hz4
    refine SR.run (t:=.mk) ?_
    simp -dsimp only [aqA,↓seqK,↓blkK,↓loopK,step,stepBin,eqB,Nat.add_assoc nid,↓reduceIte,simprocAttr,LN_succ,e8]
    refine ⟨⟨by omega,by omega⟩,⟨by omega,by omega⟩,by unfold inI64; omega,(g,out++[0],k+1),⟨⟨⟨by simp only [List.length_append,List.length_singleton]; omega,by simp only; omega,by simp only; omega⟩,hz4⟩,by simp only; omega⟩,Cov.go [(nid+300,nid+440)] [] ?_⟩
    simp [cvT,step,res,ColsEq.refl,-List.getD_eq_getElem?_getD]
    exact ColEq.i fun j hj=>snocN out 0 0 rfl j hj
   rw [decide_eq_false h0] at e8
   rw [if_neg h0] at hz4
   refine SR.seqTo ⟨[(7,.int .i64 (k:Nat)),(6,.sl (nid+300) 0 out.length),(0,.str s)],[(nid+300,some (.arr 3 out.length [.i .i64 fun i=>(out.getD i 0:Nat)]))],nid+500,nid⟩ ?_ ?_
   ·simp -dsimp only [aqA,↓seqK,↓blkK,↓loopK,step,stepBin,eqB,Nat.add_assoc nid,↓reduceIte,simprocAttr,LN_succ,e8]
    refine ⟨⟨by omega,by omega⟩,?_⟩
    refine Cov.go [] [] ?_
    simp [cvT,step,res,ColsEq.refl]
   refine SR.seqEx (ι:={_x:Unit // 32≤s.length - k}) (fun _=>⟨[(7,.int .i64 (k:Nat)),(6,.sl (nid+300) 0 out.length),(0,.str s)],[(nid+300,some (.arr 3 out.length [.i .i64 fun i=>(out.getD i 0:Nat)]))],nid+600,nid⟩) ?_ (fun ⟨_,h32⟩=>?_)
   ·simp -dsimp only [aqA,↓seqK,↓blkK,↓loopK,step,stepBin,eqB,Nat.add_assoc nid,↓reduceIte,simprocAttr,LN_succ]
    refine ⟨by unfold inI64; omega,?_⟩
    refine S2.dec (fun h4=>?_) (fun h4=>?_) <;> simp -dsimp only [aqA,↓seqK,↓blkK,↓loopK,step,stepBin,eqB,Nat.add_assoc nid,↓reduceIte,simprocAttr,LN_succ]
    ·rw [if_pos (by omega)] at hz4
     rw [← hz4]
     refine RetOK.go [] [(nid,1)] (.inl rfl) ?_
     simp [a21,cvT,step,res]
    ·refine ⟨⟨(),by omega⟩,Cov.go [] [] ?_⟩
     simp [cvT,step,res,ColsEq.refl]
   rw [if_neg (by omega)] at hz4
   refine SR.seq ?_
   simp -dsimp only [aqA,↓seqK,↓blkK,↓loopK,step,stepBin,eqB,Nat.add_assoc nid,↓reduceIte,simprocAttr,LN_succ]
   refine SR.seqW (ι:=Unit) (fun _=>⟨[(8,.int .i64 (idTo (s.drop k) 32:Nat)),(7,.int .i64 (k:Nat)),(6,.sl (nid+300) 0 out.length),(0,.str s)],[(nid+300,some (.arr 3 out.length [.i .i64 fun i=>(out.getD i 0:Nat)]))],nid+2000,nid⟩) ?_ (fun _=>?_)
   ·refine SR.seq ?_
    simp -dsimp only [aqA,↓seqK,↓blkK,↓loopK,step,stepBin,eqB,Nat.add_assoc nid,↓reduceIte,simprocAttr,LN_succ]
    refine SR.block ?_
    refine SR.loopP (fun i:Nat=>i≤32) (fun i=>⟨[(33,.int .i64 (i:Nat)),(8,.int .i64 (idTo (s.drop k) i:Nat)),(7,.int .i64 (k:Nat)),(6,.sl (nid+300) 0 out.length),(0,.str s)],[(nid+300,some (.arr 3 out.length [.i .i64 fun i=>(out.getD i 0:Nat)]))],nid+1000,nid⟩) (fun i=>33 - i) 0 (by omega) ?_ (fun i hi=>?_)
    ·refine Cov.go [] [] ?_
     simp [cvT,step,res,idTo,ColsEq.refl]
    refine SR.run (t:=.mk) ?_
    simp -dsimp only [aqA,↓seqK,↓blkK,↓loopK,step,stepBin,eqB,Nat.add_assoc nid,↓reduceIte,simprocAttr,LN_succ]
    refine S2.dec (fun h4=>?_) (fun h4=>?_) <;> simp -dsimp only [aqA,↓seqK,↓blkK,↓loopK,step,stepBin,eqB,Nat.add_assoc nid,↓reduceIte,simprocAttr,LN_succ]
    ·have hi32:i<32:=by omega
     have hb2:=hbO i (by omega)
     have hg:(s.drop k).getD i 0=s.getD (k+i) 0:=by rw [List.getD_eq_getElem?_getD,List.getD_eq_getElem?_getD,List.getElem?_drop]
     have hlt:=hltA i (by rw [List.length_drop]; omega)
     have hst:=idStep (idTo (s.drop k) i) (bitM (s.getD (k+i) 0)) i hlt (bitM_lt hb2).1 hi32
     have hw:=bitW8 hb2
     have e:((k:Int)+(i:Int)).toNat=k+i:=by omega
     have e3:idTo (s.drop k) (i+1)=idTo (s.drop k) i+bitM (s.getD (k+i) 0) * 2 ^ i:=by rw [← hg]; rfl
     rw [e,hw,hst]
     refine ⟨by unfold inI64; omega,⟨by omega,by omega⟩,by omega,by unfold inI64; omega,i+1,⟨by omega,by omega⟩,Cov.go [] [] ?_⟩
     rw [e3]
     simp [cvT,step,res,ColsEq.refl,-List.getD_eq_getElem?_getD]
    ·have hi32:i=32:=by omega
     subst hi32
     refine ⟨(),Cov.go [] [] ?_⟩
     simp [cvT,step,res,ColsEq.refl]
   have h33:idTo (s.drop k) 32<4294967296:=hltA 32 (by rw [List.length_drop]; omega)
   refine SR.run (t:=.mk) ?_
   have e9:(((idTo (s.drop k) 32:Nat):Int)==4294967295)=decide (idTo (s.drop k) 32=4294967295):=by rw [Bool.eq_iff_iff]; simp; omega
   by_cases h5:idTo (s.drop k) 32=4294967295
   ·rw [decide_eq_true h5] at e9
    rw [if_pos h5] at hz4
    simp -dsimp only [aqA,↓seqK,↓blkK,↓loopK,step,stepBin,eqB,Nat.add_assoc nid,↓reduceIte,simprocAttr,LN_succ,e9]
    refine S2.dec (fun h4=>?_) (fun h4=>?_) <;> simp -dsimp only [aqA,↓seqK,↓blkK,↓loopK,step,stepBin,eqB,Nat.add_assoc nid,↓reduceIte,simprocAttr,LN_succ]
    ·rw [if_pos (by omega)] at hz4
     rw [← hz4]
     refine RetOK.go [] [(nid,1)] (.inl rfl) ?_
     simp [a21,cvT,step,res]
    ·rw [if_neg (by omega)] at hz4
     rw [← hz4]
     refine RetOK.go [(nid,nid+300)] [] (.inl rfl) ?_
     simp [a21,cvT,step,res,ColsEq.refl]
   ·rw [decide_eq_false h5] at e9
    rw [if_neg h5] at hz4
    simp -dsimp only [aqA,↓seqK,↓blkK,↓loopK,step,stepBin,eqB,Nat.add_assoc nid,↓reduceIte,simprocAttr,LN_succ,e9]
    refine ⟨⟨by omega,by omega⟩,by unfold inI64; omega,(g,out++[idTo (s.drop k) 32],k+32),⟨⟨⟨by simp only [List.length_append,List.length_singleton]; omega,by simp only; omega,by simp only; omega⟩,hz4⟩,by simp only; omega⟩,Cov.go [(nid+300,nid+2020)] [] ?_⟩
    simp [cvT,step,res,ColsEq.refl,-List.getD_eq_getElem?_getD]
    exact ColEq.i fun j hj=>snocN out (idTo (s.drop k) 32) _ rfl j hj
  ·rw [if_pos (by omega)] at hz4
   refine ⟨⟨(),hz4.symm⟩,Cov.go [] [] ?_⟩
   simp [cvT,step,res]
 rw [he]
 refine SR.run (t:=.mk) ?_
 simp -dsimp only [aqA,↓seqK,↓blkK,↓loopK,step,stepBin,eqB,Nat.add_assoc nid,↓reduceIte,simprocAttr,LN_succ]
 refine RetOK.go [] [(nid,1)] (.inl rfl) ?_
 simp [a21,cvT,step,res]
end Go.Proofs.YtahjohieahehjaaGreatDoor
namespace Go.Proofs.YtahjohieahehjaaGreatDoor
end Go.Proofs.YtahjohieahehjaaGreatDoor
namespace Go.Proofs.YtahjohieahehjaaGreatDoor
open Go.RowKit
end Go.Proofs.YtahjohieahehjaaGreatDoor
