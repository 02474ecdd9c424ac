/-
 A device that the stream spoils at one place,by the abstract machine.
-/
import Derived.Test.YtahjohieahehjaaGreatDoorKCC6
import Derived.Test.YtahjohieahehjaaGreatDoorKCC3
import Derived.Lib.SlTrimSet
import Derived.Test.YtahjohieahehjaaGreatDoorKCC4
import Derived.Test.YtahjohieahehjaaGreatDoorKCC5
set_option linter.unusedVariables false
set_option linter.unusedSimpArgs false
set_option linter.unusedSectionVars false
set_option maxRecDepth 100000
namespace Go.Proofs.YtahjohieahehjaaGreatDoor
open Go.RowKit
structure DevOk (d:Dev):Prop where
 nm:d.name.length≤10
 lg : -1099511627776≤d.long∧d.long≤1099511627776
 idb : -1099511627776≤d.id∧d.id≤1099511627776
 rl:d.regs.length≤2
 rs:∀ x∈d.regs,x.1.length≤10 ∧ -1099511627776≤x.2∧x.2≤1099511627776
 il:d.ins.length≤3
 is:∀ x∈d.ins,x.1.length≤10∧x.2.length≤10
theorem DevG.ok {d:Dev} (h:DevG d):DevOk d:=⟨by have:=h.nm; omega,by have:=h.lg; omega,by have:=h.idb; omega,h.rl,fun x hx=>by have:=h.rs x hx; omega,h.il,h.is⟩
theorem getD_setD (D:List Dev) {I:Nat} (d:Dev) (hI:I<D.length) (j:Nat):(D.set I d).getD j dev0=if j=I then d else D.getD j dev0:=by
 rw [List.getD_eq_getElem?_getD,List.getElem?_set]
 by_cases h:j=I
 ·subst h; simp [hI]
 ·rw [if_neg (fun e=>h e.symm),if_neg h,← List.getD_eq_getElem?_getD]
theorem nm3 {a:Bs} (h:a.length≤10):∀ x∈[a,[],[117,49]],x.length≤10:=fun x hx=>by
 simp only [List.mem_cons,List.not_mem_nil,or_false] at hx
 rcases hx with rfl | rfl | rfl
 ·exact h
 ·decide
 ·decide
theorem nm4 {a:Bs} (h:a.length≤10):∀ x∈[a,[98,121,112,97,115,115],[100,97,116,97],[65]],x.length≤10:=fun x hx=>by
 simp only [List.mem_cons,List.not_mem_nil,or_false] at hx
 rcases hx with rfl | rfl | rfl | rfl
 ·exact h
 all_goals decide
theorem set_proj {β:Type} (f:Dev→β) {D:List Dev} {I:Nat} {d d':Dev} (hI:I<D.length) (hd:D.getD I dev0=d) (hf:f d'=f d) (j:Nat):f ((D.set I d').getD j dev0)=f (D.getD j dev0):=by
 rw [getD_setD D d' hI]
 by_cases e:j=I
 ·rw [if_pos e,hf,e,hd]
 ·rw [if_neg e]
theorem nm5 {a b:Bs} (h:a.length≤10) (h2:b.length≤10):∀ x∈[a,b,[48],[48,120]],x.length≤10:=fun x hx=>by
 simp only [List.mem_cons,List.not_mem_nil,or_false] at hx
 rcases hx with rfl | rfl | rfl | rfl
 ·exact h
 ·exact h2
 all_goals decide
theorem nm6 {a:Bs} (h:a.length≤10):∀ x∈[a,[105,100,99,111,100,101],[122,122]],x.length≤10:=fun x hx=>by
 simp only [List.mem_cons,List.not_mem_nil,or_false] at hx
 rcases hx with rfl | rfl | rfl
 ·exact h
 all_goals decide
structure SpD where
 D:List Dev
 q:Nat
def spPost (D:List Dev) (q:Nat) (x:SpD):Prop:=x.D.length=D.length∧(∀ d∈x.D,DevOk d)∧x.q≤q+8
abbrev SpEnd (s nid q:Nat) (nl:Bool) (A:List Int) (D:List Dev) (e:AEx) (st:ST):Prop:=∃ x:SpD,spPost D q x∧RetOK a58.res ([(s,strmC nl A q)]++devHs nid D) (nid+200) (.tup []) ([(s,strmC nl A x.q)]++devHs nid x.D) e st
def spST (s nid q1:Nat) (nl:Bool) (A:List Int) (D:List Dev) (I k:Nat):ST:=⟨[(7,.int .i64 k),(0,.ptr s 0),(1,.arp (nid+24) I 0)],[(s,strmC nl A q1)]++devHs nid D,nid+300,nid+200⟩
set_option maxHeartbeats 16000000 in
theorem spoil_0 (s nid:Nat) (nl:Bool) (A:List Int) (q I:Nat) (D:List Dev) (h:s<nid) (hq:q≤1099500002000) (hA:A.length≤17592186044416) (hI:I<D.length) (hD:D.length≤3) (hG:∀ d∈D,DevG d) :
  SR Tryz.prog (dropV 1 a58.body) (spST s nid (q+1) nl A D I 0) (SpEnd s nid q nl A D) .mk:=by
 obtain ⟨e1,e2,e3,e4,e5,e6,e7,e8,e9⟩:=id_all h
 simp only [a58,dropV]
 unfold spST
 have hmem:D.getD I dev0∈D:=by rw [List.getD_eq_getElem?_getD,List.getElem?_eq_getElem hI]; exact List.getElem_mem _
 have hgI:=hG _ hmem
 have hset:∀ d,DevOk d→∀ x∈D.set I d,DevOk x:=fun d hd x hx=>by
  rcases List.mem_or_eq_of_mem_set hx with hx | rfl
  ·exact (hG x hx).ok
  ·exact hd
 have hsl:∀ d,(D.set I d).length=D.length:=fun d=>List.length_set
 have hsg:=fun d j=>getD_setD D (I:=I) d hI j
 refine SR.run (t:=.mk) ?_
 unfold devHs arrD
 simp -dsimp only [aqA,↓seqK,↓blkK,↓loopK,step,stepBin,eqB,Nat.add_assoc nid,simprocAttr,LN_succ,e1,e2,e3,e4,e5,e6,e7,e8,e9,strmC_low]
 refine CallO.some_go (T:=9) (nl:=nl) (A:=A) (p:=q+1) (g:=fun i=>[(D.getD I dev0).name,[],[117,49]].getD i []) (by simp only [aqA,↓seqK,↓blkK,↓loopK,step,stepBin,eqB,Nat.add_assoc nid,simprocAttr,LN_succ,e1,e2,e3,e4,e5,e6,e7,e8,e9]) (by simp only [aqA,↓seqK,↓blkK,↓loopK,step,stepBin,eqB,Nat.add_assoc nid,simprocAttr,LN_succ,e1,e2,e3,e4,e5,e6,e7,e8,e9]) (by simp only [aqA,↓seqK,↓blkK,↓loopK,step,stepBin,eqB,Nat.add_assoc nid,simprocAttr,LN_succ,e1,e2,e3,e4,e5,e6,e7,e8,e9]) (by omega) (by omega) hA (by omega) (by omega) ?_
 have hb:=getD_all (P:=fun x:Bs=>x.length≤10) (l:=[(D.getD I dev0).name,[],[117,49]]) (d:=[]) (nm3 (by have:=hgI.nm; omega)) (pickI_lt A (q+1) (n:=3) (by omega))
 generalize ([(D.getD I dev0).name,[],[117,49]].getD (pickI A (q+1) 3) []:Bs)=v at hb ⊢
 simp -dsimp only [aqA,↓seqK,↓blkK,↓loopK,step,stepBin,eqB,Nat.add_assoc nid,simprocAttr,LN_succ,e1,e2,e3,e4,e5,e6,e7,e8,e9,strmC_low]
 refine CallO.onE (oddI_c s _ nl A (q+1+1) 2 4 (by omega) (by omega) hA (by omega) (by omega) (by omega)) (subH_get (by simp only [aqA,↓seqK,↓blkK,↓loopK,step,stepBin,eqB,Nat.add_assoc nid,simprocAttr,LN_succ,e1,e2,e3,e4,e5,e6,e7,e8,e9])) (fun w hw=>?_)
 simp -dsimp only [aqA,↓seqK,↓blkK,↓loopK,step,stepBin,eqB,Nat.add_assoc nid,simprocAttr,LN_succ,e1,e2,e3,e4,e5,e6,e7,e8,e9,strmC_low]
 have hok:DevOk { D.getD I dev0 with name:=v,long:=w }:=⟨hb,hw,hgI.ok.idb,hgI.ok.rl,hgI.ok.rs,hgI.ok.il,hgI.ok.is⟩
 have hreg:∀ j,((D.set I { D.getD I dev0 with name:=v,long:=w }).getD j dev0).regs=(D.getD j dev0).regs:=fun j=>by
  rw [hsg]
  by_cases e:j=I
  ·rw [if_pos e,e]
  ·rw [if_neg e]
 have hins:∀ j,((D.set I { D.getD I dev0 with name:=v,long:=w }).getD j dev0).ins=(D.getD j dev0).ins:=fun j=>by
  rw [hsg]
  by_cases e:j=I
  ·rw [if_pos e,e]
  ·rw [if_neg e]
 refine ⟨⟨D.set I { D.getD I dev0 with name:=v,long:=w },q+1+1+2⟩,⟨hsl _,hset _ hok,by simp only; omega⟩,?_⟩
 have hcase:D.length=1∨D.length=2∨D.length=3:=by omega
 have hsl2:=hsl { D.getD I dev0 with name:=v,long:=w }
 have hn1:∀ j,(if j=I then v else (D.getD j dev0).name)=((D.set I { D.getD I dev0 with name:=v,long:=w }).getD j dev0).name:=fun j=>by
  rw [hsg]
  by_cases e:j=I
  ·rw [if_pos e,if_pos e]
  ·rw [if_neg e,if_neg e]
 have hn2:∀ j,(if j=I then w else (D.getD j dev0).long)=((D.set I { D.getD I dev0 with name:=v,long:=w }).getD j dev0).long:=fun j=>by
  rw [hsg]
  by_cases e:j=I
  ·rw [if_pos e,if_pos e]
  ·rw [if_neg e,if_neg e]
 have hn3:∀ j,(D.getD j dev0).id=((D.set I { D.getD I dev0 with name:=v,long:=w }).getD j dev0).id:=fun j=>by
  rw [hsg]
  by_cases e:j=I
  ·rw [if_pos e,e]
  ·rw [if_neg e]
 generalize D.set I { D.getD I dev0 with name:=v,long:=w }=D2 at *
 rcases hcase with hc | hc | hc
 all_goals
  simp only [hsl2,hc,famD,inRg,inIn,hreg,hins,arrRg,arrIn]
  refine RetOK.go [] [] (.inr rfl) ?_
  simp [a58,cvT,step,res,e1,e2,e3,e4,e5,e6,e7,e8,e9,strmC,hn1,hn2,hn3,hreg,hins,hsl2,hc,devHs,famD,inRg,inIn,arrD,arrRg,arrIn,-List.getD_eq_getElem?_getD]
  first | omega | exact ⟨by omega,fun j hj=>by omega,fun j hj=>by omega⟩
set_option maxHeartbeats 16000000 in
theorem spoil_1 (s nid:Nat) (nl:Bool) (A:List Int) (q I:Nat) (D:List Dev) (h:s<nid) (hq:q≤1099500002000) (hA:A.length≤17592186044416) (hI:I<D.length) (hD:D.length≤3) (hG:∀ d∈D,DevG d) :
  SR Tryz.prog (dropV 1 a58.body) (spST s nid (q+1) nl A D I 1) (SpEnd s nid q nl A D) .mk:=by
 obtain ⟨e1,e2,e3,e4,e5,e6,e7,e8,e9⟩:=id_all h
 simp only [a58,dropV]
 unfold spST
 have hmem:D.getD I dev0∈D:=by rw [List.getD_eq_getElem?_getD,List.getElem?_eq_getElem hI]; exact List.getElem_mem _
 have hgI:=hG _ hmem
 have hset:∀ d,DevOk d→∀ x∈D.set I d,DevOk x:=fun d hd x hx=>by
  rcases List.mem_or_eq_of_mem_set hx with hx | rfl
  ·exact (hG x hx).ok
  ·exact hd
 have hsl:∀ d,(D.set I d).length=D.length:=fun d=>List.length_set
 have hsg:=fun d j=>getD_setD D (I:=I) d hI j
 refine SR.run (t:=.mk) ?_
 unfold devHs arrD
 simp -dsimp only [aqA,↓seqK,↓blkK,↓loopK,step,stepBin,eqB,Nat.add_assoc nid,simprocAttr,LN_succ,e1,e2,e3,e4,e5,e6,e7,e8,e9,strmC_low]
 refine CallO.pick_go (T:=3) (nl:=nl) (A:=A) (p:=q+1) (g:=fun i=>[(D.getD I dev0).id,4,-1,4294967296,4294967297].getD i 0) (by simp only [aqA,↓seqK,↓blkK,↓loopK,step,stepBin,eqB,Nat.add_assoc nid,simprocAttr,LN_succ,e1,e2,e3,e4,e5,e6,e7,e8,e9]) (by simp only [aqA,↓seqK,↓blkK,↓loopK,step,stepBin,eqB,Nat.add_assoc nid,simprocAttr,LN_succ,e1,e2,e3,e4,e5,e6,e7,e8,e9]) (by simp only [aqA,↓seqK,↓blkK,↓loopK,step,stepBin,eqB,Nat.add_assoc nid,simprocAttr,LN_succ,e1,e2,e3,e4,e5,e6,e7,e8,e9]) (by omega) (by omega) hA (by omega) (by omega) ?_
 have hb:=getD_all (P:=fun x:Int => -1099511627776≤x∧x≤1099511627776) (l:=[(D.getD I dev0).id,4,-1,4294967296,4294967297]) (d:=0) (by have:=hgI.idb; simp only [List.mem_cons,List.not_mem_nil,or_false,forall_eq_or_imp,forall_eq]; omega) (pickI_lt A (q+1) (n:=5) (by omega))
 generalize ([(D.getD I dev0).id,4,-1,4294967296,4294967297].getD (pickI A (q+1) 5) 0:Int)=v at hb ⊢
 simp -dsimp only [aqA,↓seqK,↓blkK,↓loopK,step,stepBin,eqB,Nat.add_assoc nid,simprocAttr,LN_succ,e1,e2,e3,e4,e5,e6,e7,e8,e9,strmC_low]
 have hok:DevOk { D.getD I dev0 with id:=v }:=⟨hgI.ok.nm,hgI.ok.lg,hb,hgI.ok.rl,hgI.ok.rs,hgI.ok.il,hgI.ok.is⟩
 have hreg:∀ j,((D.set I { D.getD I dev0 with id:=v }).getD j dev0).regs=(D.getD j dev0).regs:=fun j=>by
  rw [hsg]
  by_cases e:j=I
  ·rw [if_pos e,e]
  ·rw [if_neg e]
 have hins:∀ j,((D.set I { D.getD I dev0 with id:=v }).getD j dev0).ins=(D.getD j dev0).ins:=fun j=>by
  rw [hsg]
  by_cases e:j=I
  ·rw [if_pos e,e]
  ·rw [if_neg e]
 refine ⟨⟨D.set I { D.getD I dev0 with id:=v },q+1+1⟩,⟨hsl _,hset _ hok,by simp only; omega⟩,?_⟩
 have hcase:D.length=1∨D.length=2∨D.length=3:=by omega
 have hsl2:=hsl { D.getD I dev0 with id:=v }
 have hn1:∀ j,(if j=I then v else (D.getD j dev0).id)=((D.set I { D.getD I dev0 with id:=v }).getD j dev0).id:=fun j=>by
  rw [hsg]
  by_cases e:j=I
  ·rw [if_pos e,if_pos e]
  ·rw [if_neg e,if_neg e]
 have hn2:∀ j,(D.getD j dev0).name=((D.set I { D.getD I dev0 with id:=v }).getD j dev0).name:=fun j=>by
  rw [hsg]
  by_cases e:j=I
  ·rw [if_pos e,e]
  ·rw [if_neg e]
 have hn3:∀ j,(D.getD j dev0).long=((D.set I { D.getD I dev0 with id:=v }).getD j dev0).long:=fun j=>by
  rw [hsg]
  by_cases e:j=I
  ·rw [if_pos e,e]
  ·rw [if_neg e]
 generalize D.set I { D.getD I dev0 with id:=v }=D2 at *
 rcases hcase with hc | hc | hc
 all_goals
  simp only [hsl2,hc,famD,inRg,inIn,hreg,hins,arrRg,arrIn]
  refine RetOK.go [] [] (.inr rfl) ?_
  simp [a58,cvT,step,res,e1,e2,e3,e4,e5,e6,e7,e8,e9,strmC,hn1,hn2,hn3,hreg,hins,hsl2,hc,devHs,famD,inRg,inIn,arrD,arrRg,arrIn,-List.getD_eq_getElem?_getD]
  first | omega | exact ⟨by omega,fun j hj=>by omega,fun j hj=>by omega⟩
theorem getD_setR (R:List (Bs × Int)) {J:Nat} (x:Bs × Int) (hJ:J<R.length) (j:Nat):(R.set J x).getD j reg0=if j=J then x else R.getD j reg0:=by
 rw [List.getD_eq_getElem?_getD,List.getElem?_set]
 by_cases h:j=J
 ·subst h; simp [hJ]
 ·rw [if_neg (fun e=>h e.symm),if_neg h,← List.getD_eq_getElem?_getD]
set_option maxHeartbeats 16000000 in
theorem spoil_2 (s nid:Nat) (nl:Bool) (A:List Int) (q I:Nat) (D:List Dev) (h:s<nid) (hq:q≤1099500002000) (hA:A.length≤17592186044416) (hI:I<D.length) (hD:D.length≤3) (hG:∀ d∈D,DevG d) :
  SR Tryz.prog (dropV 1 a58.body) (spST s nid (q+1) nl A D I 2) (SpEnd s nid q nl A D) .mk:=by
 obtain ⟨e1,e2,e3,e4,e5,e6,e7,e8,e9⟩:=id_all h
 simp only [a58,dropV]
 unfold spST
 have hmem:D.getD I dev0∈D:=by rw [List.getD_eq_getElem?_getD,List.getElem?_eq_getElem hI]; exact List.getElem_mem _
 have hgI:=hG _ hmem
 have hset:∀ d,DevOk d→∀ x∈D.set I d,DevOk x:=fun d hd x hx=>by
  rcases List.mem_or_eq_of_mem_set hx with hx | rfl
  ·exact (hG x hx).ok
  ·exact hd
 have hsl:∀ d,(D.set I d).length=D.length:=fun d=>List.length_set
 have hsg:=fun d j=>getD_setD D (I:=I) d hI j
 have hcase:(D.length=1∧I=0)∨(D.length=2∧I=0)∨(D.length=2∧I=1)∨(D.length=3∧I=0)∨(D.length=3∧I=1)∨(D.length=3∧I=2):=by omega
 obtain ⟨d,hd⟩:∃ d,D.getD I dev0=d:=⟨_,rfl⟩
 rw [hd] at hgI
 have hgl:=hgI.rl
 have hgi:=hgI.il
 refine SR.run (t:=.mk) ?_
 rcases hcase with ⟨hc,rfl⟩ | ⟨hc,rfl⟩ | ⟨hc,rfl⟩ | ⟨hc,rfl⟩ | ⟨hc,rfl⟩ | ⟨hc,rfl⟩
 all_goals
  unfold devHs famD inRg inIn arrD arrRg arrIn
  simp -dsimp only [aqA,↓seqK,↓blkK,↓loopK,step,stepBin,eqB,Nat.add_assoc nid,simprocAttr,LN_succ,e1,e2,e3,e4,e5,e6,e7,e8,e9,strmC_low,hc,hd,Nat.reduceLT,Nat.lt_irrefl,if_true,if_false]
  refine S2.dec (fun h4=>?_) (fun h4=>?_) <;> simp -dsimp only [aqA,↓seqK,↓blkK,↓loopK,step,stepBin,eqB,Nat.add_assoc nid,simprocAttr,LN_succ,e1,e2,e3,e4,e5,e6,e7,e8,e9,strmC_low,hd]
  ·have hR0:0<d.regs.length:=by omega
   have hnd:=nextV_bd A (q+1) (n:=(d.regs.length:Nat)) (by omega)
   obtain ⟨J,hJ⟩:∃ J:Nat,nextV A (q+1) ((d.regs.length:Nat):Int)=J:=⟨_,(Int.toNat_of_nonneg hnd.1).symm⟩
   rw [hJ] at hnd
   have hJR:J<d.regs.length:=by omega
   refine CallX.on (next_c s _ nl A (q+1) _ (by omega) (by omega) hA (by omega)) (subH_get (by simp only [aqA,↓seqK,↓blkK,↓loopK,step,stepBin,eqB,Nat.add_assoc nid,simprocAttr,LN_succ,e1,e2,e3,e4,e5,e6,e7,e8,e9])) ?_
   rw [hJ]
   simp -dsimp only [aqA,↓seqK,↓blkK,↓loopK,step,stepBin,eqB,Nat.add_assoc nid,simprocAttr,LN_succ,e1,e2,e3,e4,e5,e6,e7,e8,e9,strmC_low,hd]
   refine ⟨⟨by omega,by omega⟩,?_⟩
   have hm2:d.regs.getD J reg0∈d.regs:=by rw [List.getD_eq_getElem?_getD,List.getElem?_eq_getElem hJR]; exact List.getElem_mem _
   refine CallO.some_go (T:=9) (nl:=nl) (A:=A) (p:=q+1+1) (g:=fun i=>[(d.regs.getD J reg0).1,[98,121,112,97,115,115],[100,97,116,97],[65]].getD i []) (by simp only [aqA,↓seqK,↓blkK,↓loopK,step,stepBin,eqB,Nat.add_assoc nid,simprocAttr,LN_succ,e1,e2,e3,e4,e5,e6,e7,e8,e9]) (by simp only [aqA,↓seqK,↓blkK,↓loopK,step,stepBin,eqB,Nat.add_assoc nid,simprocAttr,LN_succ,e1,e2,e3,e4,e5,e6,e7,e8,e9]) (by simp only [aqA,↓seqK,↓blkK,↓loopK,step,stepBin,eqB,Nat.add_assoc nid,simprocAttr,LN_succ,e1,e2,e3,e4,e5,e6,e7,e8,e9]) (by omega) (by omega) hA (by omega) (by omega) ?_
   have hb:=getD_all (P:=fun x:Bs=>x.length≤10) (l:=[(d.regs.getD J reg0).1,[98,121,112,97,115,115],[100,97,116,97],[65]]) (d:=[]) (nm4 (hgI.rs _ hm2).1) (pickI_lt A (q+1+1) (n:=4) (by omega))
   generalize ([(d.regs.getD J reg0).1,[98,121,112,97,115,115],[100,97,116,97],[65]].getD (pickI A (q+1+1) 4) []:Bs)=v at hb ⊢
   simp -dsimp only [aqA,↓seqK,↓blkK,↓loopK,step,stepBin,eqB,Nat.add_assoc nid,simprocAttr,LN_succ,e1,e2,e3,e4,e5,e6,e7,e8,e9,strmC_low,hd]
   refine CallO.onE (oddI_c s _ nl A (q+1+1+1) 1 5 (by omega) (by omega) hA (by omega) (by omega) (by omega)) (subH_get (by simp only [aqA,↓seqK,↓blkK,↓loopK,step,stepBin,eqB,Nat.add_assoc nid,simprocAttr,LN_succ,e1,e2,e3,e4,e5,e6,e7,e8,e9])) (fun w hw=>?_)
   simp -dsimp only [aqA,↓seqK,↓blkK,↓loopK,step,stepBin,eqB,Nat.add_assoc nid,simprocAttr,LN_succ,e1,e2,e3,e4,e5,e6,e7,e8,e9,strmC_low,hd]
   have hrs:=getD_setR d.regs (v,w) hJR
   have hrl:(d.regs.set J (v,w)).length=d.regs.length:=List.length_set
   have hok:DevOk { d with regs:=d.regs.set J (v,w) }:=⟨hgI.ok.nm,hgI.ok.lg,hgI.ok.idb,by simp only [hrl]; exact hgI.ok.rl,fun x hx=>by
    rcases List.mem_or_eq_of_mem_set hx with hx | rfl
    ·exact hgI.ok.rs x hx
    ·exact ⟨hb,hw⟩,hgI.ok.il,hgI.ok.is⟩
   have hr1:∀ j,(if j=J then v else (d.regs.getD j reg0).1)=((d.regs.set J (v,w)).getD j reg0).1:=fun j=>by rw [hrs]; by_cases e:j=J <;> simp [e]
   have hr2:∀ j,(if j=J then w else (d.regs.getD j reg0).2)=((d.regs.set J (v,w)).getD j reg0).2:=fun j=>by rw [hrs]; by_cases e:j=J <;> simp [e]
   refine ⟨⟨D.set _ { d with regs:=d.regs.set J (v,w) },q+1+1+1+2⟩,⟨hsl _,hset _ hok,by simp only; omega⟩,?_⟩
   have hsl2:=hsl { d with regs:=d.regs.set J (v,w) }
   have hg2:=hsg { d with regs:=d.regs.set J (v,w) }
   generalize d.regs.set J (v,w)=R2 at *
   have hn1:∀ j,((D.set _ { d with regs:=R2 }).getD j dev0).name=(D.getD j dev0).name:=set_proj Dev.name hI hd rfl
   have hn2:∀ j,((D.set _ { d with regs:=R2 }).getD j dev0).long=(D.getD j dev0).long:=set_proj Dev.long hI hd rfl
   have hn3:∀ j,((D.set _ { d with regs:=R2 }).getD j dev0).id=(D.getD j dev0).id:=set_proj Dev.id hI hd rfl
   have hn4:∀ j,((D.set _ { d with regs:=R2 }).getD j dev0).ins=(D.getD j dev0).ins:=set_proj Dev.ins hI hd rfl
   have hn5:∀ j,((D.set _ { d with regs:=R2 }).getD j dev0).regs.length=(D.getD j dev0).regs.length:=set_proj (fun x=>x.regs.length) hI hd hrl
   have hg0:=hg2 0
   have hg1:=hg2 1
   have hg3:=hg2 2
   simp only [Nat.reduceEqDiff,if_true,if_false,reduceCtorEq,Nat.one_ne_zero,Nat.zero_ne_one] at hg0 hg1 hg3
   generalize D.set _ { d with regs:=R2 }=D2 at *
   refine RetOK.go [] [] (.inr rfl) ?_
   simp [a58,cvT,step,res,e1,e2,e3,e4,e5,e6,e7,e8,e9,strmC,hr1,hr2,hrl,hn1,hn2,hn3,hn4,hn5,hg0,hg1,hg3,hsl2,hc,hd,devHs,famD,inRg,inIn,arrD,arrRg,arrIn,-List.getD_eq_getElem?_getD]
   first | omega | exact ⟨by omega,fun j hj=>by omega,fun j hj=>by omega⟩
  ·refine ⟨⟨D,q+1⟩,⟨rfl,fun d hd=>(hG d hd).ok,by simp only; omega⟩,?_⟩
   refine RetOK.go [] [] (.inr rfl) ?_
   simp [a58,cvT,step,res,e1,e2,e3,e4,e5,e6,e7,e8,e9,strmC,hc,hd,devHs,famD,inRg,inIn,arrD,arrRg,arrIn,-List.getD_eq_getElem?_getD]
   first | omega | exact ⟨by omega,fun j hj=>by omega,fun j hj=>by omega⟩
theorem getD_setI (R:List (Bs × Bs)) {J:Nat} (x:Bs × Bs) (hJ:J<R.length) (j:Nat):(R.set J x).getD j ins0=if j=J then x else R.getD j ins0:=by
 rw [List.getD_eq_getElem?_getD,List.getElem?_set]
 by_cases h:j=J
 ·subst h; simp [hJ]
 ·rw [if_neg (fun e=>h e.symm),if_neg h,← List.getD_eq_getElem?_getD]
set_option maxHeartbeats 16000000 in
theorem spoil_3 (s nid:Nat) (nl:Bool) (A:List Int) (q I:Nat) (D:List Dev) (h:s<nid) (hq:q≤1099500002000) (hA:A.length≤17592186044416) (hI:I<D.length) (hD:D.length≤3) (hG:∀ d∈D,DevG d) :
  SR Tryz.prog (dropV 1 a58.body) (spST s nid (q+1) nl A D I 3) (SpEnd s nid q nl A D) .mk:=by
 obtain ⟨e1,e2,e3,e4,e5,e6,e7,e8,e9⟩:=id_all h
 simp only [a58,dropV]
 unfold spST
 have hmem:D.getD I dev0∈D:=by rw [List.getD_eq_getElem?_getD,List.getElem?_eq_getElem hI]; exact List.getElem_mem _
 have hgI:=hG _ hmem
 have hset:∀ d,DevOk d→∀ x∈D.set I d,DevOk x:=fun d hd x hx=>by
  rcases List.mem_or_eq_of_mem_set hx with hx | rfl
  ·exact (hG x hx).ok
  ·exact hd
 have hsl:∀ d,(D.set I d).length=D.length:=fun d=>List.length_set
 have hsg:=fun d j=>getD_setD D (I:=I) d hI j
 have hcase:(D.length=1∧I=0)∨(D.length=2∧I=0)∨(D.length=2∧I=1)∨(D.length=3∧I=0)∨(D.length=3∧I=1)∨(D.length=3∧I=2):=by omega
 obtain ⟨d,hd⟩:∃ d,D.getD I dev0=d:=⟨_,rfl⟩
 rw [hd] at hgI
 have hgl:=hgI.rl
 have hgi:=hgI.il
 refine SR.run (t:=.mk) ?_
 rcases hcase with ⟨hc,rfl⟩ | ⟨hc,rfl⟩ | ⟨hc,rfl⟩ | ⟨hc,rfl⟩ | ⟨hc,rfl⟩ | ⟨hc,rfl⟩
 all_goals
  unfold devHs famD inRg inIn arrD arrRg arrIn
  simp -dsimp only [aqA,↓seqK,↓blkK,↓loopK,step,stepBin,eqB,Nat.add_assoc nid,simprocAttr,LN_succ,e1,e2,e3,e4,e5,e6,e7,e8,e9,strmC_low,hc,hd,Nat.reduceLT,Nat.lt_irrefl,if_true,if_false]
  refine S2.dec (fun h4=>?_) (fun h4=>?_) <;> simp -dsimp only [aqA,↓seqK,↓blkK,↓loopK,step,stepBin,eqB,Nat.add_assoc nid,simprocAttr,LN_succ,e1,e2,e3,e4,e5,e6,e7,e8,e9,strmC_low,hd]
  ·have hR0:0<d.ins.length:=by omega
   have hnd:=nextV_bd A (q+1) (n:=(d.ins.length:Nat)) (by omega)
   obtain ⟨J,hJ⟩:∃ J:Nat,nextV A (q+1) ((d.ins.length:Nat):Int)=J:=⟨_,(Int.toNat_of_nonneg hnd.1).symm⟩
   rw [hJ] at hnd
   have hJR:J<d.ins.length:=by omega
   refine CallX.on (next_c s _ nl A (q+1) _ (by omega) (by omega) hA (by omega)) (subH_get (by simp only [aqA,↓seqK,↓blkK,↓loopK,step,stepBin,eqB,Nat.add_assoc nid,simprocAttr,LN_succ,e1,e2,e3,e4,e5,e6,e7,e8,e9])) ?_
   rw [hJ]
   simp -dsimp only [aqA,↓seqK,↓blkK,↓loopK,step,stepBin,eqB,Nat.add_assoc nid,simprocAttr,LN_succ,e1,e2,e3,e4,e5,e6,e7,e8,e9,strmC_low,hd]
   refine ⟨⟨by omega,by omega⟩,?_⟩
   have hm2:d.ins.getD J ins0∈d.ins:=by rw [List.getD_eq_getElem?_getD,List.getElem?_eq_getElem hJR]; exact List.getElem_mem _
   obtain ⟨z,hz⟩:∃ z:Nat,d.long=z:=⟨_,(Int.toNat_of_nonneg (by have:=hgI.lg; omega)).symm⟩
   have hz4:z≤4:=by have:=hgI.lg; omega
   have hrl1:=rep1 49 z
   refine CallX.pure (by rw [hz]; exact repeat_cc [49] z _ (by omega) (by simp; omega)) ?_
   generalize Lib.repeatL [49] z=zs at *
   simp -dsimp only [aqA,↓seqK,↓blkK,↓loopK,step,stepBin,eqB,Nat.add_assoc nid,simprocAttr,LN_succ,e1,e2,e3,e4,e5,e6,e7,e8,e9,strmC_low,hd]
   refine CallX.some_go (T:=9) (nl:=nl) (A:=A) (p:=q+1+1) (g:=fun i=>[(d.ins.getD J ins0).1,zs,[48],[48,120]].getD i []) (by simp only [aqA,↓seqK,↓blkK,↓loopK,step,stepBin,eqB,Nat.add_assoc nid,simprocAttr,LN_succ,e1,e2,e3,e4,e5,e6,e7,e8,e9]) (by simp only [aqA,↓seqK,↓blkK,↓loopK,step,stepBin,eqB,Nat.add_assoc nid,simprocAttr,LN_succ,e1,e2,e3,e4,e5,e6,e7,e8,e9]) (by simp only [aqA,↓seqK,↓blkK,↓loopK,step,stepBin,eqB,Nat.add_assoc nid,simprocAttr,LN_succ,e1,e2,e3,e4,e5,e6,e7,e8,e9]) (by omega) (by omega) hA (by omega) (by omega) ?_
   have hb:=getD_all (P:=fun x:Bs=>x.length≤10) (l:=[(d.ins.getD J ins0).1,zs,[48],[48,120]]) (d:=[]) (nm5 (hgI.is _ hm2).1 (by omega)) (pickI_lt A (q+1+1) (n:=4) (by omega))
   generalize ([(d.ins.getD J ins0).1,zs,[48],[48,120]].getD (pickI A (q+1+1) 4) []:Bs)=v at hb ⊢
   simp -dsimp only [aqA,↓seqK,↓blkK,↓loopK,step,stepBin,eqB,Nat.add_assoc nid,simprocAttr,LN_succ,e1,e2,e3,e4,e5,e6,e7,e8,e9,strmC_low,hd]
   refine CallX.some_go (T:=9) (nl:=nl) (A:=A) (p:=q+1+1+1) (g:=fun i=>[(d.ins.getD J ins0).2,[105,100,99,111,100,101],[122,122]].getD i []) (by simp only [aqA,↓seqK,↓blkK,↓loopK,step,stepBin,eqB,Nat.add_assoc nid,simprocAttr,LN_succ,e1,e2,e3,e4,e5,e6,e7,e8,e9]) (by simp only [aqA,↓seqK,↓blkK,↓loopK,step,stepBin,eqB,Nat.add_assoc nid,simprocAttr,LN_succ,e1,e2,e3,e4,e5,e6,e7,e8,e9]) (by simp only [aqA,↓seqK,↓blkK,↓loopK,step,stepBin,eqB,Nat.add_assoc nid,simprocAttr,LN_succ,e1,e2,e3,e4,e5,e6,e7,e8,e9]) (by omega) (by omega) hA (by omega) (by omega) ?_
   have hw:=getD_all (P:=fun x:Bs=>x.length≤10) (l:=[(d.ins.getD J ins0).2,[105,100,99,111,100,101],[122,122]]) (d:=[]) (nm6 (hgI.is _ hm2).2) (pickI_lt A (q+1+1+1) (n:=3) (by omega))
   generalize ([(d.ins.getD J ins0).2,[105,100,99,111,100,101],[122,122]].getD (pickI A (q+1+1+1) 3) []:Bs)=w at hw ⊢
   simp -dsimp only [aqA,↓seqK,↓blkK,↓loopK,step,stepBin,eqB,Nat.add_assoc nid,simprocAttr,LN_succ,e1,e2,e3,e4,e5,e6,e7,e8,e9,strmC_low,hd]
   have hrs:=getD_setI d.ins (v,w) hJR
   have hrl:(d.ins.set J (v,w)).length=d.ins.length:=List.length_set
   have hok:DevOk { d with ins:=d.ins.set J (v,w) }:=⟨hgI.ok.nm,hgI.ok.lg,hgI.ok.idb,hgI.ok.rl,hgI.ok.rs,by simp only [hrl]; exact hgI.ok.il,fun x hx=>by
    rcases List.mem_or_eq_of_mem_set hx with hx | rfl
    ·exact hgI.ok.is x hx
    ·exact ⟨hb,hw⟩⟩
   have hr1:∀ j,(if j=J then v else (d.ins.getD j ins0).1)=((d.ins.set J (v,w)).getD j ins0).1:=fun j=>by rw [hrs]; by_cases e:j=J <;> simp [e]
   have hr2:∀ j,(if j=J then w else (d.ins.getD j ins0).2)=((d.ins.set J (v,w)).getD j ins0).2:=fun j=>by rw [hrs]; by_cases e:j=J <;> simp [e]
   refine ⟨⟨D.set _ { d with ins:=d.ins.set J (v,w) },q+1+1+1+1⟩,⟨hsl _,hset _ hok,by simp only; omega⟩,?_⟩
   have hsl2:=hsl { d with ins:=d.ins.set J (v,w) }
   have hg2:=hsg { d with ins:=d.ins.set J (v,w) }
   generalize d.ins.set J (v,w)=R2 at *
   have hn1:∀ j,((D.set _ { d with ins:=R2 }).getD j dev0).name=(D.getD j dev0).name:=set_proj Dev.name hI hd rfl
   have hn2:∀ j,((D.set _ { d with ins:=R2 }).getD j dev0).long=(D.getD j dev0).long:=set_proj Dev.long hI hd rfl
   have hn3:∀ j,((D.set _ { d with ins:=R2 }).getD j dev0).id=(D.getD j dev0).id:=set_proj Dev.id hI hd rfl
   have hn4:∀ j,((D.set _ { d with ins:=R2 }).getD j dev0).regs=(D.getD j dev0).regs:=set_proj Dev.regs hI hd rfl
   have hn5:∀ j,((D.set _ { d with ins:=R2 }).getD j dev0).ins.length=(D.getD j dev0).ins.length:=set_proj (fun x=>x.ins.length) hI hd hrl
   have hg0:=hg2 0
   have hg1:=hg2 1
   have hg3:=hg2 2
   simp only [Nat.reduceEqDiff,if_true,if_false,reduceCtorEq,Nat.one_ne_zero,Nat.zero_ne_one] at hg0 hg1 hg3
   generalize D.set _ { d with ins:=R2 }=D2 at *
   refine RetOK.go [] [] (.inr rfl) ?_
   simp [a58,cvT,step,res,e1,e2,e3,e4,e5,e6,e7,e8,e9,strmC,hr1,hr2,hrl,hn1,hn2,hn3,hn4,hn5,hg0,hg1,hg3,hsl2,hc,hd,devHs,famD,inRg,inIn,arrD,arrRg,arrIn,-List.getD_eq_getElem?_getD]
   first | omega | exact ⟨by omega,fun j hj=>by omega,fun j hj=>by omega⟩
  ·refine ⟨⟨D,q+1⟩,⟨rfl,fun d hd=>(hG d hd).ok,by simp only; omega⟩,?_⟩
   refine RetOK.go [] [] (.inr rfl) ?_
   simp [a58,cvT,step,res,e1,e2,e3,e4,e5,e6,e7,e8,e9,strmC,hc,hd,devHs,famD,inRg,inIn,arrD,arrRg,arrIn,-List.getD_eq_getElem?_getD]
   first | omega | exact ⟨by omega,fun j hj=>by omega,fun j hj=>by omega⟩
set_option maxHeartbeats 16000000 in
theorem spoil_D (s nid:Nat) (nl:Bool) (A:List Int) (q I:Nat) (D:List Dev) (h:s<nid) (hq:q≤1099500002000) (hA:A.length≤17592186044416) (hI:I<D.length) (hD:D.length≤3) (hG:∀ d∈D,DevG d) :
  ACallI Tryz.prog 58 [.ptr s 0,.arp (nid+24) I 0] ([(s,strmC nl A q)]++devHs nid D) (nid+200) (spPost D q) (fun _=>.tup []) (fun x=>[(s,strmC nl A x.q)]++devHs nid x.D):=by
 obtain ⟨e1,e2,e3,e4,e5,e6,e7,e8,e9⟩:=id_all h
 have hs:=devHs_scoped nid D hD
 have hsk:=devHs_off s nid D h
 have k0:=spoil_0 s nid nl A q I D h hq hA hI hD hG
 have k1:=spoil_1 s nid nl A q I D h hq hA hI hD hG
 have k2:=spoil_2 s nid nl A q I D h hq hA hI hD hG
 have k3:=spoil_3 s nid nl A q I D h hq hA hI hD hG
 refine acallI_sr c58 (by simp [a58]) ?_
 simp only [a58,dropV] at *
 have hkd:=nextV_bd A q (n:=(4:Int)) (by omega)
 have hk:nextV A q 4=0∨nextV A q 4=1∨nextV A q 4=2∨nextV A q 4=3:=by omega
 obtain ⟨kk,hkk,hSR⟩:∃ kk:Nat,nextV A q 4=kk∧True:=⟨_,(Int.toNat_of_nonneg (by omega)).symm,trivial⟩
 refine SR.seqTo (spST s nid (q+1) nl A D I kk) ?_ ?_
 ·simp -dsimp only [aqA,↓seqK,↓blkK,↓loopK,step,stepBin,eqB,Nat.add_assoc nid,simprocAttr,LN_succ,e1,e2,e3,e4,e5,e6,e7,e8,e9,strmC_low]
  refine CallO.on (next_c s _ nl A q 4 (by omega) (by omega) hA (by omega)) (subH_get (by simp only [aqA,↓seqK,↓blkK,↓loopK,step,stepBin,eqB,Nat.add_assoc nid,simprocAttr,LN_succ,e1,e2,e3,e4,e5,e6,e7,e8,e9])) ?_
  rw [hkk]
  simp -dsimp only [aqA,↓seqK,↓blkK,↓loopK,step,stepBin,eqB,Nat.add_assoc nid,simprocAttr,LN_succ,e1,e2,e3,e4,e5,e6,e7,e8,e9,strmC_low]
  unfold spST
  generalize devHs nid D=Hs at *
  refine Cov.goP (nid+200) Hs [_] [] [] (by repeat (first | exact .nil | apply PreH.cons)) (by omega) hs (by simp [kOK,hsk]) (by simp) ?_
  simp [cvT,step,res,e1,e2,e3,e4,e5,e6,e7,e8,e9,strmC]
 ·have:kk=0∨kk=1∨kk=2∨kk=3:=by omega
  rcases this with rfl | rfl | rfl | rfl
  ·exact k0
  ·exact k1
  ·exact k2
  ·exact k3
open Go.RowKit
structure DvX where
 n0:Bool
 n1:Nat→Bool
 n2:Nat→Bool
 D:List Dev
 q:Nat
structure DevB (most:Nat) (D:List Dev):Prop where
 len:D.length≤most
 ok:∀ d∈D,DevOk d
theorem fam_rg (s nid q:Nat) (nl:Bool) (A:List Int) (D:List Dev) (h:s<nid) (hD:D.length≤3) {k:Nat} (hk:k<D.length):getH ([(s,strmC nl A q)]++devHs nid D) (nid+(100+2 * k))=arrRg (D.getD k dev0).regs:=by
 obtain ⟨e1,e2,e3,e4,e5,e6,e7,e8,e9⟩:=id_all h
 have hk3:k=0∨k=1∨k=2:=by omega
 unfold devHs famD inRg inIn
 rcases hk3 with rfl | rfl | rfl <;> simp -dsimp only [aqA,↓seqK,↓blkK,↓loopK,step,stepBin,eqB,Nat.add_assoc nid,simprocAttr,LN_succ,e1,e2,e3,e4,e5,e6,e7,e8,e9,if_pos hk]
theorem fam_in (s nid q:Nat) (nl:Bool) (A:List Int) (D:List Dev) (h:s<nid) (hD:D.length≤3) {k:Nat} (hk:k<D.length):getH ([(s,strmC nl A q)]++devHs nid D) (nid+(101+2 * k))=arrIn (D.getD k dev0).ins:=by
 obtain ⟨e1,e2,e3,e4,e5,e6,e7,e8,e9⟩:=id_all h
 have hk3:k=0∨k=1∨k=2:=by omega
 unfold devHs famD inRg inIn
 rcases hk3 with rfl | rfl | rfl <;> simp -dsimp only [aqA,↓seqK,↓blkK,↓loopK,step,stepBin,eqB,Nat.add_assoc nid,simprocAttr,LN_succ,e1,e2,e3,e4,e5,e6,e7,e8,e9,if_pos hk]
set_option maxHeartbeats 4000000 in
theorem devs_end (s nid p q q0 most:Nat) (nl:Bool) (A:List Int) (D:List Dev) (h:s<nid) (hB:DevB most D) (hm:most≤3) (hq:q≤q0) :
  SR Tryz.prog (dropV 5 a11.body) ⟨[(5,.sl (nid+24) 0 D.length)],[(s,strmC nl A q)]++devHs nid D,nid+15000,nid⟩ (fun e st=>∃ x:DvX,(DevB most x.D∧x.q≤q0)∧RetOK a11.res [(s,strmC nl A p)] nid (.lit x.n0 x.D.length (devP x.n1 x.n2 x.D)) [(s,strmC nl A x.q)] e st) .mk:=by
 obtain ⟨e1,e2,e3,e4,e5,e6,e7,e8,e9⟩:=id_all h
 have hD3:D.length≤3:=by have:=hB.len; omega
 have hr:=fun k (hk:k<D.length)=>fam_rg s nid q nl A D h hD3 hk
 have hi:=fun k (hk:k<D.length)=>fam_in s nid q nl A D h hD3 hk
 refine SR.freezeO [nid+100,nid+101,nid+102,nid+103,nid+104,nid+105] (nid+24) 57 D.length [.s fun i=>(D.getD i dev0).name,.i .i64 fun i=>(D.getD i dev0).long,.i .i64 fun i=>(D.getD i dev0).id,.o (fun k=>nid+(100+2 * k)) (fun k=>(D.getD k dev0).regs.length),.o (fun k=>nid+(101+2 * k)) (fun k=>(D.getD k dev0).ins.length)] ?_ ?_ ?_ (fun n1 hn1=>?_)
 ·unfold devHs arrD
  simp only [List.cons_append,List.nil_append,aqA,↓seqK,↓blkK,↓loopK,step,stepBin,eqB,Nat.add_assoc nid,simprocAttr,LN_succ,e1,e2,e3,e4,e5,e6,e7,e8,e9]
 ·simp
 ·intro c hc
  simp only [List.mem_cons,List.not_mem_nil,or_false] at hc
  rcases hc with rfl | rfl | rfl | rfl | rfl
  ·trivial
  ·trivial
  ·trivial
  ·intro k hk
   have hk6:k=0∨k=1∨k=2:=by omega
   refine ⟨?_,_,_,_,hr k hk,rfl⟩
   rcases hk6 with rfl | rfl | rfl <;> simp
  ·intro k hk
   have hk6:k=0∨k=1∨k=2:=by omega
   refine ⟨?_,_,_,_,hi k hk,rfl⟩
   rcases hk6 with rfl | rfl | rfl <;> simp
 have hco:∀ k,k<D.length→colsAt ([(s,strmC nl A q)]++devHs nid D) (nid+(100+2 * k))=[.s fun j=>((D.getD k dev0).regs.getD j reg0).1,.i .i64 fun j=>((D.getD k dev0).regs.getD j reg0).2]:=fun k hk=>by
  unfold colsAt
  rw [hr k hk]
  rfl
 have hci:∀ k,k<D.length→colsAt ([(s,strmC nl A q)]++devHs nid D) (nid+(101+2 * k))=[.s fun j=>((D.getD k dev0).ins.getD j ins0).1,.s fun j=>((D.getD k dev0).ins.getD j ins0).2]:=fun k hk=>by
  unfold colsAt
  rw [hi k hk]
  rfl
 simp only [List.map_cons,List.map_nil,oCol]
 generalize hCA:colsAt ([(s,strmC nl A q)]++devHs nid D)=CA at *
 clear hn1 hr hi
 refine SR.cov (t':=.mk) (st':=⟨[(5,.sl (nid+24) 0 D.length)],[(s,strmC nl A q),(nid+24,some (.arr 57 D.length (devP (fun k=>n1 (nid+(100+2 * k))) (fun k=>n1 (nid+(101+2 * k))) D)))],nid+15000,nid⟩) (Cov.go [] [] ?_) ?_
 ·unfold devHs arrD strmC devP
  simp [cvT,step,res,e1,e2,e3,e4,e5,e6,e7,e8,e9,frzS,frzH,frzBlk,lends,lend,kill,noOs,-List.getD_eq_getElem?_getD]
  exact ⟨ColEq.l fun k hk=>⟨rfl,rfl,by rw [hco k hk]; exact ColsEq.refl _ _⟩,ColEq.l fun k hk=>⟨rfl,rfl,by rw [hci k hk]; exact ColsEq.refl _ _⟩⟩
 unfold devP
 refine SR.freezeB [nid+24] (fun n2=>?_)
 simp only [frzS,frzH,frzBlk,lends,lend,kill,strmC,noOs,aqA,↓seqK,↓blkK,↓loopK,step,stepBin,eqB,Nat.add_assoc nid,simprocAttr,LN_succ,e1,e2,e3,e4,e5,e6,e7,e8,e9]
 clear hco hci hCA
 simp only [a11,dropV]
 refine SR.run (t:=.mk) ?_
 simp -dsimp only [aqA,↓seqK,↓blkK,↓loopK,step,stepBin,eqB,Nat.add_assoc nid,simprocAttr,e1,e2,e3,e4,e5,e6,e7,e8,e9]
 refine ⟨⟨n2 (nid+24),fun k=>n1 (nid+(100+2 * k)),fun k=>n1 (nid+(101+2 * k)),D,q⟩,⟨hB,hq⟩,RetOK.go [] [] (.inl rfl) ?_⟩
 simp [a11,cvT,step,res,e1,e2,e3,e4,e5,e6,e7,e8,e9,strmC,devP,ColsEq.refl,-List.getD_eq_getElem?_getD]
open Go.RowKit
theorem Cov.sub {s s':Slots} {H H':Heap} {n n' b:Nat} (hn:n≤n') (hs:SlotsIn s s') (hH:subH H' H):Cov ⟨s,H,n,b⟩ ⟨s',H',n',b⟩:=fun C nt Y m a w h=>by
 refine ⟨Y,m,h.size,h.defers,fun i p hp hne=>?_,(HSF.some_sub h.heap hH).mono (fun id hid=>Nat.le_trans hn hid),h.base⟩
 rcases hs.get i with e | e
 ·exact absurd (hp.symm.trans e) hne
 ·exact h.slots i p (e.symm.trans hp) hne
theorem subH_pre {s:Nat} {c:Option ABlk} {F X:Heap} (hX:∀ id∈keys X,id=s):subH ((s,c)::F) ((s,c)::(X++F)):=fun id b h=>by
 simp only [getH] at h ⊢
 cases hh:(s==id)
 ·rw [hh] at h
  simp only [cond_false] at h ⊢
  rw [getH_appC]
  cases hk:(keys X).contains id
  ·exact h
  ·exfalso
   have h1:=hX id (by simpa using hk)
   subst h1
   simp at hh
 ·rw [hh] at h
  exact h
theorem subH_front (Y Z:Heap):subH Y (Y++Z):=fun id b h=>by
 rw [getH_appC]
 cases hk:(keys Y).contains id
 ·have:=getH_key h
  rw [hk] at this
  cases this
 ·exact h
theorem Scoped.lowHeap {b:Nat} {Hs:Heap} (h:Scoped b Hs):lowHeap b Hs:=⟨h.lt,h.blk⟩
theorem lowHeap_cons {b i:Nat} {c:Option ABlk} {Hs:Heap} (hi:i<b) (hc:lowBlk b c=true) (h:lowHeap b Hs):lowHeap b ((i,c)::Hs):=by
 refine ⟨fun id hid=>?_,fun id x hx=>?_⟩
 ·simp only [keys,List.map_cons,List.mem_cons] at hid
  rcases hid with rfl | hid
  ·exact hi
  ·exact h.1 id hid
 ·simp only [getH] at hx
  cases hh:(i==id)
  ·rw [hh] at hx; exact h.2 id x hx
  ·rw [hh] at hx
   simp only [cond_true] at hx
   rw [hx] at hc
   exact hc
theorem lowHeap_app {b:Nat}:∀ {X Y:Heap},lowHeap b X→lowHeap b Y→lowHeap b (X++Y)
 | [],Y,_,h=>h
 | (i,c)::X,Y,hx,hy=>by
  have hX:lowHeap b X∨True:=.inr trivial
  refine ⟨fun id hid=>?_,fun id x hg=>?_⟩
  ·have hk:keys ((i,c)::X++Y)=keys ((i,c)::X)++keys Y:=by simp [keys]
   rw [hk] at hid
   rcases List.mem_append.1 hid with hid | hid
   ·exact hx.1 id hid
   ·exact hy.1 id hid
  ·rw [getH_appC] at hg
   cases hk:(keys ((i,c)::X)).contains id
   ·rw [hk] at hg; exact hy.2 id x hg
   ·rw [hk] at hg; exact hx.2 id x hg
theorem spoil_later (s nid n:Nat) (nl:Bool) (A:List Int) (q I:Nat) (D:List Dev) (h:s<nid) (hn:nid+200≤n) (hq:q≤1099500002000) (hA:A.length≤17592186044416) (hI:I<D.length) (hD:D.length≤3) (hG:∀ d∈D,DevG d) :
  ACallI Tryz.prog 58 [.ptr s 0,.arp (nid+24) I 0] ([(s,strmC nl A q)]++devHs nid D) n (spPost D q) (fun _=>.tup []) (fun x=>[(s,strmC nl A x.q)]++devHs nid x.D):=by
 have hl:∀ (q:Nat) (D:List Dev),D.length≤3→lowHeap (nid+200) ([(s,strmC nl A q)]++devHs nid D):=fun q D hD=>lowHeap_cons (by omega) (by rfl) (devHs_scoped nid D hD).lowHeap
 refine (spoil_D s nid nl A q I D h hq hA hI hD hG).later hn ?_ (hl q D hD) (fun i hi=>rfl) (fun i hi=>lowHeap_app (hl _ _ (by have:=hi.1; omega)) (hl q D hD))
 simp [lowAll,idsOfs,idsOf]
 omega
set_option maxHeartbeats 16000000 in
theorem devices_I (s nid:Nat) (nl:Bool) (A:List Int) (p most:Nat) (h:s<nid) (hp:p≤1099500000000) (hA:A.length≤17592186044416) (h1:1≤most) (h3:most≤3) :
  ACallI Tryz.prog 11 [.ptr s 0,.int .i64 most] [(s,strmC nl A p)] nid (fun x:DvX=>DevB most x.D∧x.q≤p+60) (fun x=>.lit x.n0 x.D.length (devP x.n1 x.n2 x.D)) (fun x=>[(s,strmC nl A x.q)]):=by
 obtain ⟨e1,e2,e3,e4,e5,e6,e7,e8,e9⟩:=id_all h
 have hend:=fun (q:Nat) D hB hq=>devs_end s nid p q (p+60) most nl A D h hB h3 hq
 have hstep:=fun (n0:Bool) (q n:Nat) D hq hk hn Q=>dev_step s nid nl n0 A q n D h hq hA hk hn Q
 refine acallI_sr c11 (by simp [a11]) ?_
 simp only [a11,dropV,headV,roundV] at *
 refine SR.seq ?_
 simp -dsimp only [aqA,↓seqK,↓blkK,↓loopK,step,stepBin,eqB,Nat.add_assoc nid,simprocAttr,e1,e2,e3,e4,e5,e6,e7,e8,e9]
 refine SR.seq ?_
 simp -dsimp only [aqA,↓seqK,↓blkK,↓loopK,step,stepBin,eqB,Nat.add_assoc nid,simprocAttr,e1,e2,e3,e4,e5,e6,e7,e8,e9]
 refine SR.seqW (ι:={x:List Dev × Nat // (1≤x.1.length∧x.1.length≤most)∧(∀ d∈x.1,DevG d)∧x.2≤p+40}) (fun x=>⟨[(5,.sl (nid+24) 0 x.1.1.length),(0,.ptr s 0)],[(s,strmC nl A x.1.2)]++devHs nid x.1.1,nid+10000,nid⟩) ?_ (fun ⟨⟨D,q⟩,⟨hD1,hD2⟩,hG,hq⟩=>?_)
 ·refine SR.seqEx (ι:={n:Nat // 1≤n∧n≤most}) (fun n=>⟨[(18,.sl (nid+8) 0 n.1),(19,.int .i64 n.1),(20,.int .i64 0),(5,.lit true 0 []),(0,.ptr s 0)],[(s,strmC nl A (p+1)),(nid+8,some (.arr 9 3 [.s fun i=>u3L.getD i []]))],nid+500,nid⟩) ?_ (fun ⟨n,hn1,hn2⟩=>?_)
  ·simp -dsimp only [aqA,↓seqK,↓blkK,↓loopK,step,stepBin,eqB,Nat.add_assoc nid,simprocAttr,e1,e2,e3,e4,e5,e6,e7,e8,e9,strmC_low]
   have hnd:=rangeV_bd A p (lo:=1) (hi:=most) (by omega)
   obtain ⟨m,hm⟩:∃ m:Nat,rangeV A p 1 most=m:=⟨_,(Int.toNat_of_nonneg (by omega)).symm⟩
   rw [hm] at hnd
   refine CallO.on (range_c s _ nl A p 1 most (by omega) (by omega) hA (by omega) (by omega) (by omega)) (subH_get (by simp only [aqA,↓seqK,↓blkK,↓loopK,step,stepBin,eqB,Nat.add_assoc nid,simprocAttr,LN_succ,e1,e2,e3,e4,e5,e6,e7,e8,e9])) ?_
   rw [hm]
   simp -dsimp only [aqA,↓seqK,↓blkK,↓loopK,step,stepBin,eqB,Nat.add_assoc nid,simprocAttr,LN_succ,e1,e2,e3,e4,e5,e6,e7,e8,e9,strmC_low]
   refine ⟨⟨by omega,by omega⟩,⟨m,by omega,by omega⟩,Cov.go [] [] ?_⟩
   simp [cvT,step,res,e1,e2,e3,e4,e5,e6,e7,e8,e9,strmC,u3L,-List.getD_eq_getElem?_getD]
  simp only
  refine SR.freezeB [nid+8] (fun n9=>?_)
  simp only [frzS,frzH,frzBlk,lends,lend,kill,strmC,noOs,aqA,↓seqK,↓blkK,↓loopK,step,stepBin,eqB,Nat.add_assoc nid,simprocAttr,LN_succ,e1,e2,e3,e4,e5,e6,e7,e8,e9]
  generalize n9 (nid+8)=n0
  refine SR.block ?_
  refine SR.loopP (fun x:List Dev × Nat=>x.1.length≤n∧(∀ d∈x.1,DevG d)∧x.2≤p+1+12 * x.1.length) (fun x=>⟨[(20,.int .i64 x.1.length),(19,.int .i64 n),(18,.lit n0 n [.s fun i=>u3L.getD i []]),(5,.sl (nid+24) 0 x.1.length),(0,.ptr s 0)],[(s,strmC nl A x.2)]++devHs nid x.1,nid+1196,nid⟩) (fun x=>n+1 - x.1.length) ([],p+1) ⟨by simp,by simp,by simp⟩ (Cov.go [] [(nid+24,5)] ?_) (fun ⟨D,q⟩ hD=>?_)
  ·simp [cvT,step,res,e1,e2,e3,e4,e5,e6,e7,e8,e9,strmC,devHs,famD,inRg,inIn,arrD,-List.getD_eq_getElem?_getD]
  obtain ⟨hD1,hG,hq⟩:=hD
  simp only at hD1 hG hq
  have hs:=devHs_scoped nid D (by omega)
  have hsk:=devHs_off s nid D h
  refine SR.seq ?_
  simp -dsimp only [aqA,↓seqK,↓blkK,↓loopK,step,stepBin,eqB,Nat.add_assoc nid,simprocAttr,LN_succ,e1,e2,e3,e4,e5,e6,e7,e8,e9,strmC_low]
  refine SR.seq ?_
  simp -dsimp only [aqA,↓seqK,↓blkK,↓loopK,step,stepBin,eqB,Nat.add_assoc nid,simprocAttr,LN_succ,e1,e2,e3,e4,e5,e6,e7,e8,e9,strmC_low]
  refine S2.dec (fun h3=>?_) (fun h3=>?_) <;> simp -dsimp only [aqA,↓seqK,↓blkK,↓loopK,step,stepBin,eqB,Nat.add_assoc nid,simprocAttr,LN_succ,e1,e2,e3,e4,e5,e6,e7,e8,e9,strmC_low]
  ·refine SR.cov (t':=.mk) (st':=⟨[(20,.int .i64 D.length),(19,.int .i64 n),(18,.lit n0 n [.s fun i=>u3L.getD i []]),(5,.sl (nid+24) 0 D.length),(0,.ptr s 0)],[(s,strmC nl A q)]++devHs nid D,nid+1200,nid⟩) ?_ ?_
   ·generalize devHs nid D=Hs at *
    refine Cov.goP (nid+200) Hs [_] [] [] (by repeat (first | exact .nil | apply PreH.cons)) (by omega) hs (by simp [kOK,hsk]) (by simp) ?_
    simp [cvT,step,res,e1,e2,e3,e4,e5,e6,e7,e8,e9,strmC,-List.getD_eq_getElem?_getD]
   refine SR.seqW _ (hstep n0 q n D (by omega) (by omega) (by omega) _) (fun ⟨⟨d,q2⟩,hd,hq2⟩=>?_)
   simp only at hd hq2
   have hll:(D++[d]).length=D.length+1:=by simp
   have hs2:=devHs_scoped nid (D++[d]) (by omega)
   have hsk2:=devHs_off s nid (D++[d]) h
   refine SR.run (t:=.mk) ?_
   simp -dsimp only [aqA,↓seqK,↓blkK,↓loopK,step,stepBin,eqB,Nat.add_assoc nid,simprocAttr,LN_succ,e1,e2,e3,e4,e5,e6,e7,e8,e9,strmC_low]
   refine ⟨by unfold inI64; omega,(D++[d],q2),⟨⟨by simp only [hll]; omega,fun y hy=>?_,by simp only [hll]; omega⟩,by simp only [hll]; omega⟩,?_⟩
   ·rcases List.mem_append.1 hy with hy | hy
    ·exact hG y hy
    ·rw [List.mem_singleton.1 hy]; exact hd
   simp only
   rw [hll]
   clear hs hsk
   have hs:=hs2
   have hsk:=hsk2
   generalize devHs nid (D++[d])=Hs at *
   refine Cov.goP (nid+200) Hs [_] [] [] (by repeat (first | exact .nil | apply PreH.cons)) (by omega) hs (by simp [kOK,hsk]) (by simp) ?_
   simp [cvT,step,res,e1,e2,e3,e4,e5,e6,e7,e8,e9,strmC,-List.getD_eq_getElem?_getD]
  ·refine ⟨⟨(D,q),⟨by simp only; omega,by simp only; omega⟩,hG,by simp only; omega⟩,?_⟩
   simp only
   generalize devHs nid D=Hs at *
   refine Cov.goP (nid+200) Hs [_] [] [] (by repeat (first | exact .nil | apply PreH.cons)) (by omega) hs (by simp [kOK,hsk]) (by simp) ?_
   simp [cvT,step,res,e1,e2,e3,e4,e5,e6,e7,e8,e9,strmC,-List.getD_eq_getElem?_getD]
 simp only at hD1 hD2 hG hq
 have hs:=devHs_scoped nid D (by omega)
 have hsk:=devHs_off s nid D h
 refine SR.seqEx (ι:={x:List Dev × Nat // x.1.length=D.length∧(∀ d∈x.1,DevOk d)∧x.2≤p+50}) (fun x=>⟨[(5,.sl (nid+24) 0 x.1.1.length),(0,.ptr s 0)],[(s,strmC nl A x.1.2)]++devHs nid x.1.1,nid+12000,nid⟩) ?_ (fun ⟨⟨D2,q2⟩,hl2,hok2,hq2⟩=>?_)
 ·simp -dsimp only [aqA,↓seqK,↓blkK,↓loopK,step,stepBin,eqB,Nat.add_assoc nid,simprocAttr,LN_succ,e1,e2,e3,e4,e5,e6,e7,e8,e9,strmC_low]
  refine CallO.on (flip_c s _ nl A q 12 (by omega) (by omega) hA (by omega)) (subH_get (by simp only [aqA,↓seqK,↓blkK,↓loopK,step,stepBin,eqB,Nat.add_assoc nid,simprocAttr,LN_succ,e1,e2,e3,e4,e5,e6,e7,e8,e9])) ?_
  simp -dsimp only [aqA,↓seqK,↓blkK,↓loopK,step,stepBin,eqB,Nat.add_assoc nid,simprocAttr,LN_succ,e1,e2,e3,e4,e5,e6,e7,e8,e9,strmC_low]
  refine S2.intro (fun h=>?_) (fun h=>?_) <;> simp -dsimp only [aqA,↓seqK,↓blkK,↓loopK,step,stepBin,eqB,Nat.add_assoc nid,simprocAttr,LN_succ,e1,e2,e3,e4,e5,e6,e7,e8,e9,strmC_low]
  ·have hnd:=nextV_bd A (q+1) (n:=(D.length:Nat)) (by omega)
   obtain ⟨I,hI⟩:∃ I:Nat,nextV A (q+1) ((D.length:Nat):Int)=I:=⟨_,(Int.toNat_of_nonneg hnd.1).symm⟩
   rw [hI] at hnd
   refine CallO.on (next_c s _ nl A (q+1) _ (by omega) (by omega) hA (by omega)) (subH_get (by simp only [aqA,↓seqK,↓blkK,↓loopK,step,stepBin,eqB,Nat.add_assoc nid,simprocAttr,LN_succ,e1,e2,e3,e4,e5,e6,e7,e8,e9])) ?_
   rw [hI]
   have hga:getH (devHs nid D) (nid+24)=some (.arr 57 D.length [.s fun i=>(D.getD i dev0).name,.i .i64 fun i=>(D.getD i dev0).long,.i .i64 fun i=>(D.getD i dev0).id,.o (fun k=>nid+(100+2 * k)) (fun k=>(D.getD k dev0).regs.length),.o (fun k=>nid+(101+2 * k)) (fun k=>(D.getD k dev0).ins.length)]):=by simp [devHs,getH,arrD]
   simp -dsimp only [aqA,↓seqK,↓blkK,↓loopK,step,stepBin,eqB,Nat.add_assoc nid,simprocAttr,LN_succ,e1,e2,e3,e4,e5,e6,e7,e8,e9,strmC_low,hga]
   refine ⟨⟨by omega,by omega⟩,?_⟩
   refine CallO.any (spoil_later s nid _ nl A (q+1+1) I D (by assumption) (by omega) (by omega) hA (by omega) (by omega) hG) (subH_pre (X:=[(s,_),(s,_)]) (by simp [keys])) (fun x hx=>?_)
   obtain ⟨x1,x2,x3⟩:=hx
   simp -dsimp only [aqA,↓seqK,↓blkK,↓loopK,step,stepBin,eqB,Nat.add_assoc nid,simprocAttr,LN_succ,e1,e2,e3,e4,e5,e6,e7,e8,e9,strmC_low]
   refine ⟨⟨(x.D,x.q),x1,x2,by simp only; omega⟩,?_⟩
   simp only
   rw [← x1]
   refine Cov.sub (by omega) (by simp only [SlotsIn,aqA,↓seqK,↓blkK,↓loopK,step,stepBin,eqB,Nat.add_assoc nid,simprocAttr]; try simp) (subH_front ((s,strmC nl A x.q)::devHs nid x.D) _)
  ·refine ⟨⟨(D,q+1),rfl,fun d hd=>(hG d hd).ok,by simp only; omega⟩,?_⟩
   simp only
   generalize devHs nid D=Hs at *
   refine Cov.goP (nid+200) Hs [_] [] [] (by repeat (first | exact .nil | apply PreH.cons)) (by omega) hs (by simp [kOK,hsk]) (by simp) ?_
   simp [cvT,step,res,e1,e2,e3,e4,e5,e6,e7,e8,e9,strmC,-List.getD_eq_getElem?_getD]
 simp only at hl2 hok2 hq2
 clear hs hsk
 have hs:=devHs_scoped nid D2 (by omega)
 have hsk:=devHs_off s nid D2 h
 refine SR.seqEx (ι:={D3:List Dev // DevB most D3}) (fun D3=>⟨[(5,.sl (nid+24) 0 D3.1.length)],[(s,strmC nl A (q2+1))]++devHs nid D3.1,nid+15000,nid⟩) ?_ (fun ⟨D3,hB3⟩=>?_)
 ·simp -dsimp only [aqA,↓seqK,↓blkK,↓loopK,step,stepBin,eqB,Nat.add_assoc nid,simprocAttr,LN_succ,e1,e2,e3,e4,e5,e6,e7,e8,e9,strmC_low]
  refine CallO.on (flip_c s _ nl A q2 60 (by omega) (by omega) hA (by omega)) (subH_get (by simp only [aqA,↓seqK,↓blkK,↓loopK,step,stepBin,eqB,Nat.add_assoc nid,simprocAttr,LN_succ,e1,e2,e3,e4,e5,e6,e7,e8,e9])) ?_
  simp -dsimp only [aqA,↓seqK,↓blkK,↓loopK,step,stepBin,eqB,Nat.add_assoc nid,simprocAttr,LN_succ,e1,e2,e3,e4,e5,e6,e7,e8,e9,strmC_low]
  refine S2.intro (fun h=>?_) (fun h=>?_) <;> simp -dsimp only [aqA,↓seqK,↓blkK,↓loopK,step,stepBin,eqB,Nat.add_assoc nid,simprocAttr,LN_succ,e1,e2,e3,e4,e5,e6,e7,e8,e9,strmC_low]
  ·refine ⟨⟨[],by simp,by simp⟩,Cov.go [] [(nid+24,5)] ?_⟩
   simp [cvT,step,res,e1,e2,e3,e4,e5,e6,e7,e8,e9,strmC,devHs,famD,inRg,inIn,arrD,-List.getD_eq_getElem?_getD]
  ·refine ⟨⟨D2,by omega,hok2⟩,?_⟩
   generalize devHs nid D2=Hs at *
   refine Cov.goP (nid+200) Hs [_] [] [] (by repeat (first | exact .nil | apply PreH.cons)) (by omega) hs (by simp [kOK,hsk]) (by simp) ?_
   simp [cvT,step,res,e1,e2,e3,e4,e5,e6,e7,e8,e9,strmC,-List.getD_eq_getElem?_getD]
 exact hend (q2+1) D3 hB3 (by omega)
open Go.RowKit
theorem ColEq.l0 {n:Nat} {nl nl':Nat→Bool} {len len':Nat→Nat} {cols cols':Nat→List Col} (e:∀ j,j<n→nl j=nl' j∧len j=0∧len' j=0):ColEq n (.l nl len cols) (.l nl' len' cols'):=fun Y w j v hj hv=>by
 obtain ⟨h1,h2,h3⟩:=e j hj
 cases hv with
 | @l _ _ _ _ A cap u e2 e3 e4 e5 e6 =>
  have h:=ColRep.l (Y:=Y) (w:=w) (nl:=nl') (len:=len') (cols:=cols') (n:=j) (A:=A) (cap:=cap) u (by rw [← h1]; exact e2) (fun hA=>⟨h3,(e3 hA).2⟩) (by omega) (fun k m hk=>by omega) (fun k m c hk=>by omega)
  rw [h3] at h
  rw [h2]
  exact h
theorem DevOk.s {d:Dev} (h:DevOk d):DevS d :=
 ⟨by have:=h.nm; omega,by have:=h.lg; unfold inI64; omega,by have:=h.idb; unfold inI64; omega,by have:=h.rl; omega,fun x hx=>by have:=h.rs x hx; unfold inI64; omega,by have:=h.il; omega,fun x hx=>by have:=h.is x hx; omega⟩
open Go.RowKit
theorem portsH_keys (i:Nat):∀ (P Q:List Port),P.length=Q.length→keys (portsH i P)=keys (portsH i Q):=by
 intro P
 induction P generalizing i with
 | nil=>intro Q h; cases Q with
  | nil=>rfl
  | cons=>simp at h
 | cons p P ih=>intro Q h; cases Q with
  | nil=>simp at h
  | cons q Q =>
   simp only [portsH,keys,List.map_cons]
   have:=ih (i+3) Q (by simpa using h)
   simp only [keys] at this
   rw [this]
theorem chainH_keys (c s t:Nat) (P Q:List Port) (h:P.length=Q.length):keys (chainH c s P)=keys (chainH c t Q):=by
 have:=portsH_keys (c+2) P Q h
 simp only [keys] at this
 simp only [chainH,keys,List.map_cons,this]
theorem portsH_low (b:Nat):∀ (P:List Port) (i:Nat),i+3 * P.length≤b→∀ x∈portsH i P,x.1<b∧lowBlk b x.2=true
 | [],i,_,x,hx=>by simp [portsH] at hx
 | p::P,i,h,x,hx=>by
  simp only [List.length_cons] at h
  simp only [portsH,List.mem_cons] at hx
  rcases hx with rfl | rfl | rfl | hx
  ·refine ⟨by simp only; omega,?_⟩
   simp [portB,lowBlk_box,lowAll,idsOfs,idsOf,litRg,litIn]
   omega
  ·exact ⟨by simp only; omega,rfl⟩
  ·exact ⟨by simp only; omega,rfl⟩
  ·exact portsH_low b P (i+3) (by omega) x hx
theorem chainH_scoped (c b st:Nat) (P:List Port) (hP:P.length≤3) (h:c+11≤b):Scoped b (chainH c st P):=scoped_list fun x hx=>by
 simp only [chainH,List.mem_cons] at hx
 rcases hx with rfl | rfl | hx
 ·refine ⟨by simp only; omega,?_⟩
  simp [chB,lowBlk_box,lowAll,idsOfs,idsOf]
  omega
 ·refine ⟨by simp only; omega,?_⟩
  show lowCols b P.length _=true
  simp only [lowCols,Bool.and_eq_true,Bool.and_true]
  exact allTo_all fun j hj=>by simp; omega
 ·exact portsH_low b P (c+2) (by omega) x hx
theorem HCov.whole {b hi:Nat} {Hs Z:Heap} (hs:Scoped b Hs) (hb:b≤hi) (hZ:subH Hs Z):HCov hi [] [] Z Hs:=fun id x hx=>by
 have h:=frame_cov (b:=b) (hi:=hi) (ren:=[]) (nils:=[]) (n:=0) Hs [] [] hs (by simp [keys]) rfl rfl hb trivial id x hx
 simp only [List.nil_append] at h
 have e1:getH Z (srcOf [] id)=getH Hs (srcOf [] id):=by
  show getH Z id=getH Hs id
  rw [hx]
  exact hZ id x hx
 rw [e1]
 exact h
theorem RetOK.whole {rs:List ARes} {nid:Nat} {r:PV} {e:AEx} {s:Slots} {n1 b1:Nat} {Hs u Z:Heap} (he:e=.ret∨e=.normal) (hs:Scoped nid u) (hk:∀ id∈keys Hs,id∈keys u) (hZ:subH u Z)
  (h:onAll (readAll ⟨s,Z,n1,b1⟩ rs) fun ps=>PVCov (nid+4) [] [] (retPV ps) r):RetOK rs Hs nid r u e ⟨s,Z,n1,b1⟩:=by
 cases hp:readAll ⟨s,Z,n1,b1⟩ rs with
 | none=>rw [hp] at h; exact h.elim
 | some ps =>
  rw [hp] at h
  have hall:∃ (ren nils:List (Nat × Nat)) (H2:Heap),(∀ id,getH H2 id=getH (u++Hs) id)∧inRange nid (nid+4) ren=true∧inRange nid (nid+4) nils=true∧apart ren nils (liveIds H2)=true∧(liveIds H2).all (fun id=>decide (id<nid+4))=true ∧
    HCov (nid+4) ren nils Z H2∧PVCov (nid+4) ren nils (retPV ps) r:=by
   refine ⟨[],[],u,fun id=>?_,rfl,rfl,frame_apart (b:=nid) (hi:=nid+4) u [] hs rfl rfl rfl,frame_lt (b:=nid) (hi:=nid+4) u [] hs (by omega) rfl,HCov.whole hs (by omega) hZ,h⟩
   rw [getH_appC]
   cases hc:(keys u).contains id
   ·simp only [cond_false]
    have h1:getH u id=none:=by
     cases hg:getH u id with
     | none=>rfl
     | some x=>rw [getH_key hg] at hc; cases hc
    have h2:getH Hs id=none:=by
     cases hg:getH Hs id with
     | none=>rfl
     | some x =>
      have:=hk id (by simpa using getH_key hg)
      rw [show (keys u).contains id=true by simpa using this] at hc
      cases hc
    rw [h1,h2]
   ·rfl
  rcases he with rfl | rfl
  ·show onAll (readAll ⟨s,Z,n1,b1⟩ rs) _
   rw [hp]
   exact hall
  ·show onAll (readAll ⟨s,Z,n1,b1⟩ rs) _
   rw [hp]
   exact hall
theorem subH_refl (H:Heap):subH H H:=fun id b h=>h
theorem Cov.whole {s1 s2:Slots} {n1 n2 b:Nat} {u Z:Heap} (hs:Scoped b u) (hZ:subH u Z) (hn:b≤n2) (h:SlotsCov n2 [] [] s1 s2):Cov ⟨s1,Z,n1,b⟩ ⟨s2,u,n2,b⟩ :=
 Cov.mk [] [] rfl hn rfl rfl (frame_apart (b:=b) (hi:=n2) u [] hs rfl rfl rfl) (frame_lt (b:=b) (hi:=n2) u [] hs hn rfl) (HCov.whole hs hn hZ) h
def chH (c:Nat) (x:ChV):Heap:=chainH c x.st x.P
theorem PortV.s {st:Nat} {p:Port} (h:PortV p):PortS st p:=by
 have hw:=h.sh
 have hb:=h.sh.head
 have:=(bitM_lt hb)
 exact ⟨⟨h.rl,h.il,h.idb,h.lg⟩,by have:=hw.l1; omega,fun _=>hw.l0,fun _=>by omega⟩
def outB1 (st:Nat) (b:UInt8):Int:=if shifts st=true then (bitM b:Nat) else -1
theorem outV_bit {st:Nat} {b:UInt8} (hb:oneBit b=true):outV st b=outB1 st b:=by
 unfold outV outB1
 unfold oneBit at hb
 simp only [Bool.or_eq_true,beq_iff_eq] at hb
 rcases hb with rfl | rfl <;> rfl
theorem tick_c (x:ChV) (tms:Nat) (tdi:UInt8) (n c nid:Nat) (hc:c+11≤nid) (h1:tms<2) (hb:oneBit tdi=true) (hx:ChOk n x) (hl0:0<n) (hl:n≤3) :
  ACall Tryz.prog 62 [.ptr c 0,.int .i64 (tms:Nat),.int .i64 (bitM tdi:Nat)] (chH c x) nid (.int .i64 (outB1 x.st (tickO x tdi))) (chH c (tickV nextN x tms tdi)):=by
 have hm:=bitM_lt hb
 have h:=clock_c x.st x.P tms (bitM tdi) c nid hc h1 hm.1 hx.st (fun p hp=>(hx.ok p hp).s) (by rw [hx.len]; exact hl0) (by rw [hx.len]; exact hl)
 have e:UInt8.ofNat (48+bitM tdi)=tdi:=by rw [← hm.2]; exact UInt8.ofNat_toNat
 rw [e,outV_bit (clockP_V hx.ok hb).2] at h
 exact h
theorem bitW8 {b:UInt8} (hb:oneBit b=true):IntKind.i64.wrap (IntKind.u8.wrap (((b.toNat:Nat):Int) - 48))=(bitM b:Nat):=by
 unfold oneBit at hb
 simp only [Bool.or_eq_true,beq_iff_eq] at hb
 rcases hb with rfl | rfl <;> rfl
theorem walkV_take {x:ChV} {l:Bs} {k:Nat} (hk:k<l.length):walkV nextN x (l.take (k+1))=tickV nextN (walkV nextN x (l.take k)) (bitM (l.getD k 0)) 48:=by
 rw [List.take_add_one,List.getElem?_eq_getElem hk,Option.toList_some,walkV_snoc,List.getD_eq_getElem?_getD,List.getElem?_eq_getElem hk]
 rfl
theorem bits_at {l:Bs} (h:l.all oneBit=true) {k:Nat} (hk:k<l.length):oneBit (l.getD k 0)=true:=by
 rw [List.getD_eq_getElem?_getD,List.getElem?_eq_getElem hk]
 exact List.all_eq_true.1 h _ (List.getElem_mem _)
theorem take_bits {l:Bs} (h:l.all oneBit=true) (k:Nat):(l.take k).all oneBit=true:=List.all_eq_true.2 fun b hb=>List.all_eq_true.1 h b (List.mem_of_mem_take hb)
set_option maxHeartbeats 4000000 in
theorem walk_c (x:ChV) (l:Bs) (n c nid:Nat) (hc:c+11≤nid) (hl:l.all oneBit=true) (hll:l.length≤1000000) (hx:ChOk n x) (hn0:0<n) (hn:n≤3) :
  ACall Tryz.prog 126 [.ptr c 0,.str l] (chH c x) nid (.tup []) (chH c (walkV nextN x l)):=by
 have hok:∀ k,ChOk n (walkV nextN x (l.take k)):=fun k=>walk_ok (fun s t hs ht=>nextN_lt hs ht) hx (take_bits hl k)
 have hsc:∀ (y:ChV),ChOk n y→∀ m,c+11≤m→Scoped m (chH c y):=fun y hy m hm=>chainH_scoped c m y.st y.P (by rw [hy.len]; exact hn) hm
 have hks:∀ (y z:ChV),ChOk n y→ChOk n z→keys (chH c y)=keys (chH c z):=fun y z hy hz=>chainH_keys c _ _ _ _ (by rw [hy.len,hz.len])
 have htk:=fun k (hk:k<l.length) m (hm:c+11≤m)=>tick_c (walkV nextN x (l.take k)) (bitM (l.getD k 0)) 48 n c m hm (bitM_lt (bits_at hl hk)).1 (by decide) (hok k) hn0 hn
 have g:=id_row hc (by omega)
 refine acall_sr c126 (by simp [a126]) ?_
 unfold a126
 have h0:walkV nextN x (l.take 0)=x:=rfl
 refine SR.run (t:=.mk) ?_
 simp -dsimp only [aqA,↓seqK,↓blkK,↓loopK,step,stepBin,eqB,Nat.add_assoc nid,simprocAttr,LN_succ,g]
 refine LP.mkP (fun k:Nat=>k≤l.length) (fun k=>⟨[(7,.int .i64 k),(6,.int .i64 l.length),(1,.str l),(0,.ptr c 0)],chH c (walkV nextN x (l.take k)),nid+100,nid⟩) (fun k=>l.length+1 - k) 0 (by omega) ?_ (fun k hk=>?_)
 ·rw [h0]
  refine Cov.sub (by omega) (by simp only [SlotsIn,aqA,↓seqK,↓blkK,↓loopK,step,stepBin,eqB,Nat.reduceBEq,Nat.reduceBeqDiff,Nat.add_assoc nid,Nat.reduceAdd,reduceCtorEq,↓reduceIte,Nat.reduceLeDiff,Nat.reduceBneDiff,Nat.reduceLT]; try simp) (subH_refl _)
 simp -dsimp only [aqA,↓seqK,↓blkK,↓loopK,step,stepBin,eqB,Nat.add_assoc nid,simprocAttr,LN_succ,g]
 refine S2.dec (fun h3=>?_) (fun h3=>?_) <;> simp -dsimp only [aqA,↓seqK,↓blkK,↓loopK,step,stepBin,eqB,Nat.add_assoc nid,simprocAttr,LN_succ,g]
 ·have hkl:k<l.length:=by omega
  have hb:=bits_at hl hkl
  have ht:=htk k hkl
  rw [← walkV_take hkl] at ht
  rw [show (bitM 48:Nat)=0 from rfl] at ht
  have hsk:=hsc _ (hok k)
  generalize hH:chH c (walkV nextN x (l.take k))=Hs at *
  rw [bitW8 hb]
  refine ⟨⟨by omega,by omega⟩,CallO.on (ht _ (by omega)) (subH_refl _) ?_⟩
  simp -dsimp only [aqA,↓seqK,↓blkK,↓loopK,step,stepBin,eqB,Nat.add_assoc nid,simprocAttr,LN_succ,g]
  refine ⟨by unfold inI64; omega,k+1,⟨by omega,by omega⟩,?_⟩
  refine Cov.whole (hsc _ (hok (k+1)) _ hc) (subH_front _ _) (by omega) ?_
  simp [cvT,step,res,g]
 ·have hkn:k=l.length:=by omega
  rw [hkn,List.take_length] at *
  refine RetOK.whole (.inr rfl) (hsc _ (by have:=hok l.length; rwa [List.take_length] at this) _ hc) (fun id hid=>?_) (subH_refl _) ?_
  ·rw [hks _ x (by have:=hok l.length; rwa [List.take_length] at this) hx]; exact hid
  ·simp [cvT,step,res]
def bitN (b:UInt8):Nat:=b.toNat - 48
def bitsFaultV (s:List UInt8):Int:=if 20000<s.length then 2 else if bitsOk s=true then 0 else 9
theorem bitsFaultV_ok {s:List UInt8} (h:bitsFaultV s=0):s.length≤20000∧bitsOk s=true:=by
 unfold bitsFaultV at h
 split at h
 ·cases h
 ·split at h
  ·exact ⟨by omega,by assumption⟩
  ·cases h
def endV (st:Nat) (s:List UInt8):Nat:=s.foldl (fun a b=>nextN a (bitN b)) st
theorem endV_snoc (st:Nat) (s:List UInt8) (b:UInt8):endV st (s++[b])=nextN (endV st s) (bitN b):=by simp [endV]
theorem endV_take (st:Nat) (s:List UInt8) {k:Nat} (hk:k<s.length):endV st (s.take (k+1))=nextN (endV st (s.take k)) (bitN (s.getD k 0)):=by
 rw [List.take_add_one,List.getElem?_eq_getElem hk]
 simp only [Option.toList_some,endV_snoc]
 rw [List.getD_eq_getElem?_getD,List.getElem?_eq_getElem hk]
 rfl
theorem endV_lt {st:Nat} (h:st<16) {s:List UInt8} (hs:bitsOk s=true):∀ k,k≤s.length→endV st (s.take k)<16
 | 0,_=>by simpa [endV] using h
 | k+1,hk=>by
  rw [endV_take st s (by omega)]
  refine nextN_lt (endV_lt h hs k (by omega)) ?_
  unfold bitN
  rcases bitsOk_at hs (k:=k) (by omega) with e | e <;> rw [e] <;> decide
def walkL (st:Nat) (s:List UInt8):List Int:=(List.range s.length).map fun i=>(endV st (s.take (i+1)):Nat)
def walkTo (st:Nat) (s:List UInt8) (k:Nat):List Int:=(List.range k).map fun i=>(endV st (s.take (i+1)):Nat)
theorem walkTo_len (st:Nat) (s:List UInt8) (k:Nat):(walkTo st s k).length=k:=by simp [walkTo]
theorem walkTo_succ (st:Nat) (s:List UInt8) (k:Nat):walkTo st s (k+1)=walkTo st s k++[((endV st (s.take (k+1)):Nat):Int)]:=by simp [walkTo,List.range_succ]
theorem walkTo_all (st:Nat) (s:List UInt8):walkTo st s s.length=walkL st s:=rfl
open Go.RowKit
def tmsAt (n k:Nat):Nat:=if k+1=n then 1 else 0
def feedV (x:ChV) (l:Bs):Nat→ChV
 | 0=>x
 | k+1=>tickV nextN (feedV x l k) (tmsAt l.length k) (l.getD k 0)
def feedO (x:ChV) (l:Bs) (k:Nat):UInt8:=tickO (feedV x l k) (l.getD k 0)
def scan1 (x:ChV) (T:Nat):ChV:=walkV nextN x (pathV x.st T)
def scanV (x:ChV) (T:Nat) (l:Bs):ChV:=walkV nextN (feedV (scan1 x T) l l.length) [49,48]
def scanO (x:ChV) (T:Nat) (l:Bs):Bs:=(List.range l.length).map (feedO (scan1 x T) l)
theorem walkV_st (x:ChV):∀ (l:Bs),(walkV nextN x l).st=l.foldl (fun a b=>nextN a (bitM b)) x.st:=by
 intro l
 induction l generalizing x with
 | nil=>rfl
 | cons b l ih=>exact ih (tickV nextN x (bitM b) 48)
theorem way_all:∀ s,s<2→∀ T,T=4∨T=11→(pathV s T).foldl (fun a b=>nextN a (bitM b)) s=T∧(pathV s T).all oneBit=true∧(pathV s T).length≤20:=by
 intro s hs T hT
 have:s=0∨s=1:=by omega
 rcases this with rfl | rfl <;> rcases hT with rfl | rfl <;> decide
theorem tmsAt_lt (n k:Nat):tmsAt n k<2:=by unfold tmsAt; split <;> omega
theorem feed_ok {n:Nat} {x:ChV} {l:Bs} (h:ChOk n x) (hl:l.all oneBit=true):∀ k,k≤l.length→ChOk n (feedV x l k)
 | 0,_=>h
 | k+1,hk=>tick_ok (fun s t hs ht=>nextN_lt hs ht) (feed_ok h hl k (by omega)) (tmsAt_lt _ _) (bits_at hl (by omega))
theorem feed_st {x:ChV} {l:Bs} {T:Nat} (hx:x.st=T) (hT:T=4∨T=11):∀ k,k<l.length→(feedV x l k).st=T
 | 0,_=>hx
 | k+1,hk=>by
  show nextN (feedV x l k).st (tmsAt l.length k)=T
  rw [feed_st hx hT k (by omega)]
  have:tmsAt l.length k=0:=by unfold tmsAt; rw [if_neg (by omega)]
  rw [this]
  rcases hT with rfl | rfl <;> rfl
theorem scan1_ok {n T:Nat} {x:ChV} (h:ChOk n x) (hs:x.st<2) (hT:T=4∨T=11):ChOk n (scan1 x T)∧(scan1 x T).st=T:=by
 obtain ⟨w1,w2,w3⟩:=way_all x.st hs T hT
 exact ⟨walk_ok (fun s t hs ht=>nextN_lt hs ht) h w2,by unfold scan1; rw [walkV_st]; exact w1⟩
theorem scanV_ok {n T:Nat} {x:ChV} {l:Bs} (h:ChOk n x) (hs:x.st<2) (hT:T=4∨T=11) (hl:l.all oneBit=true):ChOk n (scanV x T l) :=
 walk_ok (fun s t hs ht=>nextN_lt hs ht) (feed_ok (scan1_ok h hs hT).1 hl _ (Nat.le_refl _)) (by decide)
theorem subH_mix {b:Nat} {Hs R:Heap} {k:Nat} {A:ABlk} (E:Heap) (hs:Scoped b Hs) (hE:E.all (fun x=>decide (b≤x.1))=true) (hk:getH E k=some A):subH ((k,some A)::Hs) (E++(Hs++R)):=fun id y hy=>by
 have hkE:∀ id,(keys E).contains id=true→b≤id:=fun id h=>by
  simp only [keys,List.contains_iff_mem,List.mem_map] at h
  obtain ⟨x,hx,rfl⟩:=h
  have:=List.all_eq_true.1 hE x hx
  simpa using this
 simp only [getH] at hy
 rw [getH_appC]
 cases e:(k==id)
 ·rw [e] at hy
  simp only [cond_false] at hy
  have hlt:=hs.lt id (by simpa using getH_key hy)
  cases hc:(keys E).contains id
  ·simp only [cond_false]
   exact subH_front Hs R id y hy
  ·have:=hkE id hc
   omega
 ·rw [e] at hy
  simp only [cond_true] at hy
  have e':=eq_of_beq e
  subst e'
  rw [getH_key hk]
  simp only [cond_true]
  rw [hk]
  exact hy
theorem Cov.heap {s:Slots} {H H':Heap} {n b:Nat} (hH:subH H' H):Cov ⟨s,H,n,b⟩ ⟨s,H',n,b⟩:=fun C nt Y m a w h =>
 ⟨Y,m,h.size,h.defers,h.slots,HSF.some_sub h.heap hH,h.base⟩
theorem bitsFaultT_c (s:List UInt8) (nid:Nat) (hs:s.length≤1099511627776):ACall Tryz.prog 69 [.str s] [] nid (.int .i64 (bitsFaultV s)) []:=by
 refine acall_run c69 (by simp [a69]) ?_
 simp -dsimp only [aqA,↓seqK,↓blkK,↓loopK,step,stepBin,eqB,Nat.reduceBEq,Nat.reduceBeqDiff,Nat.add_assoc nid,Nat.reduceAdd,reduceCtorEq,↓reduceIte,Nat.reduceLeDiff,Nat.reduceBneDiff,Nat.reduceLT,a69]
 refine S2.dec (fun h=>?_) (fun h=>?_) <;> simp -dsimp only [aqA,↓seqK,↓blkK,↓loopK,step,stepBin,eqB,Nat.reduceBEq,Nat.reduceBeqDiff,Nat.add_assoc nid,Nat.reduceAdd,reduceCtorEq,↓reduceIte,Nat.reduceLeDiff,Nat.reduceBneDiff,Nat.reduceLT]
 ·have e:bitsFaultV s=2:=by unfold bitsFaultV; rw [if_pos (by omega)]
  rw [e]
  refine RetOK.pure (.inl rfl) rfl ?_
  simp [cvT,step,res]
 have e:bitsFaultV s=if bitsOk s=true then 0 else 9:=by unfold bitsFaultV; rw [if_neg (by omega)]
 rw [e]
 refine CallO.pure (bits_c s _ hs) ?_
 simp -dsimp only [aqA,↓seqK,↓blkK,↓loopK,step,stepBin,eqB,Nat.reduceBEq,Nat.reduceBeqDiff,Nat.add_assoc nid,Nat.reduceAdd,reduceCtorEq,↓reduceIte,Nat.reduceLeDiff,Nat.reduceBneDiff,Nat.reduceLT]
 cases hb:bitsOk s <;> simp -dsimp only [aqA,↓seqK,↓blkK,↓loopK,step,stepBin,eqB,Nat.reduceBEq,Nat.reduceBeqDiff,Nat.add_assoc nid,Nat.reduceAdd,reduceCtorEq,↓reduceIte,Nat.reduceLeDiff,Nat.reduceBneDiff,Nat.reduceLT]
 ·refine RetOK.pure (.inl rfl) rfl ?_
  simp [cvT,step,res]
 ·refine RetOK.pure (.inl rfl) rfl ?_
  simp [cvT,step,res]
theorem outByte {b:UInt8} (hb:oneBit b=true):IntKind.u8.wrap (48+((bitM b:Nat):Int))=(b.toNat:Nat):=by
 unfold oneBit at hb
 simp only [Bool.or_eq_true,beq_iff_eq] at hb
 rcases hb with rfl | rfl <;> rfl
theorem bits_ok {l:Bs} (h:bitsFaultV l=0):l.all oneBit=true∧l.length≤20000:=by
 obtain ⟨h1,h2⟩:=bitsFaultV_ok h
 exact ⟨h2,h1⟩
set_option maxHeartbeats 8000000 in
theorem scan_c (x:ChV) (T:Nat) (l:Bs) (n c nid:Nat) (hc:c+11≤nid) (hx:ChOk n x) (hs:x.st<2) (hT:T=4∨T=11) (h0:0<l.length) (hf:bitsFaultV l=0) (hn0:0<n) (hn:n≤3) :
  ACall Tryz.prog 85 [.ptr c 0,.int .i64 (T:Nat),.str l] (chH c x) nid (.tup [.str (scanO x T l),.int .i64 0]) (chH c (scanV x T l)):=by
 obtain ⟨hl,hll⟩:=bits_ok hf
 obtain ⟨hok1,hst1⟩:=scan1_ok hx hs hT
 obtain ⟨w1,w2,w3⟩:=way_all x.st hs T hT
 have hsc:∀ (y:ChV),ChOk n y→∀ m,c+11≤m→Scoped m (chH c y):=fun y hy m hm=>chainH_scoped c m y.st y.P (by rw [hy.len]; exact hn) hm
 have hks:∀ (y z:ChV),ChOk n y→ChOk n z→keys (chH c y)=keys (chH c z):=fun y z hy hz=>chainH_keys c _ _ _ _ (by rw [hy.len,hz.len])
 have hokV:=scanV_ok hx hs hT hl
 have hfo:=fun k hk=>feed_ok hok1 hl k hk
 have g:=id_row hc (by omega)
 refine acall_sr c85 (by simp [a85]) ?_
 unfold a85
 have hbf:=fun m=>bitsFaultT_c l m (by omega)
 rw [hf] at hbf
 have hpt:=fun m=>path_st x.st T m hx.st
 have hwk:=fun m (hm:c+11≤m)=>walk_c x (pathV x.st T) n c m hm w2 (by omega) hx hn0 hn
 refine SR.seq ?_
 simp -dsimp only [aqA,↓seqK,↓blkK,↓loopK,step,stepBin,eqB,Nat.add_assoc nid,simprocAttr,LN_succ,g]
 refine SR.seqTo ⟨[(0,.ptr c 0),(1,.int .i64 (T:Nat)),(2,.str l)],chH c x,nid+100,nid⟩ ?_ ?_
 ·unfold chH chainH chB
  simp -dsimp only [aqA,↓seqK,↓blkK,↓loopK,step,stepBin,eqB,Nat.add_assoc nid,simprocAttr,LN_succ,g]
  have hst2:x.st=0∨x.st=1:=by omega
  have hb:(((x.st:Nat):Int) != 1)=false∨((((x.st:Nat):Int) != 1)=true∧(((x.st:Nat):Int) != 0)=false):=by
   rcases hst2 with h | h <;> rw [h]
   ·exact .inr ⟨rfl,rfl⟩
   ·exact .inl rfl
  have hend:∀ (s:Slots) (m:Nat),getS s 0=.ptr c 0→getS s 1=.int .i64 (T:Nat)→getS s 2=.str l→Cov ⟨s,(c,some (.box 95 [.int .i64 (x.st:Nat),.sl (c+1) 0 x.P.length]))::(c+1,some (.arr 98 x.P.length [.q fun k=>c+2+3 * k]))::portsH (c+2) x.P,m,nid⟩ ⟨[(0,.ptr c 0),(1,.int .i64 (T:Nat)),(2,.str l)],chH c x,nid+100,nid⟩:=fun s m h1 h2 h3=>by
   refine Cov.whole (hsc x hx _ hc) (subH_refl _) (by omega) ?_
   simp [cvT,step,res,g,h1,h2,h3]
  rcases hb with hb | ⟨hb,hb'⟩
  ·simp -dsimp only [aqA,↓seqK,↓blkK,↓loopK,step,stepBin,eqB,Nat.add_assoc nid,simprocAttr,LN_succ,g,hb]
   refine S2.intro (fun h=>absurd h0 (by simp at h; simp [h])) (fun h=>?_)
   simp -dsimp only [aqA,↓seqK,↓blkK,↓loopK,step,stepBin,eqB,Nat.add_assoc nid,simprocAttr,LN_succ,g]
   exact hend _ _ rfl rfl rfl
  ·simp -dsimp only [aqA,↓seqK,↓blkK,↓loopK,step,stepBin,eqB,Nat.add_assoc nid,simprocAttr,LN_succ,g,hb,hb']
   refine S2.intro (fun h=>absurd h0 (by simp at h; simp [h])) (fun h=>?_)
   simp -dsimp only [aqA,↓seqK,↓blkK,↓loopK,step,stepBin,eqB,Nat.add_assoc nid,simprocAttr,LN_succ,g]
   exact hend _ _ rfl rfl rfl
 refine SR.seqTo ⟨[(0,.ptr c 0),(1,.int .i64 (T:Nat)),(2,.str l)],chH c x,nid+200,nid⟩ ?_ ?_
 ·have hsx:=hsc x hx
  generalize chH c x=Hs at *
  simp -dsimp only [aqA,↓seqK,↓blkK,↓loopK,step,stepBin,eqB,Nat.add_assoc nid,simprocAttr,LN_succ,g]
  refine CallO.pure (hbf _) ?_
  simp -dsimp only [aqA,↓seqK,↓blkK,↓loopK,step,stepBin,eqB,Nat.add_assoc nid,simprocAttr,LN_succ,g]
  refine Cov.whole (hsx _ hc) (subH_refl _) (by omega) ?_
  simp [cvT,step,res,g]
 refine SR.seqTo ⟨[(0,.ptr c 0),(2,.str l)],chH c (scan1 x T),nid+300,nid⟩ ?_ ?_
 ·have hs1:=hsc (scan1 x T) hok1
  have hwk':=fun m hm=>hwk m hm
  unfold scan1 at hs1 ⊢
  have hld:getH (chH c x) c=some (.box 95 [.int .i64 (x.st:Nat),.sl (c+1) 0 x.P.length]):=by
   unfold chH chainH chB
   simp only [aqA,↓seqK,↓blkK,↓loopK,step,stepBin,eqB,Nat.add_assoc nid,simprocAttr,LN_succ]
  generalize chH c x=Hs at *
  simp -dsimp only [aqA,↓seqK,↓blkK,↓loopK,step,stepBin,eqB,Nat.add_assoc nid,simprocAttr,LN_succ,g,hld]
  refine CallO.pure (hpt _) ?_
  simp -dsimp only [aqA,↓seqK,↓blkK,↓loopK,step,stepBin,eqB,Nat.add_assoc nid,simprocAttr,LN_succ,g,hld]
  refine CallO.on (hwk _ (by omega)) (subH_refl _) ?_
  simp -dsimp only [aqA,↓seqK,↓blkK,↓loopK,step,stepBin,eqB,Nat.add_assoc nid,simprocAttr,LN_succ,g,hld]
  refine Cov.whole (hs1 _ hc) (subH_front _ _) (by omega) ?_
  simp [cvT,step,res,g]
 have hx1:scan1 x T=scan1 x T:=rfl
 unfold scanO scanV
 generalize scan1 x T=y at *
 have htk:=fun k (hk:k<l.length) m (hm:c+11≤m)=>tick_c (feedV y l k) (tmsAt l.length k) (l.getD k 0) n c m hm (tmsAt_lt _ _) (bits_at hl hk) (hfo k (by omega)) hn0 hn
 refine SR.seq ?_
 simp -dsimp only [aqA,↓seqK,↓blkK,↓loopK,step,stepBin,eqB,Nat.add_assoc nid,simprocAttr,LN_succ,g]
 refine SR.seqTo ⟨[(9,.sl (nid+200) 0 l.length),(0,.ptr c 0)],(nid+200,some (.arr 5 l.length [.i .u8 fun j=>((feedO y l j).toNat:Nat)]))::chH c (feedV y l l.length),nid+2000,nid⟩ ?_ ?_
 ·have hsy:=hsc y hok1
  simp -dsimp only [aqA,↓seqK,↓blkK,↓loopK,step,stepBin,eqB,Nat.add_assoc nid,simprocAttr,LN_succ,g]
  refine LP.mkP (fun k:Nat=>k≤l.length) (fun k=>⟨[(9,.sl (nid+200) 0 k),(43,.int .i64 k),(42,.int .i64 l.length),(2,.str l),(0,.ptr c 0)],(nid+200,some (.arr 5 k [.i .u8 fun j=>((feedO y l j).toNat:Nat)]))::chH c (feedV y l k),nid+1000,nid⟩) (fun k=>l.length+1 - k) 0 (by omega) ?_ (fun k hk=>?_)
  ·refine Cov.goF (chH c y) [] [(nid+200,_)] [] [(nid+200,1)] (hsy _ hc) (by simp [kOK]) rfl ?_
   simp [cvT,step,res,g]
  simp -dsimp only [aqA,↓seqK,↓blkK,↓loopK,step,stepBin,eqB,Nat.add_assoc nid,simprocAttr,LN_succ,g]
  refine S2.dec (fun h3=>?_) (fun h3=>?_) <;> simp -dsimp only [aqA,↓seqK,↓blkK,↓loopK,step,stepBin,eqB,Nat.add_assoc nid,simprocAttr,LN_succ,g]
  ·have hkl:k<l.length:=by omega
   have hb:=bits_at hl hkl
   have hst:=feed_st hst1 hT k hkl
   have hob:oneBit (feedO y l k)=true:=(clockP_V (hfo k (by omega)).ok hb).2
   have hO:outB1 (feedV y l k).st (tickO (feedV y l k) (l.getD k 0))=((bitM (feedO y l k):Nat):Int):=by
    unfold outB1 shifts
    rw [hst]
    rcases hT with rfl | rfl <;> rfl
   have hbl:=bitM_lt hob
   have hob2:=outByte hob
   have ht:=htk k hkl
   rw [hO] at ht
   have hsk:=hsc _ (hfo k (by omega))
   have hsk1:=hsc _ (hfo (k+1) (by omega))
   have hf1:chH c (tickV nextN (feedV y l k) (tmsAt l.length k) (l.getD k 0))=chH c (feedV y l (k+1)):=rfl
   rw [hf1] at ht
   have htm:(((k:Nat):Int)==((l.length:Nat):Int) - 1)=decide (k+1=l.length):=by
    rw [Bool.eq_iff_iff,beq_iff_eq,decide_eq_true_eq]
    omega
   generalize hH:chH c (feedV y l k)=Hs at *
   generalize hH1:chH c (feedV y l (k+1))=Hs1 at *
   have hg:∀ A:Option ABlk,getH (Hs1++(nid+200,A)::Hs) (nid+200)=A:=fun A=>by
    rw [getH_appC]
    cases hk:(keys Hs1).contains (nid+200)
    ·simp [getH]
    ·have:=(hsk1 nid hc).lt (nid+200) (by simpa using hk)
     omega
   refine ⟨by unfold inI64; omega,?_⟩
   have hcol:ColEq (k+1) (.i .u8 fun i=>if i<k then ((feedO y l i).toNat:Nat) else [IntKind.u8.wrap (48+((bitM (feedO y l k):Nat):Int))].getD (i - k) 0) (.i .u8 fun j=>((feedO y l j).toNat:Nat)):=ColEq.i fun j hj=>by
    by_cases hjk:j<k
    ·rw [if_pos hjk]
    ·have e:j=k:=by omega
     rw [if_neg hjk,e,Nat.sub_self,hob2]
     rfl
   by_cases hlast:k+1=l.length
   ·have e1:tmsAt l.length k=1:=by unfold tmsAt; rw [if_pos hlast]
    rw [e1] at ht
    rw [decide_eq_true hlast] at htm
    rw [htm]
    simp -dsimp only [aqA,↓seqK,↓blkK,↓loopK,step,stepBin,eqB,Nat.add_assoc nid,simprocAttr,LN_succ,g]
    rw [bitW8 hb]
    refine ⟨⟨by omega,by omega⟩,CallO.on (ht _ (by omega)) (subH_frame (X:=[(nid+200,_)]) (hsk nid hc) (by simp [kOK])) ?_⟩
    simp -dsimp only [aqA,↓seqK,↓blkK,↓loopK,step,stepBin,eqB,Nat.add_assoc nid,simprocAttr,LN_succ,g,hg]
    refine ⟨by unfold inI64; omega,⟨by omega,by omega⟩,by unfold inI64; omega,k+1,⟨by omega,by omega⟩,?_⟩
    rw [hH1]
    show Cov ⟨_,[_,_,_]++(Hs1++_),_,_⟩ _
    refine Cov.trans (Cov.heap (subH_mix (b:=nid) (k:=nid+1088) (A:=.arr 5 (k+1) [.i .u8 fun i=>if i<k then ((feedO y l i).toNat:Nat) else [IntKind.u8.wrap (48+((bitM (feedO y l k):Nat):Int))].getD (i - k) 0]) _ (hsk1 nid hc) (by simp) (by simp only [aqA,↓seqK,↓blkK,↓loopK,step,stepBin,eqB,Nat.add_assoc nid,simprocAttr,LN_succ]))) (Cov.goF Hs1 [(nid+1088,_)] [(nid+200,_)] [(nid+200,nid+1088)] [] (hsk1 nid hc) (by simp [kOK]) (by simp) ?_)
    simp [cvT,step,res,g]
    exact hcol
   ·have e1:tmsAt l.length k=0:=by unfold tmsAt; rw [if_neg hlast]
    rw [e1] at ht
    rw [decide_eq_false hlast] at htm
    rw [htm]
    simp -dsimp only [aqA,↓seqK,↓blkK,↓loopK,step,stepBin,eqB,Nat.add_assoc nid,simprocAttr,LN_succ,g]
    rw [bitW8 hb]
    refine ⟨⟨by omega,by omega⟩,CallO.on (ht _ (by omega)) (subH_frame (X:=[(nid+200,_)]) (hsk nid hc) (by simp [kOK])) ?_⟩
    simp -dsimp only [aqA,↓seqK,↓blkK,↓loopK,step,stepBin,eqB,Nat.add_assoc nid,simprocAttr,LN_succ,g,hg]
    refine ⟨by unfold inI64; omega,⟨by omega,by omega⟩,by unfold inI64; omega,k+1,⟨by omega,by omega⟩,?_⟩
    rw [hH1]
    show Cov ⟨_,[_,_,_]++(Hs1++_),_,_⟩ _
    refine Cov.trans (Cov.heap (subH_mix (b:=nid) (k:=nid+1084) (A:=.arr 5 (k+1) [.i .u8 fun i=>if i<k then ((feedO y l i).toNat:Nat) else [IntKind.u8.wrap (48+((bitM (feedO y l k):Nat):Int))].getD (i - k) 0]) _ (hsk1 nid hc) (by simp) (by simp only [aqA,↓seqK,↓blkK,↓loopK,step,stepBin,eqB,Nat.add_assoc nid,simprocAttr,LN_succ]))) (Cov.goF Hs1 [(nid+1084,_)] [(nid+200,_)] [(nid+200,nid+1084)] [] (hsk1 nid hc) (by simp [kOK]) (by simp) ?_)
    simp [cvT,step,res,g]
    exact hcol
  ·have hkl:k=l.length:=by omega
   subst hkl
   refine Cov.goF (chH c (feedV y l l.length)) [(nid+200,_)] [(nid+200,_)] [] [] (hsc _ (hfo _ (Nat.le_refl _)) _ hc) (by simp [kOK]) rfl ?_
   simp [cvT,step,res,g]
 have hoky:=hfo l.length (Nat.le_refl _)
 have hok2:ChOk n (walkV nextN (feedV y l l.length) [49,48]):=walk_ok (fun s t hs ht=>nextN_lt hs ht) hoky (by decide)
 have hwk2:=fun m (hm:c+11≤m)=>walk_c (feedV y l l.length) [49,48] n c m hm (by decide) (by simp) hoky hn0 hn
 have hk2:=hks x _ hx hok2
 have hs1:=hsc _ hoky
 have hs2:=hsc _ hok2
 have hout:(List.range l.length).map (fun i=>UInt8.ofNat (feedO y l i).toNat)=(List.range l.length).map (feedO y l):=List.map_congr_left fun i _=>UInt8.ofNat_toNat
 generalize chH c (walkV nextN (feedV y l l.length) [49,48])=Hs2 at *
 generalize chH c (feedV y l l.length)=Hs1 at *
 have hg:∀ A:Option ABlk,getH (Hs2++(nid+200,A)::Hs1) (nid+200)=A:=fun A=>by
  rw [getH_appC]
  cases hk:(keys Hs2).contains (nid+200)
  ·simp [getH]
  ·have:=(hs2 nid hc).lt (nid+200) (by simpa using hk)
   omega
 refine SR.run (t:=.mk) ?_
 simp -dsimp only [aqA,↓seqK,↓blkK,↓loopK,step,stepBin,eqB,Nat.add_assoc nid,simprocAttr,LN_succ,g]
 refine CallO.on (hwk2 _ (by omega)) (subH_frame (X:=[(nid+200,_)]) (hs1 nid hc) (by simp [kOK])) ?_
 simp -dsimp only [aqA,↓seqK,↓blkK,↓loopK,step,stepBin,eqB,Nat.add_assoc nid,simprocAttr,LN_succ,g,hg]
 refine RetOK.whole (.inl rfl) (hs2 nid hc) (fun id hid=>by rw [← hk2]; exact hid) (subH_front _ _) ?_
 simp [a85,cvT,step,res,hout]
open Go.RowKit
theorem cloneRg_c (nl:Bool) (R:List (Bs × Int)) (nid:Nat) (hR:R.length≤1000):ACall Tryz.prog 73 [litRg nl R] [] nid (.sl nid 0 R.length) [(nid,arrRg R)]:=by
 refine ACall.nonnil 0 rfl (fun hnl=>?_)
 refine acall_run c73 (by simp [a73]) ?_
 unfold litRg
 simp -dsimp only [aqA,↓seqK,↓blkK,↓loopK,step,stepBin,eqB,Nat.add_assoc nid,simprocAttr,LN_succ,a73]
 refine S2.intro (fun h=>?_) (fun h=>?_)
 ·simp -dsimp only [aqA,↓seqK,↓blkK,↓loopK,step,stepBin,eqB,Nat.add_assoc nid,simprocAttr,LN_succ]
  have hR0:R=[]:=List.eq_nil_of_length_eq_zero (hnl h)
  subst hR0
  refine RetOK.go [] [(nid,2)] (.inl rfl) ?_
  simp [a73,cvT,step,res,arrRg]
 ·simp -dsimp only [aqA,↓seqK,↓blkK,↓loopK,step,stepBin,eqB,Nat.add_assoc nid,simprocAttr,LN_succ]
  refine ⟨⟨by omega,by omega⟩,RetOK.go [(nid,nid+20)] [] (.inl rfl) ?_⟩
  simp [a73,cvT,step,res,arrRg,-List.getD_eq_getElem?_getD]
theorem cloneIn_c (nl:Bool) (R:List (Bs × Bs)) (nid:Nat) (hR:R.length≤1000):ACall Tryz.prog 74 [litIn nl R] [] nid (.sl nid 0 R.length) [(nid,arrIn R)]:=by
 refine ACall.nonnil 0 rfl (fun hnl=>?_)
 refine acall_run c74 (by simp [a74]) ?_
 unfold litIn
 simp -dsimp only [aqA,↓seqK,↓blkK,↓loopK,step,stepBin,eqB,Nat.add_assoc nid,simprocAttr,LN_succ,a74]
 refine S2.intro (fun h=>?_) (fun h=>?_)
 ·simp -dsimp only [aqA,↓seqK,↓blkK,↓loopK,step,stepBin,eqB,Nat.add_assoc nid,simprocAttr,LN_succ]
  have hR0:R=[]:=List.eq_nil_of_length_eq_zero (hnl h)
  subst hR0
  refine RetOK.go [] [(nid,2)] (.inl rfl) ?_
  simp [a74,cvT,step,res,arrIn]
 ·simp -dsimp only [aqA,↓seqK,↓blkK,↓loopK,step,stepBin,eqB,Nat.add_assoc nid,simprocAttr,LN_succ]
  refine ⟨⟨by omega,by omega⟩,RetOK.go [(nid,nid+20)] [] (.inl rfl) ?_⟩
  simp [a74,cvT,step,res,arrIn,-List.getD_eq_getElem?_getD]
mutual
theorem lend_out (H:Heap) (G:List Nat) (nl:Nat→Bool):∀ p:PV,(∀ id∈idsOf p,id ∉ G)→lend H G nl p=p
 | .sl id off n,h=>by
  have:G.contains id=false:=by simpa using h id (by simp [idsOf])
  simp only [lend,this,Bool.false_and,cond_false]
 | .agg ps,h=>by
  simp only [lend]
  rw [lends_out H G nl ps h]
 | .int _ _,_=>rfl
 | .bool _,_=>rfl
 | .str _,_=>rfl
 | .lit _ _ _,_=>rfl
 | .ptr _ _,_=>rfl
 | .nilp,_=>rfl
 | .nili,_=>rfl
 | .elp _ _,_=>rfl
 | .arp _ _ _,_=>rfl
 | .arv _,_=>rfl
 | .tup _,_=>rfl
 | .fn _ _,_=>rfl
 | .mp _,_=>rfl
 | .stp _,_=>rfl
 | .any,_=>rfl
theorem lends_out (H:Heap) (G:List Nat) (nl:Nat→Bool):∀ ps:List PV,(∀ id∈idsOfs ps,id ∉ G)→lends H G nl ps=ps
 | [],_=>rfl
 | p::ps,h=>by
  simp only [lends]
  rw [lend_out H G nl p fun id hid=>h id (by simp [idsOfs,hid]),lends_out H G nl ps fun id hid=>h id (by simp [idsOfs,hid])]
end
theorem frzH_low {c:Nat} (H:Heap) (G:List Nat) (nl:Nat→Bool) (hG:∀ g∈G,c≤g):∀ F:Heap,(∀ x∈F,lowBlk c x.2=true)→frzH H G nl F=F
 | [],_=>rfl
 | (i,none)::F,h=>by
  simp only [frzH]
  rw [frzH_low H G nl hG F fun x hx=>h x (List.mem_cons_of_mem _ hx)]
 | (i,some b)::F,h=>by
  simp only [frzH]
  rw [frzH_low H G nl hG F fun x hx=>h x (List.mem_cons_of_mem _ hx)]
  have hb:=h _ List.mem_cons_self
  cases b with
  | box T cs =>
   have:lends H G nl cs=cs:=lends_out H G nl cs fun id hid hg=>by
    have hb':lowAll c (idsOfs cs)=true:=hb
    have h1:=List.all_eq_true.1 hb' id hid
    simp only [decide_eq_true_eq] at h1
    have:=hG id hg
    omega
   simp only [frzBlk,this]
  | arr T n cols=>rfl
  | map kk dom cc=>rfl
  | mape kk dom cc q sid=>rfl
def mapD (R:List (Bs × Int)) (q:MK):Bool:=R.any fun r=>decide (q=.s r.1)
def mapV (R:List (Bs × Int)) (q:MK):Bs:=R.foldl (fun v r=>if q=.s r.1 then Lib.repeatL [48] r.2.toNat else v) []
theorem mapD_snoc (R:List (Bs × Int)) (r:Bs × Int) (q:MK):mapD (R++[r]) q=if q=.s r.1 then true else mapD R q:=by
 unfold mapD
 rw [List.any_append]
 by_cases h:q=.s r.1 <;> simp [h]
theorem mapV_snoc (R:List (Bs × Int)) (r:Bs × Int) (q:MK):mapV (R++[r]) q=if q=.s r.1 then Lib.repeatL [48] r.2.toNat else mapV R q:=by
 unfold mapV
 rw [List.foldl_append]
 rfl
def port0 (d:Dev) (b1 b2:Bool):Port:=⟨d,b1,b2,[],[48],mapD d.regs,mapV d.regs,mapD d.regs,mapV d.regs⟩
def portsK (D:List Dev) (f:(Nat→Bool) × (Nat→Bool)) (k:Nat):List Port:=(List.range k).map fun j=>port0 (D.getD j dev0) (f.1 j) (f.2 j)
theorem portsK_len (D:List Dev) (f:(Nat→Bool) × (Nat→Bool)) (k:Nat):(portsK D f k).length=k:=by simp [portsK]
theorem portsH_app (i:Nat):∀ (P Q:List Port),portsH i (P++Q)=portsH i P++portsH (i+3 * P.length) Q:=by
 intro P
 induction P generalizing i with
 | nil=>intro Q; rfl
 | cons p P ih =>
  intro Q
  simp only [portsH,List.cons_append,List.length_cons]
  rw [ih (i+3) Q]
  rw [show i+3+3 * P.length=i+3 * (P.length+1) by omega]
theorem portsH_ge:∀ (P:List Port) (i:Nat),∀ x∈portsH i P,i≤x.1
 | [],i,x,hx=>by simp [portsH] at hx
 | p::P,i,x,hx=>by
  simp only [portsH,List.mem_cons] at hx
  rcases hx with rfl | rfl | rfl | hx
  ·exact Nat.le_refl _
  ·simp only; omega
  ·simp only; omega
  ·have:=portsH_ge P (i+3) x hx; omega
def setF (f:(Nat→Bool) × (Nat→Bool)) (k:Nat) (b1 b2:Bool):(Nat→Bool) × (Nat→Bool):=(fun j=>if j=k then b1 else f.1 j,fun j=>if j=k then b2 else f.2 j)
theorem portsK_succ (D:List Dev) (f:(Nat→Bool) × (Nat→Bool)) (k:Nat) (b1 b2:Bool):portsK D (setF f k b1 b2) (k+1)=portsK D f k++[port0 (D.getD k dev0) b1 b2]:=by
 unfold portsK
 rw [List.range_succ,List.map_append]
 congr 1
 ·refine List.map_congr_left fun j hj=>?_
  have:=List.mem_range.1 hj
  have hne:¬ j=k:=by omega
  simp [setF,hne]
 ·simp [setF]
theorem Cov.wholeG (c:Nat) {s1 s2:Slots} {n1 n2 b:Nat} {u Z:Heap} (hbc:b≤c) (hs:Scoped c u) (hZ:subH u Z) (hn:c≤n2) (h:SlotsCov n2 [] [] s1 s2):Cov ⟨s1,Z,n1,b⟩ ⟨s2,u,n2,b⟩ :=
 Cov.mk [] [] rfl (by simp only; omega) rfl rfl (frame_apart (b:=c) (hi:=n2) u [] hs rfl rfl rfl) (frame_lt (b:=c) (hi:=n2) u [] hs hn rfl) (HCov.whole hs hn hZ) h
theorem RetOKW.whole {k:Nat} {rs:List ARes} {nid:Nat} {r:PV} {e:AEx} {s:Slots} {n1 b1:Nat} {u Z:Heap} (he:e=.ret∨e=.normal) (hs:Scoped (nid+k) u) (hZ:subH u Z)
  (h:onAll (readAll ⟨s,Z,n1,b1⟩ rs) fun ps=>PVCov (nid+k) [] [] (retPV ps) r):RetOKW k rs [] nid r u e ⟨s,Z,n1,b1⟩:=by
 cases hp:readAll ⟨s,Z,n1,b1⟩ rs with
 | none=>rw [hp] at h; exact h.elim
 | some ps =>
  rw [hp] at h
  have hall:∃ (ren nils:List (Nat × Nat)) (H2:Heap),(∀ id,getH H2 id=getH (u++[]) id)∧inRange nid (nid+k) ren=true∧inRange nid (nid+k) nils=true∧apart ren nils (liveIds H2)=true∧(liveIds H2).all (fun id=>decide (id<nid+k))=true ∧
    HCov (nid+k) ren nils Z H2∧PVCov (nid+k) ren nils (retPV ps) r :=
   ⟨[],[],u,fun id=>by rw [List.append_nil],rfl,rfl,frame_apart (b:=nid+k) (hi:=nid+k) u [] hs rfl rfl rfl,frame_lt (b:=nid+k) (hi:=nid+k) u [] hs (Nat.le_refl _) rfl,HCov.whole hs (Nat.le_refl _) hZ,h⟩
  rcases he with rfl | rfl
  ·show onAll (readAll ⟨s,Z,n1,b1⟩ rs) _
   rw [hp]
   exact hall
  ·show onAll (readAll ⟨s,Z,n1,b1⟩ rs) _
   rw [hp]
   exact hall
set_option maxHeartbeats 16000000 in
theorem new_I (n0:Bool) (n1 n2:Nat→Bool) (D:List Dev) (nid:Nat) (hD1:1≤D.length) (hD:D.length≤3) (hS:∀ d∈D,DevS d∧∀ r∈d.regs,0≤r.2∧r.2≤1000) (he:devsE D=0) :
  ACallIW Tryz.prog 11 25 [.lit n0 D.length (devP n1 n2 D)] [] nid (fun _:(Nat→Bool) × (Nat→Bool)=>True) (fun _=>.tup [.ptr nid 0,.int .i64 0]) (fun f=>chainH nid 0 (portsK D f D.length)):=by
 have hck:=fun m=>checkDevices_c n0 n1 n2 D m (by omega) (fun d hd=>(hS d hd).1)
 rw [he] at hck
 refine acallIW_sr c25 (by simp [a25]) ?_
 unfold a25
 refine SR.seq ?_
 simp -dsimp only [aqA,↓seqK,↓blkK,↓loopK,step,stepBin,eqB,Nat.add_assoc nid,simprocAttr,LN_succ]
 refine SR.seqTo ⟨[(0,.lit n0 D.length (devP n1 n2 D))],[],nid+100,nid⟩ ?_ ?_
 ·simp -dsimp only [aqA,↓seqK,↓blkK,↓loopK,step,stepBin,eqB,Nat.add_assoc nid,simprocAttr,LN_succ]
  refine CallO.pure (hck _) ?_
  simp -dsimp only [aqA,↓seqK,↓blkK,↓loopK,step,stepBin,eqB,Nat.add_assoc nid,simprocAttr,LN_succ]
  refine Cov.go [] [] ?_
  simp [cvT,step,res,ColsEq.refl]
 refine SR.seqTo ⟨[(5,.ptr nid 0),(0,.lit n0 D.length (devP n1 n2 D))],[(nid,chB 0 (nid+1) 0),(nid+1,some (.arr 98 0 [.q fun k=>nid+2+3 * k]))],nid+200,nid⟩ ?_ ?_
 ·simp -dsimp only [aqA,↓seqK,↓blkK,↓loopK,step,stepBin,eqB,Nat.add_assoc nid,simprocAttr,LN_succ]
  refine Cov.go [(nid,nid+104)] [(nid+1,1)] ?_
  simp [cvT,step,res,ColsEq.refl,chB]
 refine SR.seqW (ι:=(Nat→Bool) × (Nat→Bool)) (fun f=>⟨[(5,.ptr nid 0)],chainH nid 0 (portsK D f D.length),nid+9000,nid⟩) ?_ (fun f=>?_)
 rotate_left
 ·have hs:Scoped (nid+11) (chainH nid 0 (portsK D f D.length)):=chainH_scoped nid (nid+11) 0 _ (by rw [portsK_len]; exact hD) (Nat.le_refl _)
  generalize hH:chainH nid 0 (portsK D f D.length)=Hs at *
  refine SR.run (t:=.mk) ?_
  simp -dsimp only [aqA,↓seqK,↓blkK,↓loopK,step,stepBin,eqB,Nat.add_assoc nid,simprocAttr,LN_succ]
  refine ⟨f,?_⟩
  rw [hH]
  refine RetOKW.whole (.inl rfl) hs (subH_refl _) ?_
  simp [a25,cvT,step,res]
 have hcol:(fun k=>nid+2+3 * k)=fun k=>nid+(2+3 * k):=by funext k; omega
 have hlow:∀ (f:(Nat→Bool) × (Nat→Bool)) (k:Nat),k<D.length→∀ x∈portsH (nid+2) (portsK D f k),x.1<nid+20∧lowBlk (nid+20) x.2=true:=fun f k hk=>portsH_low (nid+20) _ _ (by rw [portsK_len]; omega)
 refine SR.seqTo ⟨[(20,.int .i64 0),(19,.int .i64 D.length),(18,.lit n0 D.length (devP n1 n2 D)),(5,.ptr nid 0)],[(nid,chB 0 (nid+1) 0),(nid+1,some (.arr 98 0 [.q fun k=>nid+2+3 * k]))],nid+250,nid⟩ ?_ ?_
 ·unfold chB
  simp -dsimp only [aqA,↓seqK,↓blkK,↓loopK,step,stepBin,eqB,Nat.add_assoc nid,simprocAttr,LN_succ]
  refine Cov.go [] [] ?_
  simp [cvT,step,res,ColsEq.refl,chB]
 refine SR.block ?_
 refine SR.loopP (fun x:Nat × ((Nat→Bool) × (Nat→Bool))=>x.1≤D.length) (fun x=>⟨[(20,.int .i64 x.1),(19,.int .i64 D.length),(18,.lit n0 D.length (devP n1 n2 D)),(5,.ptr nid 0)],(nid,chB 0 (nid+1) x.1)::(nid+1,some (.arr 98 x.1 [.q fun k=>nid+2+3 * k]))::portsH (nid+2) (portsK D x.2 x.1),nid+300,nid⟩) (fun x=>D.length+1 - x.1) (0,(fun _=>false,fun _=>false)) (by simp) (Cov.go [] [] ?_) (fun ⟨k,f⟩ hk=>?_)
 ·simp [cvT,step,res,ColsEq.refl,chB,portsK,portsH]
 simp only at hk ⊢
 refine SR.seq ?_
 unfold chB
 simp -dsimp only [aqA,↓seqK,↓blkK,↓loopK,step,stepBin,eqB,Nat.add_assoc nid,simprocAttr,LN_succ]
 refine SR.seq ?_
 simp -dsimp only [aqA,↓seqK,↓blkK,↓loopK,step,stepBin,eqB,Nat.add_assoc nid,simprocAttr,LN_succ]
 refine S2.dec (fun h3=>?_) (fun h3=>?_) <;> simp -dsimp only [aqA,↓seqK,↓blkK,↓loopK,step,stepBin,eqB,Nat.add_assoc nid,simprocAttr,LN_succ]
 ·have hkl:k<D.length:=by omega
  have hlf:=hlow f k hkl
  have hm:D.getD k dev0∈D:=by rw [List.getD_eq_getElem?_getD,List.getElem?_eq_getElem hkl]; exact List.getElem_mem _
  obtain ⟨hb,hbr⟩:=hS _ hm
  have hrl:=hb.rl
  have hil:=hb.il
  refine SR.seqW (ι:=Bool × Bool) (fun b=>⟨[(20,.int .i64 k),(19,.int .i64 D.length),(18,.lit n0 D.length (devP n1 n2 D)),(5,.ptr nid 0)],(nid,chB 0 (nid+1) (k+1))::(nid+1,some (.arr 98 (k+1) [.q fun k=>nid+(2+3 * k)]))::portsH (nid+2) (portsK D (setF f k b.1 b.2) (k+1)),nid+4000,nid⟩) ?_ (fun ⟨b1,b2⟩=>?_)
  rotate_left
  ·simp only
   have hsc:Scoped (nid+20) ((nid,chB 0 (nid+1) (k+1))::(nid+1,some (.arr 98 (k+1) [.q fun k=>nid+(2+3 * k)]))::portsH (nid+2) (portsK D (setF f k b1 b2) (k+1))):=by
    have h:=chainH_scoped nid (nid+20) 0 (portsK D (setF f k b1 b2) (k+1)) (by rw [portsK_len]; omega) (by omega)
    unfold chainH at h
    rw [portsK_len,hcol] at h
    exact h
   unfold chB at hsc ⊢
   refine SR.run (t:=.mk) ?_
   generalize hH:portsH (nid+2) (portsK D (setF f k b1 b2) (k+1))=Hs at *
   simp -dsimp only [aqA,↓seqK,↓blkK,↓loopK,step,stepBin,eqB,Nat.add_assoc nid,simprocAttr,LN_succ]
   refine ⟨by unfold inI64; omega,(k+1,setF f k b1 b2),⟨by omega,by omega⟩,?_⟩
   simp only
   rw [hH]
   refine Cov.wholeG (nid+20) (by omega) hsc (subH_refl _) (by omega) ?_
   simp [cvT,step,res,ColsEq.refl]
  have hq:∀ j,j<k→∀ a,30≤a→(nid+a==nid+(2+3 * j))=false:=fun j hj a ha=>by rw [beq_eq_false_iff_ne]; omega
  have hs:Scoped (nid+20) (portsH (nid+2) (portsK D f k)):=scoped_list hlf
  have hge:=portsH_ge (portsK D f k) (nid+2)
  have hz:nid ∉ keys (portsH (nid+2) (portsK D f k))∧nid+1 ∉ keys (portsH (nid+2) (portsK D f k)):=by
   constructor <;> intro hid <;> simp only [keys,List.mem_map] at hid <;> obtain ⟨x,hx,hx2⟩:=hid <;> have:=hge x hx <;> omega
  have hfz:∀ (H:Heap) (nl:Nat→Bool),frzH H [nid+410,nid+411] nl (portsH (nid+2) (portsK D f k))=portsH (nid+2) (portsK D f k):=fun H nl=>frzH_low (c:=nid+20) H _ nl (by simp) _ fun x hx=>(hlf x hx).2
  have hsucc:=fun b1 b2=>portsK_succ D f k b1 b2
  have hcat:=fun b1 b2=>portsH_app (nid+2) (portsK D f k) [port0 (D.getD k dev0) b1 b2]
  rw [portsK_len] at hcat
  have hnew:∀ b1 b2,portsH (nid+2) (portsK D (setF f k b1 b2) (k+1))=portsH (nid+2) (portsK D f k)++portsH (nid+2+3 * k) [port0 (D.getD k dev0) b1 b2]:=fun b1 b2=>by rw [hsucc,hcat]
  clear hsucc hcat
  generalize hH:portsH (nid+2) (portsK D f k)=Hs at *
  refine SR.block ?_
  refine SR.seqTo ⟨[(7,.ptr (nid+400) 0),(20,.int .i64 k),(19,.int .i64 D.length),(18,.lit n0 D.length (devP n1 n2 D)),(5,.ptr nid 0)],[(nid+400,boxL (n1 k) (n2 k) (D.getD k dev0)),(nid,chB 0 (nid+1) k),(nid+1,some (.arr 98 k [.q fun k=>nid+(2+3 * k)]))]++Hs,nid+700,nid⟩ ?_ ?_
  ·unfold devP
   simp -dsimp only [aqA,↓seqK,↓blkK,↓loopK,step,stepBin,eqB,Nat.add_assoc nid,simprocAttr,LN_succ]
   refine ⟨⟨by omega,by omega⟩,?_⟩
   refine Cov.goP (nid+20) Hs [_,_,_] [(nid+400,nid+312)] [] (by repeat (first | exact .nil | apply PreH.cons)) (by omega) hs (by simp [kOK,hz]) (by simp) ?_
   simp [cvT,step,res,boxL,chB,litRg,litIn,ColsEq.refl,-List.getD_eq_getElem?_getD]
   exact fun j hj=>by simp [hq j hj]; omega
  generalize hx:D.getD k dev0=x at *
  have hc1:=fun m=>cloneRg_c (n1 k) x.regs m (by omega)
  have hc2:=fun m=>cloneIn_c (n2 k) x.ins m (by omega)
  unfold litRg at hc1
  unfold litIn at hc2
  refine SR.seqTo ⟨[(7,.ptr (nid+400) 0),(20,.int .i64 k),(19,.int .i64 D.length),(18,.lit n0 D.length (devP n1 n2 D)),(5,.ptr nid 0)],[(nid+400,boxDv x (.sl (nid+410) 0 x.regs.length) (.sl (nid+411) 0 x.ins.length)),(nid+410,arrRg x.regs),(nid+411,arrIn x.ins),(nid,chB 0 (nid+1) k),(nid+1,some (.arr 98 k [.q fun k=>nid+(2+3 * k)]))]++Hs,nid+900,nid⟩ ?_ ?_
  ·unfold boxL litRg litIn chB
   simp -dsimp only [aqA,↓seqK,↓blkK,↓loopK,step,stepBin,eqB,Nat.add_assoc nid,simprocAttr,LN_succ]
   refine CallX.pure (hc1 _) ?_
   unfold arrRg
   simp -dsimp only [aqA,↓seqK,↓blkK,↓loopK,step,stepBin,eqB,Nat.add_assoc nid,simprocAttr,LN_succ]
   refine CallX.pure (hc2 _) ?_
   unfold arrIn
   simp -dsimp only [aqA,↓seqK,↓blkK,↓loopK,step,stepBin,eqB,Nat.add_assoc nid,simprocAttr,LN_succ]
   refine Cov.goP (nid+20) Hs [_,_,_,_,_] [(nid+410,nid+708),(nid+411,nid+720)] [] (by repeat (first | exact .nil | apply PreH.cons)) (by omega) hs (by simp [kOK,hz]) (by simp) ?_
   simp [cvT,step,res,boxDv,arrRg,arrIn,chB,litRg,litIn,ColsEq.refl,-List.getD_eq_getElem?_getD]
   exact fun j hj=>by simp [hq j hj]; omega
  refine SR.freezeB [nid+410,nid+411] (fun nf=>?_)
  simp only [frzS,frzH,frzBlk,lends,lend,kill,noOs,boxDv,arrRg,arrIn,chB,List.cons_append,List.nil_append,aqA,↓seqK,↓blkK,↓loopK,step,stepBin,eqB,Nat.add_assoc nid,simprocAttr,LN_succ,hfz]
  generalize nf (nid+410)=b1
  generalize nf (nid+411)=b2
  refine SR.seqTo ⟨[(8,.ptr (nid+420) 0),(7,.ptr (nid+400) 0),(20,.int .i64 k),(19,.int .i64 D.length),(18,.lit n0 D.length (devP n1 n2 D)),(5,.ptr nid 0)],[(nid+420,portB (port0 x b1 b2) (nid+421) (nid+422)),(nid+421,mapS (mapD []) (mapV [])),(nid+422,mapS (mapD []) (mapV [])),(nid+400,boxL b1 b2 x),(nid,chB 0 (nid+1) k),(nid+1,some (.arr 98 k [.q fun k=>nid+(2+3 * k)]))]++Hs,nid+1200,nid⟩ ?_ ?_
  ·simp -dsimp only [aqA,↓seqK,↓blkK,↓loopK,step,stepBin,eqB,Nat.add_assoc nid,simprocAttr,LN_succ,mNew]
   refine Cov.goP (nid+20) Hs [_,_,_,_,_,_] [(nid+420,nid+916),(nid+421,nid+904),(nid+422,nid+908)] [] (by repeat (first | exact .nil | apply PreH.cons)) (by omega) hs (by simp [kOK,hz]) (by simp) ?_
   simp [cvT,step,res,boxL,portB,mapS,port0,chB,litRg,litIn,mapD,mapV,ColsEq.refl,-List.getD_eq_getElem?_getD]
   exact fun j hj=>by simp [hq j hj]; omega
  refine SR.seqTo ⟨[(8,.ptr (nid+420) 0),(20,.int .i64 k),(19,.int .i64 D.length),(18,.lit n0 D.length (devP n1 n2 D)),(5,.ptr nid 0)],[(nid+420,portB (port0 x b1 b2) (nid+421) (nid+422)),(nid+421,mapS (mapD x.regs) (mapV x.regs)),(nid+422,mapS (mapD x.regs) (mapV x.regs)),(nid,chB 0 (nid+1) k),(nid+1,some (.arr 98 k [.q fun k=>nid+(2+3 * k)]))]++Hs,nid+1800,nid⟩ ?_ ?_
  ·unfold boxL litRg litIn portB mapS chB
   simp -dsimp only [aqA,↓seqK,↓blkK,↓loopK,step,stepBin,eqB,Nat.add_assoc nid,simprocAttr,LN_succ]
   refine LP.mkP (fun j:Nat=>j≤x.regs.length) (fun j=>⟨[(40,.int .i64 j),(39,.int .i64 x.regs.length),(38,litRg b1 x.regs),(8,.ptr (nid+420) 0),(20,.int .i64 k),(19,.int .i64 D.length),(18,.lit n0 D.length (devP n1 n2 D)),(5,.ptr nid 0)],[(nid+420,portB (port0 x b1 b2) (nid+421) (nid+422)),(nid+421,mapS (mapD (x.regs.take j)) (mapV (x.regs.take j))),(nid+422,mapS (mapD (x.regs.take j)) (mapV (x.regs.take j))),(nid,chB 0 (nid+1) k),(nid+1,some (.arr 98 k [.q fun k=>nid+(2+3 * k)]))]++Hs,nid+1500,nid⟩) (fun j=>x.regs.length+1 - j) 0 (by omega) ?_ (fun j hj=>?_)
   ·refine Cov.goP (nid+20) Hs [_,_,_,_,_] [] [] (by repeat (first | exact .nil | apply PreH.cons)) (by omega) hs (by simp [kOK,hz]) (by simp) ?_
    simp [cvT,step,res,boxL,portB,mapS,port0,chB,litRg,litIn,ColsEq.refl,-List.getD_eq_getElem?_getD]
    exact fun j hj=>by omega
   unfold litRg portB mapS chB litIn
   simp -dsimp only [aqA,↓seqK,↓blkK,↓loopK,step,stepBin,eqB,Nat.add_assoc nid,simprocAttr,LN_succ]
   refine S2.dec (fun h4=>?_) (fun h4=>?_) <;> simp -dsimp only [aqA,↓seqK,↓blkK,↓loopK,step,stepBin,eqB,Nat.add_assoc nid,simprocAttr,LN_succ]
   ·have hjl:j<x.regs.length:=by omega
    have hrm:x.regs.getD j reg0∈x.regs:=by rw [List.getD_eq_getElem?_getD,List.getElem?_eq_getElem hjl]; exact List.getElem_mem _
    have hr2:=hbr _ hrm
    have htk:x.regs.take (j+1)=x.regs.take j++[x.regs.getD j reg0]:=by rw [List.take_add_one,List.getElem?_eq_getElem hjl,List.getD_eq_getElem?_getD,List.getElem?_eq_getElem hjl]; rfl
    generalize hr:x.regs.getD j reg0=r at *
    obtain ⟨L,hL⟩:∃ L:Nat,r.2=L:=⟨_,(Int.toNat_of_nonneg hr2.1).symm⟩
    refine ⟨⟨by omega,by omega⟩,?_⟩
    rw [hL]
    refine CallX.pure (repeat_cc [48] L _ (by omega) (by simp; omega)) ?_
    simp -dsimp only [aqA,↓seqK,↓blkK,↓loopK,step,stepBin,eqB,Nat.add_assoc nid,simprocAttr,LN_succ,mkKey,mPut,mGet,keyIn]
    refine ⟨by unfold inI64; omega,j+1,⟨by omega,by omega⟩,?_⟩
    rw [htk]
    have hrt:r.2.toNat=L:=by omega
    refine Cov.goP (nid+20) Hs [_,_,_,_,_] [] [] (by repeat (first | exact .nil | apply PreH.cons)) (by omega) hs (by simp [kOK,hz]) (by simp) ?_
    simp [cvT,step,res,boxL,portB,mapS,port0,chB,litRg,litIn,mapD_snoc,mapV_snoc,hrt,ColsEq.refl,-List.getD_eq_getElem?_getD]
    exact ⟨fun q _ _=>by simp [mVal,mapV_snoc,hrt],fun j hj=>by omega⟩
   ·have hje:j=x.regs.length:=by omega
    subst hje
    rw [List.take_length]
    refine Cov.goP (nid+20) Hs [_,_,_,_,_] [] [] (by repeat (first | exact .nil | apply PreH.cons)) (by omega) hs (by simp [kOK,hz]) (by simp) ?_
    simp [cvT,step,res,boxL,portB,mapS,port0,chB,litRg,litIn,ColsEq.refl,-List.getD_eq_getElem?_getD]
    exact fun j hj=>by omega
  refine SR.run (t:=.mk) ?_
  unfold portB mapS chB
  simp -dsimp only [aqA,↓seqK,↓blkK,↓loopK,step,stepBin,eqB,Nat.add_assoc nid,simprocAttr,LN_succ]
  refine ⟨⟨by omega,by omega⟩,(b1,b2),?_⟩
  rw [← hH]
  simp only
  have hn:∀ a,1≤a→(nid+a==nid)=false:=fun a ha=>by rw [beq_eq_false_iff_ne]; omega
  have hk3:k=0∨k=1∨k=2:=by omega
  clear hc1 hc2 hcol hlow hnew hfz hz hge hs hlf hck hH hq
  rcases hk3 with rfl | rfl | rfl
  ·simp only [portsK,portsH,List.range_succ,List.range_zero,List.nil_append,List.cons_append,List.map_cons,List.map_nil,Nat.add_assoc,Nat.reduceAdd]
   refine Cov.go [(nid+1,nid+1828),(nid+2,nid+420),(nid+3,nid+421),(nid+4,nid+422)] [] ?_
   simp [cvT,step,res,setF,portB,mapS,port0,litRg,litIn,chB,hx,ColsEq.refl,-List.getD_eq_getElem?_getD]
   rfl
  ·simp only [portsK,portsH,List.range_succ,List.range_zero,List.nil_append,List.cons_append,List.map_cons,List.map_nil,Nat.add_assoc,Nat.reduceAdd]
   refine Cov.go [(nid+1,nid+1828),(nid+5,nid+420),(nid+6,nid+421),(nid+7,nid+422)] [] ?_
   simp [cvT,step,res,setF,portB,mapS,port0,litRg,litIn,chB,hx,ColsEq.refl,-List.getD_eq_getElem?_getD]
   exact fun j hj=>by rcases (by omega:j=0∨j=1) with rfl | rfl <;> simp [hn]
  ·simp only [portsK,portsH,List.range_succ,List.range_zero,List.nil_append,List.cons_append,List.map_cons,List.map_nil,Nat.add_assoc,Nat.reduceAdd]
   refine Cov.go [(nid+1,nid+1828),(nid+8,nid+420),(nid+9,nid+421),(nid+10,nid+422)] [] ?_
   simp [cvT,step,res,setF,portB,mapS,port0,litRg,litIn,chB,hx,ColsEq.refl,-List.getD_eq_getElem?_getD]
   exact fun j hj=>by rcases (by omega:j=0∨j=1∨j=2) with rfl | rfl | rfl <;> simp [hn]
 ·have hkn:k=D.length:=by omega
  subst hkn
  refine ⟨f,?_⟩
  have e:chainH nid 0 (portsK D f D.length)=(nid,some (.box 95 [.int .i64 ((0:Nat):Int),.sl (nid+1) 0 D.length]))::(nid+1,some (.arr 98 D.length [.q fun k=>nid+2+3 * k]))::portsH (nid+2) (portsK D f D.length):=by
   unfold chainH chB
   rw [portsK_len]
  rw [e]
  rw [hcol]
  exact Cov.sub (by omega) (by simp only [SlotsIn,aqA,↓seqK,↓blkK,↓loopK,step,stepBin,eqB,Nat.reduceBEq,Nat.reduceBeqDiff,Nat.add_assoc nid,Nat.reduceAdd,reduceCtorEq,↓reduceIte,Nat.reduceLeDiff,Nat.reduceBneDiff,Nat.reduceLT]; try simp) (subH_refl _)
theorem fb_all {α:Type} {f:α→Int} {l:List α} (h:firstBad f l=0):∀ a∈l,f a=0:=by
 intro a ha
 exact Classical.byContradiction fun hne=>by
  induction l with
  | nil=>cases ha
  | cons b l ih =>
   by_cases hb:f b=0
   ·have h':firstBad f (b::l)=firstBad f l:=by simp [firstBad,hb]
    rw [h'] at h
    rcases List.mem_cons.1 ha with rfl | ha
    ·exact hne hb
    ·exact ih h ha
   ·have h':firstBad f (b::l)=f b:=by simp [firstBad,hb]
    rw [h'] at h
    exact hb h
structure DevR (d:Dev):Prop where
 lg:2≤d.long∧d.long≤32
 idb:0≤d.id∧d.id≤4294967295
 rl:d.regs.length≤10
 il:d.ins.length≤100
 rs:∀ r∈d.regs,1≤r.2∧r.2≤1000
 is:∀ x∈d.ins,regIs d x.2=true
theorem outB_no {x a b:Int} (h:outB x a b=false):a≤x∧x≤b:=by
 unfold outB at h
 simp at h
 omega
theorem devR_of {D:List Dev} (h:devsE D=0):∀ d∈D,DevR d:=by
 intro d hd
 unfold devsE at h
 split at h
 ·cases h
 split at h
 ·cases h
 obtain ⟨i,hi,rfl⟩:=List.getElem_of_mem hd
 have hf:=fb_all h i (List.mem_range.2 hi)
 have e:D.getD i dev0=D[i]:=by rw [List.getD_eq_getElem?_getD,List.getElem?_eq_getElem hi]; rfl
 unfold devE at hf
 rw [e] at hf
 generalize D[i]=d at *
 split at hf
 ·cases hf
 split at hf
 ·cases hf
 split at hf
 ·cases hf
 rename_i h1 h2 h3
 split at hf
 ·cases hf
 split at hf
 ·cases hf
 rename_i h4 h5
 have hr:regsE d=0:=Classical.byContradiction fun hne=>by rw [if_pos hne] at hf; exact hne hf
 have hi:inssE d=0:=by rw [if_neg (by simpa using hr)] at hf; exact hf
 have hlg:outB d.long 2 32=false:=by
  cases ho:outB d.long 2 32
  ·rfl
  ·exact absurd (.inl ho) h3
 have hib:outB d.id 0 4294967295=false:=by
  cases ho:outB d.id 0 4294967295
  ·rfl
  ·exact absurd (.inr ho) h3
 refine ⟨outB_no hlg,outB_no hib,by omega,by omega,fun r hr'=>?_,fun x hx=>?_⟩
 ·obtain ⟨j,hj,rfl⟩:=List.getElem_of_mem hr'
  have hz:=fb_all hr j (List.mem_range.2 hj)
  have e2:d.regs.getD j reg0=d.regs[j]:=by rw [List.getD_eq_getElem?_getD,List.getElem?_eq_getElem hj]; rfl
  unfold regE at hz
  rw [e2] at hz
  split at hz
  ·cases hz
  split at hz
  ·cases hz
  split at hz
  ·cases hz
  rename_i h6
  exact outB_no (by simpa using h6)
 ·obtain ⟨j,hj,rfl⟩:=List.getElem_of_mem hx
  have hz:=fb_all hi j (List.mem_range.2 hj)
  have e2:d.ins.getD j ins0=d.ins[j]:=by rw [List.getD_eq_getElem?_getD,List.getElem?_eq_getElem hj]; rfl
  unfold insE at hz
  rw [e2] at hz
  split at hz
  ·cases hz
  split at hz
  ·cases hz
  split at hz
  ·cases hz
  split at hz
  ·cases hz
  split at hz
  ·rename_i h6
   unfold regIs
   simp only [Bool.or_eq_true,Bool.and_eq_true,decide_eq_true_eq]
   rcases h6 with h6 | h6 | h6
   ·exact .inl (.inl h6)
   ·exact .inl (.inr h6)
   ·exact .inr h6
  ·cases hz
theorem repW {n:Nat} (h1:1≤n) (h2:n≤1000):BitsW (Lib.repeatL [48] n):=by
 rw [rep48]
 refine ⟨by simp; omega,by simp; omega,?_⟩
 simp only [List.all_replicate]
 simp [oneBit]
theorem mapV_ok {R : List (Bs × Int)} (h : ∀ r ∈ R,1 ≤ r.2 ∧ r.2 ≤ 1000) (q : MK) (hq : mapD R q = true) : BitsW (mapV R q) := by
  have key : ∀ (R : List (Bs × Int)) (v : Bs),(∀ r ∈ R,1 ≤ r.2 ∧ r.2 ≤ 1000) → (BitsW v ∨ mapD R q = true) → BitsW (R.foldl (fun v r => if q = .s r.1 then Lib.repeatL [48] r.2.toNat else v) v) := by
    intro R
    induction R with
    | nil => intro v _ hv; rcases hv with hv | hv
             · exact hv
             · simp [mapD] at hv
    | cons r R ih =>
      intro v hR hv
      simp only [List.foldl_cons]
      refine ih _ (fun x hx => hR x (List.mem_cons_of_mem _ hx)) ?_
      have hr := hR r List.mem_cons_self
      by_cases hqr : q = .s r.1
      · rw [if_pos hqr]; exact .inl (repW (by omega) (by omega))
      · rw [if_neg hqr]
        rcases hv with hv | hv
        · exact .inl hv
        · refine .inr ?_
          unfold mapD at hv ⊢
          simpa [hqr] using hv
  exact key R [] h (.inr hq)
theorem regOf_ok {d:Dev} (hd:DevR d) {n:Bs} (hn:regIs d n=true):(regOf d n).1=byL∨(regOf d n).1=idL∨mapD d.regs (.s (regOf d n).1)=true:=by
 unfold regOf
 split
 ·exact .inl rfl
 ·split
  ·exact .inr (.inl rfl)
  ·rename_i h1 h2
   refine .inr (.inr ?_)
   have ho:ownB d n=true:=by
    unfold regIs at hn
    simp only [Bool.or_eq_true,Bool.and_eq_true,decide_eq_true_eq] at hn
    rcases hn with (hn | hn) | hn
    ·exact absurd hn h1
    ·exact absurd hn h2
    ·exact hn
   rw [ownB_find] at ho
   obtain ⟨r,hr⟩:=Option.isSome_iff_exists.1 ho
   rw [hr]
   have hm:=List.mem_of_find?_eq_some hr
   unfold mapD
   exact List.any_eq_true.2 ⟨r,hm,by simp⟩
theorem nameOf_ok {d:Dev} (hd:DevR d) (code:Bs):regIs d (nameOf d code)=true:=by
 unfold nameOf
 have key:∀ (l:List (Bs × Bs)) (n:Bs),(∀ x∈l,regIs d x.2=true)→regIs d n=true→regIs d (l.foldl (fun n x=>if x.1=code then x.2 else n) n)=true:=by
  intro l
  induction l with
  | nil=>intro n _ h; exact h
  | cons x l ih =>
   intro n hl hn
   simp only [List.foldl_cons]
   refine ih _ (fun y hy=>hl y (List.mem_cons_of_mem _ hy)) ?_
   split
   ·exact hl x List.mem_cons_self
   ·exact hn
 exact key _ _ hd.is (by unfold regIs; simp)
theorem port0_V {d:Dev} (hd:DevR d) (b1 b2:Bool):PortV (port0 d b1 b2):=by
 have hrl:=hd.rl
 have hil:=hd.il
 refine ⟨by simp only [port0]; omega,by simp only [port0]; omega,hd.idb,hd.lg,fun code=>?_,⟨by simp [port0],by simp [port0],by simp [port0,oneBit]⟩⟩
 have hsel:(selP d code).1=byL∨(selP d code).1=idL∨mapD d.regs (.s (selP d code).1)=true:=by
  unfold selP
  split
  ·split
   ·rename_i h
    exact regOf_ok hd h
   ·exact .inl rfl
  ·exact regOf_ok hd (nameOf_ok hd code)
 unfold captV
 show BitsW (if (selP d code).1=byL then [48] else if (selP d code).1=idL then idBits d.id else bif mapD d.regs (.s (selP d code).1) then mapV d.regs (.s (selP d code).1) else [])
 split
 ·exact ⟨by simp,by simp,by simp [oneBit]⟩
 ·split
  ·obtain ⟨N,hN⟩:∃ N:Nat,d.id=N:=⟨_,(Int.toNat_of_nonneg hd.idb.1).symm⟩
   rw [hN]
   refine ⟨by rw [idBits_len]; omega,by rw [idBits_len]; omega,List.all_eq_true.2 fun b hb=>?_⟩
   unfold idBits at hb
   obtain ⟨i,_,rfl⟩:=List.mem_map.1 hb
   rcases Nat.mod_two_eq_zero_or_one ((N:Int).toNat >>> i) with e | e <;> rw [e] <;> rfl
  ·rename_i h1 h2
   have hm:mapD d.regs (.s (selP d code).1)=true:=by
    rcases hsel with h | h | h
    ·exact absurd h h1
    ·exact absurd h h2
    ·exact h
   rw [hm]
   exact mapV_ok hd.rs _ hm
structure SameP (p q:Port):Prop where
 d:q.d=p.d
 ins:q.instr=p.instr
 l:q.shift.length=p.shift.length
 iD:q.iD=p.iD
 iV:q.iV=p.iV
inductive SamePs:List Port→List Port→Prop
 | nil:SamePs [] []
 | cons {p q:Port} {P Q:List Port}:SameP p q→SamePs P Q→SamePs (p::P) (q::Q)
theorem SameP.refl (p:Port):SameP p p:=⟨rfl,rfl,rfl,rfl,rfl⟩
theorem SamePs.refl:∀ P,SamePs P P
 | []=>.nil
 | p::P=>.cons (.refl p) (SamePs.refl P)
theorem SameP.trans {p q r:Port} (h:SameP p q) (k:SameP q r):SameP p r:=⟨k.d.trans h.d,k.ins.trans h.ins,k.l.trans h.l,k.iD.trans h.iD,k.iV.trans h.iV⟩
theorem SamePs.trans:∀ {P Q R},SamePs P Q→SamePs Q R→SamePs P R
 | [],_,_,.nil,.nil=>.nil
 | _::_,_,_,.cons h hs,.cons k ks=>.cons (h.trans k) (hs.trans ks)
theorem act_still {st:Nat} (h:shifts st=false) (p:Port) (b:UInt8):actV st p b=((actV st p 48).1,b):=by
 have h411:¬ (st=4∨st=11):=by
  unfold shifts at h
  simpa using h
 unfold actV
 rw [if_neg h411,if_neg h411]
 by_cases h0:st=0
 ·rw [if_pos h0,if_pos h0]
 ·rw [if_neg h0,if_neg h0]
  by_cases h3:st=3
  ·rw [if_pos h3,if_pos h3]
  ·rw [if_neg h3,if_neg h3]
   by_cases h8:st=8
   ·rw [if_pos h8,if_pos h8]
   ·rw [if_neg h8,if_neg h8]
    by_cases h10:st=10
    ·rw [if_pos h10,if_pos h10]
    ·rw [if_neg h10,if_neg h10]
     by_cases h15:st=15
     ·rw [if_pos h15,if_pos h15]
     ·rw [if_neg h15,if_neg h15]
theorem clock_still {st:Nat} (h:shifts st=false):∀ (P:List Port) (b:UInt8),clockP st P b=(P.map (fun p=>(actV st p 48).1),b)
 | [],b=>rfl
 | p::P,b=>by
  simp only [clockP,List.map_cons]
  rw [act_still h p b,clock_still h P b]
def nameR (d:Dev) (code:Bs):Bs:=d.ins.foldl (fun n x=>if x.1=code then x.2 else n) (if code=[]∧d.id≠0 then idL else byL)
def selR (d:Dev) (code:Bs):Bs × Int:=match d.regs.find? (fun x=>x.1==nameR d code) with
 | some r=>r
 | none=>(nameR d code,if nameR d code=idL then 32 else 1)
structure DevN (d:Dev):Prop where
 nb:∀ r∈d.regs,r.1≠byL∧r.1≠idL
 nd:∀ r∈d.regs,∀ x∈d.regs,x.1=r.1→x=r
 ic:∀ x∈d.ins,((x.1.length:Nat):Int)=d.long
 io:d.id≠0→d.id % 2=1
theorem devN_of {D:List Dev} (h:devsE D=0):∀ d∈D,DevN d:=by
 intro d hd
 have hR:=devR_of h d hd
 unfold devsE at h
 split at h
 ·cases h
 split at h
 ·cases h
 obtain ⟨i,hi,rfl⟩:=List.getElem_of_mem hd
 have hf:=fb_all h i (List.mem_range.2 hi)
 have e:D.getD i dev0=D[i]:=by rw [List.getD_eq_getElem?_getD,List.getElem?_eq_getElem hi]; rfl
 unfold devE at hf
 rw [e] at hf
 generalize D[i]=d at *
 split at hf
 ·cases hf
 split at hf
 ·cases hf
 split at hf
 ·cases hf
 rename_i h1 h2 h3
 split at hf
 ·cases hf
 split at hf
 ·cases hf
 rename_i h4 h5
 have hr:regsE d=0:=Classical.byContradiction fun hne=>by rw [if_pos hne] at hf; exact hne hf
 have hi:inssE d=0:=by rw [if_neg (by simpa using hr)] at hf; exact hf
 have hreg:∀ j,j<d.regs.length→¬ ((d.regs.getD j reg0).1=byL∨(d.regs.getD j reg0).1=idL∨(d.regs.take j).any (fun x=>x.1==(d.regs.getD j reg0).1)=true):=by
  intro j hj hc
  have hz:=fb_all hr j (List.mem_range.2 hj)
  unfold regE at hz
  split at hz
  ·cases hz
  ·cases hz
 have hlt:∀ j k,j<k→k<d.regs.length→¬ (d.regs.getD j reg0).1=(d.regs.getD k reg0).1:=by
  intro j k hjk hk hn
  refine hreg k hk (.inr (.inr (List.any_eq_true.2 ⟨d.regs.getD j reg0,?_,by simp only [beq_iff_eq]; exact hn⟩)))
  rw [List.getD_eq_getElem?_getD,List.getElem?_eq_getElem (by omega)]
  exact List.mem_take_iff_getElem.2 ⟨j,by omega,rfl⟩
 have hg:∀ j (hj:j<d.regs.length),d.regs.getD j reg0=d.regs[j]:=fun j hj=>by rw [List.getD_eq_getElem?_getD,List.getElem?_eq_getElem hj]; rfl
 refine ⟨fun r hr'=>?_,fun r hr' x hx hn=>?_,fun x hx=>?_,fun h0=>?_⟩
 ·obtain ⟨j,hj,rfl⟩:=List.getElem_of_mem hr'
  have:=hreg j hj
  rw [hg j hj] at this
  exact ⟨fun h=>this (.inl h),fun h=>this (.inr (.inl h))⟩
 ·obtain ⟨j,hj,rfl⟩:=List.getElem_of_mem hr'
  obtain ⟨k,hk,rfl⟩:=List.getElem_of_mem hx
  rcases Nat.lt_trichotomy j k with hjk | hjk | hjk
  ·have:=hlt j k hjk hk
   rw [hg j hj,hg k hk] at this
   exact absurd hn.symm this
  ·subst hjk; rfl
  ·have:=hlt k j hjk hj
   rw [hg j hj,hg k hk] at this
   exact absurd hn this
 ·obtain ⟨j,hj,rfl⟩:=List.getElem_of_mem hx
  have hz:=fb_all hi j (List.mem_range.2 hj)
  have e2:d.ins.getD j ins0=d.ins[j]:=by rw [List.getD_eq_getElem?_getD,List.getElem?_eq_getElem hj]; rfl
  unfold insE at hz
  rw [e2] at hz
  split at hz
  ·cases hz
  rename_i h6
  exact Classical.byContradiction fun h=>h6 h
 ·have h6:¬ d.id.tmod 2=0:=fun h=>h4 ⟨h0,h⟩
  have h7:=hR.idb
  rw [Int.tmod_eq_emod_of_nonneg h7.1] at h6
  omega
theorem nameR_of {d:Dev} (hR:DevR d) (hN:DevN d) (code:Bs):nameR d code=if code=[]∧d.id≠0 then idL else nameOf d code:=by
 by_cases hc:code=[]
 ·subst hc
  have key:∀ (l:List (Bs × Bs)) (n:Bs),(∀ x∈l,x.1≠[])→l.foldl (fun n x=>if x.1=[] then x.2 else n) n=n:=by
   intro l
   induction l with
   | nil=>intro n _; rfl
   | cons x l ih =>
    intro n hl
    simp only [List.foldl_cons]
    rw [if_neg (hl x List.mem_cons_self)]
    exact ih n fun y hy=>hl y (List.mem_cons_of_mem _ hy)
  have hne:∀ x∈d.ins,x.1≠[]:=fun x hx h=>by
   have h1:=hN.ic x hx
   have h2:=hR.lg
   rw [h] at h1
   simp at h1
   omega
  unfold nameR nameOf
  rw [key _ _ hne,key _ _ hne]
 ·unfold nameR nameOf
  rw [if_neg (fun h=>hc h.1),if_neg (fun h=>hc h.1)]
theorem findR_no {R:List (Bs × Int)} {n:Bs} (h:∀ r∈R,r.1≠n):R.find? (fun x=>x.1==n)=none:=by
 rw [List.find?_eq_none]
 intro r hr
 simp only [beq_iff_eq]
 exact h r hr
theorem selR_eq {d:Dev} (hR:DevR d) (hN:DevN d) (code:Bs):selR d code=selP d code:=by
 have hid0:regIs d idL=decide (d.id≠0):=by
  have h1:ownB d idL=false:=by
   unfold ownB
   rw [List.any_eq_false]
   intro r hr
   simp only [beq_iff_eq]
   exact (hN.nb r hr).2
  unfold regIs
  rw [h1]
  have:decide (idL=byL)=false:=by decide
  rw [this]
  simp
 have hreg:∀ n,regIs d n=true→(match d.regs.find? (fun x=>x.1==n) with | some r=>r | none=>(n,if n=idL then (32:Int) else 1))=regOf d n:=by
  intro n hn
  unfold regOf
  by_cases h1:n=byL
  ·rw [if_pos h1,findR_no fun r hr=>by rw [h1]; exact (hN.nb r hr).1]
   subst h1
   rfl
  ·rw [if_neg h1]
   by_cases h2:n=idL∧d.id≠0
   ·rw [if_pos h2,findR_no fun r hr=>by rw [h2.1]; exact (hN.nb r hr).2]
    simp [h2.1]
   ·rw [if_neg h2]
    have ho:ownB d n=true:=by
     unfold regIs at hn
     simp only [Bool.or_eq_true,Bool.and_eq_true,decide_eq_true_eq] at hn
     rcases hn with (hn | hn) | hn
     ·exact absurd hn h1
     ·exact absurd hn h2
     ·exact hn
    rw [ownB_find] at ho
    obtain ⟨r,hr⟩:=Option.isSome_iff_exists.1 ho
    rw [hr]
    rfl
 have hkey:∀ n,nameR d code=n→regIs d n=true→selR d code=regOf d n:=fun n hn hr=>by
  unfold selR
  rw [hn]
  exact hreg n hr
 have hnm:=nameR_of hR hN code
 unfold selP
 by_cases hc:code=[]
 ·rw [if_pos hc,hid0]
  by_cases hz:d.id=0
  ·rw [if_neg (fun h=>h.2 hz)] at hnm
   have e2:decide (d.id≠0)=false:=by simp [hz]
   rw [e2]
   have e3:nameOf d code=byL:=by
    have key:∀ (l:List (Bs × Bs)) (n:Bs),(∀ x∈l,x.1≠[])→l.foldl (fun n x=>if x.1=[] then x.2 else n) n=n:=by
     intro l
     induction l with
     | nil=>intro n _; rfl
     | cons x l ih =>
      intro n hl
      simp only [List.foldl_cons]
      rw [if_neg (hl x List.mem_cons_self)]
      exact ih n fun y hy=>hl y (List.mem_cons_of_mem _ hy)
    unfold nameOf
    rw [hc]
    exact key _ _ fun x hx h=>by
     have h1:=hN.ic x hx
     have h2:=hR.lg
     rw [h] at h1
     simp at h1
     omega
   rw [e3] at hnm
   rw [hkey _ hnm (by unfold regIs; simp)]
   simp [regOf]
  ·rw [if_pos ⟨hc,hz⟩] at hnm
   have e2:decide (d.id≠0)=true:=by simp [hz]
   rw [e2,if_pos rfl]
   exact hkey idL hnm (by rw [hid0]; exact e2)
 ·rw [if_neg hc]
  rw [if_neg (fun h=>hc h.1)] at hnm
  exact hkey _ hnm (nameOf_ok hR code)
theorem selP_reg {d:Dev} (hd:DevR d) (code:Bs):selP d code=(byL,1)∨selP d code=(idL,32)∨selP d code∈d.regs:=by
 have key:∀ n,regIs d n=true→regOf d n=(byL,1)∨regOf d n=(idL,32)∨regOf d n∈d.regs:=by
  intro n hn
  unfold regOf
  split
  ·exact .inl rfl
  ·split
   ·exact .inr (.inl rfl)
   ·rename_i h1 h2
    refine .inr (.inr ?_)
    have ho:ownB d n=true:=by
     unfold regIs at hn
     simp only [Bool.or_eq_true,Bool.and_eq_true,decide_eq_true_eq] at hn
     rcases hn with (hn | hn) | hn
     ·exact absurd hn h1
     ·exact absurd hn h2
     ·exact hn
    rw [ownB_find] at ho
    obtain ⟨r,hr⟩:=Option.isSome_iff_exists.1 ho
    rw [hr]
    exact List.mem_of_find?_eq_some hr
 unfold selP
 split
 ·split
  ·rename_i h
   exact key _ h
  ·exact .inl rfl
 ·exact key _ (nameOf_ok hd code)
def atP (P:List Port) (a:Bs):Option Port:=P.find? fun p=>p.d.name==a
def inD (P:List Port):MK→Bool
 | .q a b=>match atP P a with
  | some p=>p.iD (.s b)
  | none=>false
 | _=>false
def inV (P:List Port):MK→Bs
 | .q a b=>match atP P a with
  | some p=>p.iV (.s b)
  | none=>[]
 | _=>[]
def outD (P:List Port):MK→Bool
 | .q a b=>match atP P a with
  | some p=>p.oD (.s b)
  | none=>false
 | _=>false
def outM (P:List Port):MK→Bs
 | .q a b=>match atP P a with
  | some p=>p.oV (.s b)
  | none=>[]
 | _=>[]
structure PortR (p:Port):Prop where
 r:DevR p.d
 n:DevN p.d
 iD:p.iD=mapD p.d.regs
 oD:p.oD=mapD p.d.regs
def Apart (P:List Port):Prop:=∀ (j k:Nat) (p q:Port),P[j]?=some p→P[k]?=some q→p.d.name=q.d.name→j=k
theorem atP_at {P:List Port} (h:Apart P) {k:Nat} {p:Port} (hp:P[k]?=some p):atP P p.d.name=some p:=by
 unfold atP
 cases hf:P.find? fun q=>q.d.name==p.d.name with
 | none =>
  have:=List.find?_eq_none.1 hf p (List.mem_of_getElem? hp)
  simp at this
 | some q =>
  have h1:=List.find?_some hf
  have h2:=List.mem_of_find?_eq_some hf
  obtain ⟨j,hj⟩:=List.mem_iff_getElem?.1 h2
  have:=h j k q p hj hp (by simpa using h1)
  subst this
  rw [hp] at hj
  exact hj.symm
theorem set_of {P:List Port} {k:Nat} {p q:Port} (hp:P[k]?=some p) (hd:q.d=p.d):∀ (i:Nat) (x:Port),(P.set k q)[i]?=some x→∃ x':Port,P[i]?=some x'∧x'.d=x.d:=by
 intro i x hx
 by_cases e:k=i
 ·subst e
  rw [List.getElem?_set_self (List.getElem?_eq_some_iff.1 hp).1] at hx
  injection hx with hx
  subst hx
  exact ⟨p,hp,hd.symm⟩
 ·rw [List.getElem?_set_ne e] at hx
  exact ⟨x,hx,rfl⟩
theorem atP_set {P:List Port} (h:Apart P) {k:Nat} {p q:Port} (hp:P[k]?=some p) (hd:q.d=p.d) (a:Bs):atP (P.set k q) a=if a=p.d.name then some q else atP P a:=by
 have hk:k<P.length:=(List.getElem?_eq_some_iff.1 hp).1
 have hset:(P.set k q)[k]?=some q:=by rw [List.getElem?_set_self hk]
 have hap:Apart (P.set k q):=by
  intro i j x y hx hy hn
  have e:=set_of hp hd
  obtain ⟨x',h1,h2⟩:=e i x hx
  obtain ⟨y',h3,h4⟩:=e j y hy
  exact h i j x' y' h1 h3 (by rw [h2,h4]; exact hn)
 by_cases ha:a=p.d.name
 ·rw [if_pos ha,ha,← hd]
  exact atP_at hap hset
 ·rw [if_neg ha]
  unfold atP
  have key:∀ (P:List Port) (k:Nat),P[k]?=some p→(P.set k q).find? (fun p=>p.d.name==a)=P.find? (fun p=>p.d.name==a):=by
   intro P
   induction P with
   | nil=>intro k h; simp at h
   | cons x P ih =>
    intro k h
    cases k with
    | zero =>
     simp only [List.getElem?_cons_zero,Option.some.injEq] at h
     subst h
     have e1:(x.d.name==a)=false:=by simpa using fun e=>ha e.symm
     have e2:(q.d.name==a)=false:=by rw [hd]; exact e1
     simp [List.find?_cons,e1,e2]
    | succ k =>
     simp only [List.getElem?_cons_succ] at h
     simp only [List.set_cons_succ,List.find?_cons,ih k h]
  exact key P k hp
theorem Apart.set {P:List Port} (h:Apart P) {k:Nat} {p q:Port} (hp:P[k]?=some p) (hd:q.d=p.d):Apart (P.set k q):=by
 intro i j x y hx hy hn
 have e:=set_of hp hd
 obtain ⟨x',h1,h2⟩:=e i x hx
 obtain ⟨y',h3,h4⟩:=e j y hy
 exact h i j x' y' h1 h3 (by rw [h2,h4]; exact hn)
def actR (st:Nat) (p:Port):Port:=if shifts st=true then p else (actV st p 48).1
theorem actR_d (st:Nat) (p:Port):(actR st p).d=p.d:=by
 unfold actR
 split
 ·rfl
 ·exact (actV_i st p 48).2.2
theorem mapD_mem {R:List (Bs × Int)} {r:Bs × Int} (h:r∈R):mapD R (.s r.1)=true:=by
 unfold mapD
 exact List.any_eq_true.2 ⟨r,h,by simp⟩
theorem sel_own {p:Port} (h:PortR p):((selP p.d p.instr).1=byL∨(selP p.d p.instr).1=idL)∧mapD p.d.regs (.s (selP p.d p.instr).1)=false∨((selP p.d p.instr).1≠byL∧(selP p.d p.instr).1≠idL)∧mapD p.d.regs (.s (selP p.d p.instr).1)=true:=by
 have hno:∀ n,(n=byL∨n=idL)→mapD p.d.regs (.s n)=false:=fun n hn=>by
  unfold mapD
  rw [List.any_eq_false]
  intro r hr
  have:=h.n.nb r hr
  simp only [decide_eq_true_eq,MK.s.injEq]
  intro e
  rcases hn with hn | hn
  ·exact this.1 (by rw [← e]; exact hn)
  ·exact this.2 (by rw [← e]; exact hn)
 rcases selP_reg h.r p.instr with e | e | e
 ·exact .inl ⟨.inl (by rw [e]),hno _ (.inl (by rw [e]))⟩
 ·exact .inl ⟨.inr (by rw [e]),hno _ (.inr (by rw [e]))⟩
 ·exact .inr ⟨h.n.nb _ e,mapD_mem e⟩
theorem actR_R {st:Nat} {p:Port} (h:PortR p):PortR (actR st p):=by
 have hd:=actR_d st p
 have hi:(actR st p).iD=p.iD:=by
  unfold actR
  split
  ·rfl
  ·exact (actV_i st p 48).1
 have ho:(actR st p).oD=p.oD:=by
  unfold actR
  split
  ·rfl
  ·unfold actV
   split
   ·rfl
   ·split
    ·rfl
    ·split
     ·rfl
     ·split
      ·split
       ·rename_i hsel
        rcases sel_own h with ⟨h1,_⟩ | ⟨_,h1⟩
        ·exact absurd h1 (by rintro (e | e); exact hsel.1 e; exact hsel.2 e)
        ·simp only
         funext q
         by_cases hq:q=.s (selP p.d p.instr).1
         ·rw [if_pos hq,hq,h.oD,h1]
         ·rw [if_neg hq]
       ·rfl
      ·split
       ·rfl
       ·split
        ·rfl
        ·rfl
 exact ⟨by rw [hd]; exact h.r,by rw [hd]; exact h.n,by rw [hi,hd]; exact h.iD,by rw [ho,hd]; exact h.oD⟩
structure RelR (D:List Dev) (P:List Port):Prop where
 len:P.length=D.length
 d:∀ k q,P[k]?=some q→q.d=D.getD k dev0∧PortR q∧PortV q
 ap:Apart P
 s:∀ q∈P,DevS q.d
theorem inD_same {P:List Port} (h:Apart P) {k:Nat} {p q:Port} (hp:P[k]?=some p) (hd:q.d=p.d) (hi:q.iD=p.iD):inD (P.set k q)=inD P:=by
 funext m
 cases m with
 | q a b =>
  simp only [inD]
  rw [atP_set h hp hd]
  by_cases ha:a=p.d.name
  ·rw [if_pos ha,ha,atP_at h hp]
   simp only [hi]
  ·rw [if_neg ha]
 | _=>rfl
theorem inV_same {P:List Port} (h:Apart P) {k:Nat} {p q:Port} (hp:P[k]?=some p) (hd:q.d=p.d) (hi:q.iV=p.iV):inV (P.set k q)=inV P:=by
 funext m
 cases m with
 | q a b =>
  simp only [inV]
  rw [atP_set h hp hd]
  by_cases ha:a=p.d.name
  ·rw [if_pos ha,ha,atP_at h hp]
   simp only [hi]
  ·rw [if_neg ha]
 | _=>rfl
theorem outD_same {P:List Port} (h:Apart P) {k:Nat} {p q:Port} (hp:P[k]?=some p) (hd:q.d=p.d) (hi:q.oD=p.oD):outD (P.set k q)=outD P:=by
 funext m
 cases m with
 | q a b =>
  simp only [outD]
  rw [atP_set h hp hd]
  by_cases ha:a=p.d.name
  ·rw [if_pos ha,ha,atP_at h hp]
   simp only [hi]
  ·rw [if_neg ha]
 | _=>rfl
theorem outM_same {P:List Port} (h:Apart P) {k:Nat} {p q:Port} (hp:P[k]?=some p) (hd:q.d=p.d) (hi:q.oV=p.oV):outM (P.set k q)=outM P:=by
 funext m
 cases m with
 | q a b =>
  simp only [outM]
  rw [atP_set h hp hd]
  by_cases ha:a=p.d.name
  ·rw [if_pos ha,ha,atP_at h hp]
   simp only [hi]
  ·rw [if_neg ha]
 | _=>rfl
theorem outD_upd {P:List Port} (h:Apart P) {k:Nat} {p q:Port} {s:Bs} (hp:P[k]?=some p) (hd:q.d=p.d) (ho:q.oD=fun m=>if m=.s s then true else p.oD m) :
  outD (P.set k q)=fun m=>if m=.q p.d.name s then true else outD P m:=by
 funext m
 cases m with
 | q a b =>
  simp only [outD]
  rw [atP_set h hp hd]
  by_cases ha:a=p.d.name
  ·rw [if_pos ha,ha,atP_at h hp]
   simp only [ho]
   by_cases hb:b=s
   ·simp [hb]
   ·rw [if_neg (by simpa using hb),if_neg (by simpa using hb)]
  ·rw [if_neg ha,if_neg (by simp [ha])]
 | _=>simp [outD]
theorem outM_upd {P:List Port} (h:Apart P) {k:Nat} {p q:Port} {s v:Bs} (hp:P[k]?=some p) (hd:q.d=p.d) (ho:q.oV=fun m=>if m=.s s then v else p.oV m) :
  outM (P.set k q)=fun m=>if m=.q p.d.name s then v else outM P m:=by
 funext m
 cases m with
 | q a b =>
  simp only [outM]
  rw [atP_set h hp hd]
  by_cases ha:a=p.d.name
  ·rw [if_pos ha,ha,atP_at h hp]
   simp only [ho]
   by_cases hb:b=s
   ·simp [hb]
   ·rw [if_neg (by simpa using hb),if_neg (by simpa using hb)]
  ·rw [if_neg ha,if_neg (by simp [ha])]
 | _=>simp [outM]
theorem set_none {P:List Port} {k:Nat} {p:Port} (hp:P[k]?=some p):P.set k p=P:=by
 apply List.ext_getElem?
 intro i
 by_cases e:k=i
 ·subst e
  rw [List.getElem?_set_self (List.getElem?_eq_some_iff.1 hp).1,hp]
 ·rw [List.getElem?_set_ne e]
theorem set_getD {P:List Port} {k:Nat} {p q z:Port} (hp:P[k]?=some p) (j:Nat):(P.set k q).getD j z=if j=k then q else P.getD j z:=by
 rw [List.getD_eq_getElem?_getD,List.getD_eq_getElem?_getD]
 by_cases e:k=j
 ·subst e
  rw [List.getElem?_set_self (List.getElem?_eq_some_iff.1 hp).1,if_pos rfl]
  rfl
 ·rw [List.getElem?_set_ne e,if_neg (fun h=>e h.symm)]
theorem RelR.act {D:List Dev} {P:List Port} (h:RelR D P) {k:Nat} {p q:Port} (hp:P[k]?=some p) (hd:q.d=p.d) (hR:PortR q) (hV:PortV q):RelR D (P.set k q):=by
 refine ⟨by rw [List.length_set]; exact h.len,fun j x hx=>?_,h.ap.set hp hd,fun x hx=>?_⟩
 ·by_cases e:k=j
  ·subst e
   rw [List.getElem?_set_self (List.getElem?_eq_some_iff.1 hp).1] at hx
   injection hx with hx
   subst hx
   exact ⟨by rw [hd]; exact (h.d k p hp).1,hR,hV⟩
  ·rw [List.getElem?_set_ne e] at hx
   exact h.d j x hx
 ·rcases List.mem_or_eq_of_mem_set hx with hx | rfl
  ·exact h.s x hx
  ·rw [hd]; exact h.s p (List.mem_of_getElem? hp)
theorem actR_V {st:Nat} {p:Port} (h:PortV p):PortV (actR st p):=by
 unfold actR
 split
 ·exact h
 ·exact (actV_V h (by decide)).1
open Go.RowKit
theorem shiftIR_c (x:ChV) (l:Bs) (n c nid:Nat) (hc:c+11≤nid) (hx:ChOk n x) (hs:x.st<2) (h0:0<l.length) (hf:bitsFaultV l=0) (hn0:0<n) (hn:n≤3) :
  ACall Tryz.prog 35 [.ptr c 0,.str l] (chH c x) nid (.tup [.str (scanO x 11 l),.int .i64 0]) (chH c (scanV x 11 l)):=by
 have hsc:=fun m (hm:c+11≤m)=>scan_c x 11 l n c m hm hx hs (.inr rfl) h0 hf hn0 hn
 obtain ⟨hl,hll⟩:=bits_ok hf
 have hokV:=scanV_ok (T:=11) hx hs (.inr rfl) hl
 have hs2:Scoped nid (chH c (scanV x 11 l)):=chainH_scoped c nid _ _ (by rw [hokV.len]; exact hn) hc
 have hk2:keys (chH c x)=keys (chH c (scanV x 11 l)):=chainH_keys c _ _ _ _ (by rw [hx.len,hokV.len])
 generalize chH c (scanV x 11 l)=Hs2 at *
 generalize chH c x=Hs at *
 refine acall_run c35 (by simp [a35]) ?_
 simp -dsimp only [a35,aqA,↓seqK,↓blkK,↓loopK,step,stepBin,eqB,Nat.add_assoc nid,simprocAttr,LN_succ]
 refine CallO.on (hsc _ (by omega)) (subH_refl _) ?_
 simp -dsimp only [aqA,↓seqK,↓blkK,↓loopK,step,stepBin,eqB,Nat.add_assoc nid,simprocAttr,LN_succ]
 refine RetOK.whole (.inl rfl) hs2 (fun id hid=>by rw [← hk2]; exact hid) (subH_front _ _) ?_
 simp [a35,cvT,step,res]
theorem shiftDR_c (x:ChV) (l:Bs) (n c nid:Nat) (hc:c+11≤nid) (hx:ChOk n x) (hs:x.st<2) (h0:0<l.length) (hf:bitsFaultV l=0) (hn0:0<n) (hn:n≤3) :
  ACall Tryz.prog 40 [.ptr c 0,.str l] (chH c x) nid (.tup [.str (scanO x 4 l),.int .i64 0]) (chH c (scanV x 4 l)):=by
 have hsc:=fun m (hm:c+11≤m)=>scan_c x 4 l n c m hm hx hs (.inl rfl) h0 hf hn0 hn
 obtain ⟨hl,hll⟩:=bits_ok hf
 have hokV:=scanV_ok (T:=4) hx hs (.inl rfl) hl
 have hs2:Scoped nid (chH c (scanV x 4 l)):=chainH_scoped c nid _ _ (by rw [hokV.len]; exact hn) hc
 have hk2:keys (chH c x)=keys (chH c (scanV x 4 l)):=chainH_keys c _ _ _ _ (by rw [hx.len,hokV.len])
 generalize chH c (scanV x 4 l)=Hs2 at *
 generalize chH c x=Hs at *
 refine acall_run c40 (by simp [a40]) ?_
 simp -dsimp only [a40,aqA,↓seqK,↓blkK,↓loopK,step,stepBin,eqB,Nat.add_assoc nid,simprocAttr,LN_succ]
 refine CallO.on (hsc _ (by omega)) (subH_refl _) ?_
 simp -dsimp only [aqA,↓seqK,↓blkK,↓loopK,step,stepBin,eqB,Nat.add_assoc nid,simprocAttr,LN_succ]
 refine RetOK.whole (.inl rfl) hs2 (fun id hid=>by rw [← hk2]; exact hid) (subH_front _ _) ?_
 simp [a40,cvT,step,res]
open Go.RowKit
open Go.RowKit
open Go.RowKit
theorem isState_c (n:Int) (nid:Nat):ACall Tryz.prog 122 [.int .i64 n] [] nid (.bool (!outB n 0 15)) []:=by
 refine acall_run c122 (by simp [a122]) ?_
 simp -dsimp only [a122,aqT,aqU,aqN,aqP,aqM,↓seqK,↓blkK,↓loopK,step,stepBin,eqB,Nat.reduceBEq,Nat.reduceBeqDiff,Nat.add_assoc nid,Nat.reduceAdd,reduceCtorEq,↓reduceIte,Nat.reduceLeDiff,Nat.reduceBneDiff,Option.toList,← Int.ofNat_tmod,← Int.ofNat_tdiv,Nat.reduceLT]
 refine CallO.pure (out_c _ _ _ _) ?_
 simp -dsimp only [aqT,aqU,aqN,aqP,aqM,↓seqK,↓blkK,↓loopK,step,stepBin,eqB,Nat.reduceBEq,Nat.reduceBeqDiff,Nat.add_assoc nid,Nat.reduceAdd,reduceCtorEq,↓reduceIte,Nat.reduceLeDiff,Nat.reduceBneDiff,Option.toList,← Int.ofNat_tmod,← Int.ofNat_tdiv,Nat.reduceLT]
 refine RetOK.pure (.inl rfl) rfl ?_
 simp [cvT,step,res]
theorem pathP (s t nid:Nat) (hs:s<16) (ht:t<16):ACall Tryz.prog 72 [.int .i64 (s:Nat),.int .i64 (t:Nat)] [] nid (.tup [.str (pathV s t),.int .i64 0]) []:=by
 have h1:outB (s:Nat) 0 15=false:=by unfold outB; simp; omega
 have h2:outB (t:Nat) 0 15=false:=by unfold outB; simp; omega
 refine acall_run c72 (by simp [a72]) ?_
 simp -dsimp only [a72,aqT,aqU,aqN,aqP,aqM,↓seqK,↓blkK,↓loopK,step,stepBin,eqB,Nat.reduceBEq,Nat.reduceBeqDiff,Nat.add_assoc nid,Nat.reduceAdd,reduceCtorEq,↓reduceIte,Nat.reduceLeDiff,Nat.reduceBneDiff,Option.toList,← Int.ofNat_tmod,← Int.ofNat_tdiv,Nat.reduceLT]
 refine CallO.pure (isState_c _ _) ?_
 rw [h1]
 simp -dsimp only [aqT,aqU,aqN,aqP,aqM,↓seqK,↓blkK,↓loopK,step,stepBin,eqB,Nat.reduceBEq,Nat.reduceBeqDiff,Nat.add_assoc nid,Nat.reduceAdd,reduceCtorEq,↓reduceIte,Nat.reduceLeDiff,Nat.reduceBneDiff,Option.toList,← Int.ofNat_tmod,← Int.ofNat_tdiv,Nat.reduceLT,Bool.not_false,Bool.not_true]
 refine CallO.pure (isState_c _ _) ?_
 rw [h2]
 simp -dsimp only [aqT,aqU,aqN,aqP,aqM,↓seqK,↓blkK,↓loopK,step,stepBin,eqB,Nat.reduceBEq,Nat.reduceBeqDiff,Nat.add_assoc nid,Nat.reduceAdd,reduceCtorEq,↓reduceIte,Nat.reduceLeDiff,Nat.reduceBneDiff,Option.toList,← Int.ofNat_tmod,← Int.ofNat_tdiv,Nat.reduceLT,Bool.not_false,Bool.not_true]
 refine CallO.pure (path_st s t _ hs) ?_
 simp -dsimp only [aqT,aqU,aqN,aqP,aqM,↓seqK,↓blkK,↓loopK,step,stepBin,eqB,Nat.reduceBEq,Nat.reduceBeqDiff,Nat.add_assoc nid,Nat.reduceAdd,reduceCtorEq,↓reduceIte,Nat.reduceLeDiff,Nat.reduceBneDiff,Option.toList,← Int.ofNat_tmod,← Int.ofNat_tdiv,Nat.reduceLT]
 refine RetOK.pure (.inl rfl) rfl ?_
 simp [cvT,step,res]
theorem path41:pathV 4 1=[49,49,48]:=by decide
theorem path41_c (nid:Nat):ACall Tryz.prog 72 [.int .i64 4,.int .i64 1] [] nid (.tup [.str [49,49,48],.int .i64 0]) []:=by
 have h:=pathP 4 1 nid (by omega) (by omega)
 rw [path41] at h
 exact h
open Go.RowKit
theorem Scoped.cons {b i:Nat} {c:Option ABlk} {Hs:Heap} (hi:i<b) (hc:lowBlk b c=true) (h:Scoped b Hs):Scoped b ((i,c)::Hs):=by
 have:=lowHeap_cons hi hc h.lowHeap
 exact ⟨this.1,this.2⟩
theorem subH_swap {s:Nat} {A:Option ABlk} {Hs:Heap} (h:s ∉ keys Hs):subH ((s,A)::Hs) (Hs++[(s,A)]):=fun id x hx=>by
 simp only [getH] at hx
 rw [getH_appC]
 cases e:(s==id)
 ·rw [e] at hx
  simp only [cond_false] at hx
  rw [getH_key hx]
  exact hx
 ·rw [e] at hx
  simp only [cond_true] at hx
  have e':=eq_of_beq e
  subst e'
  have:(keys Hs).contains s=false:=by simpa using h
  rw [this]
  simp only [cond_false,getH,e,cond_true]
  exact hx
theorem chH_off {c s:Nat} {x:ChV} (h:s<c):s ∉ keys (chH c x):=by
 intro hid
 unfold chH chainH at hid
 simp only [keys,List.map_cons,List.mem_cons,List.mem_map] at hid
 rcases hid with rfl | rfl | ⟨y,hy,hy2⟩
 ·omega
 ·omega
 ·have:=portsH_ge x.P (c+2) y hy
  omega
theorem portsK_ok {D:List Dev} (he:devsE D=0) (f:(Nat→Bool) × (Nat→Bool)):ChOk D.length ⟨0,portsK D f D.length⟩ :=
 ⟨by simp only; omega,portsK_len _ _ _,fun p hp=>by
  unfold portsK at hp
  obtain ⟨j,hj,rfl⟩:=List.mem_map.1 hp
  have hj':=List.mem_range.1 hj
  exact port0_V (devR_of he _ (by rw [List.getD_eq_getElem?_getD,List.getElem?_eq_getElem hj']; exact List.getElem_mem _)) _ _⟩
open Go.RowKit
theorem findR_at {n:Bs}:∀ {R:List (Bs × Int)} {k:Nat},k<R.length→(R.getD k reg0).1=n→(∀ j,j<k→(R.getD j reg0).1≠n)→R.find? (fun x=>x.1==n)=some (R.getD k reg0)
 | [],k,hk,_,_=>by simp at hk
 | r::R,0,_,h,_=>by
  have h':r.1=n:=h
  rw [List.find?_cons_of_pos (by simp [h'])]
  rfl
 | r::R,k+1,hk,h,hj=>by
  have h0:r.1≠n:=hj 0 (by omega)
  rw [List.find?_cons_of_neg (by simp [h0])]
  exact findR_at (R:=R) (by simpa using hk) h fun j hjk=>hj (j+1) (by omega)
theorem findR_off {R:List (Bs × Int)} {n:Bs} (h:∀ j,j<R.length→(R.getD j reg0).1≠n):R.find? (fun x=>x.1==n)=none :=
 findR_no fun r hr=>by
  obtain ⟨j,hj,rfl⟩:=List.getElem_of_mem hr
  have:=h j hj
  rwa [List.getD_eq_getElem?_getD,List.getElem?_eq_getElem hj] at this
def nameFrom (d:Dev) (code n:Bs) (k:Nat):Bs:=(d.ins.take k).foldl (fun n x=>if x.1=code then x.2 else n) n
theorem nameFrom_succ (d:Dev) (code n:Bs) {k:Nat} (hk:k<d.ins.length):nameFrom d code n (k+1)=if (d.ins.getD k ins0).1=code then (d.ins.getD k ins0).2 else nameFrom d code n k:=by
 have e:d.ins.getD k ins0=d.ins[k]:=by rw [List.getD_eq_getElem?_getD,List.getElem?_eq_getElem hk]; rfl
 unfold nameFrom
 rw [List.take_add_one,List.getElem?_eq_getElem hk,List.foldl_append,e]
 rfl
set_option maxHeartbeats 4000000 in
theorem selR_c (n1 n2:Bool) (d:Dev) (code:Bs) (nid:Nat) (hR:d.regs.length≤1000) (hI:d.ins.length≤1000) :
  ACall Tryz.prog 49 [dvP n1 n2 d,.str code] [] nid (.agg [.str (selR d code).1,.int .i64 (selR d code).2]) []:=by
 refine acall_sr c49 (by simp [a49]) ?_
 unfold a49 dvP litRg litIn
 refine SR.seqTo ⟨[(2,.ptr nid 0),(4,.ptr (nid+4) 0),(1,.str code)],[(nid,boxL n1 n2 d),(nid+4,boxRg reg0)],nid+100,nid⟩ ?_ ?_
 ·simp -dsimp only [aqA,↓seqK,↓blkK,↓loopK,step,stepBin,eqB,Nat.add_assoc nid,simprocAttr,LN_succ]
  refine Cov.go [] [] ?_
  simp [cvT,step,res,boxL,boxRg,reg0,litRg,litIn,-List.getD_eq_getElem?_getD]
 refine SR.seq ?_
 simp -dsimp only [aqA,↓seqK,↓blkK,↓loopK,step,stepBin,eqB,Nat.add_assoc nid,simprocAttr,LN_succ]
 obtain ⟨n0,hn0⟩:∃ n0,(if code=[]∧d.id≠0 then idL else byL)=n0:=⟨_,rfl⟩
 refine SR.seqTo ⟨[(5,.str n0),(2,.ptr nid 0),(4,.ptr (nid+4) 0),(1,.str code)],[(nid,boxL n1 n2 d),(nid+4,boxRg reg0)],nid+200,nid⟩ ?_ ?_
 ·unfold boxL boxRg litRg litIn
  have e1:=strEq code []
  by_cases h1:code=[]
  ·rw [decide_eq_true h1] at e1
   by_cases h2:d.id=0
   ·have e2:(d.id != 0)=false:=by simp [h2]
    rw [if_neg (fun h=>h.2 h2)] at hn0
    subst hn0
    simp -dsimp only [aqA,↓seqK,↓blkK,↓loopK,step,stepBin,eqB,Nat.add_assoc nid,simprocAttr,LN_succ,e1,e2]
    refine Cov.go [] [] ?_
    simp [cvT,step,res,boxL,boxRg,litRg,litIn,byL,-List.getD_eq_getElem?_getD]
   ·have e2:(d.id != 0)=true:=by simp [h2]
    rw [if_pos ⟨h1,h2⟩] at hn0
    subst hn0
    simp -dsimp only [aqA,↓seqK,↓blkK,↓loopK,step,stepBin,eqB,Nat.add_assoc nid,simprocAttr,LN_succ,e1,e2]
    refine Cov.go [] [] ?_
    simp [cvT,step,res,boxL,boxRg,litRg,litIn,idL,-List.getD_eq_getElem?_getD]
  ·rw [decide_eq_false h1] at e1
   rw [if_neg (fun h=>h1 h.1)] at hn0
   subst hn0
   simp -dsimp only [aqA,↓seqK,↓blkK,↓loopK,step,stepBin,eqB,Nat.add_assoc nid,simprocAttr,LN_succ,e1]
   refine Cov.go [] [] ?_
   simp [cvT,step,res,boxL,boxRg,litRg,litIn,byL,-List.getD_eq_getElem?_getD]
 have hfin:nameFrom d code n0 d.ins.length=nameR d code:=by unfold nameFrom nameR; rw [List.take_length,hn0]
 refine SR.seqTo ⟨[(5,.str (nameR d code)),(2,.ptr nid 0),(4,.ptr (nid+4) 0)],[(nid,boxL n1 n2 d),(nid+4,boxRg reg0)],nid+2000,nid⟩ ?_ ?_
 ·unfold boxL boxRg litRg litIn
  simp -dsimp only [aqA,↓seqK,↓blkK,↓loopK,step,stepBin,eqB,Nat.add_assoc nid,simprocAttr,LN_succ]
  refine LP.mkP (fun k:Nat=>k≤d.ins.length) (fun k:Nat=>⟨[(5,.str (nameFrom d code n0 k)),(18,litIn n2 d.ins),(19,.int .i64 d.ins.length),(20,.int .i64 k),(2,.ptr nid 0),(4,.ptr (nid+4) 0),(1,.str code)],[(nid,boxL n1 n2 d),(nid+4,boxRg reg0)],nid+300,nid⟩) (fun k=>d.ins.length+1 - k) 0 (by omega) (Cov.go [] [] ?_) (fun k hk=>?_)
  ·simp [cvT,step,res,boxL,boxRg,litRg,litIn,nameFrom,-List.getD_eq_getElem?_getD]
  unfold boxL boxRg litRg litIn
  simp -dsimp only [aqA,↓seqK,↓blkK,↓loopK,step,stepBin,eqB,Nat.add_assoc nid,simprocAttr,LN_succ]
  refine S2.dec (fun h3=>?_) (fun h3=>?_) <;> simp -dsimp only [aqA,↓seqK,↓blkK,↓loopK,step,stepBin,eqB,Nat.add_assoc nid,simprocAttr,LN_succ]
  ·have hkl:k<d.ins.length:=by omega
   have hs:=nameFrom_succ d code n0 hkl
   have e5:=strEq (d.ins.getD k ins0).1 code
   refine ⟨⟨by omega,by omega⟩,?_⟩
   by_cases h:(d.ins.getD k ins0).1=code
   ·rw [if_pos h] at hs
    rw [decide_eq_true h] at e5
    simp -dsimp only [aqA,↓seqK,↓blkK,↓loopK,step,stepBin,eqB,Nat.add_assoc nid,simprocAttr,LN_succ,e5]
    refine ⟨by unfold inI64; omega,k+1,⟨by omega,by omega⟩,Cov.go [] [] ?_⟩
    rw [hs]
    simp [cvT,step,res,boxL,boxRg,litRg,litIn,-List.getD_eq_getElem?_getD]
   ·rw [if_neg h] at hs
    rw [decide_eq_false h] at e5
    simp -dsimp only [aqA,↓seqK,↓blkK,↓loopK,step,stepBin,eqB,Nat.add_assoc nid,simprocAttr,LN_succ,e5]
    refine ⟨by unfold inI64; omega,k+1,⟨by omega,by omega⟩,Cov.go [] [] ?_⟩
    rw [hs]
    simp [cvT,step,res,boxL,boxRg,litRg,litIn,-List.getD_eq_getElem?_getD]
  ·have hkn:k=d.ins.length:=by omega
   rw [hkn,hfin]
   refine Cov.go [] [] ?_
   simp [cvT,step,res,boxL,boxRg,litRg,litIn,-List.getD_eq_getElem?_getD]
 obtain ⟨sv,hsv⟩:∃ sv,selR d code=sv:=⟨_,rfl⟩
 unfold selR at hsv
 rw [show selR d code=sv from hsv]
 generalize nameR d code=nm at *
 refine SR.seqW (ι:={_x:Unit // d.regs.find? (fun x=>x.1==nm)=none}) (fun _=>⟨[(5,.str nm),(4,.ptr (nid+4) 0)],[(nid+4,boxRg reg0)],nid+8000,nid⟩) ?_ (fun ⟨_,hno⟩=>?_)
 ·refine SR.seq ?_
  unfold boxL boxRg litRg litIn
  simp -dsimp only [aqA,↓seqK,↓blkK,↓loopK,step,stepBin,eqB,Nat.add_assoc nid,simprocAttr,LN_succ]
  refine SR.block ?_
  refine SR.loopP (fun k:Nat=>k≤d.regs.length∧∀ j,j<k→(d.regs.getD j reg0).1≠nm) (fun k:Nat=>⟨[(5,.str nm),(32,litRg n1 d.regs),(33,.int .i64 d.regs.length),(34,.int .i64 k),(4,.ptr (nid+4) 0)],[(nid+4,boxRg reg0)],nid+3000,nid⟩) (fun k=>d.regs.length+1 - k) 0 ⟨by omega,fun j hj=>by omega⟩ ?_ (fun k ⟨hk,hb⟩=>?_)
  ·refine Cov.go [] [] ?_
   simp [cvT,step,res,boxL,boxRg,litRg,litIn,-List.getD_eq_getElem?_getD]
  refine SR.run (t:=.mk) ?_
  unfold boxRg litRg
  simp -dsimp only [aqA,↓seqK,↓blkK,↓loopK,step,stepBin,eqB,Nat.add_assoc nid,simprocAttr,LN_succ]
  refine S2.dec (fun h3=>?_) (fun h3=>?_) <;> simp -dsimp only [aqA,↓seqK,↓blkK,↓loopK,step,stepBin,eqB,Nat.add_assoc nid,simprocAttr,LN_succ]
  ·have hkl:k<d.regs.length:=by omega
   have e5:=strEq (d.regs.getD k reg0).1 nm
   refine ⟨⟨by omega,by omega⟩,?_⟩
   by_cases h:(d.regs.getD k reg0).1=nm
   ·rw [decide_eq_true h] at e5
    rw [findR_at hkl h hb] at hsv
    simp only at hsv
    subst hsv
    simp -dsimp only [aqA,↓seqK,↓blkK,↓loopK,step,stepBin,eqB,Nat.add_assoc nid,simprocAttr,LN_succ,e5]
    refine RetOK.go [] [] (.inl rfl) ?_
    simp [a49,cvT,step,res,-List.getD_eq_getElem?_getD]
   ·rw [decide_eq_false h] at e5
    simp -dsimp only [aqA,↓seqK,↓blkK,↓loopK,step,stepBin,eqB,Nat.add_assoc nid,simprocAttr,LN_succ,e5]
    refine ⟨by unfold inI64; omega,k+1,⟨⟨by omega,fun j hj=>?_⟩,by omega⟩,Cov.go [] [] ?_⟩
    ·rcases (by omega:j<k∨j=k) with hj | rfl
     ·exact hb j hj
     ·exact h
    simp [cvT,step,res,boxRg,litRg,-List.getD_eq_getElem?_getD]
  ·have hkn:k=d.regs.length:=by omega
   refine ⟨⟨(),findR_off fun j hj=>hb j (by omega)⟩,Cov.go [] [] ?_⟩
   simp [cvT,step,res,boxRg,litRg,-List.getD_eq_getElem?_getD]
 rw [hno] at hsv
 simp only at hsv
 subst hsv
 refine SR.run (t:=.mk) ?_
 unfold boxRg
 have e5:=strEq nm idL
 by_cases h:nm=idL
 ·rw [decide_eq_true h] at e5
  unfold idL at e5
  rw [if_pos h]
  simp -dsimp only [aqA,↓seqK,↓blkK,↓loopK,step,stepBin,eqB,Nat.add_assoc nid,simprocAttr,LN_succ,e5]
  refine RetOK.go [] [] (.inl rfl) ?_
  simp [a49,cvT,step,res,-List.getD_eq_getElem?_getD]
 ·rw [decide_eq_false h] at e5
  unfold idL at e5
  rw [if_neg h]
  simp -dsimp only [aqA,↓seqK,↓blkK,↓loopK,step,stepBin,eqB,Nat.add_assoc nid,simprocAttr,LN_succ,e5]
  refine RetOK.go [] [] (.inl rfl) ?_
  simp [a49,cvT,step,res,-List.getD_eq_getElem?_getD]
open Go.RowKit Go.Shelf Go.Lib
theorem itoa_cc (n:Nat) (nid:Nat) (hn:n<100):ACall Tryz.prog 68 [.int .i64 (n:Nat)] [] nid (.str (Lib.decDigits n)) [] :=
 acall_below (us:=[.int .i64 (n:Nat)]) nid Tryz.func68 (by kernel_rfl) (by kernel_rfl) rfl rfl (fun w=>by
  have h:=Any.strconv_Itoa_small Tryz.lays171 n hn w
  have hf:Tryz.lays171_ren.f 171=68:=by kernel_rfl
  rw [hf] at h
  refine h.mono ?_
  rintro e w' ⟨rfl,rfl⟩
  exact ⟨rfl,Below.refl _ _⟩)
theorem bitS {n:Nat} (h:n<2):Lib.decDigits n=[UInt8.ofNat (48+n)]:=by
 rcases (by omega:n=0∨n=1) with rfl | rfl <;> kernel_rfl
open Go.RowKit
def pz:Port:=⟨dev0,false,false,[],[],fun _=>false,fun _=>[],fun _=>false,fun _=>[]⟩
def RH (c : Nat) (n0 : Bool) (n1 n2 : Nat → Bool) (D : List Dev) (st : Nat) (P : List Port) : Heap :=
  [(c,some (.box 104 [.lit n0 D.length (devP n1 n2 D),.int .i64 (st : Nat),.sl (c + 1) 0 D.length,.sl (c + 2) 0 D.length,.mp (c + 3),.mp (c + 4)])),
   (c + 1,some (.arr 9 D.length [.s fun j => (P.getD j pz).instr])),
   (c + 2,some (.arr 9 D.length [.s fun j => (P.getD j pz).shift])),
   (c + 3,some (.map .q (inD P) (.s (inV P)))),
   (c + 4,some (.map .q (outD P) (.s (outM P))))]
theorem RH_scoped (c b:Nat) (n0:Bool) (n1 n2:Nat→Bool) (D:List Dev) (st:Nat) (P:List Port) (h:c+5≤b):Scoped b (RH c n0 n1 n2 D st P):=scoped_list fun x hx=>by
 simp only [RH,List.mem_cons,List.not_mem_nil,or_false] at hx
 rcases hx with rfl | rfl | rfl | rfl | rfl
 ·exact ⟨by simp only; omega,by simp [lowBlk,lowAll,idsOfs,idsOf]; omega⟩
 ·exact ⟨by simp only; omega,rfl⟩
 ·exact ⟨by simp only; omega,rfl⟩
 ·exact ⟨by simp only; omega,rfl⟩
 ·exact ⟨by simp only; omega,rfl⟩
theorem pGet {P:List Port} {k:Nat} {p:Port} (h:P[k]?=some p):P.getD k pz=p:=by
 rw [List.getD_eq_getElem?_getD,h]; rfl
theorem nb (c i j:Nat) (h:i≠j):(c+i==c+j)=false∧(c==c+(i+1))=false∧(c+(i+1)==c)=false:=by
 refine ⟨?_,?_,?_⟩ <;> rw [beq_eq_false_iff_ne] <;> omega
theorem RH0 (c:Nat) (n0:Bool) (n1 n2:Nat→Bool) (D:List Dev) (st:Nat) (P:List Port):getH (RH c n0 n1 n2 D st P) c=some (.box 104 [.lit n0 D.length (devP n1 n2 D),.int .i64 (st:Nat),.sl (c+1) 0 D.length,.sl (c+2) 0 D.length,.mp (c+3),.mp (c+4)]):=by simp [RH,getH]
theorem RH1 (c:Nat) (n0:Bool) (n1 n2:Nat→Bool) (D:List Dev) (st:Nat) (P:List Port):getH (RH c n0 n1 n2 D st P) (c+1)=some (.arr 9 D.length [.s fun j=>(P.getD j pz).instr]):=by
 simp only [RH,getH,(nb c 0 1 (by omega)).2.1,cond_false,BEq.rfl,cond_true]
theorem RH2 (c:Nat) (n0:Bool) (n1 n2:Nat→Bool) (D:List Dev) (st:Nat) (P:List Port):getH (RH c n0 n1 n2 D st P) (c+2)=some (.arr 9 D.length [.s fun j=>(P.getD j pz).shift]):=by
 simp only [RH,getH,(nb c 1 0 (by omega)).2.1,(nb c 1 2 (by omega)).1,cond_false,BEq.rfl,cond_true]
theorem RH3 (c:Nat) (n0:Bool) (n1 n2:Nat→Bool) (D:List Dev) (st:Nat) (P:List Port):getH (RH c n0 n1 n2 D st P) (c+3)=some (.map .q (inD P) (.s (inV P))):=by
 simp only [RH,getH,(nb c 2 0 (by omega)).2.1,(nb c 1 3 (by omega)).1,(nb c 2 3 (by omega)).1,cond_false,BEq.rfl,cond_true]
theorem RH4 (c:Nat) (n0:Bool) (n1 n2:Nat→Bool) (D:List Dev) (st:Nat) (P:List Port):getH (RH c n0 n1 n2 D st P) (c+4)=some (.map .q (outD P) (.s (outM P))):=by
 simp only [RH,getH,(nb c 3 0 (by omega)).2.1,(nb c 1 4 (by omega)).1,(nb c 2 4 (by omega)).1,(nb c 3 4 (by omega)).1,cond_false,BEq.rfl,cond_true]
theorem idBits_take (N:Nat) {j:Nat} (hj:j<32):(idBits (N:Nat)).take (j+1)=(idBits (N:Nat)).take j++[UInt8.ofNat (48+(N >>> j) % 2)]:=by
 have hl:j<(idBits (N:Nat)).length:=by rw [idBits_len]; exact hj
 rw [List.take_add_one,List.getElem?_eq_getElem hl,Option.toList_some]
 have:=idBits_get N j hj
 rw [List.getD_eq_getElem?_getD,List.getElem?_eq_getElem hl] at this
 congr 2
theorem sel_short {p:Port} (hr:DevR p.d) (hs:DevS p.d):(selP p.d p.instr).1.length≤1000:=by
 rcases selP_reg hr p.instr with e | e | e
 ·rw [e]; simp [byL]
 ·rw [e]; simp [idL]
 ·exact (hs.rs _ e).1
set_option maxHeartbeats 8000000 in
theorem capt_R (c nid:Nat) (n0:Bool) (n1 n2:Nat→Bool) (D:List Dev) (st:Nat) (P:List Port) (k:Nat) (p:Port) (hc:c+5≤nid) (h:RelR D P) (hp:P[k]?=some p) (hD:D.length≤1000) :
  ACall Tryz.prog 124 [.ptr c 0,.int .i64 (k:Nat)] (RH c n0 n1 n2 D st P) nid (.str (captV p)) []:=by
 have hkl:k<D.length:=by rw [← h.len]; exact (List.getElem?_eq_some_iff.1 hp).1
 obtain ⟨hd,hR,hV⟩:=h.d k p hp
 have hS:=h.s p (List.mem_of_getElem? hp)
 have hsl:=sel_short hR.r hS
 have hat:=atP_at h.ap hp
 obtain ⟨r,hr⟩:∃ r,selP p.d p.instr=r:=⟨_,rfl⟩
 have hsel:=fun m=>selR_c (n1 k) (n2 k) p.d p.instr m (by have:=hR.r.rl; omega) (by have:=hR.r.il; omega)
 rw [selR_eq hR.r hR.n,hr] at hsel
 rw [hr] at hsl
 have hcv:captV p=if r.1=byL then [48] else if r.1=idL then idBits p.d.id else bif p.iD (.s r.1) then p.iV (.s r.1) else []:=by unfold captV; rw [hr]
 rw [hcv]
 have hs:=RH_scoped c nid n0 n1 n2 D st P hc
 have hl0:=RH0 c n0 n1 n2 D st P
 have hl1:=RH1 c n0 n1 n2 D st P
 have hl3:=RH3 c n0 n1 n2 D st P
 have hi1:inD P (.q p.d.name r.1)=p.iD (.s r.1):=by simp only [inD,hat]
 have hi2:inV P (.q p.d.name r.1)=p.iV (.s r.1):=by simp only [inV,hat]
 have hpi:(P.getD k pz).instr=p.instr:=by rw [pGet hp]
 generalize RH c n0 n1 n2 D st P=Hs at *
 have hcc:∀ k,(nid+k==c)=false:=fun k=>by simp; omega
 have hc1:∀ k,(nid+k==c+1)=false:=fun k=>by simp; omega
 have hc3:∀ k,(nid+k==c+3)=false:=fun k=>by simp; omega
 refine acall_sr c124 (by simp [a124]) ?_
 unfold a124
 refine SR.seq ?_
 simp -dsimp only [aqA,↓seqK,↓blkK,↓loopK,step,stepBin,eqB,Nat.add_assoc nid,simprocAttr,LN_succ]
 refine SR.seqTo ⟨[(5,.ptr (nid+200) 0),(0,.ptr c 0),(1,.int .i64 (k:Nat))],[(nid+200,boxRg r)]++Hs,nid+300,nid⟩ ?_ ?_
 ·unfold devP at hl0
  unfold dvP litRg litIn at hsel
  rw [hd] at hsel
  simp -dsimp only [aqA,↓seqK,↓blkK,↓loopK,step,stepBin,eqB,Nat.add_assoc nid,simprocAttr,LN_succ,hl0,hl1]
  refine ⟨⟨by omega,by omega⟩,⟨by omega,by omega⟩,?_⟩
  rw [hpi]
  refine CallX.pure (hsel _) ?_
  simp -dsimp only [aqA,↓seqK,↓blkK,↓loopK,step,stepBin,eqB,Nat.add_assoc nid,simprocAttr,LN_succ,hl0,hl1,hcc,hc1,hc3]
  refine Cov.goP (nid) Hs [_] [(nid+200,nid+64)] [] (by repeat (first | exact .nil | apply PreH.cons)) (by omega) hs (by simp [kOK]) (by simp) ?_
  simp [cvT,step,res,boxRg,hcc,ColsEq.refl,-List.getD_eq_getElem?_getD]
  omega
 have q5:=strEq r.1 [98,121,112,97,115,115]
 have q6:=strEq r.1 [105,100,99,111,100,101]
 by_cases h5:r.1=byL
 ·rw [if_pos h5]
  rw [decide_eq_true (show r.1=[98,121,112,97,115,115] from h5)] at q5
  refine SR.run (t:=.mk) ?_
  unfold boxRg
  simp -dsimp only [aqA,↓seqK,↓blkK,↓loopK,step,stepBin,eqB,Nat.add_assoc nid,simprocAttr,LN_succ,q5,hcc]
  refine RetOK.goF Hs [] [(nid+200,_)] [] [] [] (.inl rfl) hs (by simp [kOK]) rfl ?_
  simp [a124,cvT,step,res]
 rw [if_neg h5]
 rw [decide_eq_false (show ¬ r.1=[98,121,112,97,115,115] from h5)] at q5
 by_cases h6:r.1=idL
 ·rw [if_pos h6]
  rw [decide_eq_true (show r.1=[105,100,99,111,100,101] from h6)] at q6
  refine SR.run (t:=.mk) ?_
  unfold boxRg
  simp -dsimp only [aqA,↓seqK,↓blkK,↓loopK,step,stepBin,eqB,Nat.add_assoc nid,simprocAttr,LN_succ,q5,q6,hcc]
  obtain ⟨N,hN⟩:∃ N:Nat,p.d.id=N:=⟨_,(Int.toNat_of_nonneg hR.r.idb.1).symm⟩
  have hNb:=hR.r.idb
  have hid:(D.getD k dev0).id=(N:Int):=by rw [← hd]; exact hN
  rw [hN] at hNb ⊢
  unfold devP at hl0
  refine LP.mkP (fun j:Nat=>j≤32) (fun j=>⟨[(29,.int .i64 (j:Nat)),(6,.str ((idBits (N:Nat)).take j)),(0,.ptr c 0),(1,.int .i64 (k:Nat))],[]++Hs,nid+400,nid⟩) (fun j=>33 - j) 0 (by omega) (Cov.goG nid Hs [_] [] [] [] (by omega) hs (by simp [kOK]) (by simp) ?_) (fun j hj=>?_)
  ·simp [cvT,step,res,hcc]
   omega
  simp -dsimp only [aqA,↓seqK,↓blkK,↓loopK,step,stepBin,eqB,Nat.add_assoc nid,simprocAttr,LN_succ,hl0,hcc]
  refine S2.dec (fun h3=>?_) (fun h3=>?_) <;> simp -dsimp only [aqA,↓seqK,↓blkK,↓loopK,step,stepBin,eqB,Nat.add_assoc nid,simprocAttr,LN_succ,hl0,hcc]
  ·have hm:=Nat.mod_lt (N >>> j) (show 0<2 by omega)
   refine ⟨⟨by omega,by omega⟩,by omega,?_⟩
   rw [hid,bit1 N j (by omega) (by omega)]
   refine CallO.pure (itoa_cc ((N >>> j) % 2) _ (by omega)) ?_
   rw [bitS hm]
   simp -dsimp only [aqA,↓seqK,↓blkK,↓loopK,step,stepBin,eqB,Nat.add_assoc nid,simprocAttr,LN_succ,hl0,hcc]
   have hlt:=List.length_take_le j (idBits (N:Nat))
   refine ⟨by omega,by unfold inI64; omega,j+1,⟨by omega,by omega⟩,Cov.goG nid Hs [] [] [] [] (by omega) hs (by simp [kOK]) (by simp) ?_⟩
   rw [idBits_take N (by omega)]
   simp [cvT,step,res,hcc,-List.getD_eq_getElem?_getD]
   omega
  ·have hk2:j=32:=by omega
   subst hk2
   rw [List.take_of_length_le (by rw [idBits_len]; omega)]
   refine RetOK.goF Hs [] [] [] [] [] (.inl rfl) hs (by simp [kOK]) rfl ?_
   simp [a124,cvT,step,res]
 ·rw [if_neg h6]
  rw [decide_eq_false (show ¬ r.1=[105,100,99,111,100,101] from h6)] at q6
  refine SR.seqTo ⟨[(5,.ptr (nid+200) 0),(0,.ptr c 0),(1,.int .i64 (k:Nat))],[(nid+200,boxRg r)]++Hs,nid+400,nid⟩ ?_ ?_
  ·unfold boxRg
   simp -dsimp only [aqA,↓seqK,↓blkK,↓loopK,step,stepBin,eqB,Nat.add_assoc nid,simprocAttr,LN_succ,q5,q6,hcc]
   refine Cov.goP (nid) Hs [_] [] [] (by repeat (first | exact .nil | apply PreH.cons)) (by omega) hs (by simp [kOK]) (by simp) ?_
   simp [cvT,step,res,boxRg,hcc,ColsEq.refl,-List.getD_eq_getElem?_getD]
   omega
  refine SR.run (t:=.mk) ?_
  unfold boxRg
  unfold devP at hl0
  simp -dsimp only [aqA,↓seqK,↓blkK,↓loopK,step,stepBin,eqB,Nat.add_assoc nid,simprocAttr,LN_succ,hl0,hl3,hcc,hc3,mkKey,mGet,keyIn]
  refine ⟨⟨by omega,by omega⟩,⟨by rw [← hd]; have:=hS.nm; omega,by omega⟩,?_⟩
  rw [← hd,hi1,hi2]
  refine RetOK.goF Hs [] [(nid+200,_)] [] [] [] (.inl rfl) hs (by simp [kOK]) rfl ?_
  simp [a124,cvT,step,res]
open Go.RowKit
theorem subH_put {s:Nat} {A:ABlk} {Hs Hs' X:Heap} (hu:∀ id y,getH Hs' id=some y→(id=s∧y=A)∨(id≠s∧getH Hs id=some y)) (hf:subH Hs (X++Hs)):subH Hs' ((s,some A)::(X++Hs)):=fun id y hy=>by
 rcases hu id y hy with ⟨rfl,rfl⟩ | ⟨hne,hg⟩
 ·simp [getH]
 ·simp only [getH]
  have:(s==id)=false:=by simpa using fun e=>hne e.symm
  rw [this]
  exact hf id y hg
theorem RH_keys (c:Nat) (n0:Bool) (n1 n2:Nat→Bool) (D:List Dev) (st st':Nat) (P Q:List Port):keys (RH c n0 n1 n2 D st P)=keys (RH c n0 n1 n2 D st' Q):=rfl
theorem RH_get {c:Nat} {n0:Bool} {n1 n2:Nat→Bool} {D:List Dev} {st:Nat} {P:List Port} {id:Nat} {y:ABlk} (h:getH (RH c n0 n1 n2 D st P) id=some y) :
  (id=c∧getH (RH c n0 n1 n2 D st P) c=some y)∨(id=c+1∧getH (RH c n0 n1 n2 D st P) (c+1)=some y)∨(id=c+2∧getH (RH c n0 n1 n2 D st P) (c+2)=some y)∨(id=c+3∧getH (RH c n0 n1 n2 D st P) (c+3)=some y)∨(id=c+4∧getH (RH c n0 n1 n2 D st P) (c+4)=some y):=by
 have hk:=getH_key h
 have:id∈keys (RH c n0 n1 n2 D st P):=by simpa using hk
 simp only [RH,keys,List.map_cons,List.map_nil,List.mem_cons,List.not_mem_nil,or_false] at this
 rcases this with rfl | rfl | rfl | rfl | rfl
 ·exact .inl ⟨rfl,h⟩
 ·exact .inr (.inl ⟨rfl,h⟩)
 ·exact .inr (.inr (.inl ⟨rfl,h⟩))
 ·exact .inr (.inr (.inr (.inl ⟨rfl,h⟩)))
 ·exact .inr (.inr (.inr (.inr ⟨rfl,h⟩)))
section
variable {c:Nat} {n0:Bool} {n1 n2:Nat→Bool} {D:List Dev} {st:Nat} {P:List Port} {k:Nat} {p q:Port}
theorem RH_instr (h:Apart P) (hp:P[k]?=some p) (v:Bs) (hq:q={ p with instr:=v }):∀ id y,getH (RH c n0 n1 n2 D st (P.set k q)) id=some y →
  (id=c+1∧y=.arr 9 D.length [.s fun j=>if j=k then v else (P.getD j pz).instr])∨(id≠c+1∧getH (RH c n0 n1 n2 D st P) id=some y):=by
 intro id y hy
 have hd:q.d=p.d:=by rw [hq]
 rcases RH_get hy with ⟨e,h1⟩ | ⟨e,h1⟩ | ⟨e,h1⟩ | ⟨e,h1⟩ | ⟨e,h1⟩ <;> subst e
 ·exact .inr ⟨by omega,by rw [RH0] at h1 ⊢; exact h1⟩
 ·rw [RH1] at h1
  injection h1 with h1
  refine .inl ⟨rfl,?_⟩
  rw [← h1]
  congr 3
  funext j
  rw [set_getD hp]
  by_cases e:j=k
  ·rw [if_pos e,if_pos e,hq]
  ·rw [if_neg e,if_neg e]
 ·refine .inr ⟨by omega,?_⟩
  rw [RH2] at h1 ⊢
  rw [← h1]
  congr 4
  funext j
  rw [set_getD hp]
  by_cases e:j=k
  ·rw [if_pos e,hq,e,pGet hp]
  ·rw [if_neg e]
 ·exact .inr ⟨by omega,by rw [RH3,inD_same h hp hd (by rw [hq]),inV_same h hp hd (by rw [hq])] at h1; rw [RH3]; exact h1⟩
 ·exact .inr ⟨by omega,by rw [RH4,outD_same h hp hd (by rw [hq]),outM_same h hp hd (by rw [hq])] at h1; rw [RH4]; exact h1⟩
theorem RH_shift (h:Apart P) (hp:P[k]?=some p) (v:Bs) (hq:q={ p with shift:=v }):∀ id y,getH (RH c n0 n1 n2 D st (P.set k q)) id=some y →
  (id=c+2∧y=.arr 9 D.length [.s fun j=>if j=k then v else (P.getD j pz).shift])∨(id≠c+2∧getH (RH c n0 n1 n2 D st P) id=some y):=by
 intro id y hy
 have hd:q.d=p.d:=by rw [hq]
 rcases RH_get hy with ⟨e,h1⟩ | ⟨e,h1⟩ | ⟨e,h1⟩ | ⟨e,h1⟩ | ⟨e,h1⟩ <;> subst e
 ·exact .inr ⟨by omega,by rw [RH0] at h1 ⊢; exact h1⟩
 ·refine .inr ⟨by omega,?_⟩
  rw [RH1] at h1 ⊢
  rw [← h1]
  congr 4
  funext j
  rw [set_getD hp]
  by_cases e:j=k
  ·rw [if_pos e,hq,e,pGet hp]
  ·rw [if_neg e]
 ·rw [RH2] at h1
  injection h1 with h1
  refine .inl ⟨rfl,?_⟩
  rw [← h1]
  congr 3
  funext j
  rw [set_getD hp]
  by_cases e:j=k
  ·rw [if_pos e,if_pos e,hq]
  ·rw [if_neg e,if_neg e]
 ·exact .inr ⟨by omega,by rw [RH3,inD_same h hp hd (by rw [hq]),inV_same h hp hd (by rw [hq])] at h1; rw [RH3]; exact h1⟩
 ·exact .inr ⟨by omega,by rw [RH4,outD_same h hp hd (by rw [hq]),outM_same h hp hd (by rw [hq])] at h1; rw [RH4]; exact h1⟩
theorem RH_out (h:Apart P) (hp:P[k]?=some p) (s v:Bs) (hq:q={ p with oD:=fun m=>if m=.s s then true else p.oD m,oV:=fun m=>if m=.s s then v else p.oV m }):∀ id y,getH (RH c n0 n1 n2 D st (P.set k q)) id=some y →
  (id=c+4∧y=.map .q (fun m=>if m=.q p.d.name s then true else outD P m) (.s fun m=>if m=.q p.d.name s then v else outM P m))∨(id≠c+4∧getH (RH c n0 n1 n2 D st P) id=some y):=by
 intro id y hy
 have hd:q.d=p.d:=by rw [hq]
 rcases RH_get hy with ⟨e,h1⟩ | ⟨e,h1⟩ | ⟨e,h1⟩ | ⟨e,h1⟩ | ⟨e,h1⟩ <;> subst e
 ·exact .inr ⟨by omega,by rw [RH0] at h1 ⊢; exact h1⟩
 ·refine .inr ⟨by omega,?_⟩
  rw [RH1] at h1 ⊢
  rw [← h1]
  congr 4
  funext j
  rw [set_getD hp]
  by_cases e:j=k
  ·rw [if_pos e,hq,e,pGet hp]
  ·rw [if_neg e]
 ·refine .inr ⟨by omega,?_⟩
  rw [RH2] at h1 ⊢
  rw [← h1]
  congr 4
  funext j
  rw [set_getD hp]
  by_cases e:j=k
  ·rw [if_pos e,hq,e,pGet hp]
  ·rw [if_neg e]
 ·exact .inr ⟨by omega,by rw [RH3,inD_same h hp hd (by rw [hq]),inV_same h hp hd (by rw [hq])] at h1; rw [RH3]; exact h1⟩
 ·rw [RH4,outD_upd h hp hd (s:=s) (by rw [hq]),outM_upd h hp hd (s:=s) (v:=v) (by rw [hq])] at h1
  injection h1 with h1
  exact .inl ⟨rfl,h1.symm⟩
end
set_option maxHeartbeats 16000000 in
theorem act_R (c nid:Nat) (n0:Bool) (n1 n2:Nat→Bool) (D:List Dev) (st:Nat) (P:List Port) (k:Nat) (p:Port) (hc:c+5≤nid) (h:RelR D P) (hp:P[k]?=some p) (hD:D.length≤1000) :
  ACall Tryz.prog 76 [.ptr c 0,.int .i64 (k:Nat)] (RH c n0 n1 n2 D st P) nid (.tup []) (RH c n0 n1 n2 D st (P.set k (actR st p))):=by
 have hkl:k<D.length:=by rw [← h.len]; exact (List.getElem?_eq_some_iff.1 hp).1
 obtain ⟨hd,hR,hV⟩:=h.d k p hp
 have hS:=h.s p (List.mem_of_getElem? hp)
 have hs:=RH_scoped c nid n0 n1 n2 D st P hc
 have hs2:=RH_scoped c nid n0 n1 n2 D st (P.set k (actR st p)) hc
 have hkk:∀ id∈keys (RH c n0 n1 n2 D st P),id∈keys (RH c n0 n1 n2 D st (P.set k (actR st p))):=fun id hid=>by rw [RH_keys c n0 n1 n2 D st st (P.set k (actR st p)) P]; exact hid
 have hl0:=RH0 c n0 n1 n2 D st P
 have hl1:=RH1 c n0 n1 n2 D st P
 have hl2:=RH2 c n0 n1 n2 D st P
 have hl4:=RH4 c n0 n1 n2 D st P
 have hcap:=fun m (hm:nid≤m)=>capt_R c m n0 n1 n2 D st P k p (by omega) h hp hD
 have hnone:subH (RH c n0 n1 n2 D st P) (RH c n0 n1 n2 D st P):=subH_refl _
 have hi:=fun v hq=>RH_instr (c:=c) (n0:=n0) (n1:=n1) (n2:=n2) (D:=D) (st:=st) (q:=actR st p) h.ap hp v hq
 have hsf:=fun v hq=>RH_shift (c:=c) (n0:=n0) (n1:=n1) (n2:=n2) (D:=D) (st:=st) (q:=actR st p) h.ap hp v hq
 have hot:=fun s v hq=>RH_out (c:=c) (n0:=n0) (n1:=n1) (n2:=n2) (D:=D) (st:=st) (q:=actR st p) h.ap hp s v hq
 have hself:actR st p=p→RH c n0 n1 n2 D st (P.set k (actR st p))=RH c n0 n1 n2 D st P:=fun e=>by rw [e,set_none hp]
 have hlow:∀ (A:Option ABlk) (m:Nat),nid≤m→lowH ((nid+100,A)::RH c n0 n1 n2 D st P) m (List.map (fun x=>x.1) (RH c n0 n1 n2 D st P))=true:=fun A m hm=>by
  have hcc:∀ j,(nid+100==c+j)=false∨5≤j:=fun j=>by
   by_cases hj:j<5
   ·left; simp; omega
   ·right; omega
  have g0:(nid+100==c)=false:=by simp; omega
  have g1:=(hcc 1).resolve_right (by omega)
  have g2:=(hcc 2).resolve_right (by omega)
  have g3:=(hcc 3).resolve_right (by omega)
  have g4:=(hcc 4).resolve_right (by omega)
  show lowH _ m [c,c+1,c+2,c+3,c+4]=true
  simp only [lowH,getH,g0,g1,g2,g3,g4,cond_false,RH0,RH1,RH2,RH3,RH4]
  simp [lowBlk,lowAll,lowCols,idsOfs,idsOf]
  omega
 generalize RH c n0 n1 n2 D st (P.set k (actR st p))=Hs2 at *
 generalize RH c n0 n1 n2 D st P=Hs at *
 have hcc:∀ k,(nid+k==c)=false:=fun k=>by simp; omega
 have hc1:∀ k,(nid+k==c+1)=false:=fun k=>by simp; omega
 have hc2:∀ k,(nid+k==c+2)=false:=fun k=>by simp; omega
 have hc4:∀ k,(nid+k==c+4)=false:=fun k=>by simp; omega
 refine acall_sr c76 (by simp [a76]) ?_
 unfold a76
 refine SR.seqTo ⟨[(4,.ptr (nid+100) 0),(0,.ptr c 0),(1,.int .i64 (k:Nat))],[(nid+100,boxL (n1 k) (n2 k) p.d)]++Hs,nid+200,nid⟩ ?_ ?_
 ·unfold devP at hl0
  simp -dsimp only [aqA,↓seqK,↓blkK,↓loopK,step,stepBin,eqB,Nat.add_assoc nid,simprocAttr,LN_succ,hl0]
  refine ⟨⟨by omega,by omega⟩,?_⟩
  rw [hd]
  refine Cov.goP (nid) Hs [_] [(nid+100,nid+28)] [] (by repeat (first | exact .nil | apply PreH.cons)) (by omega) hs (by simp [kOK]) (by simp) ?_
  simp [cvT,step,res,boxL,litRg,litIn,hcc,ColsEq.refl,-List.getD_eq_getElem?_getD]
  omega
 refine SR.seqTo ⟨[(18,.int .i64 (st:Nat)),(4,.ptr (nid+100) 0),(0,.ptr c 0),(1,.int .i64 (k:Nat))],[(nid+100,boxL (n1 k) (n2 k) p.d)]++Hs,nid+300,nid⟩ ?_ ?_
 ·simp -dsimp only [aqA,↓seqK,↓blkK,↓loopK,step,stepBin,eqB,Nat.add_assoc nid,simprocAttr,LN_succ,hl0,hcc]
  refine Cov.goP (nid) Hs [_] [] [] (by repeat (first | exact .nil | apply PreH.cons)) (by omega) hs (by simp [kOK]) (by simp) ?_
  simp [cvT,step,res,boxL,litRg,litIn,hcc,ColsEq.refl,-List.getD_eq_getElem?_getD]
  omega
 refine SR.block ?_
 have eq1:∀ n:Nat,(((st:Nat):Int)==(n:Int))=decide (st=n):=fun n=>by rw [Bool.eq_iff_iff]; simp; omega
 have e0:(((st:Nat):Int)==0)=decide (st=0):=eq1 0
 have e3:(((st:Nat):Int)==3)=decide (st=3):=eq1 3
 have e8:(((st:Nat):Int)==8)=decide (st=8):=eq1 8
 have e10:(((st:Nat):Int)==10)=decide (st=10):=eq1 10
 have e15:(((st:Nat):Int)==15)=decide (st=15):=eq1 15
 clear eq1
 have hsh:∀ n,st=n→n≠4→n≠11→shifts st=false:=fun n e h4 h11=>by
  unfold shifts
  rw [e]
  simp [h4,h11]
 by_cases h0:st=0
 ·rw [decide_eq_true h0] at e0
  have hq:actR st p={ p with instr:=[] }:=by
   unfold actR
   rw [if_neg (by rw [hsh 0 h0 (by decide) (by decide)]; simp)]
   unfold actV
   rw [if_pos h0]
  have hu:=hi [] hq
  refine SR.run (t:=.mk) ?_
  simp -dsimp only [aqA,↓seqK,↓blkK,↓loopK,step,stepBin,eqB,Nat.add_assoc nid,simprocAttr,LN_succ,hl0,hl1,hcc,hc1,e0]
  refine ⟨⟨by omega,by omega⟩,?_⟩
  refine RetOK.whole (.inr rfl) hs2 hkk (subH_put (X:=[_]) hu (subH_frame (X:=[_]) hs (by simp [kOK]))) ?_
  simp [a76,cvT,step,res]
 rw [decide_eq_false h0] at e0
 by_cases h3:st=3
 ·rw [decide_eq_true h3] at e3
  have hq:actR st p={ p with shift:=captV p }:=by
   unfold actR
   rw [if_neg (by rw [hsh 3 h3 (by decide) (by decide)]; simp)]
   unfold actV
   rw [if_neg h0,if_pos h3]
  have hu:=hsf _ hq
  refine SR.run (t:=.mk) ?_
  simp -dsimp only [aqA,↓seqK,↓blkK,↓loopK,step,stepBin,eqB,Nat.add_assoc nid,simprocAttr,LN_succ,hl0,hl2,hcc,hc2,e0,e3]
  refine CallX.on (hcap _ (by omega)) (subH_frame (X:=[_]) hs (by simp [kOK])) ?_
  simp -dsimp only [aqA,↓seqK,↓blkK,↓loopK,step,stepBin,eqB,Nat.add_assoc nid,simprocAttr,LN_succ,hl0,hl2,hcc,hc2,e0,e3]
  refine ⟨?_,⟨by omega,by omega⟩,?_⟩
  ·rw [hlow _ _ (by omega)]
   simp
   omega
  refine RetOK.whole (.inr rfl) hs2 hkk (subH_put (X:=[_]) hu (subH_frame (X:=[_]) hs (by simp [kOK]))) ?_
  simp [a76,cvT,step,res]
 rw [decide_eq_false h3] at e3
 by_cases h10:st=10
 ·rw [decide_eq_true h10] at e10
  have hq:actR st p={ p with shift:=capIR p.d }:=by
   unfold actR
   rw [if_neg (by rw [hsh 10 h10 (by decide) (by decide)]; simp)]
   unfold actV
   rw [if_neg h0,if_neg h3,if_neg (by omega),if_neg (by omega),if_pos h10]
  have hu:=hsf _ hq
  have hlg:=hR.r.lg
  obtain ⟨L,hL⟩:∃ L:Nat,p.d.long - 1=L:=⟨_,(Int.toNat_of_nonneg (by omega)).symm⟩
  refine SR.run (t:=.mk) ?_
  unfold boxL
  simp -dsimp only [aqA,↓seqK,↓blkK,↓loopK,step,stepBin,eqB,Nat.add_assoc nid,simprocAttr,LN_succ,hl0,hl2,hcc,hc2,e0,e3,e10]
  refine ⟨by unfold inI64; omega,?_⟩
  rw [hL]
  refine CallX.pure (repeat_cc [48] L _ (by omega) (by simp; omega)) ?_
  rw [rep48]
  simp -dsimp only [aqA,↓seqK,↓blkK,↓loopK,step,stepBin,eqB,Nat.add_assoc nid,simprocAttr,LN_succ,hl0,hl2,hcc,hc2,e0,e3]
  have hcI:capIR p.d=49::List.replicate L 48:=by
   unfold capIR
   rw [hL]
   rfl
  rw [hcI] at hu
  refine ⟨by simp; omega,⟨by omega,by omega⟩,?_⟩
  refine RetOK.whole (.inr rfl) hs2 hkk (subH_put (X:=[_]) hu (subH_frame (X:=[_]) hs (by simp [kOK]))) ?_
  simp [a76,cvT,step,res]
 rw [decide_eq_false h10] at e10
 by_cases h15:st=15
 ·rw [decide_eq_true h15] at e15
  have hq:actR st p={ p with instr:=p.shift }:=by
   unfold actR
   rw [if_neg (by rw [hsh 15 h15 (by decide) (by decide)]; simp)]
   unfold actV
   rw [if_neg h0,if_neg h3,if_neg (by omega),if_neg (by omega),if_neg h10,if_pos h15]
  have hu:=hi _ hq
  refine SR.run (t:=.mk) ?_
  simp -dsimp only [aqA,↓seqK,↓blkK,↓loopK,step,stepBin,eqB,Nat.add_assoc nid,simprocAttr,LN_succ,hl0,hl1,hl2,hcc,hc1,hc2,e0,e3,e10,e15]
  rw [pGet hp]
  refine ⟨⟨by omega,by omega⟩,⟨by omega,by omega⟩,?_⟩
  refine RetOK.whole (.inr rfl) hs2 hkk (subH_put (X:=[_]) hu (subH_frame (X:=[_]) hs (by simp [kOK]))) ?_
  simp [a76,cvT,step,res]
 rw [decide_eq_false h15] at e15
 by_cases h8:st=8
 ·rw [decide_eq_true h8] at e8
  have hsl:=sel_short hR.r hS
  have hsel:=fun m=>selR_c (n1 k) (n2 k) p.d p.instr m (by have:=hR.r.rl; omega) (by have:=hR.r.il; omega)
  rw [selR_eq hR.r hR.n] at hsel
  obtain ⟨r,hr⟩:∃ r,selP p.d p.instr=r:=⟨_,rfl⟩
  have hown:=sel_own hR
  rw [hr] at hsel hsl hown
  have hq:actR st p=if r.1≠byL∧r.1≠idL then { p with oD:=fun q=>if q=.s r.1 then true else p.oD q,oV:=fun q=>if q=.s r.1 then p.shift else p.oV q } else p:=by
   unfold actR
   rw [if_neg (by rw [hsh 8 h8 (by decide) (by decide)]; simp)]
   unfold actV
   rw [if_neg h0,if_neg h3,if_neg (by omega),if_pos h8,hr]
  have hat:=atP_at h.ap hp
  have hoD:outD P (.q p.d.name r.1)=mapD p.d.regs (.s r.1):=by simp only [outD,hat,hR.oD]
  have hpi:(P.getD k pz).instr=p.instr:=by rw [pGet hp]
  unfold dvP litRg litIn at hsel
  refine SR.run (t:=.mk) ?_
  unfold boxL litRg litIn
  simp -dsimp only [aqA,↓seqK,↓blkK,↓loopK,step,stepBin,eqB,Nat.add_assoc nid,simprocAttr,LN_succ,hl0,hl1,hl2,hcc,hc1,hc2,e0,e3,e10,e15,e8]
  refine ⟨⟨by omega,by omega⟩,?_⟩
  rw [hpi]
  refine CallX.pure (hsel _) ?_
  simp -dsimp only [aqA,↓seqK,↓blkK,↓loopK,step,stepBin,eqB,Nat.add_assoc nid,simprocAttr,LN_succ,hl0,hl1,hl2,hl4,hcc,hc1,hc2,hc4,mkKey,mGet,keyIn]
  refine ⟨⟨by have:=hS.nm; omega,by omega⟩,?_⟩
  rw [hoD]
  rcases hown with ⟨h1,h2⟩ | ⟨h1,h2⟩
  ·rw [if_neg (fun h=>by rcases h1 with h1 | h1; exact h.1 h1; exact h.2 h1)] at hq
   have e:=hself hq
   subst e
   rw [h2]
   simp -dsimp only [aqA,↓seqK,↓blkK,↓loopK,step,stepBin,eqB,Nat.add_assoc nid,simprocAttr,LN_succ]
   refine RetOK.whole (.inr rfl) hs hkk (subH_frame (X:=[_,_,_]) hs (by simp [kOK])) ?_
   simp [a76,cvT,step,res]
  ·rw [if_pos h1] at hq
   have hu:=hot _ _ hq
   rw [h2]
   simp -dsimp only [aqA,↓seqK,↓blkK,↓loopK,step,stepBin,eqB,Nat.add_assoc nid,simprocAttr,LN_succ,hl0,hl1,hl2,hl4,hcc,hc1,hc2,hc4,mkKey,mGet,mPut,keyIn]
   rw [pGet hp]
   refine ⟨⟨by omega,by omega⟩,⟨by have:=hS.nm; omega,by omega⟩,?_⟩
   refine RetOK.whole (.inr rfl) hs2 hkk (subH_put (X:=[_,_,_]) hu (subH_frame (X:=[_,_,_]) hs (by simp [kOK]))) ?_
   simp [a76,cvT,step,res]
 rw [decide_eq_false h8] at e8
 have hq:actR st p=p:=by
  unfold actR
  split
  ·rfl
  ·rename_i hn
   unfold actV
   have:¬ (st=4∨st=11):=by
    unfold shifts at hn
    simpa using hn
   rw [if_neg h0,if_neg h3,if_neg this,if_neg h8,if_neg h10,if_neg h15]
 have e:=hself hq
 subst e
 refine SR.run (t:=.mk) ?_
 simp -dsimp only [aqA,↓seqK,↓blkK,↓loopK,step,stepBin,eqB,Nat.add_assoc nid,simprocAttr,LN_succ,e0,e3,e8,e10,e15]
 refine RetOK.whole (.inr rfl) hs hkk (subH_frame (X:=[_]) hs (by simp [kOK])) ?_
 simp [a76,cvT,step,res]
def shTo (st:Nat) (P:List Port) (b:UInt8) (k:Nat):List Port × UInt8:=((clockP st (P.take k) b).1++P.drop k,(clockP st (P.take k) b).2)
theorem clockP_app (st:Nat):∀ (P:List Port) (p:Port) (b:UInt8),clockP st (P++[p]) b=((clockP st P b).1++[(actV st p (clockP st P b).2).1],(actV st p (clockP st P b).2).2)
 | [],p,b=>rfl
 | q::P,p,b=>by
  simp only [List.cons_append,clockP]
  rw [clockP_app st P p]
theorem take_one {P:List Port} {k:Nat} {p:Port} (hp:P[k]?=some p):P.take (k+1)=P.take k++[p]∧P.drop k=p::P.drop (k+1):=by
 have hk:=(List.getElem?_eq_some_iff.1 hp).1
 have e:P[k]=p:=by
  have:=List.getElem?_eq_getElem hk
  rw [hp] at this
  injection this with this
  exact this.symm
 refine ⟨by rw [List.take_add_one,hp]; rfl,by rw [List.drop_eq_getElem_cons hk,e]⟩
theorem shTo_succ {st:Nat} {P:List Port} {b:UInt8} {k:Nat} {p:Port} (hp:P[k]?=some p) :
  (shTo st P b k).1[k]?=some p∧shTo st P b (k+1)=((shTo st P b k).1.set k (actV st p (shTo st P b k).2).1,(actV st p (shTo st P b k).2).2):=by
 obtain ⟨h1,h2⟩:=take_one hp
 have hk:=(List.getElem?_eq_some_iff.1 hp).1
 have hl:(clockP st (P.take k) b).1.length=k:=by rw [clockP_len,List.length_take]; omega
 unfold shTo
 rw [h1,clockP_app,h2]
 refine ⟨?_,?_⟩
 ·rw [List.getElem?_append_right (by omega),hl,Nat.sub_self]
  rfl
 ·simp only [Prod.mk.injEq,and_true]
  rw [List.set_append_right _ _ (by omega),hl,Nat.sub_self]
  simp
theorem shTo_zero (st:Nat) (P:List Port) (b:UInt8):shTo st P b 0=(P,b):=by simp [shTo,clockP]
theorem shTo_all (st:Nat) (P:List Port) (b:UInt8):shTo st P b P.length=clockP st P b:=by simp [shTo]
def actTo (st:Nat) (P:List Port) (k:Nat):List Port:=(P.take k).map (actR st)++P.drop k
theorem actTo_succ {st:Nat} {P:List Port} {k:Nat} {p:Port} (hp:P[k]?=some p):(actTo st P k)[k]?=some p∧actTo st P (k+1)=(actTo st P k).set k (actR st p):=by
 obtain ⟨h1,h2⟩:=take_one hp
 have hk:=(List.getElem?_eq_some_iff.1 hp).1
 have hl:((P.take k).map (actR st)).length=k:=by rw [List.length_map,List.length_take]; omega
 unfold actTo
 rw [h1,List.map_append,h2]
 refine ⟨?_,?_⟩
 ·rw [List.getElem?_append_right (by omega),hl,Nat.sub_self]
  rfl
 ·rw [List.set_append_right _ _ (by omega),hl,Nat.sub_self]
  simp
theorem actTo_zero (st:Nat) (P:List Port):actTo st P 0=P:=by simp [actTo]
theorem actTo_all (st:Nat) (P:List Port):actTo st P P.length=P.map (actR st):=by simp [actTo]
theorem actR_shift {st:Nat} (h:shifts st=true) (P:List Port):P.map (actR st)=P:=by
 have:actR st=id:=by
  funext p
  unfold actR
  rw [if_pos h]
  rfl
 rw [this,List.map_id]
theorem actR_still {st:Nat} (h:shifts st=false) (P:List Port) (b:UInt8):clockP st P b=(P.map (actR st),b):=by
 rw [clock_still h]
 congr 2
 funext p
 unfold actR
 rw [if_neg (by rw [h]; simp)]
theorem RelR.acts {D:List Dev} {P:List Port} (h:RelR D P) (st:Nat):∀ k,k≤P.length→RelR D (actTo st P k)
 | 0,_=>by rw [actTo_zero]; exact h
 | k+1,hk=>by
  have hp:P[k]?=some P[k]:=List.getElem?_eq_getElem (by omega)
  obtain ⟨h1,h2⟩:=actTo_succ (st:=st) hp
  obtain ⟨_,hR,hV⟩:=h.d k _ hp
  rw [h2]
  exact (h.acts st k (by omega)).act h1 (actR_d st _) (actR_R hR) (actR_V hV)
theorem act_shiftR {st:Nat} (hs:shifts st=true) {p:Port} (hR:PortR p) (b:UInt8):PortR (actV st p b).1∧(actV st p b).1.d=p.d∧actV st p b=({ p with shift:=p.shift.drop 1++[b] },p.shift.getD 0 0):=by
 have h411:st=4∨st=11:=by
  unfold shifts at hs
  simpa using hs
 have e:actV st p b=({ p with shift:=p.shift.drop 1++[b] },p.shift.getD 0 0):=by
  unfold actV
  rw [if_neg (by omega),if_neg (by omega),if_pos h411]
 refine ⟨?_,by rw [e],e⟩
 rw [e]
 exact ⟨hR.r,hR.n,hR.iD,hR.oD⟩
theorem RelR.shift {D:List Dev} {P:List Port} (h:RelR D P) {st:Nat} (hs:shifts st=true) {b:UInt8} (hb:oneBit b=true):∀ k,k≤P.length→RelR D (shTo st P b k).1∧oneBit (shTo st P b k).2=true
 | 0,_=>by rw [shTo_zero]; exact ⟨h,hb⟩
 | k+1,hk=>by
  have hp:P[k]?=some P[k]:=List.getElem?_eq_getElem (by omega)
  obtain ⟨h1,h2⟩:=shTo_succ (st:=st) (b:=b) hp
  obtain ⟨_,hR,hV⟩:=h.d k _ hp
  obtain ⟨g1,g2⟩:=h.shift hs hb k (by omega)
  obtain ⟨f1,f2,_⟩:=act_shiftR hs hR (shTo st P b k).2
  have f3:=actV_V (st:=st) hV g2
  rw [h2]
  exact ⟨g1.act h1 f2 f1 f3.1,f3.2⟩
theorem RelR.clock {D:List Dev} {P:List Port} (h:RelR D P) (st:Nat) {b:UInt8} (hb:oneBit b=true):RelR D (clockP st P b).1:=by
 cases hs:shifts st
 ·rw [actR_still hs,← actTo_all]
  exact h.acts st _ (Nat.le_refl _)
 ·rw [← shTo_all]
  exact (h.shift hs hb _ (Nat.le_refl _)).1
open Go.RowKit
theorem stCells_get2:∀ s,s<16→∀ t,t<2→∃ r,((stCells.drop (s * 2)).take 2).drop (t * 1)=.int .i64 (nextN s t:Nat)::r:=by
 intro s hs t ht
 rcases t with _ | _ | t
 ·rcases s with _ | _ | _ | _ | _ | _ | _ | _ | _ | _ | _ | _ | _ | _ | _ | _ | s <;> first | exact ⟨_,rfl⟩ | omega
 ·rcases s with _ | _ | _ | _ | _ | _ | _ | _ | _ | _ | _ | _ | _ | _ | _ | _ | s <;> first | exact ⟨_,rfl⟩ | omega
 ·omega
theorem after_c (s t nid:Nat) (hs:s<16) (ht:t<2):ACall Tryz.prog 77 [.int .i64 (s:Nat),.int .i64 (t:Nat)] [] nid (.int .i64 (nextN s t:Nat)) []:=by
 refine acall_run c77 (by simp [a77]) ?_
 obtain ⟨r,hr⟩:=stCells_get2 s hs t ht
 have e:stCells=[.int .i64 1,.int .i64 0,.int .i64 1,.int .i64 2,.int .i64 3,.int .i64 9,.int .i64 4,.int .i64 5,.int .i64 4,.int .i64 5,.int .i64 6,.int .i64 8,.int .i64 6,.int .i64 7,.int .i64 4,.int .i64 8,
  .int .i64 1,.int .i64 2,.int .i64 10,.int .i64 0,.int .i64 11,.int .i64 12,.int .i64 11,.int .i64 12,.int .i64 13,.int .i64 15,.int .i64 13,.int .i64 14,.int .i64 11,.int .i64 15,.int .i64 1,.int .i64 2]:=rfl
 rw [e] at hr
 have hd:decide (s * 2≤30)=true:=by simp; omega
 simp -dsimp only [a77,aqA,↓seqK,↓blkK,↓loopK,step,stepBin,eqB,Nat.add_assoc nid,simprocAttr,hd]
 refine ⟨by omega,?_⟩
 rw [hr]
 simp -dsimp only [aqA,↓seqK,↓blkK,↓loopK,step,stepBin,eqB,Nat.add_assoc nid,simprocAttr]
 refine ⟨by omega,?_⟩
 refine RetOK.pure (.inl rfl) rfl ?_
 simp [cvT,step,res]
theorem tmsFault_c (s:List UInt8) (nid:Nat) (hs:s.length≤1099511627776):ACall Tryz.prog 70 [.str s] [] nid (.int .i64 (bitsFaultV s)) []:=by
 refine acall_run c70 (by simp [a70]) ?_
 simp -dsimp only [aqA,↓seqK,↓blkK,↓loopK,step,stepBin,eqB,Nat.add_assoc nid,simprocAttr,a70]
 unfold bitsFaultV
 refine S2.dec (fun h=>?_) (fun h=>?_) <;> simp -dsimp only [aqA,↓seqK,↓blkK,↓loopK,step,stepBin,eqB,Nat.add_assoc nid,simprocAttr]
 ·rw [if_pos (by omega)]
  refine RetOK.pure (.inl rfl) rfl ?_
  simp [cvT,step,res]
 rw [if_neg (by omega)]
 refine CallO.pure (bitsFaultR_c s _ hs) ?_
 simp -dsimp only [aqA,↓seqK,↓blkK,↓loopK,step,stepBin,eqB,Nat.add_assoc nid,simprocAttr]
 refine RetOK.pure (.inl rfl) rfl ?_
 simp [cvT,step,res]
open Go.RowKit
theorem RH_st {c:Nat} {n0:Bool} {n1 n2:Nat→Bool} {D:List Dev} {st st':Nat} {P:List Port}:∀ id y,getH (RH c n0 n1 n2 D st' P) id=some y →
  (id=c∧y=.box 104 [.lit n0 D.length (devP n1 n2 D),.int .i64 (st':Nat),.sl (c+1) 0 D.length,.sl (c+2) 0 D.length,.mp (c+3),.mp (c+4)])∨(id≠c∧getH (RH c n0 n1 n2 D st P) id=some y):=by
 intro id y hy
 rcases RH_get hy with ⟨e,h1⟩ | ⟨e,h1⟩ | ⟨e,h1⟩ | ⟨e,h1⟩ | ⟨e,h1⟩ <;> subst e
 ·rw [RH0] at h1
  injection h1 with h1
  exact .inl ⟨rfl,h1.symm⟩
 ·exact .inr ⟨by omega,by rw [RH1] at h1 ⊢; exact h1⟩
 ·exact .inr ⟨by omega,by rw [RH2] at h1 ⊢; exact h1⟩
 ·exact .inr ⟨by omega,by rw [RH3] at h1 ⊢; exact h1⟩
 ·exact .inr ⟨by omega,by rw [RH4] at h1 ⊢; exact h1⟩
set_option maxHeartbeats 16000000 in
theorem clock_R (c nid:Nat) (n0:Bool) (n1 n2:Nat→Bool) (D:List Dev) (st:Nat) (P:List Port) (tms:Nat) (b:UInt8) (hc:c+5≤nid) (h:RelR D P) (hst:st<16) (ht:tms<2) (hb:oneBit b=true) (hD:D.length≤1000) :
  ACall Tryz.prog 29 [.ptr c 0,.int .i64 (tms:Nat),.int .i64 (bitM b:Nat)] (RH c n0 n1 n2 D st P) nid (.int .i64 (outB1 st (clockP st P b).2)) (RH c n0 n1 n2 D (nextN st tms) (clockP st P b).1):=by
 have hPl:=h.len
 refine acall_sr c29 (by simp [a29]) ?_
 unfold a29
 refine SR.seq ?_
 simp -dsimp only [aqA,↓seqK,↓blkK,↓loopK,step,stepBin,eqB,Nat.add_assoc nid,simprocAttr,LN_succ]
 refine SR.seq ?_
 simp -dsimp only [aqA,↓seqK,↓blkK,↓loopK,step,stepBin,eqB,Nat.add_assoc nid,simprocAttr,LN_succ]
 have hcc:∀ k,(nid+k==c)=false:=fun k=>by simp; omega
 have hc2:∀ k,(nid+k==c+2)=false:=fun k=>by simp; omega
 have eq1:∀ n:Nat,(((st:Nat):Int)==(n:Int))=decide (st=n):=fun n=>by rw [Bool.eq_iff_iff]; simp; omega
 have e4:(((st:Nat):Int)==4)=decide (st=4):=eq1 4
 have e11:(((st:Nat):Int)==11)=decide (st=11):=eq1 11
 have hkeys:∀ st' Q,∀ id∈keys (RH c n0 n1 n2 D st P),id∈keys (RH c n0 n1 n2 D st' Q):=fun st' Q id hid=>by rw [RH_keys c n0 n1 n2 D st' st Q P]; exact hid
 obtain ⟨Q,hQ⟩:∃ Q:List Port × UInt8,(if shifts st=true then clockP st P b else (P,b))=Q:=⟨_,rfl⟩
 have hQR:RelR D Q.1:=by
  rw [← hQ]
  split
  ·exact h.clock st hb
  ·exact h
 refine SR.seqW (ι:=Unit) (fun _=>⟨[(7,.int .i64 (outB1 st Q.2)),(0,.ptr c 0),(1,.int .i64 (tms:Nat))],RH c n0 n1 n2 D st Q.1,nid+5000,nid⟩) ?_ (fun _=>?_)
 ·refine SR.seqTo ⟨[(22,.bool (shifts st)),(7,.int .i64 (-1)),(0,.ptr c 0),(1,.int .i64 (tms:Nat)),(2,.int .i64 (bitM b:Nat))],RH c n0 n1 n2 D st P,nid+100,nid⟩ ?_ ?_
  ·have hs:=RH_scoped c nid n0 n1 n2 D st P hc
   have hl0:=RH0 c n0 n1 n2 D st P
   generalize RH c n0 n1 n2 D st P=Hs at *
   have hsh:shifts st=(decide (st=4) || decide (st=11)):=by
    unfold shifts
    rw [Bool.eq_iff_iff]
    simp
   rw [hsh]
   by_cases h4:st=4
   ·rw [decide_eq_true h4] at e4 ⊢
    simp -dsimp only [aqA,↓seqK,↓blkK,↓loopK,step,stepBin,eqB,Nat.add_assoc nid,simprocAttr,LN_succ,hl0,e4]
    refine Cov.whole hs (subH_refl _) (by omega) ?_
    simp [cvT,step,res]
    omega
   ·rw [decide_eq_false h4] at e4 ⊢
    simp -dsimp only [aqA,↓seqK,↓blkK,↓loopK,step,stepBin,eqB,Nat.add_assoc nid,simprocAttr,LN_succ,hl0,e4,e11]
    refine Cov.whole hs (subH_refl _) (by omega) ?_
    simp [cvT,step,res]
    omega
  refine SR.cond (b:=shifts st) rfl (fun hsh=>?_) (fun hsh=>?_)
  ·rw [if_pos hsh] at hQ
   refine SR.seq ?_
   simp -dsimp only [aqA,↓seqK,↓blkK,↓loopK,step,stepBin,eqB,Nat.add_assoc nid,simprocAttr,LN_succ]
   refine SR.seqTo ⟨[(27,.sl (c+2) 0 D.length),(28,.int .i64 D.length),(29,.int .i64 0),(7,.int .i64 (bitM b:Nat)),(0,.ptr c 0),(1,.int .i64 (tms:Nat))],RH c n0 n1 n2 D st P,nid+200,nid⟩ ?_ ?_
   ·have hs:=RH_scoped c nid n0 n1 n2 D st P hc
    have hl0:=RH0 c n0 n1 n2 D st P
    generalize RH c n0 n1 n2 D st P=Hs at *
    simp -dsimp only [aqA,↓seqK,↓blkK,↓loopK,step,stepBin,eqB,Nat.add_assoc nid,simprocAttr,LN_succ,hl0]
    refine Cov.whole hs (subH_refl _) (by omega) ?_
    simp [cvT,step,res]
    omega
   refine SR.block ?_
   refine SR.loopP (fun k:Nat=>k≤D.length) (fun k=>⟨[(27,.sl (c+2) 0 D.length),(28,.int .i64 D.length),(29,.int .i64 (k:Nat)),(7,.int .i64 (bitM (shTo st P b k).2:Nat)),(0,.ptr c 0),(1,.int .i64 (tms:Nat))],RH c n0 n1 n2 D st (shTo st P b k).1,nid+300,nid⟩) (fun k=>D.length+1 - k) 0 (by omega) ?_ (fun k hk=>?_)
   ·rw [shTo_zero]
    refine Cov.whole (RH_scoped c nid n0 n1 n2 D st P hc) (subH_refl _) (by omega) ?_
    simp [cvT,step,res]
    omega
   have hs:=RH_scoped c nid n0 n1 n2 D st (shTo st P b k).1 hc
   have hl0:=RH0 c n0 n1 n2 D st (shTo st P b k).1
   have hl2:=RH2 c n0 n1 n2 D st (shTo st P b k).1
   have hrk:=h.shift hsh hb k (by omega)
   refine SR.run (t:=.mk) ?_
   by_cases h3:((k:Nat):Int)<(D.length:Nat)
   ·have hkl:k<D.length:=by omega
    have hp:P[k]?=some P[k]:=List.getElem?_eq_getElem (by omega)
    obtain ⟨hd,hR,hV⟩:=h.d k _ hp
    obtain ⟨g1,g2⟩:=shTo_succ (st:=st) (b:=b) hp
    obtain ⟨f1,f2,f3⟩:=act_shiftR hsh hR (shTo st P b k).2
    have hsk:=RH_scoped c nid n0 n1 n2 D st (shTo st P b (k+1)).1 hc
    have hu:=RH_shift (c:=c) (n0:=n0) (n1:=n1) (n2:=n2) (D:=D) (st:=st) (q:=(actV st P[k] (shTo st P b k).2).1) hrk.1.ap g1 (P[k].shift.drop 1++[(shTo st P b k).2]) (by rw [f3])
    have hbk:=hrk.2
    have hbit:=bitM_lt hbk
    have hpg:=pGet g1
    have hsb:oneBit (P[k].shift.getD 0 0)=true:=hV.sh.head
    have hw:=bitW8 hsb
    have hbb:UInt8.ofNat (48+bitM (shTo st P b k).2)=(shTo st P b k).2:=by
     rw [← hbit.2]
     simp
    have hsl0:=hV.sh.l0
    have hsl1:=hV.sh.l1
    rw [g2] at hsk
    generalize RH c n0 n1 n2 D st (shTo st P b k).1=Hs at *
    generalize hSt:shTo st P b k=S at *
    simp -dsimp only [aqA,↓seqK,↓blkK,↓loopK,step,stepBin,eqB,Nat.add_assoc nid,simprocAttr,LN_succ,hl0,hl2]
    refine S2.dec (fun _=>?_) (fun h=>absurd h3 h)
    simp -dsimp only [aqA,↓seqK,↓blkK,↓loopK,step,stepBin,eqB,Nat.add_assoc nid,simprocAttr,LN_succ,hl0,hl2]
    refine ⟨⟨by omega,by omega⟩,?_⟩
    rw [hpg]
    refine ⟨by omega,CallX.pure (itoa_cc (bitM S.2) _ (by omega)) ?_⟩
    rw [bitS hbit.1,hbb]
    simp -dsimp only [aqA,↓seqK,↓blkK,↓loopK,step,stepBin,eqB,Nat.add_assoc nid,simprocAttr,LN_succ,hl0,hl2]
    rw [hw]
    have e3:=congrArg Prod.snd f3
    simp only at e3
    refine ⟨by simp; omega,⟨by omega,by omega⟩,by omega,by unfold inI64; omega,k+1,⟨by omega,by omega⟩,?_⟩
    rw [g2]
    simp only
    rw [e3]
    refine Cov.whole hsk (subH_put (X:=[]) hu (subH_refl _)) (by omega) ?_
    simp [cvT,step,res,-List.getD_eq_getElem?_getD]
    omega
   ·have hkn:k=D.length:=by omega
    have hfin:shTo st P b k=Q:=by rw [hkn,← hPl,shTo_all,hQ]
    rw [hfin] at hs hl0 hl2 ⊢
    simp -dsimp only [aqA,↓seqK,↓blkK,↓loopK,step,stepBin,eqB,Nat.add_assoc nid,simprocAttr,LN_succ]
    refine S2.dec (fun h=>absurd h h3) (fun _=>?_)
    simp -dsimp only [aqA,↓seqK,↓blkK,↓loopK,step,stepBin,eqB,Nat.add_assoc nid,simprocAttr,LN_succ]
    refine ⟨(),?_⟩
    have ho:outB1 st Q.2=(bitM Q.2:Nat):=by unfold outB1; rw [if_pos hsh]
    rw [ho]
    refine Cov.whole hs (subH_refl _) (by omega) ?_
    simp [cvT,step,res,-List.getD_eq_getElem?_getD]
    omega
  ·rw [if_neg (by rw [hsh]; simp)] at hQ
   subst hQ
   have hs:=RH_scoped c nid n0 n1 n2 D st P hc
   refine SR.run (t:=.mk) ?_
   simp -dsimp only [aqA,↓seqK,↓blkK,↓loopK,step,stepBin,eqB,Nat.add_assoc nid,simprocAttr,LN_succ]
   refine ⟨(),?_⟩
   have ho:outB1 st b = -1:=by unfold outB1; rw [if_neg (by rw [hsh]; simp)]
   rw [ho]
   refine Cov.whole hs (subH_refl _) (by omega) ?_
   simp [cvT,step,res]
   omega
 have hfin:clockP st P b=(Q.1.map (actR st),Q.2):=by
  rw [← hQ]
  cases hsh:shifts st
  ·rw [if_neg (by simp)]
   exact actR_still hsh P b
  ·rw [if_pos rfl]
   rw [actR_shift hsh]
 rw [hfin]
 have hQl:=hQR.len
 generalize Q.1=Q1 at *
 generalize Q.2=b2 at *
 refine SR.seqW (ι:=Unit) (fun _=>⟨[(7,.int .i64 (outB1 st b2)),(0,.ptr c 0),(1,.int .i64 (tms:Nat))],RH c n0 n1 n2 D st (Q1.map (actR st)),nid+15000,nid⟩) ?_ (fun _=>?_)
 ·refine SR.seqTo ⟨[(54,.int .i64 D.length),(55,.int .i64 0),(7,.int .i64 (outB1 st b2)),(0,.ptr c 0),(1,.int .i64 (tms:Nat))],RH c n0 n1 n2 D st Q1,nid+5200,nid⟩ ?_ ?_
  ·have hs:=RH_scoped c nid n0 n1 n2 D st Q1 hc
   have hl0:=RH0 c n0 n1 n2 D st Q1
   generalize RH c n0 n1 n2 D st Q1=Hs at *
   simp -dsimp only [aqA,↓seqK,↓blkK,↓loopK,step,stepBin,eqB,Nat.add_assoc nid,simprocAttr,LN_succ,hl0]
   refine Cov.whole hs (subH_refl _) (by omega) ?_
   simp [cvT,step,res]
   omega
  refine SR.block ?_
  refine SR.loopP (fun k:Nat=>k≤D.length) (fun k=>⟨[(54,.int .i64 D.length),(55,.int .i64 (k:Nat)),(7,.int .i64 (outB1 st b2)),(0,.ptr c 0),(1,.int .i64 (tms:Nat))],RH c n0 n1 n2 D st (actTo st Q1 k),nid+6000,nid⟩) (fun k=>D.length+1 - k) 0 (by omega) ?_ (fun k hk=>?_)
  ·rw [actTo_zero]
   refine Cov.whole (RH_scoped c nid n0 n1 n2 D st Q1 hc) (subH_refl _) (by omega) ?_
   simp [cvT,step,res]
   omega
  have hs:=RH_scoped c nid n0 n1 n2 D st (actTo st Q1 k) hc
  refine SR.run (t:=.mk) ?_
  by_cases h3:((k:Nat):Int)<(D.length:Nat)
  ·have hkl:k<D.length:=by omega
   have hp:Q1[k]?=some Q1[k]:=List.getElem?_eq_getElem (by omega)
   obtain ⟨g1,g2⟩:=actTo_succ (st:=st) hp
   have hact:=fun m (hm:nid≤m)=>act_R c m n0 n1 n2 D st (actTo st Q1 k) k _ (by omega) (hQR.acts st k (by omega)) g1 hD
   rw [← g2] at hact
   have hs2:=RH_scoped c nid n0 n1 n2 D st (actTo st Q1 (k+1)) hc
   simp -dsimp only [aqA,↓seqK,↓blkK,↓loopK,step,stepBin,eqB,Nat.add_assoc nid,simprocAttr,LN_succ]
   refine S2.dec (fun _=>?_) (fun h=>absurd h3 h)
   simp -dsimp only [aqA,↓seqK,↓blkK,↓loopK,step,stepBin,eqB,Nat.add_assoc nid,simprocAttr,LN_succ]
   refine CallO.on (hact _ (by omega)) (subH_refl _) ?_
   generalize hH2:RH c n0 n1 n2 D st (actTo st Q1 (k+1))=Hs2 at *
   generalize RH c n0 n1 n2 D st (actTo st Q1 k)=Hs at *
   simp -dsimp only [aqA,↓seqK,↓blkK,↓loopK,step,stepBin,eqB,Nat.add_assoc nid,simprocAttr,LN_succ]
   refine ⟨by unfold inI64; omega,k+1,⟨by omega,by omega⟩,?_⟩
   rw [hH2]
   refine Cov.whole hs2 (subH_front _ _) (by omega) ?_
   simp [cvT,step,res]
   omega
  ·have hkn:k=D.length:=by omega
   have hfin2:actTo st Q1 k=Q1.map (actR st):=by rw [hkn,← hQl,actTo_all]
   rw [hfin2] at hs ⊢
   simp -dsimp only [aqA,↓seqK,↓blkK,↓loopK,step,stepBin,eqB,Nat.add_assoc nid,simprocAttr,LN_succ]
   refine S2.dec (fun h=>absurd h h3) (fun _=>?_)
   simp -dsimp only [aqA,↓seqK,↓blkK,↓loopK,step,stepBin,eqB,Nat.add_assoc nid,simprocAttr,LN_succ]
   refine ⟨(),?_⟩
   refine Cov.whole hs (subH_refl _) (by omega) ?_
   simp [cvT,step,res]
   omega
 have hs:=RH_scoped c nid n0 n1 n2 D st (Q1.map (actR st)) hc
 have hs2:=RH_scoped c nid n0 n1 n2 D (nextN st tms) (Q1.map (actR st)) hc
 have hl0:=RH0 c n0 n1 n2 D st (Q1.map (actR st))
 have hkk:=hkeys (nextN st tms) (Q1.map (actR st))
 have hu:=RH_st (c:=c) (n0:=n0) (n1:=n1) (n2:=n2) (D:=D) (st:=st) (st':=nextN st tms) (P:=Q1.map (actR st))
 generalize RH c n0 n1 n2 D (nextN st tms) (Q1.map (actR st))=Hs2 at *
 generalize RH c n0 n1 n2 D st (Q1.map (actR st))=Hs at *
 refine SR.run (t:=.mk) ?_
 simp -dsimp only [aqA,↓seqK,↓blkK,↓loopK,step,stepBin,eqB,Nat.add_assoc nid,simprocAttr,LN_succ,hl0]
 refine CallO.pure (after_c st tms _ hst ht) ?_
 simp -dsimp only [aqA,↓seqK,↓blkK,↓loopK,step,stepBin,eqB,Nat.add_assoc nid,simprocAttr,LN_succ,hl0]
 trace_state
 refine RetOK.whole (.inl rfl) hs2 hkk (subH_put (X:=[]) hu (subH_refl _)) ?_
 simp [a29,cvT,step,res]
def setP (p:Port) (b v:Bs):Port:={ p with iD:=fun m=>if m=.s b then true else p.iD m,iV:=fun m=>if m=.s b then v else p.iV m }
theorem inD_upd {P:List Port} (h:Apart P) {k:Nat} {p:Port} {b v:Bs} (hp:P[k]?=some p) :
  inD (P.set k (setP p b v))=fun m=>if m=.q p.d.name b then true else inD P m:=by
 funext m
 cases m with
 | q x y =>
  simp only [inD]
  rw [atP_set (q:=setP p b v) h hp rfl]
  by_cases ha:x=p.d.name
  ·rw [if_pos ha,ha,atP_at h hp]
   by_cases hb:y=b
   ·simp [hb,setP]
   ·rw [if_neg (by simpa using hb)]
    simp [setP,hb]
  ·rw [if_neg ha,if_neg (by simp [ha])]
 | _=>simp [inD]
theorem inV_upd {P:List Port} (h:Apart P) {k:Nat} {p:Port} {b v:Bs} (hp:P[k]?=some p) :
  inV (P.set k (setP p b v))=fun m=>if m=.q p.d.name b then v else inV P m:=by
 funext m
 cases m with
 | q x y =>
  simp only [inV]
  rw [atP_set (q:=setP p b v) h hp rfl]
  by_cases ha:x=p.d.name
  ·rw [if_pos ha,ha,atP_at h hp]
   by_cases hb:y=b
   ·simp [hb,setP]
   ·rw [if_neg (by simpa using hb)]
    simp [setP,hb]
  ·rw [if_neg ha,if_neg (by simp [ha])]
 | _=>simp [inV]
theorem setP_iD {p:Port} {b v:Bs} (h:p.iD (.s b)=true):(setP p b v).iD=p.iD:=by
 funext m
 show (if m=.s b then true else p.iD m)=p.iD m
 by_cases e:m=.s b
 ·rw [if_pos e,e,h]
 ·rw [if_neg e]
theorem setP_R {p:Port} {b v:Bs} (h:PortR p) (hb:p.iD (.s b)=true):PortR (setP p b v):=⟨h.r,h.n,by rw [setP_iD hb]; exact h.iD,h.oD⟩
theorem setP_V {p:Port} {b v:Bs} (h:PortV p) (hR:PortR p) (hb:p.iD (.s b)=true) (hl:v.length=(p.iV (.s b)).length) (hv:v.all oneBit=true):PortV (setP p b v):=by
 refine ⟨h.rl,h.il,h.idb,h.lg,fun code=>?_,h.sh⟩
 have hc:=h.cap code
 have key:∀ (r:Bs × Int),r=selP p.d code→BitsW (captV { setP p b v with instr:=code }):=fun r hr=>by
  unfold captV at hc
  simp only at hc
  show BitsW (if (selP p.d code).1=byL then [48] else if (selP p.d code).1=idL then idBits p.d.id else bif (if MK.s (selP p.d code).1=MK.s b then true else p.iD (MK.s (selP p.d code).1)) then (if MK.s (selP p.d code).1=MK.s b then v else p.iV (MK.s (selP p.d code).1)) else [])
  by_cases h1:(selP p.d code).1=byL
  ·rw [if_pos h1] at hc ⊢
   exact hc
  rw [if_neg h1] at hc ⊢
  by_cases h2:(selP p.d code).1=idL
  ·rw [if_pos h2] at hc ⊢
   exact hc
  rw [if_neg h2] at hc ⊢
  by_cases e:(selP p.d code).1=b
  ·rw [e] at hc ⊢
   rw [if_pos rfl,if_pos rfl]
   rw [hb] at hc
   simp only [cond_true] at hc ⊢
   exact ⟨by rw [hl]; exact hc.l0,by rw [hl]; exact hc.l1,hv⟩
  ·have e':¬ (MK.s (selP p.d code).1=MK.s b):=by simpa using e
   rw [if_neg e',if_neg e']
   exact hc
 exact key _ rfl
theorem RelR.setIn {D:List Dev} {P:List Port} (h:RelR D P) {k:Nat} {p:Port} {b v:Bs} (hp:P[k]?=some p) (hb:p.iD (.s b)=true) (hl:v.length=(p.iV (.s b)).length) (hv:v.all oneBit=true):RelR D (P.set k (setP p b v)):=by
 obtain ⟨_,hR,hV⟩:=h.d k p hp
 exact h.act hp rfl (setP_R hR hb) (setP_V hV hR hb hl hv)
theorem atP_of {P:List Port} (h:Apart P) {a:Bs}:(atP P a=none∧∀ p∈P,¬ p.d.name=a)∨∃ k p,P[k]?=some p∧p.d.name=a∧atP P a=some p∧∀ (j:Nat),j<k→∀ q:Port,P[j]?=some q→¬ q.d.name=a:=by
 cases hf:atP P a with
 | none =>
  refine .inl ⟨rfl,fun p hp=>?_⟩
  have:=List.find?_eq_none.1 hf p hp
  simpa using this
 | some p =>
  have h1:=List.find?_some hf
  have h2:=List.mem_of_find?_eq_some hf
  obtain ⟨k,hk⟩:=List.mem_iff_getElem?.1 h2
  have hn:p.d.name=a:=by simpa using h1
  refine .inr ⟨k,p,hk,hn,rfl,fun j hj q hq e=>?_⟩
  have:=h j k q p hq hk (by rw [e,hn])
  omega
def codeA (P:List Port) (a:Bs):Bs × Bool:=match atP P a with
 | some p=>(p.instr,true)
 | none=>([],false)
def outG (P:List Port) (a b:Bs):Bs × Bool:=match atP P a with
 | some p=>(bif p.oD (.s b) then p.oV (.s b) else [],p.oD (.s b))
 | none=>([],false)
def inG (P:List Port) (a b:Bs):Bs × Bool:=match atP P a with
 | some p=>(bif p.iD (.s b) then p.iV (.s b) else [],p.iD (.s b))
 | none=>([],false)
def noneF (b:Bool):Int:=if b=true then 0 else 8
def inF (P:List Port) (a b v:Bs):Int:=if (inG P a b).2=false then 8 else if v.length≠(inG P a b).1.length then 3 else if bitsOk v=true then 0 else 9
theorem outG_doc (P:List Port) (a b:Bs):(bif outD P (.q a b) then outM P (.q a b) else [])=(outG P a b).1∧outD P (.q a b)=(outG P a b).2:=by
 unfold outG
 simp only [outD,outM]
 cases atP P a with
 | none=>exact ⟨rfl,rfl⟩
 | some p=>exact ⟨rfl,rfl⟩
theorem inG_doc (P:List Port) (a b:Bs):(bif inD P (.q a b) then inV P (.q a b) else [])=(inG P a b).1∧inD P (.q a b)=(inG P a b).2:=by
 unfold inG
 simp only [inD,inV]
 cases atP P a with
 | none=>exact ⟨rfl,rfl⟩
 | some p=>exact ⟨rfl,rfl⟩
theorem inF_zero {P:List Port} (h:Apart P) {a b v:Bs} (hf:inF P a b v=0):∃ k p,P[k]?=some p∧p.d.name=a∧atP P a=some p∧(∀ (j:Nat),j<k→∀ q:Port,P[j]?=some q→¬ q.d.name=a)∧p.iD (.s b)=true∧v.length=(p.iV (.s b)).length∧bitsOk v=true:=by
 unfold inF at hf
 split at hf
 ·cases hf
 ·rename_i h1
  split at hf
  ·cases hf
  ·rename_i h2
   split at hf
   ·rename_i h3
    rcases atP_of h (a:=a) with ⟨e,_⟩ | ⟨k,p,g1,g2,g3,g4⟩
    ·unfold inG at h1
     rw [e] at h1
     exact absurd rfl h1
    ·unfold inG at h1 h2
     rw [g3] at h1 h2
     simp only [Bool.not_eq_false,ne_eq,Decidable.not_not] at h1 h2
     rw [h1] at h2
     exact ⟨k,p,g1,g2,g3,g4,h1,h2,h3⟩
   ·cases hf
open Go.RowKit
theorem subH_trans {A B C:Heap} (h1:subH A B) (h2:subH B C):subH A C:=fun id y hy=>h2 id y (h1 id y hy)
theorem subH_both {A B Z:Heap} (h1:subH A Z) (h2:subH B Z):subH (A++B) Z:=fun id y hy=>by
 rw [getH_appC] at hy
 cases hk:(keys A).contains id
 ·rw [hk] at hy
  exact h2 id y hy
 ·rw [hk] at hy
  exact h1 id y hy
def InR (a b:Nat) (H:Heap):Prop:=∀ id∈keys H,a≤id∧id<b
theorem InR.app {a b:Nat} {A B:Heap} (h1:InR a b A) (h2:InR a b B):InR a b (A++B):=fun id hid=>by
 have hk:keys (A++B)=keys A++keys B:=by simp [keys]
 rw [hk] at hid
 rcases List.mem_append.1 hid with h | h
 ·exact h1 id h
 ·exact h2 id h
theorem InR.wide {a b a' b':Nat} {A:Heap} (h:InR a b A) (h1:a'≤a) (h2:b≤b'):InR a' b' A:=fun id hid=>by
 have:=h id hid
 omega
theorem InR.one (i:Nat) (x:Option ABlk):InR i (i+1) [(i,x)]:=fun id hid=>by
 simp only [keys,List.map_cons,List.map_nil,List.mem_singleton] at hid
 omega
theorem subH_past {a b c d:Nat} {A B Z:Heap} (hA:InR a b A) (hB:InR c d B) (hd:b≤c∨d≤a) (h:subH B Z):subH B (A++Z):=fun id y hy=>by
 rw [getH_appC]
 have hb:id∈keys B:=by simpa using getH_key hy
 have:(keys A).contains id=false:=by
  cases hc:(keys A).contains id
  ·rfl
  ·have h1:=hA id (by simpa using hc)
   have h2:=hB id hb
   omega
 rw [this]
 exact h id y hy
theorem portsH_lt:∀ (P:List Port) (i:Nat),∀ x∈portsH i P,x.1<i+3 * P.length
 | [],i,x,hx=>by simp [portsH] at hx
 | p::P,i,x,hx=>by
  simp only [portsH,List.mem_cons] at hx
  rw [List.length_cons]
  rcases hx with rfl | rfl | rfl | hx
  ·simp only; omega
  ·simp only; omega
  ·simp only; omega
  ·have:=portsH_lt P (i+3) x hx; omega
theorem chH_in (c:Nat) (x:ChV) (h:x.P.length≤3):InR c (c+11) (chH c x):=fun id hid=>by
 unfold chH chainH at hid
 simp only [keys,List.map_cons,List.mem_cons,List.mem_map] at hid
 rcases hid with rfl | rfl | ⟨y,hy,rfl⟩
 ·omega
 ·omega
 ·have h1:=portsH_ge x.P (c+2) y hy
  have h2:=portsH_lt x.P (c+2) y hy
  omega
theorem RH_in (c:Nat) (n0:Bool) (n1 n2:Nat→Bool) (D:List Dev) (st:Nat) (P:List Port):InR c (c+5) (RH c n0 n1 n2 D st P):=fun id hid=>by
 have hk:keys (RH c n0 n1 n2 D st P)=[c,c+1,c+2,c+3,c+4]:=rfl
 rw [hk] at hid
 simp only [List.mem_cons,List.not_mem_nil,or_false] at hid
 omega
theorem Scoped.app {b:Nat} {X Y:Heap} (h1:Scoped b X) (h2:Scoped b Y):Scoped b (X++Y):=by
 have:=lowHeap_app h1.lowHeap h2.lowHeap
 exact ⟨this.1,this.2⟩
theorem portsH_get:∀ (P:List Port) (i k:Nat) (p:Port),P[k]?=some p→getH (portsH i P) (i+3 * k)=portB p (i+3 * k+1) (i+3 * k+2)∧getH (portsH i P) (i+3 * k+1)=mapS p.iD p.iV∧getH (portsH i P) (i+3 * k+2)=mapS p.oD p.oV
 | [],i,k,p,h=>by simp at h
 | q::P,i,0,p,h=>by
  simp only [List.getElem?_cons_zero,Option.some.injEq] at h
  subst h
  have e1:(i==i+1)=false:=by simp
  have e2:(i==i+2)=false:=by simp
  have e3:(i+1==i+2)=false:=by simp
  simp [portsH,getH,e1,e2,e3]
 | q::P,i,k+1,p,h=>by
  simp only [List.getElem?_cons_succ] at h
  obtain ⟨h1,h2,h3⟩:=portsH_get P (i+3) k p h
  have a:∀ (u m:Nat),(i+u==i+3+3 * k+m)=decide (u=3+3 * k+m):=fun u m=>by rw [Bool.eq_iff_iff]; simp; omega
  have d:∀ u m,u<3→(i+u==i+3+3 * k+m)=false:=fun u m hu=>by simp; omega
  have d0:=fun m=>d 0 m (by omega)
  have d1:=fun m=>d 1 m (by omega)
  have d2:=fun m=>d 2 m (by omega)
  have e:i+3 * (k+1)=i+3+3 * k:=by omega
  rw [e]
  simp only [Nat.add_zero] at d0
  have d00:=d 0 0 (by omega)
  have d10:=d 1 0 (by omega)
  have d20:=d 2 0 (by omega)
  simp only [Nat.add_zero] at d00 d10 d20
  refine ⟨?_,?_,?_⟩
  ·simp only [portsH,getH,d00,d10,d20,cond_false]; exact h1
  ·simp only [portsH,getH,d0,d1,d2,cond_false]; exact h2
  ·simp only [portsH,getH,d0,d1,d2,cond_false]; exact h3
theorem chH_port {c k:Nat} {x:ChV} {p:Port} (h:x.P[k]?=some p):getH (chH c x) (c+2+3 * k)=portB p (c+2+3 * k+1) (c+2+3 * k+2)∧getH (chH c x) (c+2+3 * k+1)=mapS p.iD p.iV∧getH (chH c x) (c+2+3 * k+2)=mapS p.oD p.oV:=by
 obtain ⟨h1,h2,h3⟩:=portsH_get x.P (c+2) k p h
 have d:∀ u m,u<2→(c+u==c+2+3 * k+m)=false:=fun u m hu=>by simp; omega
 have d00:=d 0 0 (by omega)
 have d10:=d 1 0 (by omega)
 have d0:=fun m=>d 0 m (by omega)
 have d1:=fun m=>d 1 m (by omega)
 simp only [Nat.add_zero] at d00 d10 d0
 unfold chH chainH
 refine ⟨?_,?_,?_⟩
 ·simp only [getH,d00,d10,cond_false]; exact h1
 ·simp only [getH,d0,d1,cond_false]; exact h2
 ·simp only [getH,d0,d1,cond_false]; exact h3
theorem chH_0 (c:Nat) (x:ChV):getH (chH c x) c=chB x.st (c+1) x.P.length:=by simp only [chH,chainH,getH,BEq.rfl,cond_true]
theorem chH_1 (c:Nat) (x:ChV):getH (chH c x) (c+1)=some (.arr 98 x.P.length [.q fun k=>c+2+3 * k]):=by
 have e:(c==c+1)=false:=by simp
 simp only [chH,chainH,getH,e,BEq.rfl,cond_true,cond_false]
theorem portsH_set:∀ (P:List Port) (i k:Nat) (p:Port) (b v:Bs),P[k]?=some p→∀ id y,getH (portsH i (P.set k (setP p b v))) id=some y →
  (id=i+3 * k+1∧some y=mapS (setP p b v).iD (setP p b v).iV)∨(id≠i+3 * k+1∧getH (portsH i P) id=some y)
 | [],i,k,p,b,v,h,id,y,hy=>by simp at h
 | q::P,i,0,p,b,v,h,id,y,hy=>by
  simp only [List.getElem?_cons_zero,Option.some.injEq] at h
  subst h
  simp only [List.set_cons_zero,portsH,getH] at hy ⊢
  by_cases e:id=i+1
  ·subst e
   have e1:(i==i+1)=false:=by simp
   simp only [e1,cond_false,BEq.rfl,cond_true] at hy
   exact .inl ⟨by omega,hy.symm⟩
  ·have e1:(i+1==id)=false:=by simp; omega
   rw [e1] at hy ⊢
   exact .inr ⟨by omega,hy⟩
 | q::P,i,k+1,p,b,v,h,id,y,hy=>by
  simp only [List.getElem?_cons_succ] at h
  simp only [List.set_cons_succ,portsH,getH] at hy ⊢
  by_cases e0:id=i
  ·subst e0
   simp only [BEq.rfl,cond_true] at hy ⊢
   exact .inr ⟨by omega,hy⟩
  by_cases e1:id=i+1
  ·subst e1
   have f1:(i==i+1)=false:=by simp
   simp only [f1,cond_false,BEq.rfl,cond_true] at hy ⊢
   exact .inr ⟨by omega,hy⟩
  by_cases e2:id=i+2
  ·subst e2
   have f1:(i==i+2)=false:=by simp
   have f2:(i+1==i+2)=false:=by simp
   simp only [f1,f2,cond_false,BEq.rfl,cond_true] at hy ⊢
   exact .inr ⟨by omega,hy⟩
  have f0:(i==id)=false:=by simp; omega
  have f1:(i+1==id)=false:=by simp; omega
  have f2:(i+2==id)=false:=by simp; omega
  simp only [f0,f1,f2,cond_false] at hy ⊢
  rcases portsH_set P (i+3) k p b v h id y hy with ⟨e,h2⟩ | ⟨e,h2⟩
  ·exact .inl ⟨by omega,h2⟩
  ·exact .inr ⟨by omega,h2⟩
theorem chH_set {c st:Nat} {P:List Port} {k:Nat} {p:Port} {b v:Bs} (h:P[k]?=some p):∀ id y,getH (chH c ⟨st,P.set k (setP p b v)⟩) id=some y →
  (id=c+2+3 * k+1∧y=.map .s (setP p b v).iD (.s (setP p b v).iV))∨(id≠c+2+3 * k+1∧getH (chH c ⟨st,P⟩) id=some y):=fun id y hy=>by
 unfold chH chainH at hy ⊢
 simp only [getH,List.length_set] at hy ⊢
 by_cases e0:id=c
 ·subst e0
  simp only [BEq.rfl,cond_true] at hy ⊢
  exact .inr ⟨by omega,hy⟩
 by_cases e1:id=c+1
 ·subst e1
  have f1:(c==c+1)=false:=by simp
  simp only [f1,cond_false,BEq.rfl,cond_true] at hy ⊢
  exact .inr ⟨by omega,hy⟩
 have f0:(c==id)=false:=by simp; omega
 have f1:(c+1==id)=false:=by simp; omega
 simp only [f0,f1,cond_false] at hy ⊢
 rcases portsH_set P (c+2) k p b v h id y hy with ⟨e,h2⟩ | ⟨e,h2⟩
 ·unfold mapS at h2
  injection h2 with h2
  exact .inl ⟨e,h2⟩
 ·exact .inr ⟨e,h2⟩
open Go.RowKit
theorem dvNm_c (ia:Nat) (n:Bs) (a:Bs) (b c:Int) (nb:Bool) (ln:Nat) (cs:List Col) (nb2:Bool) (ln2:Nat) (cs2:List Col) (nid:Nat) (h:ia<nid):ACall Tryz.prog 174 [.agg [.str a,.int .i64 b,.int .i64 c,.lit nb ln cs,.lit nb2 ln2 cs2],.ptr ia 0] [(ia,some (.box 9 [.str n]))] nid (.bool (a==n)) []:=by
 obtain ⟨e1,e2,e3,e4,e5,e6,e7,e8,e9⟩:=id_all h
 refine acall_run c174 (by simp [a174]) ?_
 simp -dsimp only [aqA,↓seqK,↓blkK,↓loopK,step,stepBin,eqB,Nat.add_assoc nid,simprocAttr,e1,e2,e3,e4,e5,e6,e7,e8,e9,a174]
 refine RetOK.go [] [] (.inl rfl) ?_
 simp [a174,cvT,step,res,e1,e2,e3,e4,e5,e6,e7,e8,e9,ColsEq.refl]
section
variable (c nid:Nat) (n0:Bool) (n1 n2:Nat→Bool) (D:List Dev) (st:Nat) (P:List Port) (hc:c+5≤nid) (h:RelR D P) (hD:D.length≤1000)
include hc h hD
set_option maxHeartbeats 4000000 in
theorem deviceR_c (a:Bs):ACall Tryz.prog 125 [.ptr c 0,.str a] (RH c n0 n1 n2 D st P) nid (.int .i64 (idxR (fun j=>(D.getD j dev0).name==a) D.length)) []:=by
 have hs:=RH_scoped c nid n0 n1 n2 D st P hc
 have hl0:=RH0 c n0 n1 n2 D st P
 generalize RH c n0 n1 n2 D st P=Hs at *
 unfold devP at hl0
 have hcc:∀ k,(nid+k==c)=false:=fun k=>by simp; omega
 have hix:∀ m ia,ia<m→ACall Tryz.prog 95 [.lit n0 D.length (devP n1 n2 D),.fn 174 [.ptr ia 0]] [(ia,some (.box 9 [.str a]))] m (.int .i64 (idxR (fun j=>(D.getD j dev0).name==a) D.length)) []:=fun m ia hm =>
  indexDv_h _ _ _ (fun j=>(D.getD j dev0).name==a) n0 D.length _ _ _ _ _ _ _ _ _ m (scp1 hm rfl) (by simp [lowAll,idsOfs,idsOf,hm]) (by omega) (fun j hj nid' hn=>dvNm_c ia a _ _ _ _ _ _ _ _ _ nid' (by omega))
 unfold devP at hix
 generalize idxR (fun j=>(D.getD j dev0).name==a) D.length=R at *
 refine acall_run c125 (by simp [a125]) ?_
 have hc0:(nid==c)=false:=by simp; omega
 simp -dsimp only [aqA,↓seqK,↓blkK,↓loopK,step,stepBin,eqB,Nat.add_assoc nid,simprocAttr,LN_succ,a125,hcc,hc0,hl0]
 refine CallO.on (hix _ nid (by omega)) (subH_get (by simp only [aqA,↓seqK,↓blkK,↓loopK,step,stepBin,eqB,Nat.add_assoc nid,simprocAttr,LN_succ])) ?_
 simp -dsimp only [aqA,↓seqK,↓blkK,↓loopK,step,stepBin,eqB,Nat.add_assoc nid,simprocAttr,LN_succ]
 refine RetOK.goF Hs [] [_] [] [] [] (.inl rfl) hs (by simp [kOK]) rfl ?_
 simp [a125,cvT,step,res]
omit hc hD in
theorem idx_of (a:Bs):(idxR (fun j=>(D.getD j dev0).name==a) D.length = -1∧atP P a=none)∨∃ k p,P[k]?=some p∧k<D.length∧atP P a=some p∧idxR (fun j=>(D.getD j dev0).name==a) D.length=(k:Nat):=by
 rcases atP_of h.ap (a:=a) with ⟨e,h1⟩ | ⟨k,p,h1,h2,h3,h4⟩
 ·refine .inl ⟨idxR_no fun j hj=>?_,e⟩
  have hjl:j<P.length:=by rw [h.len]; exact hj
  have hp:P[j]?=some P[j]:=List.getElem?_eq_getElem hjl
  rw [← (h.d j _ hp).1,beq_eq_false_iff_ne]
  exact h1 _ (List.getElem_mem _)
 ·have hk:k<D.length:=by rw [← h.len]; exact (List.getElem?_eq_some_iff.1 h1).1
  refine .inr ⟨k,p,h1,hk,h3,idxR_at hk ?_ fun j hj=>?_⟩
  ·rw [← (h.d k _ h1).1,h2]
   exact beq_self_eq_true a
  ·have hjl:j<P.length:=by rw [h.len]; omega
   have hp:P[j]?=some P[j]:=List.getElem?_eq_getElem hjl
   rw [← (h.d j _ hp).1,beq_eq_false_iff_ne]
   exact h4 j hj _ hp
set_option maxHeartbeats 4000000 in
theorem codeR_c (a:Bs):ACall Tryz.prog 78 [.ptr c 0,.str a] (RH c n0 n1 n2 D st P) nid (.tup [.str (codeA P a).1,.bool (codeA P a).2]) []:=by
 have hs:=RH_scoped c nid n0 n1 n2 D st P hc
 have hl0:=RH0 c n0 n1 n2 D st P
 have hl1:=RH1 c n0 n1 n2 D st P
 have hdv:=fun m (hm:c+5≤m)=>deviceR_c c m n0 n1 n2 D st P hm h hD a
 rcases idx_of D P h a with ⟨e1,e2⟩ | ⟨k,p,h1,hk,e2,e1⟩
 ·unfold codeA
  rw [e2]
  rw [e1] at hdv
  generalize RH c n0 n1 n2 D st P=Hs at *
  refine acall_run c78 (by simp [a78]) ?_
  simp -dsimp only [aqA,↓seqK,↓blkK,↓loopK,step,stepBin,eqB,Nat.add_assoc nid,simprocAttr,LN_succ,a78]
  refine CallO.on (hdv _ (by omega)) (subH_refl _) ?_
  simp -dsimp only [aqA,↓seqK,↓blkK,↓loopK,step,stepBin,eqB,Nat.add_assoc nid,simprocAttr,LN_succ]
  refine RetOK.goF Hs [] [] [] [] [] (.inl rfl) hs (by simp [kOK]) rfl ?_
  simp [a78,cvT,step,res]
 ·have hpg:=pGet h1
  unfold codeA
  rw [e2]
  rw [e1] at hdv
  generalize RH c n0 n1 n2 D st P=Hs at *
  have b1:decide (((k:Nat):Int)<0)=false:=decide_eq_false (by omega)
  refine acall_run c78 (by simp [a78]) ?_
  simp -dsimp only [aqA,↓seqK,↓blkK,↓loopK,step,stepBin,eqB,Nat.add_assoc nid,simprocAttr,LN_succ,a78]
  refine CallO.on (hdv _ (by omega)) (subH_refl _) ?_
  simp -dsimp only [aqA,↓seqK,↓blkK,↓loopK,step,stepBin,eqB,Nat.add_assoc nid,simprocAttr,LN_succ,b1,hl0,hl1]
  refine ⟨⟨by omega,by omega⟩,?_⟩
  rw [hpg]
  refine RetOK.goF Hs [] [] [] [] [] (.inl rfl) hs (by simp [kOK]) rfl ?_
  simp [a78,cvT,step,res]
omit h hD in
set_option maxHeartbeats 4000000 in
theorem outputR_c (a b:Bs) (ha:a.length≤1000) (hb:b.length≤1000):ACall Tryz.prog 81 [.ptr c 0,.str a,.str b] (RH c n0 n1 n2 D st P) nid (.tup [.str (outG P a b).1,.bool (outG P a b).2]) []:=by
 have hs:=RH_scoped c nid n0 n1 n2 D st P hc
 have hl0:=RH0 c n0 n1 n2 D st P
 have hl4:=RH4 c n0 n1 n2 D st P
 obtain ⟨o1,o2⟩:=outG_doc P a b
 rw [← o1,← o2]
 generalize RH c n0 n1 n2 D st P=Hs at *
 refine acall_run c81 (by simp [a81]) ?_
 simp -dsimp only [aqA,↓seqK,↓blkK,↓loopK,step,stepBin,eqB,Nat.add_assoc nid,simprocAttr,LN_succ,a81,hl0,hl4]
 refine ⟨⟨by omega,by omega⟩,?_⟩
 refine RetOK.goF Hs [] [] [] [] [] (.inl rfl) hs (by simp [kOK]) rfl ?_
 simp [a81,cvT,step,res]
omit h hD in
set_option maxHeartbeats 4000000 in
theorem stateR_c:ACall Tryz.prog 32 [.ptr c 0] (RH c n0 n1 n2 D st P) nid (.int .i64 (st:Nat)) []:=by
 have hs:=RH_scoped c nid n0 n1 n2 D st P hc
 have hl0:=RH0 c n0 n1 n2 D st P
 generalize RH c n0 n1 n2 D st P=Hs at *
 refine acall_run c32 (by simp [a32]) ?_
 simp -dsimp only [aqA,↓seqK,↓blkK,↓loopK,step,stepBin,eqB,Nat.add_assoc nid,simprocAttr,LN_succ,a32,hl0]
 refine RetOK.goF Hs [] [] [] [] [] (.inl rfl) hs (by simp [kOK]) rfl ?_
 simp [a32,cvT,step,res]
end
theorem RH_inp {c:Nat} {n0:Bool} {n1 n2:Nat→Bool} {D:List Dev} {st:Nat} {P:List Port} {k:Nat} {p:Port} {b v:Bs} (h:Apart P) (hp:P[k]?=some p):∀ id y,getH (RH c n0 n1 n2 D st (P.set k (setP p b v))) id=some y →
  (id=c+3∧y=.map .q (fun m=>if m=.q p.d.name b then true else inD P m) (.s fun m=>if m=.q p.d.name b then v else inV P m))∨(id≠c+3∧getH (RH c n0 n1 n2 D st P) id=some y):=by
 intro id y hy
 have hd:(setP p b v).d=p.d:=rfl
 rcases RH_get hy with ⟨e,h1⟩ | ⟨e,h1⟩ | ⟨e,h1⟩ | ⟨e,h1⟩ | ⟨e,h1⟩ <;> subst e
 ·exact .inr ⟨by omega,by rw [RH0] at h1 ⊢; exact h1⟩
 ·refine .inr ⟨by omega,?_⟩
  rw [RH1] at h1 ⊢
  rw [← h1]
  congr 4
  funext j
  rw [set_getD hp]
  by_cases e:j=k
  ·rw [if_pos e,e,pGet hp]; rfl
  ·rw [if_neg e]
 ·refine .inr ⟨by omega,?_⟩
  rw [RH2] at h1 ⊢
  rw [← h1]
  congr 4
  funext j
  rw [set_getD hp]
  by_cases e:j=k
  ·rw [if_pos e,e,pGet hp]; rfl
  ·rw [if_neg e]
 ·rw [RH3,inD_upd h hp,inV_upd h hp] at h1
  injection h1 with h1
  exact .inl ⟨rfl,h1.symm⟩
 ·exact .inr ⟨by omega,by rw [RH4,outD_same h hp hd rfl,outM_same h hp hd rfl] at h1; rw [RH4]; exact h1⟩
set_option maxHeartbeats 8000000 in
theorem inputBad_c (c nid:Nat) (n0:Bool) (n1 n2:Nat→Bool) (D:List Dev) (st:Nat) (P:List Port) (a b v:Bs) (hc:c+5≤nid) (ha:a.length≤1000) (hbl:b.length≤1000) (hv:v.length≤1000000) (hf:inF P a b v≠0) :
  ACall Tryz.prog 83 [.ptr c 0,.str a,.str b,.str v] (RH c n0 n1 n2 D st P) nid (.int .i64 (inF P a b v)) []:=by
 have hs:=RH_scoped c nid n0 n1 n2 D st P hc
 have hl0:=RH0 c n0 n1 n2 D st P
 have hl3:=RH3 c n0 n1 n2 D st P
 obtain ⟨o1,o2⟩:=inG_doc P a b
 have hbf:=fun m=>bitsFaultR_c v m (by omega)
 unfold inF at hf ⊢
 generalize RH c n0 n1 n2 D st P=Hs at *
 generalize inG P a b=G at *
 obtain ⟨g1,g2⟩:=G
 simp only at o1 o2 hf ⊢
 have hcc:∀ k,(nid+k==c)=false:=fun k=>by simp; omega
 have hc3:∀ k,(nid+k==c+3)=false:=fun k=>by simp; omega
 cases g2 with
 | false =>
  rw [if_pos rfl]
  refine acall_run c83 (by simp [a83]) ?_
  simp -dsimp only [aqA,↓seqK,↓blkK,↓loopK,step,stepBin,eqB,Nat.add_assoc nid,simprocAttr,LN_succ,a83,hcc,hc3]
  simp -dsimp only [aqA,↓seqK,↓blkK,↓loopK,step,stepBin,eqB,Nat.add_assoc nid,simprocAttr,LN_succ,hl0,hl3,hcc,hc3,o2]
  refine ⟨⟨by omega,by omega⟩,?_⟩
  refine RetOK.goF Hs [] [(nid+16,_),(nid+16,_)] [] [] [] (.inl rfl) hs (by simp [kOK]) rfl ?_
  simp [a83,cvT,step,res]
 | true =>
  rw [o2] at o1
  simp only [cond_true] at o1
  rw [if_neg (by simp)] at hf ⊢
  by_cases hl:v.length=g1.length
  ·rw [if_neg (by omega)] at hf ⊢
   have b1:((((v.length:Nat)):Int) != (g1.length:Nat))=false:=by rw [hl]; simp
   have b2:bitsOk v=false:=by
    cases hh:bitsOk v
    ·rfl
    ·rw [hh] at hf
     exact absurd rfl hf
   rw [b2] at hbf ⊢
   rw [if_neg (by simp)] at hbf ⊢
   refine acall_run c83 (by simp [a83]) ?_
   simp -dsimp only [aqA,↓seqK,↓blkK,↓loopK,step,stepBin,eqB,Nat.add_assoc nid,simprocAttr,LN_succ,a83,hcc,hc3]
   simp -dsimp only [aqA,↓seqK,↓blkK,↓loopK,step,stepBin,eqB,Nat.add_assoc nid,simprocAttr,LN_succ,hl0,hl3,hcc,hc3,o1,o2,b1]
   refine ⟨⟨by omega,by omega⟩,?_⟩
   refine CallO.pure (hbf _) ?_
   simp -dsimp only [aqA,↓seqK,↓blkK,↓loopK,step,stepBin,eqB,Nat.add_assoc nid,simprocAttr,LN_succ]
   refine RetOK.goF Hs [] [(nid+16,_),(nid+16,_)] [] [] [] (.inl rfl) hs (by simp [kOK]) rfl ?_
   simp [a83,cvT,step,res]
  ·rw [if_pos hl] at hf ⊢
   have b1:((((v.length:Nat)):Int) != (g1.length:Nat))=true:=by rw [bne_iff_ne]; omega
   refine acall_run c83 (by simp [a83]) ?_
   simp -dsimp only [aqA,↓seqK,↓blkK,↓loopK,step,stepBin,eqB,Nat.add_assoc nid,simprocAttr,LN_succ,a83,hcc,hc3]
   simp -dsimp only [aqA,↓seqK,↓blkK,↓loopK,step,stepBin,eqB,Nat.add_assoc nid,simprocAttr,LN_succ,hl0,hl3,hcc,hc3,o1,o2,b1]
   refine ⟨⟨by omega,by omega⟩,?_⟩
   refine RetOK.goF Hs [] [(nid+16,_),(nid+16,_)] [] [] [] (.inl rfl) hs (by simp [kOK]) rfl ?_
   simp [a83,cvT,step,res]
set_option maxHeartbeats 8000000 in
theorem inputOk_c (c nid:Nat) (n0:Bool) (n1 n2:Nat→Bool) (D:List Dev) (st:Nat) (P:List Port) (k:Nat) (p:Port) (b v:Bs) (hc:c+5≤nid) (ha:p.d.name.length≤1000) (hbl:b.length≤1000) (hA:Apart P) (h1:P[k]?=some p) (hb:p.iD (.s b)=true) (hl:v.length=(p.iV (.s b)).length) (hok:bitsOk v=true) (hv:v.length≤1000000) :
  ACall Tryz.prog 83 [.ptr c 0,.str p.d.name,.str b,.str v] (RH c n0 n1 n2 D st P) nid (.int .i64 0) (RH c n0 n1 n2 D st (P.set k (setP p b v))):=by
 have hs:=RH_scoped c nid n0 n1 n2 D st P hc
 have hs2:=RH_scoped c nid n0 n1 n2 D st (P.set k (setP p b v)) hc
 have hkk:∀ id∈keys (RH c n0 n1 n2 D st P),id∈keys (RH c n0 n1 n2 D st (P.set k (setP p b v))):=fun id hid=>by rw [RH_keys c n0 n1 n2 D st st (P.set k (setP p b v)) P]; exact hid
 have hl0:=RH0 c n0 n1 n2 D st P
 have hl3:=RH3 c n0 n1 n2 D st P
 have hu:=RH_inp (c:=c) (n0:=n0) (n1:=n1) (n2:=n2) (D:=D) (st:=st) (b:=b) (v:=v) hA h1
 have hat:=atP_at hA h1
 have o2:inD P (.q p.d.name b)=true:=by simp only [inD,hat]; exact hb
 have o1:inV P (.q p.d.name b)=p.iV (.s b):=by simp only [inV,hat]
 have hbf:=fun m=>bitsFaultR_c v m (by omega)
 rw [hok,if_pos rfl] at hbf
 generalize RH c n0 n1 n2 D st (P.set k (setP p b v))=Hs2 at *
 generalize RH c n0 n1 n2 D st P=Hs at *
 have hcc:∀ k,(nid+k==c)=false:=fun k=>by simp; omega
 have hc3:∀ k,(nid+k==c+3)=false:=fun k=>by simp; omega
 have b1:((((v.length:Nat)):Int) != ((p.iV (.s b)).length:Nat))=false:=by rw [hl]; simp
 refine acall_run c83 (by simp [a83]) ?_
 simp -dsimp only [aqA,↓seqK,↓blkK,↓loopK,step,stepBin,eqB,Nat.add_assoc nid,simprocAttr,LN_succ,a83,hcc,hc3]
 simp -dsimp only [aqA,↓seqK,↓blkK,↓loopK,step,stepBin,eqB,Nat.add_assoc nid,simprocAttr,LN_succ,hl0,hl3,hcc,hc3,o1,o2,b1]
 refine ⟨⟨by omega,by omega⟩,?_⟩
 refine CallO.pure (hbf _) ?_
 simp -dsimp only [aqA,↓seqK,↓blkK,↓loopK,step,stepBin,eqB,Nat.add_assoc nid,simprocAttr,LN_succ,hl0,hl3,hcc,hc3]
 refine ⟨⟨by omega,by omega⟩,?_⟩
 refine RetOK.whole (.inl rfl) hs2 hkk (subH_put (X:=[(nid+16,_),(nid+16,_)]) hu (subH_frame (X:=[(nid+16,_),(nid+16,_)]) hs (by simp [kOK]))) ?_
 simp [a83,cvT,step,res]
theorem names_ne {D:List Dev} (he:devsE D=0) {j k:Nat} (hj:j<k) (hk:k<D.length):¬ (D.getD j dev0).name=(D.getD k dev0).name:=by
 unfold devsE at he
 split at he
 ·cases he
 split at he
 ·cases he
 have hf:=fb_all he k (List.mem_range.2 hk)
 unfold devE at hf
 split at hf
 ·cases hf
 split at hf
 ·cases hf
 rename_i h1 h2
 intro hn
 apply h2
 refine List.any_eq_true.2 ⟨D.getD j dev0,?_,by simp only [beq_iff_eq]; exact hn⟩
 rw [List.getD_eq_getElem?_getD,List.getElem?_eq_getElem (by omega)]
 exact List.mem_take_iff_getElem.2 ⟨j,by omega,rfl⟩
open Go.RowKit
set_option maxHeartbeats 4000000 in
theorem state_c (y:ChV) (c nid:Nat) (hc:c+11≤nid) (hP:y.P.length≤3) :
  ACall Tryz.prog 31 [.ptr c 0] (chH c y) nid (.int .i64 (y.st:Nat)) []:=by
 have hs:Scoped nid (chH c y):=chainH_scoped c nid y.st y.P hP hc
 have hld:getH (chH c y) c=chB y.st (c+1) y.P.length:=by simp only [chH,chainH,getH,BEq.rfl,cond_true]
 generalize chH c y=Hs at *
 unfold chB at hld
 refine acall_run c31 (by simp [a31]) ?_
 simp -dsimp only [a31,aqA,↓seqK,↓blkK,↓loopK,step,stepBin,eqB,Nat.add_assoc nid,simprocAttr,LN_succ,hld]
 refine RetOK.goF Hs [] [] [] [] [] (.inl rfl) hs (by simp [kOK]) rfl ?_
 simp [a31,cvT,step,res]
open Go.RowKit
inductive FindR (P:List Port) (c:Nat) (a:Bs):PV→Prop where
 | no (h:∀ p∈P,¬ p.d.name=a):FindR P c a .nilp
 | pos (k:Nat) (p:Port) (h1:P[k]?=some p) (h2:p.d.name=a) (h3:∀ (j:Nat),j<k→∀ q:Port,P[j]?=some q→¬ q.d.name=a):FindR P c a (.ptr (c+2+3 * k) 0)
set_option maxHeartbeats 4000000 in
theorem find_c (x:ChV) (a:Bs) (r:PV) (c nid:Nat) (hc:c+11≤nid) (hP:x.P.length≤3) (hr:FindR x.P c a r) :
  ACall Tryz.prog 86 [.ptr c 0,.str a] (chH c x) nid r []:=by
 have hs:Scoped nid (chH c x):=chainH_scoped c nid x.st x.P hP hc
 have hl0:=chH_0 c x
 have hl1:=chH_1 c x
 have hp:=fun k p h=>(chH_port (c:=c) (x:=x) (k:=k) (p:=p) h).1
 generalize chH c x=Hs at *
 generalize x.P=P at *
 unfold chB at hl0
 refine acall_sr c86 (by simp [a86]) ?_
 unfold a86
 refine SR.seq ?_
 simp -dsimp only [aqA,↓seqK,↓blkK,↓loopK,step,stepBin,eqB,Nat.add_assoc nid,simprocAttr,LN_succ]
 refine SR.seqW (ι:={_u:Unit // r=.nilp}) (fun _=>⟨[],Hs,nid+900,nid⟩) ?_ (fun ⟨_,hrn⟩=>?_)
 ·refine SR.seqTo ⟨[(10,.sl (c+1) 0 P.length),(11,.int .i64 P.length),(12,.int .i64 0),(0,.ptr c 0),(1,.str a)],Hs,nid+100,nid⟩ ?_ ?_
  ·simp -dsimp only [aqA,↓seqK,↓blkK,↓loopK,step,stepBin,eqB,Nat.add_assoc nid,simprocAttr,LN_succ,hl0]
   refine Cov.whole hs (subH_refl _) (by omega) ?_
   simp [cvT,step,res]
   omega
  refine SR.block ?_
  refine SR.loopP (fun k:Nat=>k≤P.length∧∀ (j:Nat),j<k→∀ q:Port,P[j]?=some q→¬ q.d.name=a) (fun k=>⟨[(10,.sl (c+1) 0 P.length),(11,.int .i64 P.length),(12,.int .i64 (k:Nat)),(0,.ptr c 0),(1,.str a)],Hs,nid+200,nid⟩) (fun k=>P.length+1 - k) 0 ⟨by omega,fun j hj=>by omega⟩ ?_ (fun k hk=>?_)
  ·refine Cov.whole hs (subH_refl _) (by omega) ?_
   simp [cvT,step,res]
   omega
  obtain ⟨hk,hall⟩:=hk
  refine SR.run (t:=.mk) ?_
  by_cases h3:((k:Nat):Int)<(P.length:Nat)
  ·have hkl:k<P.length:=by omega
   have hpk:P[k]?=some P[k]:=List.getElem?_eq_getElem hkl
   have hld:=hp k _ hpk
   generalize P[k]=p at *
   unfold portB litRg litIn at hld
   simp -dsimp only [aqA,↓seqK,↓blkK,↓loopK,step,stepBin,eqB,Nat.add_assoc nid,simprocAttr,LN_succ,hl1]
   refine S2.dec (fun _=>?_) (fun h=>absurd h3 h)
   simp -dsimp only [aqA,↓seqK,↓blkK,↓loopK,step,stepBin,eqB,Nat.add_assoc nid,simprocAttr,LN_succ,hl1]
   refine ⟨⟨by omega,by omega⟩,?_⟩
   simp -dsimp only [aqA,↓seqK,↓blkK,↓loopK,step,stepBin,eqB,Nat.add_assoc nid,simprocAttr,LN_succ,hl1,hld]
   by_cases hn:p.d.name=a
   ·have hrr:r=.ptr (c+2+3 * k) 0:=by
     cases hr with
     | no h=>exact absurd hn (h p (List.mem_of_getElem? hpk))
     | pos k' p' h1 h2 h3' =>
      rcases (by omega:k'<k∨k'=k∨k<k') with h | h | h
      ·exact absurd h2 (hall k' h p' h1)
      ·rw [h]
      ·exact absurd hn (h3' k h p hpk)
    have b1:(p.d.name==a)=true:=by rw [hn]; exact beq_self_eq_true a
    subst hrr
    simp -dsimp only [aqA,↓seqK,↓blkK,↓loopK,step,stepBin,eqB,Nat.add_assoc nid,simprocAttr,LN_succ,b1,hld]
    refine RetOK.goF Hs [] [] [] [] [] (.inl rfl) hs (by simp [kOK]) rfl ?_
    simp [a86,cvT,step,res]
    omega
   ·have b1:(p.d.name==a)=false:=by rw [beq_eq_false_iff_ne]; exact hn
    simp -dsimp only [aqA,↓seqK,↓blkK,↓loopK,step,stepBin,eqB,Nat.add_assoc nid,simprocAttr,LN_succ,b1,hld]
    refine ⟨by unfold inI64; omega,k+1,⟨⟨by omega,fun j hj q hq=>?_⟩,by omega⟩,?_⟩
    ·rcases (by omega:j<k∨j=k) with h | h
     ·exact hall j h q hq
     ·subst h
      rw [hpk] at hq
      injection hq with hq
      rw [← hq]
      exact hn
    ·refine Cov.whole hs (subH_refl _) (by omega) ?_
     simp [cvT,step,res]
     omega
  ·have hkn:k=P.length:=by omega
   simp -dsimp only [aqA,↓seqK,↓blkK,↓loopK,step,stepBin,eqB,Nat.add_assoc nid,simprocAttr,LN_succ]
   refine S2.dec (fun h=>absurd h h3) (fun _=>?_)
   simp -dsimp only [aqA,↓seqK,↓blkK,↓loopK,step,stepBin,eqB,Nat.add_assoc nid,simprocAttr,LN_succ]
   refine ⟨⟨(),?_⟩,?_⟩
   ·cases hr with
    | no h=>rfl
    | pos k' p' h1 h2 h3'=>exact absurd h2 (hall k' (by have:=(List.getElem?_eq_some_iff.1 h1).1; omega) p' h1)
   ·refine Cov.whole hs (subH_refl _) (by omega) ?_
    simp [cvT,step,res]
 subst hrn
 refine SR.run (t:=.mk) ?_
 simp -dsimp only [aqA,↓seqK,↓blkK,↓loopK,step,stepBin,eqB,Nat.add_assoc nid,simprocAttr,LN_succ]
 refine RetOK.goF Hs [] [] [] [] [] (.inl rfl) hs (by simp [kOK]) rfl ?_
 simp [a86,cvT,step,res]
theorem find_of {P:List Port} (h:Apart P) (c:Nat) (a:Bs):(FindR P c a .nilp∧atP P a=none)∨∃ k p,P[k]?=some p∧p.d.name=a∧atP P a=some p∧FindR P c a (.ptr (c+2+3 * k) 0):=by
 rcases atP_of h (a:=a) with ⟨e,h1⟩ | ⟨k,p,h1,h2,h3,h4⟩
 ·exact .inl ⟨.no h1,e⟩
 ·exact .inr ⟨k,p,h1,h2,h3,.pos k p h1 h2 h4⟩
set_option maxHeartbeats 4000000 in
theorem instrA_c (x:ChV) (a:Bs) (c nid:Nat) (hc:c+11≤nid) (hP:x.P.length≤3) (hA:Apart x.P) :
  ACall Tryz.prog 36 [.ptr c 0,.str a] (chH c x) nid (.tup [.str (codeA x.P a).1,.int .i64 (noneF (codeA x.P a).2)]) []:=by
 have hs:Scoped nid (chH c x):=chainH_scoped c nid x.st x.P hP hc
 rcases find_of hA c a with ⟨hf,e⟩ | ⟨k,p,h1,h2,e,hf⟩
 ·have hfc:=fun m hm=>find_c x a _ c m hm hP hf
  unfold codeA noneF
  rw [e]
  generalize chH c x=Hs at *
  refine acall_run c36 (by simp [a36]) ?_
  simp -dsimp only [aqA,↓seqK,↓blkK,↓loopK,step,stepBin,eqB,Nat.add_assoc nid,simprocAttr,LN_succ,a36]
  refine CallO.on (hfc _ (by omega)) (subH_refl _) ?_
  simp -dsimp only [aqA,↓seqK,↓blkK,↓loopK,step,stepBin,eqB,Nat.add_assoc nid,simprocAttr,LN_succ]
  refine RetOK.goF Hs [] [] [] [] [] (.inl rfl) hs (by simp [kOK]) rfl ?_
  simp [a36,cvT,step,res]
 ·have hfc:=fun m hm=>find_c x a _ c m hm hP hf
  obtain ⟨hld,_,_⟩:=chH_port (c:=c) (x:=x) h1
  unfold portB litRg litIn at hld
  unfold codeA noneF
  rw [e]
  generalize chH c x=Hs at *
  refine acall_run c36 (by simp [a36]) ?_
  simp -dsimp only [aqA,↓seqK,↓blkK,↓loopK,step,stepBin,eqB,Nat.add_assoc nid,simprocAttr,LN_succ,a36]
  refine CallO.on (hfc _ (by omega)) (subH_refl _) ?_
  simp -dsimp only [aqA,↓seqK,↓blkK,↓loopK,step,stepBin,eqB,Nat.add_assoc nid,simprocAttr,LN_succ,hld]
  refine RetOK.goF Hs [] [] [] [] [] (.inl rfl) hs (by simp [kOK]) rfl ?_
  simp [a36,cvT,step,res]
set_option maxHeartbeats 4000000 in
theorem outputA_c (x:ChV) (a b:Bs) (c nid:Nat) (hc:c+11≤nid) (hP:x.P.length≤3) (hA:Apart x.P) :
  ACall Tryz.prog 80 [.ptr c 0,.str a,.str b] (chH c x) nid (.tup [.str (outG x.P a b).1,.int .i64 (noneF (outG x.P a b).2)]) []:=by
 have hs:Scoped nid (chH c x):=chainH_scoped c nid x.st x.P hP hc
 rcases find_of hA c a with ⟨hf,e⟩ | ⟨k,p,h1,h2,e,hf⟩
 ·have hfc:=fun m hm=>find_c x a _ c m hm hP hf
  unfold outG noneF
  rw [e]
  generalize chH c x=Hs at *
  refine acall_run c80 (by simp [a80]) ?_
  simp -dsimp only [aqA,↓seqK,↓blkK,↓loopK,step,stepBin,eqB,Nat.add_assoc nid,simprocAttr,LN_succ,a80]
  refine CallO.on (hfc _ (by omega)) (subH_refl _) ?_
  simp -dsimp only [aqA,↓seqK,↓blkK,↓loopK,step,stepBin,eqB,Nat.add_assoc nid,simprocAttr,LN_succ]
  refine RetOK.goF Hs [] [] [] [] [] (.inl rfl) hs (by simp [kOK]) rfl ?_
  simp [a80,cvT,step,res]
 ·have hfc:=fun m hm=>find_c x a _ c m hm hP hf
  obtain ⟨hld,_,hl2⟩:=chH_port (c:=c) (x:=x) h1
  unfold portB litRg litIn at hld
  unfold mapS at hl2
  unfold outG noneF
  rw [e]
  generalize chH c x=Hs at *
  refine acall_run c80 (by simp [a80]) ?_
  simp -dsimp only [aqA,↓seqK,↓blkK,↓loopK,step,stepBin,eqB,Nat.add_assoc nid,simprocAttr,LN_succ,a80]
  refine CallO.on (hfc _ (by omega)) (subH_refl _) ?_
  simp -dsimp only [aqA,↓seqK,↓blkK,↓loopK,step,stepBin,eqB,Nat.add_assoc nid,simprocAttr,LN_succ,hld,hl2]
  cases hb:p.oD (.s b) <;> simp -dsimp only [aqA,↓seqK,↓blkK,↓loopK,step,stepBin,eqB,Nat.add_assoc nid,simprocAttr,LN_succ,hb]
  ·refine RetOK.goF Hs [] [] [] [] [] (.inl rfl) hs (by simp [kOK]) rfl ?_
   simp [a80,cvT,step,res]
  ·refine RetOK.goF Hs [] [] [] [] [] (.inl rfl) hs (by simp [kOK]) rfl ?_
   simp [a80,cvT,step,res]
theorem inF_cases {P:List Port} {a b v:Bs} {p:Port} (e:atP P a=some p):(p.iD (.s b)=false∧inF P a b v=8)∨(p.iD (.s b)=true∧v.length≠(p.iV (.s b)).length∧inF P a b v=3) ∨
  (p.iD (.s b)=true∧v.length=(p.iV (.s b)).length∧bitsOk v=false∧inF P a b v=9)∨(p.iD (.s b)=true∧v.length=(p.iV (.s b)).length∧bitsOk v=true∧inF P a b v=0):=by
 unfold inF inG
 simp only [e]
 cases hb:p.iD (.s b)
 ·simp
 ·by_cases hl:v.length=(p.iV (.s b)).length
  ·cases hk:bitsOk v <;> simp [hl]
  ·simp [hl]
set_option maxHeartbeats 4000000 in
theorem setInBad_c (x:ChV) (a b v:Bs) (c nid:Nat) (hc:c+11≤nid) (hP:x.P.length≤3) (hA:Apart x.P) (hv:v.length≤1000000) (hf:inF x.P a b v≠0) :
  ACall Tryz.prog 82 [.ptr c 0,.str a,.str b,.str v] (chH c x) nid (.int .i64 (inF x.P a b v)) []:=by
 have hs:Scoped nid (chH c x):=chainH_scoped c nid x.st x.P hP hc
 rcases find_of hA c a with ⟨hf1,e⟩ | ⟨k,p,h1,h2,e,hf1⟩
 ·have hfc:=fun m hm=>find_c x a _ c m hm hP hf1
  unfold inF inG at hf ⊢
  rw [e] at hf ⊢
  generalize chH c x=Hs at *
  refine acall_run c82 (by simp [a82]) ?_
  simp -dsimp only [aqA,↓seqK,↓blkK,↓loopK,step,stepBin,eqB,Nat.add_assoc nid,simprocAttr,LN_succ,a82]
  refine CallO.on (hfc _ (by omega)) (subH_refl _) ?_
  simp -dsimp only [aqA,↓seqK,↓blkK,↓loopK,step,stepBin,eqB,Nat.add_assoc nid,simprocAttr,LN_succ]
  refine RetOK.goF Hs [] [] [] [] [] (.inl rfl) hs (by simp [kOK]) rfl ?_
  simp [a82,cvT,step,res]
 ·have hfc:=fun m hm=>find_c x a _ c m hm hP hf1
  obtain ⟨hld,hl1,_⟩:=chH_port (c:=c) (x:=x) h1
  unfold portB litRg litIn at hld
  unfold mapS at hl1
  generalize chH c x=Hs at *
  rcases inF_cases (b:=b) (v:=v) e with ⟨hb,e0⟩ | ⟨hb,hl,e0⟩ | ⟨hb,hl,hbo,e0⟩ | ⟨_,_,_,e0⟩
  ·rw [e0]
   refine acall_run c82 (by simp [a82]) ?_
   simp -dsimp only [aqA,↓seqK,↓blkK,↓loopK,step,stepBin,eqB,Nat.add_assoc nid,simprocAttr,LN_succ,a82]
   refine CallO.on (hfc _ (by omega)) (subH_refl _) ?_
   simp -dsimp only [aqA,↓seqK,↓blkK,↓loopK,step,stepBin,eqB,Nat.add_assoc nid,simprocAttr,LN_succ,hld,hl1,hb]
   refine RetOK.goF Hs [] [] [] [] [] (.inl rfl) hs (by simp [kOK]) rfl ?_
   simp [a82,cvT,step,res]
  ·rw [e0]
   have b1:((((v.length:Nat)):Int) != ((p.iV (.s b)).length:Nat))=true:=by rw [bne_iff_ne]; omega
   refine acall_run c82 (by simp [a82]) ?_
   simp -dsimp only [aqA,↓seqK,↓blkK,↓loopK,step,stepBin,eqB,Nat.add_assoc nid,simprocAttr,LN_succ,a82]
   refine CallO.on (hfc _ (by omega)) (subH_refl _) ?_
   simp -dsimp only [aqA,↓seqK,↓blkK,↓loopK,step,stepBin,eqB,Nat.add_assoc nid,simprocAttr,LN_succ,hld,hl1,hb,b1]
   refine RetOK.goF Hs [] [] [] [] [] (.inl rfl) hs (by simp [kOK]) rfl ?_
   simp [a82,cvT,step,res]
  ·rw [e0]
   have b1:((((v.length:Nat)):Int) != ((p.iV (.s b)).length:Nat))=false:=by rw [hl]; simp
   have hbc:=fun m=>bits_c v m (by omega)
   rw [hbo] at hbc
   refine acall_run c82 (by simp [a82]) ?_
   simp -dsimp only [aqA,↓seqK,↓blkK,↓loopK,step,stepBin,eqB,Nat.add_assoc nid,simprocAttr,LN_succ,a82]
   refine CallO.on (hfc _ (by omega)) (subH_refl _) ?_
   simp -dsimp only [aqA,↓seqK,↓blkK,↓loopK,step,stepBin,eqB,Nat.add_assoc nid,simprocAttr,LN_succ,hld,hl1,hb,b1]
   refine CallO.pure (hbc _) ?_
   simp -dsimp only [aqA,↓seqK,↓blkK,↓loopK,step,stepBin,eqB,Nat.add_assoc nid,simprocAttr,LN_succ]
   refine RetOK.goF Hs [] [] [] [] [] (.inl rfl) hs (by simp [kOK]) rfl ?_
   simp [a82,cvT,step,res]
  ·exact absurd e0 hf
set_option maxHeartbeats 4000000 in
theorem setInOk_c (st:Nat) (P:List Port) (k:Nat) (p:Port) (a b v:Bs) (c nid:Nat) (hc:c+11≤nid) (hP:P.length≤3) (h1:P[k]?=some p) (hf1:FindR P c a (.ptr (c+2+3 * k) 0)) (hb:p.iD (.s b)=true) (hl:v.length=(p.iV (.s b)).length) (hok:bitsOk v=true) (hv:v.length≤1000000) :
  ACall Tryz.prog 82 [.ptr c 0,.str a,.str b,.str v] (chH c ⟨st,P⟩) nid (.int .i64 0) (chH c ⟨st,P.set k (setP p b v)⟩):=by
 have hs:Scoped nid (chH c ⟨st,P⟩):=chainH_scoped c nid st P hP hc
 have hs2:Scoped nid (chH c ⟨st,P.set k (setP p b v)⟩):=chainH_scoped c nid st _ (by rw [List.length_set]; exact hP) hc
 have hk2:keys (chH c ⟨st,P⟩)=keys (chH c ⟨st,P.set k (setP p b v)⟩):=chainH_keys c _ _ _ _ (by rw [List.length_set])
 have hfc:=fun m hm=>find_c ⟨st,P⟩ a _ c m hm hP hf1
 obtain ⟨hld,hl1,_⟩:=chH_port (c:=c) (x:=⟨st,P⟩) h1
 have hu:=chH_set (c:=c) (st:=st) (b:=b) (v:=v) h1
 unfold portB litRg litIn at hld
 unfold mapS at hl1
 generalize chH c ⟨st,P.set k (setP p b v)⟩=Hs2 at *
 generalize chH c ⟨st,P⟩=Hs at *
 refine acall_run c82 (by simp [a82]) ?_
 simp -dsimp only [aqA,↓seqK,↓blkK,↓loopK,step,stepBin,eqB,Nat.add_assoc nid,simprocAttr,LN_succ,a82]
 refine CallO.on (hfc _ (by omega)) (subH_refl _) ?_
 have b1:((((v.length:Nat)):Int) != ((p.iV (.s b)).length:Nat))=false:=by rw [hl]; simp
 have hbc:=fun m=>bits_c v m (by omega)
 rw [hok] at hbc
 simp -dsimp only [aqA,↓seqK,↓blkK,↓loopK,step,stepBin,eqB,Nat.add_assoc nid,simprocAttr,LN_succ,hld,hl1,hb,b1]
 refine CallO.pure (hbc _) ?_
 simp -dsimp only [aqA,↓seqK,↓blkK,↓loopK,step,stepBin,eqB,Nat.add_assoc nid,simprocAttr,LN_succ,hld,hl1]
 refine RetOK.whole (.inl rfl) hs2 (fun id hid=>by rw [← hk2]; exact hid) (subH_put (X:=[]) hu (subH_refl _)) ?_
 simp [a82,cvT,step,res]
end Go.Proofs.YtahjohieahehjaaGreatDoor
