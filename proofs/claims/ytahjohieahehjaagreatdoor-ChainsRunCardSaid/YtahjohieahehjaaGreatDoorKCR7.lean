/-
 The devices that the stream makes,all of them,by the abstract machine.
-/
import Derived.Test.YtahjohieahehjaaGreatDoorKCR6
import Derived.Test.YtahjohieahehjaaGreatDoorKCR3
import Derived.Lib.SlTrimSet
import Derived.Test.YtahjohieahehjaaGreatDoorKCR5
import Derived.Test.YtahjohieahehjaaGreatDoorKCR4
set_option linter.unusedVariables false
set_option linter.unusedSimpArgs false
set_option maxRecDepth 100000
namespace Go.Proofs.YtahjohieahehjaaGreatDoor
open Go.RowKit
def inRg (D:List Dev) (c k:Nat):Option ABlk:=if k<c then arrRg (D.getD k dev0).regs else none
def inIn (D:List Dev) (c k:Nat):Option ABlk:=if k<c then arrIn (D.getD k dev0).ins else none
def famD (b:Nat) (D:List Dev) (c:Nat):Heap:=[(b+100,inRg D c 0),(b+101,inIn D c 0),(b+102,inRg D c 1),(b+103,inIn D c 1),(b+104,inRg D c 2),(b+105,inIn D c 2)]
def devHs (b:Nat) (D:List Dev):Heap:=(b+24,arrD b D)::famD b D D.length
theorem allTo_all {f:Nat→Bool}:∀ {k:Nat},(∀ j,j<k→f j=true)→allTo k f=true
 | 0,_=>rfl
 | k+1,h=>by
  simp only [allTo,Bool.and_eq_true]
  exact ⟨allTo_all fun j hj=>h j (by omega),h k (by omega)⟩
theorem scoped_list {b:Nat}:∀ {H:Heap},(∀ x∈H,x.1<b∧lowBlk b x.2=true)→Scoped b H
 | [],_=>⟨fun id hid=>by simp [keys] at hid,fun id x hx=>by simp [getH] at hx⟩
 | (k,c)::H,h=>by
  have ih:=scoped_list (H:=H) fun x hx=>h x (List.mem_cons_of_mem _ hx)
  have h0:=h _ List.mem_cons_self
  refine ⟨fun id hid=>?_,fun id x hx=>?_⟩
  ·simp only [keys,List.map_cons,List.mem_cons] at hid
   rcases hid with rfl | hid
   ·exact h0.1
   ·exact ih.lt id hid
  ·simp only [getH] at hx
   cases hh:(k==id)
   ·rw [hh] at hx
    exact ih.blk id x hx
   ·rw [hh] at hx
    simp only [cond_true] at hx
    have:=h0.2
    simp only at this
    rw [hx] at this
    exact this
theorem low_inRg (b:Nat) (D:List Dev) (c k:Nat):lowBlk b (inRg D c k)=true:=by unfold inRg; split <;> rfl
theorem low_inIn (b:Nat) (D:List Dev) (c k:Nat):lowBlk b (inIn D c k)=true:=by unfold inIn; split <;> rfl
theorem low_arrD (b:Nat) (D:List Dev) (hD:D.length≤3):lowBlk (b+200) (arrD b D)=true:=by
 show lowCols (b+200) D.length _=true
 simp only [lowCols,Bool.and_eq_true,Bool.and_true]
 exact ⟨allTo_all fun j hj=>by simp; omega,allTo_all fun j hj=>by simp; omega⟩
theorem devHs_scoped (b:Nat) (D:List Dev) (hD:D.length≤3):Scoped (b+200) (devHs b D):=scoped_list fun x hx=>by
 simp only [devHs,famD,List.mem_cons,List.not_mem_nil,or_false] at hx
 rcases hx with rfl | rfl | rfl | rfl | rfl | rfl | rfl
 ·exact ⟨by simp only; omega,low_arrD b D hD⟩
 all_goals exact ⟨by simp only; omega,by first | exact low_inRg _ _ _ _ | exact low_inIn _ _ _ _⟩
theorem devHs_off (s nid:Nat) (D:List Dev) (h:s<nid):s ∉ keys (devHs nid D):=by
 intro hid
 simp only [devHs,famD,keys,List.map_cons,List.map_nil,List.mem_cons,List.not_mem_nil,or_false] at hid
 omega
theorem getD_snocD (D:List Dev) (d:Dev) {j:Nat} (hj:j<D.length):(D++[d]).getD j dev0=D.getD j dev0:=by
 rw [List.getD_eq_getElem?_getD,List.getD_eq_getElem?_getD,List.getElem?_append_left hj]
theorem getD_snocD' (D:List Dev) (d:Dev) {j:Nat} (hj:j=D.length):(D++[d]).getD j dev0=d:=by
 subst hj
 simp
set_option maxHeartbeats 8000000 in
theorem dev_step (s nid:Nat) (nl n0:Bool) (A:List Int) (q n:Nat) (D:List Dev) (h:s<nid) (hq:q≤1099500001000) (hA:A.length≤17592186044416) (hk:D.length<n) (hn:n≤3) (Q:AEx→ST→Prop) :
  SR Tryz.prog (roundV (headV (dropV 2 a11.body))) ⟨[(20,.int .i64 D.length),(19,.int .i64 n),(18,.lit n0 n [.s fun i=>u3L.getD i []]),(5,.sl (nid+24) 0 D.length),(0,.ptr s 0)],[(s,strmC nl A q)]++devHs nid D,nid+1200,nid⟩
   (seqK (fun st=>∃ x:{x:Dev × Nat // DevG x.1∧x.2≤q+12},Cov st ⟨[(20,.int .i64 D.length),(19,.int .i64 n),(18,.lit n0 n [.s fun i=>u3L.getD i []]),(5,.sl (nid+24) 0 (D.length+1)),(0,.ptr s 0)],[(s,strmC nl A x.1.2)]++devHs nid (D++[x.1.1]),nid+1150,nid⟩) Q) .mk:=by
 obtain ⟨e1,e2,e3,e4,e5,e6,e7,e8,e9⟩:=id_all h
 refine dev_round s nid nl n0 A q D.length n (devHs nid D) h hq hA hk hn (devHs_scoped nid D (by omega)) (devHs_off s nid D h) _ Q (fun d q' hd hq'=>?_)
 simp only [a11,dropV,headV,roundV,blockV]
 have hql:=hq'
 have hi:D.length=0∨D.length=1∨D.length=2:=by omega
 have hold:∀ j,j<D.length→(D++[d]).getD j dev0=D.getD j dev0:=fun j hj=>getD_snocD D d hj
 have hnew:=getD_snocD' D d rfl
 have hll:(D++[d]).length=D.length+1:=by simp
 rcases hi with hi | hi | hi
 all_goals
  unfold devHs famD inRg inIn arrD boxDv arrRg arrIn
  simp only [hi,hll] at hold hnew ⊢
  refine SR.run (t:=.mk) ?_
  simp -dsimp only [aqA,↓seqK,↓blkK,↓loopK,step,stepBin,eqB,Nat.add_assoc nid,↓reduceIte,simprocAttr,LN_succ,e1,e2,e3,e4,e5,e6,e7,e8,e9,strmC_low,Nat.reduceLT,Nat.lt_irrefl,if_true,if_false,hi]
  refine ⟨⟨(d,q'),hd,hq'⟩,?_⟩
  simp only [hll]
  generalize D++[d]=D2 at *
  refine Cov.go [(nid+24,nid+9012),(nid+(100+2 * D.length),nid+1304),(nid+(101+2 * D.length),nid+1308)] [] ?_
  simp [cvT,step,res,e1,e2,e3,e4,e5,e6,e7,e8,e9,strmC,hi,hll,hold,hnew,-List.getD_eq_getElem?_getD]
  have h0:=hold 0
  have h1:=hold 1
  refine ⟨ColEq.s fun j hj=>?_,ColEq.i fun j hj=>?_,ColEq.i fun j hj=>?_,?_⟩
  ·rcases (by omega:j=0∨j=1∨j=2) with rfl | rfl | rfl <;> first | omega | (simp [hnew,h0,h1,-List.getD_eq_getElem?_getD] <;> rfl)
  ·rcases (by omega:j=0∨j=1∨j=2) with rfl | rfl | rfl <;> first | omega | (simp [hnew,h0,h1,-List.getD_eq_getElem?_getD] <;> rfl)
  ·rcases (by omega:j=0∨j=1∨j=2) with rfl | rfl | rfl <;> first | omega | (simp [hnew,h0,h1,-List.getD_eq_getElem?_getD] <;> rfl)
  first
   | exact ⟨⟨rfl,rfl⟩,rfl,rfl⟩
   | refine ⟨fun j hj=>?_,fun j hj=>?_⟩ <;> (rcases (by omega:j=0∨j=1∨j=2) with rfl | rfl | rfl <;> first | omega | (simp [hnew,h0,h1,idS1,idS2,-List.getD_eq_getElem?_getD] <;> first | rfl | exact ⟨rfl,rfl⟩))
end Go.Proofs.YtahjohieahehjaaGreatDoor
namespace Go.Proofs.YtahjohieahehjaaGreatDoor
open Go.RowKit
structure DevOk (d:Dev):Prop where
 nm:d.name.length≤10
 lg : -1099511627776≤d.long∧d.long≤1099511627776
 idb : -1099511627776≤d.id∧d.id≤1099511627776
 rl:d.regs.length≤2
 rs:∀ x∈d.regs,x.1.length≤10 ∧ -1099511627776≤x.2∧x.2≤1099511627776
 il:d.ins.length≤3
 is:∀ x∈d.ins,x.1.length≤10∧x.2.length≤10
theorem DevG.ok {d:Dev} (h:DevG d):DevOk d:=⟨by have:=h.nm; omega,by have:=h.lg; omega,by have:=h.idb; omega,h.rl,fun x hx=>by have:=h.rs x hx; omega,h.il,h.is⟩
theorem getD_setD (D:List Dev) {I:Nat} (d:Dev) (hI:I<D.length) (j:Nat):(D.set I d).getD j dev0=if j=I then d else D.getD j dev0:=by
 rw [List.getD_eq_getElem?_getD,List.getElem?_set]
 by_cases h:j=I
 ·subst h; simp [hI]
 ·rw [if_neg (fun e=>h e.symm),if_neg h,← List.getD_eq_getElem?_getD]
theorem nm3 {a:Bs} (h:a.length≤10):∀ x∈[a,[],[117,49]],x.length≤10:=fun x hx=>by
 simp only [List.mem_cons,List.not_mem_nil,or_false] at hx
 rcases hx with rfl | rfl | rfl
 ·exact h
 ·decide
 ·decide
theorem nm4 {a:Bs} (h:a.length≤10):∀ x∈[a,[98,121,112,97,115,115],[100,97,116,97],[65]],x.length≤10:=fun x hx=>by
 simp only [List.mem_cons,List.not_mem_nil,or_false] at hx
 rcases hx with rfl | rfl | rfl | rfl
 ·exact h
 all_goals decide
theorem set_proj {β:Type} (f:Dev→β) {D:List Dev} {I:Nat} {d d':Dev} (hI:I<D.length) (hd:D.getD I dev0=d) (hf:f d'=f d) (j:Nat):f ((D.set I d').getD j dev0)=f (D.getD j dev0):=by
 rw [getD_setD D d' hI]
 by_cases e:j=I
 ·rw [if_pos e,hf,e,hd]
 ·rw [if_neg e]
theorem nm5 {a b:Bs} (h:a.length≤10) (h2:b.length≤10):∀ x∈[a,b,[48],[48,120]],x.length≤10:=fun x hx=>by
 simp only [List.mem_cons,List.not_mem_nil,or_false] at hx
 rcases hx with rfl | rfl | rfl | rfl
 ·exact h
 ·exact h2
 all_goals decide
theorem nm6 {a:Bs} (h:a.length≤10):∀ x∈[a,[105,100,99,111,100,101],[122,122]],x.length≤10:=fun x hx=>by
 simp only [List.mem_cons,List.not_mem_nil,or_false] at hx
 rcases hx with rfl | rfl | rfl
 ·exact h
 all_goals decide
structure SpD where
 D:List Dev
 q:Nat
def spPost (D:List Dev) (q:Nat) (x:SpD):Prop:=x.D.length=D.length∧(∀ d∈x.D,DevOk d)∧x.q≤q+8
abbrev SpEnd (s nid q:Nat) (nl:Bool) (A:List Int) (D:List Dev) (e:AEx) (st:ST):Prop:=∃ x:SpD,spPost D q x∧RetOK a58.res ([(s,strmC nl A q)]++devHs nid D) (nid+200) (.tup []) ([(s,strmC nl A x.q)]++devHs nid x.D) e st
def spST (s nid q1:Nat) (nl:Bool) (A:List Int) (D:List Dev) (I k:Nat):ST:=⟨[(7,.int .i64 k),(0,.ptr s 0),(1,.arp (nid+24) I 0)],[(s,strmC nl A q1)]++devHs nid D,nid+300,nid+200⟩
set_option maxHeartbeats 16000000 in
theorem spoil_0 (s nid:Nat) (nl:Bool) (A:List Int) (q I:Nat) (D:List Dev) (h:s<nid) (hq:q≤1099500002000) (hA:A.length≤17592186044416) (hI:I<D.length) (hD:D.length≤3) (hG:∀ d∈D,DevG d) :
  SR Tryz.prog (dropV 1 a58.body) (spST s nid (q+1) nl A D I 0) (SpEnd s nid q nl A D) .mk:=by
 obtain ⟨e1,e2,e3,e4,e5,e6,e7,e8,e9⟩:=id_all h
 simp only [a58,dropV]
 unfold spST
 have hmem:D.getD I dev0∈D:=by rw [List.getD_eq_getElem?_getD,List.getElem?_eq_getElem hI]; exact List.getElem_mem _
 have hgI:=hG _ hmem
 have hset:∀ d,DevOk d→∀ x∈D.set I d,DevOk x:=fun d hd x hx=>by
  rcases List.mem_or_eq_of_mem_set hx with hx | rfl
  ·exact (hG x hx).ok
  ·exact hd
 have hsl:∀ d,(D.set I d).length=D.length:=fun d=>List.length_set
 have hsg:=fun d j=>getD_setD D (I:=I) d hI j
 refine SR.run (t:=.mk) ?_
 unfold devHs arrD
 simp -dsimp only [aqA,↓seqK,↓blkK,↓loopK,step,stepBin,eqB,Nat.add_assoc nid,↓reduceIte,simprocAttr,LN_succ,e1,e2,e3,e4,e5,e6,e7,e8,e9,strmC_low]
 refine CallO.some_go (T:=9) (nl:=nl) (A:=A) (p:=q+1) (g:=fun i=>[(D.getD I dev0).name,[],[117,49]].getD i []) (by simp only [aqA,↓seqK,↓blkK,↓loopK,step,stepBin,eqB,Nat.add_assoc nid,↓reduceIte,simprocAttr,LN_succ,e1,e2,e3,e4,e5,e6,e7,e8,e9]) (by simp only [aqA,↓seqK,↓blkK,↓loopK,step,stepBin,eqB,Nat.add_assoc nid,↓reduceIte,simprocAttr,LN_succ,e1,e2,e3,e4,e5,e6,e7,e8,e9]) (by simp only [aqA,↓seqK,↓blkK,↓loopK,step,stepBin,eqB,Nat.add_assoc nid,↓reduceIte,simprocAttr,LN_succ,e1,e2,e3,e4,e5,e6,e7,e8,e9]) (by omega) (by omega) hA (by omega) (by omega) ?_
 have hb:=getD_all (P:=fun x:Bs=>x.length≤10) (l:=[(D.getD I dev0).name,[],[117,49]]) (d:=[]) (nm3 (by have:=hgI.nm; omega)) (pickI_lt A (q+1) (n:=3) (by omega))
 generalize ([(D.getD I dev0).name,[],[117,49]].getD (pickI A (q+1) 3) []:Bs)=v at hb ⊢
 simp -dsimp only [aqA,↓seqK,↓blkK,↓loopK,step,stepBin,eqB,Nat.add_assoc nid,↓reduceIte,simprocAttr,LN_succ,e1,e2,e3,e4,e5,e6,e7,e8,e9,strmC_low]
 refine CallO.onE (oddI_c s _ nl A (q+1+1) 2 4 (by omega) (by omega) hA (by omega) (by omega) (by omega)) (subH_get (by simp only [aqA,↓seqK,↓blkK,↓loopK,step,stepBin,eqB,Nat.add_assoc nid,↓reduceIte,simprocAttr,LN_succ,e1,e2,e3,e4,e5,e6,e7,e8,e9])) (fun w hw=>?_)
 simp -dsimp only [aqA,↓seqK,↓blkK,↓loopK,step,stepBin,eqB,Nat.add_assoc nid,↓reduceIte,simprocAttr,LN_succ,e1,e2,e3,e4,e5,e6,e7,e8,e9,strmC_low]
 have hok:DevOk { D.getD I dev0 with name:=v,long:=w }:=⟨hb,hw,hgI.ok.idb,hgI.ok.rl,hgI.ok.rs,hgI.ok.il,hgI.ok.is⟩
 have hreg:∀ j,((D.set I { D.getD I dev0 with name:=v,long:=w }).getD j dev0).regs=(D.getD j dev0).regs:=fun j=>by
  rw [hsg]
  by_cases e:j=I
  ·rw [if_pos e,e]
  ·rw [if_neg e]
 have hins:∀ j,((D.set I { D.getD I dev0 with name:=v,long:=w }).getD j dev0).ins=(D.getD j dev0).ins:=fun j=>by
  rw [hsg]
  by_cases e:j=I
  ·rw [if_pos e,e]
  ·rw [if_neg e]
 refine ⟨⟨D.set I { D.getD I dev0 with name:=v,long:=w },q+1+1+2⟩,⟨hsl _,hset _ hok,by simp only; omega⟩,?_⟩
 have hcase:D.length=1∨D.length=2∨D.length=3:=by omega
 have hsl2:=hsl { D.getD I dev0 with name:=v,long:=w }
 have hn1:∀ j,(if j=I then v else (D.getD j dev0).name)=((D.set I { D.getD I dev0 with name:=v,long:=w }).getD j dev0).name:=fun j=>by
  rw [hsg]
  by_cases e:j=I
  ·rw [if_pos e,if_pos e]
  ·rw [if_neg e,if_neg e]
 have hn2:∀ j,(if j=I then w else (D.getD j dev0).long)=((D.set I { D.getD I dev0 with name:=v,long:=w }).getD j dev0).long:=fun j=>by
  rw [hsg]
  by_cases e:j=I
  ·rw [if_pos e,if_pos e]
  ·rw [if_neg e,if_neg e]
 have hn3:∀ j,(D.getD j dev0).id=((D.set I { D.getD I dev0 with name:=v,long:=w }).getD j dev0).id:=fun j=>by
  rw [hsg]
  by_cases e:j=I
  ·rw [if_pos e,e]
  ·rw [if_neg e]
 generalize D.set I { D.getD I dev0 with name:=v,long:=w }=D2 at *
 rcases hcase with hc | hc | hc
 all_goals
  simp only [hsl2,hc,famD,inRg,inIn,hreg,hins,arrRg,arrIn]
  refine RetOK.go [] [] (.inr rfl) ?_
  simp [a58,cvT,step,res,e1,e2,e3,e4,e5,e6,e7,e8,e9,strmC,hn1,hn2,hn3,hreg,hins,hsl2,hc,devHs,famD,inRg,inIn,arrD,arrRg,arrIn,-List.getD_eq_getElem?_getD]
  first | omega | exact ⟨by omega,fun j hj=>by omega,fun j hj=>by omega⟩
set_option maxHeartbeats 16000000 in
theorem spoil_1 (s nid:Nat) (nl:Bool) (A:List Int) (q I:Nat) (D:List Dev) (h:s<nid) (hq:q≤1099500002000) (hA:A.length≤17592186044416) (hI:I<D.length) (hD:D.length≤3) (hG:∀ d∈D,DevG d) :
  SR Tryz.prog (dropV 1 a58.body) (spST s nid (q+1) nl A D I 1) (SpEnd s nid q nl A D) .mk:=by
 obtain ⟨e1,e2,e3,e4,e5,e6,e7,e8,e9⟩:=id_all h
 simp only [a58,dropV]
 unfold spST
 have hmem:D.getD I dev0∈D:=by rw [List.getD_eq_getElem?_getD,List.getElem?_eq_getElem hI]; exact List.getElem_mem _
 have hgI:=hG _ hmem
 have hset:∀ d,DevOk d→∀ x∈D.set I d,DevOk x:=fun d hd x hx=>by
  rcases List.mem_or_eq_of_mem_set hx with hx | rfl
  ·exact (hG x hx).ok
  ·exact hd
 have hsl:∀ d,(D.set I d).length=D.length:=fun d=>List.length_set
 have hsg:=fun d j=>getD_setD D (I:=I) d hI j
 refine SR.run (t:=.mk) ?_
 unfold devHs arrD
 simp -dsimp only [aqA,↓seqK,↓blkK,↓loopK,step,stepBin,eqB,Nat.add_assoc nid,↓reduceIte,simprocAttr,LN_succ,e1,e2,e3,e4,e5,e6,e7,e8,e9,strmC_low]
 refine CallO.pick_go (T:=3) (nl:=nl) (A:=A) (p:=q+1) (g:=fun i=>[(D.getD I dev0).id,4,-1,4294967296,4294967297].getD i 0) (by simp only [aqA,↓seqK,↓blkK,↓loopK,step,stepBin,eqB,Nat.add_assoc nid,↓reduceIte,simprocAttr,LN_succ,e1,e2,e3,e4,e5,e6,e7,e8,e9]) (by simp only [aqA,↓seqK,↓blkK,↓loopK,step,stepBin,eqB,Nat.add_assoc nid,↓reduceIte,simprocAttr,LN_succ,e1,e2,e3,e4,e5,e6,e7,e8,e9]) (by simp only [aqA,↓seqK,↓blkK,↓loopK,step,stepBin,eqB,Nat.add_assoc nid,↓reduceIte,simprocAttr,LN_succ,e1,e2,e3,e4,e5,e6,e7,e8,e9]) (by omega) (by omega) hA (by omega) (by omega) ?_
 have hb:=getD_all (P:=fun x:Int => -1099511627776≤x∧x≤1099511627776) (l:=[(D.getD I dev0).id,4,-1,4294967296,4294967297]) (d:=0) (by have:=hgI.idb; simp only [List.mem_cons,List.not_mem_nil,or_false,forall_eq_or_imp,forall_eq]; omega) (pickI_lt A (q+1) (n:=5) (by omega))
 generalize ([(D.getD I dev0).id,4,-1,4294967296,4294967297].getD (pickI A (q+1) 5) 0:Int)=v at hb ⊢
 simp -dsimp only [aqA,↓seqK,↓blkK,↓loopK,step,stepBin,eqB,Nat.add_assoc nid,↓reduceIte,simprocAttr,LN_succ,e1,e2,e3,e4,e5,e6,e7,e8,e9,strmC_low]
 have hok:DevOk { D.getD I dev0 with id:=v }:=⟨hgI.ok.nm,hgI.ok.lg,hb,hgI.ok.rl,hgI.ok.rs,hgI.ok.il,hgI.ok.is⟩
 have hreg:∀ j,((D.set I { D.getD I dev0 with id:=v }).getD j dev0).regs=(D.getD j dev0).regs:=fun j=>by
  rw [hsg]
  by_cases e:j=I
  ·rw [if_pos e,e]
  ·rw [if_neg e]
 have hins:∀ j,((D.set I { D.getD I dev0 with id:=v }).getD j dev0).ins=(D.getD j dev0).ins:=fun j=>by
  rw [hsg]
  by_cases e:j=I
  ·rw [if_pos e,e]
  ·rw [if_neg e]
 refine ⟨⟨D.set I { D.getD I dev0 with id:=v },q+1+1⟩,⟨hsl _,hset _ hok,by simp only; omega⟩,?_⟩
 have hcase:D.length=1∨D.length=2∨D.length=3:=by omega
 have hsl2:=hsl { D.getD I dev0 with id:=v }
 have hn1:∀ j,(if j=I then v else (D.getD j dev0).id)=((D.set I { D.getD I dev0 with id:=v }).getD j dev0).id:=fun j=>by
  rw [hsg]
  by_cases e:j=I
  ·rw [if_pos e,if_pos e]
  ·rw [if_neg e,if_neg e]
 have hn2:∀ j,(D.getD j dev0).name=((D.set I { D.getD I dev0 with id:=v }).getD j dev0).name:=fun j=>by
  rw [hsg]
  by_cases e:j=I
  ·rw [if_pos e,e]
  ·rw [if_neg e]
 have hn3:∀ j,(D.getD j dev0).long=((D.set I { D.getD I dev0 with id:=v }).getD j dev0).long:=fun j=>by
  rw [hsg]
  by_cases e:j=I
  ·rw [if_pos e,e]
  ·rw [if_neg e]
 generalize D.set I { D.getD I dev0 with id:=v }=D2 at *
 rcases hcase with hc | hc | hc
 all_goals
  simp only [hsl2,hc,famD,inRg,inIn,hreg,hins,arrRg,arrIn]
  refine RetOK.go [] [] (.inr rfl) ?_
  simp [a58,cvT,step,res,e1,e2,e3,e4,e5,e6,e7,e8,e9,strmC,hn1,hn2,hn3,hreg,hins,hsl2,hc,devHs,famD,inRg,inIn,arrD,arrRg,arrIn,-List.getD_eq_getElem?_getD]
  first | omega | exact ⟨by omega,fun j hj=>by omega,fun j hj=>by omega⟩
theorem getD_setR (R:List (Bs × Int)) {J:Nat} (x:Bs × Int) (hJ:J<R.length) (j:Nat):(R.set J x).getD j reg0=if j=J then x else R.getD j reg0:=by
 rw [List.getD_eq_getElem?_getD,List.getElem?_set]
 by_cases h:j=J
 ·subst h; simp [hJ]
 ·rw [if_neg (fun e=>h e.symm),if_neg h,← List.getD_eq_getElem?_getD]
set_option maxHeartbeats 16000000 in
theorem spoil_2 (s nid:Nat) (nl:Bool) (A:List Int) (q I:Nat) (D:List Dev) (h:s<nid) (hq:q≤1099500002000) (hA:A.length≤17592186044416) (hI:I<D.length) (hD:D.length≤3) (hG:∀ d∈D,DevG d) :
  SR Tryz.prog (dropV 1 a58.body) (spST s nid (q+1) nl A D I 2) (SpEnd s nid q nl A D) .mk:=by
 obtain ⟨e1,e2,e3,e4,e5,e6,e7,e8,e9⟩:=id_all h
 simp only [a58,dropV]
 unfold spST
 have hmem:D.getD I dev0∈D:=by rw [List.getD_eq_getElem?_getD,List.getElem?_eq_getElem hI]; exact List.getElem_mem _
 have hgI:=hG _ hmem
 have hset:∀ d,DevOk d→∀ x∈D.set I d,DevOk x:=fun d hd x hx=>by
  rcases List.mem_or_eq_of_mem_set hx with hx | rfl
  ·exact (hG x hx).ok
  ·exact hd
 have hsl:∀ d,(D.set I d).length=D.length:=fun d=>List.length_set
 have hsg:=fun d j=>getD_setD D (I:=I) d hI j
 have hcase:(D.length=1∧I=0)∨(D.length=2∧I=0)∨(D.length=2∧I=1)∨(D.length=3∧I=0)∨(D.length=3∧I=1)∨(D.length=3∧I=2):=by omega
 obtain ⟨d,hd⟩:∃ d,D.getD I dev0=d:=⟨_,rfl⟩
 rw [hd] at hgI
 have hgl:=hgI.rl
 have hgi:=hgI.il
 refine SR.run (t:=.mk) ?_
 rcases hcase with ⟨hc,rfl⟩ | ⟨hc,rfl⟩ | ⟨hc,rfl⟩ | ⟨hc,rfl⟩ | ⟨hc,rfl⟩ | ⟨hc,rfl⟩
 all_goals
  unfold devHs famD inRg inIn arrD arrRg arrIn
  simp -dsimp only [aqA,↓seqK,↓blkK,↓loopK,step,stepBin,eqB,Nat.add_assoc nid,↓reduceIte,simprocAttr,LN_succ,e1,e2,e3,e4,e5,e6,e7,e8,e9,strmC_low,hc,hd,Nat.reduceLT,Nat.lt_irrefl,if_true,if_false]
  refine S2.dec (fun h4=>?_) (fun h4=>?_) <;> simp -dsimp only [aqA,↓seqK,↓blkK,↓loopK,step,stepBin,eqB,Nat.add_assoc nid,↓reduceIte,simprocAttr,LN_succ,e1,e2,e3,e4,e5,e6,e7,e8,e9,strmC_low,hd]
  ·have hR0:0<d.regs.length:=by omega
   have hnd:=nextV_bd A (q+1) (n:=(d.regs.length:Nat)) (by omega)
   obtain ⟨J,hJ⟩:∃ J:Nat,nextV A (q+1) ((d.regs.length:Nat):Int)=J:=⟨_,(Int.toNat_of_nonneg hnd.1).symm⟩
   rw [hJ] at hnd
   have hJR:J<d.regs.length:=by omega
   refine CallX.on (next_c s _ nl A (q+1) _ (by omega) (by omega) hA (by omega)) (subH_get (by simp only [aqA,↓seqK,↓blkK,↓loopK,step,stepBin,eqB,Nat.add_assoc nid,↓reduceIte,simprocAttr,LN_succ,e1,e2,e3,e4,e5,e6,e7,e8,e9])) ?_
   rw [hJ]
   simp -dsimp only [aqA,↓seqK,↓blkK,↓loopK,step,stepBin,eqB,Nat.add_assoc nid,↓reduceIte,simprocAttr,LN_succ,e1,e2,e3,e4,e5,e6,e7,e8,e9,strmC_low,hd]
   refine ⟨⟨by omega,by omega⟩,?_⟩
   have hm2:d.regs.getD J reg0∈d.regs:=by rw [List.getD_eq_getElem?_getD,List.getElem?_eq_getElem hJR]; exact List.getElem_mem _
   refine CallO.some_go (T:=9) (nl:=nl) (A:=A) (p:=q+1+1) (g:=fun i=>[(d.regs.getD J reg0).1,[98,121,112,97,115,115],[100,97,116,97],[65]].getD i []) (by simp only [aqA,↓seqK,↓blkK,↓loopK,step,stepBin,eqB,Nat.add_assoc nid,↓reduceIte,simprocAttr,LN_succ,e1,e2,e3,e4,e5,e6,e7,e8,e9]) (by simp only [aqA,↓seqK,↓blkK,↓loopK,step,stepBin,eqB,Nat.add_assoc nid,↓reduceIte,simprocAttr,LN_succ,e1,e2,e3,e4,e5,e6,e7,e8,e9]) (by simp only [aqA,↓seqK,↓blkK,↓loopK,step,stepBin,eqB,Nat.add_assoc nid,↓reduceIte,simprocAttr,LN_succ,e1,e2,e3,e4,e5,e6,e7,e8,e9]) (by omega) (by omega) hA (by omega) (by omega) ?_
   have hb:=getD_all (P:=fun x:Bs=>x.length≤10) (l:=[(d.regs.getD J reg0).1,[98,121,112,97,115,115],[100,97,116,97],[65]]) (d:=[]) (nm4 (hgI.rs _ hm2).1) (pickI_lt A (q+1+1) (n:=4) (by omega))
   generalize ([(d.regs.getD J reg0).1,[98,121,112,97,115,115],[100,97,116,97],[65]].getD (pickI A (q+1+1) 4) []:Bs)=v at hb ⊢
   simp -dsimp only [aqA,↓seqK,↓blkK,↓loopK,step,stepBin,eqB,Nat.add_assoc nid,↓reduceIte,simprocAttr,LN_succ,e1,e2,e3,e4,e5,e6,e7,e8,e9,strmC_low,hd]
   refine CallO.onE (oddI_c s _ nl A (q+1+1+1) 1 5 (by omega) (by omega) hA (by omega) (by omega) (by omega)) (subH_get (by simp only [aqA,↓seqK,↓blkK,↓loopK,step,stepBin,eqB,Nat.add_assoc nid,↓reduceIte,simprocAttr,LN_succ,e1,e2,e3,e4,e5,e6,e7,e8,e9])) (fun w hw=>?_)
   simp -dsimp only [aqA,↓seqK,↓blkK,↓loopK,step,stepBin,eqB,Nat.add_assoc nid,↓reduceIte,simprocAttr,LN_succ,e1,e2,e3,e4,e5,e6,e7,e8,e9,strmC_low,hd]
   have hrs:=getD_setR d.regs (v,w) hJR
   have hrl:(d.regs.set J (v,w)).length=d.regs.length:=List.length_set
   have hok:DevOk { d with regs:=d.regs.set J (v,w) }:=⟨hgI.ok.nm,hgI.ok.lg,hgI.ok.idb,by simp only [hrl]; exact hgI.ok.rl,fun x hx=>by
    rcases List.mem_or_eq_of_mem_set hx with hx | rfl
    ·exact hgI.ok.rs x hx
    ·exact ⟨hb,hw⟩,hgI.ok.il,hgI.ok.is⟩
   have hr1:∀ j,(if j=J then v else (d.regs.getD j reg0).1)=((d.regs.set J (v,w)).getD j reg0).1:=fun j=>by rw [hrs]; by_cases e:j=J <;> simp [e]
   have hr2:∀ j,(if j=J then w else (d.regs.getD j reg0).2)=((d.regs.set J (v,w)).getD j reg0).2:=fun j=>by rw [hrs]; by_cases e:j=J <;> simp [e]
   refine ⟨⟨D.set _ { d with regs:=d.regs.set J (v,w) },q+1+1+1+2⟩,⟨hsl _,hset _ hok,by simp only; omega⟩,?_⟩
   have hsl2:=hsl { d with regs:=d.regs.set J (v,w) }
   have hg2:=hsg { d with regs:=d.regs.set J (v,w) }
   generalize d.regs.set J (v,w)=R2 at *
   have hn1:∀ j,((D.set _ { d with regs:=R2 }).getD j dev0).name=(D.getD j dev0).name:=set_proj Dev.name hI hd rfl
   have hn2:∀ j,((D.set _ { d with regs:=R2 }).getD j dev0).long=(D.getD j dev0).long:=set_proj Dev.long hI hd rfl
   have hn3:∀ j,((D.set _ { d with regs:=R2 }).getD j dev0).id=(D.getD j dev0).id:=set_proj Dev.id hI hd rfl
   have hn4:∀ j,((D.set _ { d with regs:=R2 }).getD j dev0).ins=(D.getD j dev0).ins:=set_proj Dev.ins hI hd rfl
   have hn5:∀ j,((D.set _ { d with regs:=R2 }).getD j dev0).regs.length=(D.getD j dev0).regs.length:=set_proj (fun x=>x.regs.length) hI hd hrl
   have hg0:=hg2 0
   have hg1:=hg2 1
   have hg3:=hg2 2
   simp only [Nat.reduceEqDiff,if_true,if_false,reduceCtorEq,Nat.one_ne_zero,Nat.zero_ne_one] at hg0 hg1 hg3
   generalize D.set _ { d with regs:=R2 }=D2 at *
   refine RetOK.go [] [] (.inr rfl) ?_
   simp [a58,cvT,step,res,e1,e2,e3,e4,e5,e6,e7,e8,e9,strmC,hr1,hr2,hrl,hn1,hn2,hn3,hn4,hn5,hg0,hg1,hg3,hsl2,hc,hd,devHs,famD,inRg,inIn,arrD,arrRg,arrIn,-List.getD_eq_getElem?_getD]
   first | omega | exact ⟨by omega,fun j hj=>by omega,fun j hj=>by omega⟩
  ·refine ⟨⟨D,q+1⟩,⟨rfl,fun d hd=>(hG d hd).ok,by simp only; omega⟩,?_⟩
   refine RetOK.go [] [] (.inr rfl) ?_
   simp [a58,cvT,step,res,e1,e2,e3,e4,e5,e6,e7,e8,e9,strmC,hc,hd,devHs,famD,inRg,inIn,arrD,arrRg,arrIn,-List.getD_eq_getElem?_getD]
   first | omega | exact ⟨by omega,fun j hj=>by omega,fun j hj=>by omega⟩
theorem getD_setI (R:List (Bs × Bs)) {J:Nat} (x:Bs × Bs) (hJ:J<R.length) (j:Nat):(R.set J x).getD j ins0=if j=J then x else R.getD j ins0:=by
 rw [List.getD_eq_getElem?_getD,List.getElem?_set]
 by_cases h:j=J
 ·subst h; simp [hJ]
 ·rw [if_neg (fun e=>h e.symm),if_neg h,← List.getD_eq_getElem?_getD]
set_option maxHeartbeats 16000000 in
theorem spoil_3 (s nid:Nat) (nl:Bool) (A:List Int) (q I:Nat) (D:List Dev) (h:s<nid) (hq:q≤1099500002000) (hA:A.length≤17592186044416) (hI:I<D.length) (hD:D.length≤3) (hG:∀ d∈D,DevG d) :
  SR Tryz.prog (dropV 1 a58.body) (spST s nid (q+1) nl A D I 3) (SpEnd s nid q nl A D) .mk:=by
 obtain ⟨e1,e2,e3,e4,e5,e6,e7,e8,e9⟩:=id_all h
 simp only [a58,dropV]
 unfold spST
 have hmem:D.getD I dev0∈D:=by rw [List.getD_eq_getElem?_getD,List.getElem?_eq_getElem hI]; exact List.getElem_mem _
 have hgI:=hG _ hmem
 have hset:∀ d,DevOk d→∀ x∈D.set I d,DevOk x:=fun d hd x hx=>by
  rcases List.mem_or_eq_of_mem_set hx with hx | rfl
  ·exact (hG x hx).ok
  ·exact hd
 have hsl:∀ d,(D.set I d).length=D.length:=fun d=>List.length_set
 have hsg:=fun d j=>getD_setD D (I:=I) d hI j
 have hcase:(D.length=1∧I=0)∨(D.length=2∧I=0)∨(D.length=2∧I=1)∨(D.length=3∧I=0)∨(D.length=3∧I=1)∨(D.length=3∧I=2):=by omega
 obtain ⟨d,hd⟩:∃ d,D.getD I dev0=d:=⟨_,rfl⟩
 rw [hd] at hgI
 have hgl:=hgI.rl
 have hgi:=hgI.il
 refine SR.run (t:=.mk) ?_
 rcases hcase with ⟨hc,rfl⟩ | ⟨hc,rfl⟩ | ⟨hc,rfl⟩ | ⟨hc,rfl⟩ | ⟨hc,rfl⟩ | ⟨hc,rfl⟩
 all_goals
  unfold devHs famD inRg inIn arrD arrRg arrIn
  simp -dsimp only [aqA,↓seqK,↓blkK,↓loopK,step,stepBin,eqB,Nat.add_assoc nid,↓reduceIte,simprocAttr,LN_succ,e1,e2,e3,e4,e5,e6,e7,e8,e9,strmC_low,hc,hd,Nat.reduceLT,Nat.lt_irrefl,if_true,if_false]
  refine S2.dec (fun h4=>?_) (fun h4=>?_) <;> simp -dsimp only [aqA,↓seqK,↓blkK,↓loopK,step,stepBin,eqB,Nat.add_assoc nid,↓reduceIte,simprocAttr,LN_succ,e1,e2,e3,e4,e5,e6,e7,e8,e9,strmC_low,hd]
  ·have hR0:0<d.ins.length:=by omega
   have hnd:=nextV_bd A (q+1) (n:=(d.ins.length:Nat)) (by omega)
   obtain ⟨J,hJ⟩:∃ J:Nat,nextV A (q+1) ((d.ins.length:Nat):Int)=J:=⟨_,(Int.toNat_of_nonneg hnd.1).symm⟩
   rw [hJ] at hnd
   have hJR:J<d.ins.length:=by omega
   refine CallX.on (next_c s _ nl A (q+1) _ (by omega) (by omega) hA (by omega)) (subH_get (by simp only [aqA,↓seqK,↓blkK,↓loopK,step,stepBin,eqB,Nat.add_assoc nid,↓reduceIte,simprocAttr,LN_succ,e1,e2,e3,e4,e5,e6,e7,e8,e9])) ?_
   rw [hJ]
   simp -dsimp only [aqA,↓seqK,↓blkK,↓loopK,step,stepBin,eqB,Nat.add_assoc nid,↓reduceIte,simprocAttr,LN_succ,e1,e2,e3,e4,e5,e6,e7,e8,e9,strmC_low,hd]
   refine ⟨⟨by omega,by omega⟩,?_⟩
   have hm2:d.ins.getD J ins0∈d.ins:=by rw [List.getD_eq_getElem?_getD,List.getElem?_eq_getElem hJR]; exact List.getElem_mem _
   obtain ⟨z,hz⟩:∃ z:Nat,d.long=z:=⟨_,(Int.toNat_of_nonneg (by have:=hgI.lg; omega)).symm⟩
   have hz4:z≤4:=by have:=hgI.lg; omega
   have hrl1:=rep1 49 z
   refine CallX.pure (by rw [hz]; exact repeat_cc [49] z _ (by omega) (by simp; omega)) ?_
   generalize Lib.repeatL [49] z=zs at *
   simp -dsimp only [aqA,↓seqK,↓blkK,↓loopK,step,stepBin,eqB,Nat.add_assoc nid,↓reduceIte,simprocAttr,LN_succ,e1,e2,e3,e4,e5,e6,e7,e8,e9,strmC_low,hd]
   refine CallX.some_go (T:=9) (nl:=nl) (A:=A) (p:=q+1+1) (g:=fun i=>[(d.ins.getD J ins0).1,zs,[48],[48,120]].getD i []) (by simp only [aqA,↓seqK,↓blkK,↓loopK,step,stepBin,eqB,Nat.add_assoc nid,↓reduceIte,simprocAttr,LN_succ,e1,e2,e3,e4,e5,e6,e7,e8,e9]) (by simp only [aqA,↓seqK,↓blkK,↓loopK,step,stepBin,eqB,Nat.add_assoc nid,↓reduceIte,simprocAttr,LN_succ,e1,e2,e3,e4,e5,e6,e7,e8,e9]) (by simp only [aqA,↓seqK,↓blkK,↓loopK,step,stepBin,eqB,Nat.add_assoc nid,↓reduceIte,simprocAttr,LN_succ,e1,e2,e3,e4,e5,e6,e7,e8,e9]) (by omega) (by omega) hA (by omega) (by omega) ?_
   have hb:=getD_all (P:=fun x:Bs=>x.length≤10) (l:=[(d.ins.getD J ins0).1,zs,[48],[48,120]]) (d:=[]) (nm5 (hgI.is _ hm2).1 (by omega)) (pickI_lt A (q+1+1) (n:=4) (by omega))
   generalize ([(d.ins.getD J ins0).1,zs,[48],[48,120]].getD (pickI A (q+1+1) 4) []:Bs)=v at hb ⊢
   simp -dsimp only [aqA,↓seqK,↓blkK,↓loopK,step,stepBin,eqB,Nat.add_assoc nid,↓reduceIte,simprocAttr,LN_succ,e1,e2,e3,e4,e5,e6,e7,e8,e9,strmC_low,hd]
   refine CallX.some_go (T:=9) (nl:=nl) (A:=A) (p:=q+1+1+1) (g:=fun i=>[(d.ins.getD J ins0).2,[105,100,99,111,100,101],[122,122]].getD i []) (by simp only [aqA,↓seqK,↓blkK,↓loopK,step,stepBin,eqB,Nat.add_assoc nid,↓reduceIte,simprocAttr,LN_succ,e1,e2,e3,e4,e5,e6,e7,e8,e9]) (by simp only [aqA,↓seqK,↓blkK,↓loopK,step,stepBin,eqB,Nat.add_assoc nid,↓reduceIte,simprocAttr,LN_succ,e1,e2,e3,e4,e5,e6,e7,e8,e9]) (by simp only [aqA,↓seqK,↓blkK,↓loopK,step,stepBin,eqB,Nat.add_assoc nid,↓reduceIte,simprocAttr,LN_succ,e1,e2,e3,e4,e5,e6,e7,e8,e9]) (by omega) (by omega) hA (by omega) (by omega) ?_
   have hw:=getD_all (P:=fun x:Bs=>x.length≤10) (l:=[(d.ins.getD J ins0).2,[105,100,99,111,100,101],[122,122]]) (d:=[]) (nm6 (hgI.is _ hm2).2) (pickI_lt A (q+1+1+1) (n:=3) (by omega))
   generalize ([(d.ins.getD J ins0).2,[105,100,99,111,100,101],[122,122]].getD (pickI A (q+1+1+1) 3) []:Bs)=w at hw ⊢
   simp -dsimp only [aqA,↓seqK,↓blkK,↓loopK,step,stepBin,eqB,Nat.add_assoc nid,↓reduceIte,simprocAttr,LN_succ,e1,e2,e3,e4,e5,e6,e7,e8,e9,strmC_low,hd]
   have hrs:=getD_setI d.ins (v,w) hJR
   have hrl:(d.ins.set J (v,w)).length=d.ins.length:=List.length_set
   have hok:DevOk { d with ins:=d.ins.set J (v,w) }:=⟨hgI.ok.nm,hgI.ok.lg,hgI.ok.idb,hgI.ok.rl,hgI.ok.rs,by simp only [hrl]; exact hgI.ok.il,fun x hx=>by
    rcases List.mem_or_eq_of_mem_set hx with hx | rfl
    ·exact hgI.ok.is x hx
    ·exact ⟨hb,hw⟩⟩
   have hr1:∀ j,(if j=J then v else (d.ins.getD j ins0).1)=((d.ins.set J (v,w)).getD j ins0).1:=fun j=>by rw [hrs]; by_cases e:j=J <;> simp [e]
   have hr2:∀ j,(if j=J then w else (d.ins.getD j ins0).2)=((d.ins.set J (v,w)).getD j ins0).2:=fun j=>by rw [hrs]; by_cases e:j=J <;> simp [e]
   refine ⟨⟨D.set _ { d with ins:=d.ins.set J (v,w) },q+1+1+1+1⟩,⟨hsl _,hset _ hok,by simp only; omega⟩,?_⟩
   have hsl2:=hsl { d with ins:=d.ins.set J (v,w) }
   have hg2:=hsg { d with ins:=d.ins.set J (v,w) }
   generalize d.ins.set J (v,w)=R2 at *
   have hn1:∀ j,((D.set _ { d with ins:=R2 }).getD j dev0).name=(D.getD j dev0).name:=set_proj Dev.name hI hd rfl
   have hn2:∀ j,((D.set _ { d with ins:=R2 }).getD j dev0).long=(D.getD j dev0).long:=set_proj Dev.long hI hd rfl
   have hn3:∀ j,((D.set _ { d with ins:=R2 }).getD j dev0).id=(D.getD j dev0).id:=set_proj Dev.id hI hd rfl
   have hn4:∀ j,((D.set _ { d with ins:=R2 }).getD j dev0).regs=(D.getD j dev0).regs:=set_proj Dev.regs hI hd rfl
   have hn5:∀ j,((D.set _ { d with ins:=R2 }).getD j dev0).ins.length=(D.getD j dev0).ins.length:=set_proj (fun x=>x.ins.length) hI hd hrl
   have hg0:=hg2 0
   have hg1:=hg2 1
   have hg3:=hg2 2
   simp only [Nat.reduceEqDiff,if_true,if_false,reduceCtorEq,Nat.one_ne_zero,Nat.zero_ne_one] at hg0 hg1 hg3
   generalize D.set _ { d with ins:=R2 }=D2 at *
   refine RetOK.go [] [] (.inr rfl) ?_
   simp [a58,cvT,step,res,e1,e2,e3,e4,e5,e6,e7,e8,e9,strmC,hr1,hr2,hrl,hn1,hn2,hn3,hn4,hn5,hg0,hg1,hg3,hsl2,hc,hd,devHs,famD,inRg,inIn,arrD,arrRg,arrIn,-List.getD_eq_getElem?_getD]
   first | omega | exact ⟨by omega,fun j hj=>by omega,fun j hj=>by omega⟩
  ·refine ⟨⟨D,q+1⟩,⟨rfl,fun d hd=>(hG d hd).ok,by simp only; omega⟩,?_⟩
   refine RetOK.go [] [] (.inr rfl) ?_
   simp [a58,cvT,step,res,e1,e2,e3,e4,e5,e6,e7,e8,e9,strmC,hc,hd,devHs,famD,inRg,inIn,arrD,arrRg,arrIn,-List.getD_eq_getElem?_getD]
   first | omega | exact ⟨by omega,fun j hj=>by omega,fun j hj=>by omega⟩
set_option maxHeartbeats 16000000 in
theorem spoil_D (s nid:Nat) (nl:Bool) (A:List Int) (q I:Nat) (D:List Dev) (h:s<nid) (hq:q≤1099500002000) (hA:A.length≤17592186044416) (hI:I<D.length) (hD:D.length≤3) (hG:∀ d∈D,DevG d) :
  ACallI Tryz.prog 58 [.ptr s 0,.arp (nid+24) I 0] ([(s,strmC nl A q)]++devHs nid D) (nid+200) (spPost D q) (fun _=>.tup []) (fun x=>[(s,strmC nl A x.q)]++devHs nid x.D):=by
 obtain ⟨e1,e2,e3,e4,e5,e6,e7,e8,e9⟩:=id_all h
 have hs:=devHs_scoped nid D hD
 have hsk:=devHs_off s nid D h
 have k0:=spoil_0 s nid nl A q I D h hq hA hI hD hG
 have k1:=spoil_1 s nid nl A q I D h hq hA hI hD hG
 have k2:=spoil_2 s nid nl A q I D h hq hA hI hD hG
 have k3:=spoil_3 s nid nl A q I D h hq hA hI hD hG
 refine acallI_sr c58 (by simp [a58]) ?_
 simp only [a58,dropV] at *
 have hkd:=nextV_bd A q (n:=(4:Int)) (by omega)
 have hk:nextV A q 4=0∨nextV A q 4=1∨nextV A q 4=2∨nextV A q 4=3:=by omega
 obtain ⟨kk,hkk,hSR⟩:∃ kk:Nat,nextV A q 4=kk∧True:=⟨_,(Int.toNat_of_nonneg (by omega)).symm,trivial⟩
 refine SR.seqTo (spST s nid (q+1) nl A D I kk) ?_ ?_
 ·simp -dsimp only [aqA,↓seqK,↓blkK,↓loopK,step,stepBin,eqB,Nat.add_assoc nid,↓reduceIte,simprocAttr,LN_succ,e1,e2,e3,e4,e5,e6,e7,e8,e9,strmC_low]
  refine CallO.on (next_c s _ nl A q 4 (by omega) (by omega) hA (by omega)) (subH_get (by simp only [aqA,↓seqK,↓blkK,↓loopK,step,stepBin,eqB,Nat.add_assoc nid,↓reduceIte,simprocAttr,LN_succ,e1,e2,e3,e4,e5,e6,e7,e8,e9])) ?_
  rw [hkk]
  simp -dsimp only [aqA,↓seqK,↓blkK,↓loopK,step,stepBin,eqB,Nat.add_assoc nid,↓reduceIte,simprocAttr,LN_succ,e1,e2,e3,e4,e5,e6,e7,e8,e9,strmC_low]
  unfold spST
  generalize devHs nid D=Hs at *
  first | refine Cov.goG (nid+200) Hs [_] [_] [] [] (by omega) hs (by simp [kOK,hsk]) (by simp) ?_ | refine Cov.goG (nid+200) Hs [_,_] [_] [] [] (by omega) hs (by simp [kOK,hsk]) (by simp) ?_ | refine Cov.goG (nid+200) Hs [_,_,_] [_] [] [] (by omega) hs (by simp [kOK,hsk]) (by simp) ?_ | refine Cov.goG (nid+200) Hs [_,_,_,_] [_] [] [] (by omega) hs (by simp [kOK,hsk]) (by simp) ?_ | refine Cov.goG (nid+200) Hs [_,_,_,_,_] [_] [] [] (by omega) hs (by simp [kOK,hsk]) (by simp) ?_ | refine Cov.goG (nid+200) Hs [_,_,_,_,_,_] [_] [] [] (by omega) hs (by simp [kOK,hsk]) (by simp) ?_ | refine Cov.goG (nid+200) Hs [_,_,_,_,_,_,_] [_] [] [] (by omega) hs (by simp [kOK,hsk]) (by simp) ?_ | refine Cov.goG (nid+200) Hs [_,_,_,_,_,_,_,_] [_] [] [] (by omega) hs (by simp [kOK,hsk]) (by simp) ?_ | refine Cov.goG (nid+200) Hs [_,_,_,_,_,_,_,_,_] [_] [] [] (by omega) hs (by simp [kOK,hsk]) (by simp) ?_ | refine Cov.goG (nid+200) Hs [_,_,_,_,_,_,_,_,_,_] [_] [] [] (by omega) hs (by simp [kOK,hsk]) (by simp) ?_ | refine Cov.goG (nid+200) Hs [_,_,_,_,_,_,_,_,_,_,_] [_] [] [] (by omega) hs (by simp [kOK,hsk]) (by simp) ?_ | refine Cov.goG (nid+200) Hs [_,_,_,_,_,_,_,_,_,_,_,_] [_] [] [] (by omega) hs (by simp [kOK,hsk]) (by simp) ?_ | refine Cov.goG (nid+200) Hs [_,_,_,_,_,_,_,_,_,_,_,_,_] [_] [] [] (by omega) hs (by simp [kOK,hsk]) (by simp) ?_ | refine Cov.goG (nid+200) Hs [_,_,_,_,_,_,_,_,_,_,_,_,_,_] [_] [] [] (by omega) hs (by simp [kOK,hsk]) (by simp) ?_ | refine Cov.goG (nid+200) Hs [_,_,_,_,_,_,_,_,_,_,_,_,_,_,_] [_] [] [] (by omega) hs (by simp [kOK,hsk]) (by simp) ?_ | refine Cov.goG (nid+200) Hs [_,_,_,_,_,_,_,_,_,_,_,_,_,_,_,_] [_] [] [] (by omega) hs (by simp [kOK,hsk]) (by simp) ?_ | refine Cov.goG (nid+200) Hs [_,_,_,_,_,_,_,_,_,_,_,_,_,_,_,_,_] [_] [] [] (by omega) hs (by simp [kOK,hsk]) (by simp) ?_ | refine Cov.goG (nid+200) Hs [_,_,_,_,_,_,_,_,_,_,_,_,_,_,_,_,_,_] [_] [] [] (by omega) hs (by simp [kOK,hsk]) (by simp) ?_ | refine Cov.goG (nid+200) Hs [_,_,_,_,_,_,_,_,_,_,_,_,_,_,_,_,_,_,_] [_] [] [] (by omega) hs (by simp [kOK,hsk]) (by simp) ?_ | refine Cov.goG (nid+200) Hs [_,_,_,_,_,_,_,_,_,_,_,_,_,_,_,_,_,_,_,_] [_] [] [] (by omega) hs (by simp [kOK,hsk]) (by simp) ?_ | refine Cov.goG (nid+200) Hs [_,_,_,_,_,_,_,_,_,_,_,_,_,_,_,_,_,_,_,_,_] [_] [] [] (by omega) hs (by simp [kOK,hsk]) (by simp) ?_ | refine Cov.goG (nid+200) Hs [_,_,_,_,_,_,_,_,_,_,_,_,_,_,_,_,_,_,_,_,_,_] [_] [] [] (by omega) hs (by simp [kOK,hsk]) (by simp) ?_ | refine Cov.goG (nid+200) Hs [_,_,_,_,_,_,_,_,_,_,_,_,_,_,_,_,_,_,_,_,_,_,_] [_] [] [] (by omega) hs (by simp [kOK,hsk]) (by simp) ?_
  simp [cvT,step,res,e1,e2,e3,e4,e5,e6,e7,e8,e9,strmC]
 ·have:kk=0∨kk=1∨kk=2∨kk=3:=by omega
  rcases this with rfl | rfl | rfl | rfl
  ·exact k0
  ·exact k1
  ·exact k2
  ·exact k3
end Go.Proofs.YtahjohieahehjaaGreatDoor
namespace Go.Proofs.YtahjohieahehjaaGreatDoor
open Go.RowKit
structure DvX where
 n0:Bool
 n1:Nat→Bool
 n2:Nat→Bool
 D:List Dev
 q:Nat
structure DevB (most:Nat) (D:List Dev):Prop where
 len:D.length≤most
 ok:∀ d∈D,DevOk d
theorem fam_rg (s nid q:Nat) (nl:Bool) (A:List Int) (D:List Dev) (h:s<nid) (hD:D.length≤3) {k:Nat} (hk:k<D.length):getH ([(s,strmC nl A q)]++devHs nid D) (nid+(100+2 * k))=arrRg (D.getD k dev0).regs:=by
 obtain ⟨e1,e2,e3,e4,e5,e6,e7,e8,e9⟩:=id_all h
 have hk3:k=0∨k=1∨k=2:=by omega
 unfold devHs famD inRg inIn
 rcases hk3 with rfl | rfl | rfl <;> simp -dsimp only [aqA,↓seqK,↓blkK,↓loopK,step,stepBin,eqB,Nat.add_assoc nid,↓reduceIte,simprocAttr,LN_succ,e1,e2,e3,e4,e5,e6,e7,e8,e9,if_pos hk]
theorem fam_in (s nid q:Nat) (nl:Bool) (A:List Int) (D:List Dev) (h:s<nid) (hD:D.length≤3) {k:Nat} (hk:k<D.length):getH ([(s,strmC nl A q)]++devHs nid D) (nid+(101+2 * k))=arrIn (D.getD k dev0).ins:=by
 obtain ⟨e1,e2,e3,e4,e5,e6,e7,e8,e9⟩:=id_all h
 have hk3:k=0∨k=1∨k=2:=by omega
 unfold devHs famD inRg inIn
 rcases hk3 with rfl | rfl | rfl <;> simp -dsimp only [aqA,↓seqK,↓blkK,↓loopK,step,stepBin,eqB,Nat.add_assoc nid,↓reduceIte,simprocAttr,LN_succ,e1,e2,e3,e4,e5,e6,e7,e8,e9,if_pos hk]
set_option maxHeartbeats 4000000 in
theorem devs_end (s nid p q q0 most:Nat) (nl:Bool) (A:List Int) (D:List Dev) (h:s<nid) (hB:DevB most D) (hm:most≤3) (hq:q≤q0) :
  SR Tryz.prog (dropV 5 a11.body) ⟨[(5,.sl (nid+24) 0 D.length)],[(s,strmC nl A q)]++devHs nid D,nid+15000,nid⟩ (fun e st=>∃ x:DvX,(DevB most x.D∧x.q≤q0)∧RetOK a11.res [(s,strmC nl A p)] nid (.lit x.n0 x.D.length (devP x.n1 x.n2 x.D)) [(s,strmC nl A x.q)] e st) .mk:=by
 obtain ⟨e1,e2,e3,e4,e5,e6,e7,e8,e9⟩:=id_all h
 have hD3:D.length≤3:=by have:=hB.len; omega
 have hr:=fun k (hk:k<D.length)=>fam_rg s nid q nl A D h hD3 hk
 have hi:=fun k (hk:k<D.length)=>fam_in s nid q nl A D h hD3 hk
 refine SR.freezeO [nid+100,nid+101,nid+102,nid+103,nid+104,nid+105] (nid+24) 57 D.length [.s fun i=>(D.getD i dev0).name,.i .i64 fun i=>(D.getD i dev0).long,.i .i64 fun i=>(D.getD i dev0).id,.o (fun k=>nid+(100+2 * k)) (fun k=>(D.getD k dev0).regs.length),.o (fun k=>nid+(101+2 * k)) (fun k=>(D.getD k dev0).ins.length)] ?_ ?_ ?_ (fun n1 hn1=>?_)
 ·unfold devHs arrD
  simp only [List.cons_append,List.nil_append,aqA,↓seqK,↓blkK,↓loopK,step,stepBin,eqB,Nat.add_assoc nid,↓reduceIte,simprocAttr,LN_succ,e1,e2,e3,e4,e5,e6,e7,e8,e9]
 ·simp
 ·intro c hc
  simp only [List.mem_cons,List.not_mem_nil,or_false] at hc
  rcases hc with rfl | rfl | rfl | rfl | rfl
  ·trivial
  ·trivial
  ·trivial
  ·intro k hk
   have hk6:k=0∨k=1∨k=2:=by omega
   refine ⟨?_,_,_,_,hr k hk,rfl⟩
   rcases hk6 with rfl | rfl | rfl <;> simp
  ·intro k hk
   have hk6:k=0∨k=1∨k=2:=by omega
   refine ⟨?_,_,_,_,hi k hk,rfl⟩
   rcases hk6 with rfl | rfl | rfl <;> simp
 have hco:∀ k,k<D.length→colsAt ([(s,strmC nl A q)]++devHs nid D) (nid+(100+2 * k))=[.s fun j=>((D.getD k dev0).regs.getD j reg0).1,.i .i64 fun j=>((D.getD k dev0).regs.getD j reg0).2]:=fun k hk=>by
  unfold colsAt
  rw [hr k hk]
  rfl
 have hci:∀ k,k<D.length→colsAt ([(s,strmC nl A q)]++devHs nid D) (nid+(101+2 * k))=[.s fun j=>((D.getD k dev0).ins.getD j ins0).1,.s fun j=>((D.getD k dev0).ins.getD j ins0).2]:=fun k hk=>by
  unfold colsAt
  rw [hi k hk]
  rfl
 simp only [List.map_cons,List.map_nil,oCol]
 generalize hCA:colsAt ([(s,strmC nl A q)]++devHs nid D)=CA at *
 clear hn1 hr hi
 refine SR.cov (t':=.mk) (st':=⟨[(5,.sl (nid+24) 0 D.length)],[(s,strmC nl A q),(nid+24,some (.arr 57 D.length (devP (fun k=>n1 (nid+(100+2 * k))) (fun k=>n1 (nid+(101+2 * k))) D)))],nid+15000,nid⟩) (Cov.go [] [] ?_) ?_
 ·unfold devHs arrD strmC devP
  simp [cvT,step,res,e1,e2,e3,e4,e5,e6,e7,e8,e9,frzS,frzH,frzBlk,lends,lend,kill,noOs,-List.getD_eq_getElem?_getD]
  exact ⟨ColEq.l fun k hk=>⟨rfl,rfl,by rw [hco k hk]; exact ColsEq.refl _ _⟩,ColEq.l fun k hk=>⟨rfl,rfl,by rw [hci k hk]; exact ColsEq.refl _ _⟩⟩
 unfold devP
 refine SR.freezeB [nid+24] (fun n2=>?_)
 simp only [frzS,frzH,frzBlk,lends,lend,kill,strmC,noOs,aqA,↓seqK,↓blkK,↓loopK,step,stepBin,eqB,Nat.add_assoc nid,↓reduceIte,simprocAttr,LN_succ,e1,e2,e3,e4,e5,e6,e7,e8,e9]
 clear hco hci hCA
 simp only [a11,dropV]
 refine SR.run (t:=.mk) ?_
 simp -dsimp only [aqA,↓seqK,↓blkK,↓loopK,step,stepBin,eqB,Nat.add_assoc nid,↓reduceIte,simprocAttr,e1,e2,e3,e4,e5,e6,e7,e8,e9]
 refine ⟨⟨n2 (nid+24),fun k=>n1 (nid+(100+2 * k)),fun k=>n1 (nid+(101+2 * k)),D,q⟩,⟨hB,hq⟩,RetOK.go [] [] (.inl rfl) ?_⟩
 simp [a11,cvT,step,res,e1,e2,e3,e4,e5,e6,e7,e8,e9,strmC,devP,ColsEq.refl,-List.getD_eq_getElem?_getD]
end Go.Proofs.YtahjohieahehjaaGreatDoor
namespace Go.Proofs.YtahjohieahehjaaGreatDoor
open Go.RowKit
theorem Cov.sub {s s':Slots} {H H':Heap} {n n' b:Nat} (hn:n≤n') (hs:SlotsIn s s') (hH:subH H' H):Cov ⟨s,H,n,b⟩ ⟨s',H',n',b⟩:=fun C nt Y m a w h=>by
 refine ⟨Y,m,h.size,h.defers,fun i p hp hne=>?_,(HSF.some_sub h.heap hH).mono (fun id hid=>Nat.le_trans hn hid),h.base⟩
 rcases hs.get i with e | e
 ·exact absurd (hp.symm.trans e) hne
 ·exact h.slots i p (e.symm.trans hp) hne
theorem subH_pre {s:Nat} {c:Option ABlk} {F X:Heap} (hX:∀ id∈keys X,id=s):subH ((s,c)::F) ((s,c)::(X++F)):=fun id b h=>by
 simp only [getH] at h ⊢
 cases hh:(s==id)
 ·rw [hh] at h
  simp only [cond_false] at h ⊢
  rw [getH_appC]
  cases hk:(keys X).contains id
  ·exact h
  ·exfalso
   have h1:=hX id (by simpa using hk)
   subst h1
   simp at hh
 ·rw [hh] at h
  exact h
theorem subH_front (Y Z:Heap):subH Y (Y++Z):=fun id b h=>by
 rw [getH_appC]
 cases hk:(keys Y).contains id
 ·have:=getH_key h
  rw [hk] at this
  cases this
 ·exact h
theorem Scoped.lowHeap {b:Nat} {Hs:Heap} (h:Scoped b Hs):lowHeap b Hs:=⟨h.lt,h.blk⟩
theorem lowHeap_cons {b i:Nat} {c:Option ABlk} {Hs:Heap} (hi:i<b) (hc:lowBlk b c=true) (h:lowHeap b Hs):lowHeap b ((i,c)::Hs):=by
 refine ⟨fun id hid=>?_,fun id x hx=>?_⟩
 ·simp only [keys,List.map_cons,List.mem_cons] at hid
  rcases hid with rfl | hid
  ·exact hi
  ·exact h.1 id hid
 ·simp only [getH] at hx
  cases hh:(i==id)
  ·rw [hh] at hx; exact h.2 id x hx
  ·rw [hh] at hx
   simp only [cond_true] at hx
   rw [hx] at hc
   exact hc
theorem lowHeap_app {b:Nat}:∀ {X Y:Heap},lowHeap b X→lowHeap b Y→lowHeap b (X++Y)
 | [],Y,_,h=>h
 | (i,c)::X,Y,hx,hy=>by
  have hX:lowHeap b X∨True:=.inr trivial
  refine ⟨fun id hid=>?_,fun id x hg=>?_⟩
  ·have hk:keys ((i,c)::X++Y)=keys ((i,c)::X)++keys Y:=by simp [keys]
   rw [hk] at hid
   rcases List.mem_append.1 hid with hid | hid
   ·exact hx.1 id hid
   ·exact hy.1 id hid
  ·rw [getH_appC] at hg
   cases hk:(keys ((i,c)::X)).contains id
   ·rw [hk] at hg; exact hy.2 id x hg
   ·rw [hk] at hg; exact hx.2 id x hg
theorem spoil_later (s nid n:Nat) (nl:Bool) (A:List Int) (q I:Nat) (D:List Dev) (h:s<nid) (hn:nid+200≤n) (hq:q≤1099500002000) (hA:A.length≤17592186044416) (hI:I<D.length) (hD:D.length≤3) (hG:∀ d∈D,DevG d) :
  ACallI Tryz.prog 58 [.ptr s 0,.arp (nid+24) I 0] ([(s,strmC nl A q)]++devHs nid D) n (spPost D q) (fun _=>.tup []) (fun x=>[(s,strmC nl A x.q)]++devHs nid x.D):=by
 have hl:∀ (q:Nat) (D:List Dev),D.length≤3→lowHeap (nid+200) ([(s,strmC nl A q)]++devHs nid D):=fun q D hD=>lowHeap_cons (by omega) (by rfl) (devHs_scoped nid D hD).lowHeap
 refine (spoil_D s nid nl A q I D h hq hA hI hD hG).later hn ?_ (hl q D hD) (fun i hi=>rfl) (fun i hi=>lowHeap_app (hl _ _ (by have:=hi.1; omega)) (hl q D hD))
 simp [lowAll,idsOfs,idsOf]
 omega
set_option maxHeartbeats 16000000 in
theorem devices_I (s nid:Nat) (nl:Bool) (A:List Int) (p most:Nat) (h:s<nid) (hp:p≤1099500000000) (hA:A.length≤17592186044416) (h1:1≤most) (h3:most≤3) :
  ACallI Tryz.prog 11 [.ptr s 0,.int .i64 most] [(s,strmC nl A p)] nid (fun x:DvX=>DevB most x.D∧x.q≤p+60) (fun x=>.lit x.n0 x.D.length (devP x.n1 x.n2 x.D)) (fun x=>[(s,strmC nl A x.q)]):=by
 obtain ⟨e1,e2,e3,e4,e5,e6,e7,e8,e9⟩:=id_all h
 have hend:=fun (q:Nat) D hB hq=>devs_end s nid p q (p+60) most nl A D h hB h3 hq
 have hstep:=fun (n0:Bool) (q n:Nat) D hq hk hn Q=>dev_step s nid nl n0 A q n D h hq hA hk hn Q
 refine acallI_sr c11 (by simp [a11]) ?_
 simp only [a11,dropV,headV,roundV] at *
 refine SR.seq ?_
 simp -dsimp only [aqA,↓seqK,↓blkK,↓loopK,step,stepBin,eqB,Nat.add_assoc nid,↓reduceIte,simprocAttr,e1,e2,e3,e4,e5,e6,e7,e8,e9]
 refine SR.seq ?_
 simp -dsimp only [aqA,↓seqK,↓blkK,↓loopK,step,stepBin,eqB,Nat.add_assoc nid,↓reduceIte,simprocAttr,e1,e2,e3,e4,e5,e6,e7,e8,e9]
 refine SR.seqW (ι:={x:List Dev × Nat // (1≤x.1.length∧x.1.length≤most)∧(∀ d∈x.1,DevG d)∧x.2≤p+40}) (fun x=>⟨[(5,.sl (nid+24) 0 x.1.1.length),(0,.ptr s 0)],[(s,strmC nl A x.1.2)]++devHs nid x.1.1,nid+10000,nid⟩) ?_ (fun ⟨⟨D,q⟩,⟨hD1,hD2⟩,hG,hq⟩=>?_)
 ·refine SR.seqEx (ι:={n:Nat // 1≤n∧n≤most}) (fun n=>⟨[(18,.sl (nid+8) 0 n.1),(19,.int .i64 n.1),(20,.int .i64 0),(5,.lit true 0 []),(0,.ptr s 0)],[(s,strmC nl A (p+1)),(nid+8,some (.arr 9 3 [.s fun i=>u3L.getD i []]))],nid+500,nid⟩) ?_ (fun ⟨n,hn1,hn2⟩=>?_)
  ·simp -dsimp only [aqA,↓seqK,↓blkK,↓loopK,step,stepBin,eqB,Nat.add_assoc nid,↓reduceIte,simprocAttr,e1,e2,e3,e4,e5,e6,e7,e8,e9,strmC_low]
   have hnd:=rangeV_bd A p (lo:=1) (hi:=most) (by omega)
   obtain ⟨m,hm⟩:∃ m:Nat,rangeV A p 1 most=m:=⟨_,(Int.toNat_of_nonneg (by omega)).symm⟩
   rw [hm] at hnd
   refine CallO.on (range_c s _ nl A p 1 most (by omega) (by omega) hA (by omega) (by omega) (by omega)) (subH_get (by simp only [aqA,↓seqK,↓blkK,↓loopK,step,stepBin,eqB,Nat.add_assoc nid,↓reduceIte,simprocAttr,LN_succ,e1,e2,e3,e4,e5,e6,e7,e8,e9])) ?_
   rw [hm]
   simp -dsimp only [aqA,↓seqK,↓blkK,↓loopK,step,stepBin,eqB,Nat.add_assoc nid,↓reduceIte,simprocAttr,LN_succ,e1,e2,e3,e4,e5,e6,e7,e8,e9,strmC_low]
   refine ⟨⟨by omega,by omega⟩,⟨m,by omega,by omega⟩,Cov.go [] [] ?_⟩
   simp [cvT,step,res,e1,e2,e3,e4,e5,e6,e7,e8,e9,strmC,u3L,-List.getD_eq_getElem?_getD]
  simp only
  refine SR.freezeB [nid+8] (fun n9=>?_)
  simp only [frzS,frzH,frzBlk,lends,lend,kill,strmC,noOs,aqA,↓seqK,↓blkK,↓loopK,step,stepBin,eqB,Nat.add_assoc nid,↓reduceIte,simprocAttr,LN_succ,e1,e2,e3,e4,e5,e6,e7,e8,e9]
  generalize n9 (nid+8)=n0
  refine SR.block ?_
  refine SR.loopP (fun x:List Dev × Nat=>x.1.length≤n∧(∀ d∈x.1,DevG d)∧x.2≤p+1+12 * x.1.length) (fun x=>⟨[(20,.int .i64 x.1.length),(19,.int .i64 n),(18,.lit n0 n [.s fun i=>u3L.getD i []]),(5,.sl (nid+24) 0 x.1.length),(0,.ptr s 0)],[(s,strmC nl A x.2)]++devHs nid x.1,nid+1196,nid⟩) (fun x=>n+1 - x.1.length) ([],p+1) ⟨by simp,by simp,by simp⟩ (Cov.go [] [(nid+24,5)] ?_) (fun ⟨D,q⟩ hD=>?_)
  ·simp [cvT,step,res,e1,e2,e3,e4,e5,e6,e7,e8,e9,strmC,devHs,famD,inRg,inIn,arrD,-List.getD_eq_getElem?_getD]
  obtain ⟨hD1,hG,hq⟩:=hD
  simp only at hD1 hG hq
  have hs:=devHs_scoped nid D (by omega)
  have hsk:=devHs_off s nid D h
  refine SR.seq ?_
  simp -dsimp only [aqA,↓seqK,↓blkK,↓loopK,step,stepBin,eqB,Nat.add_assoc nid,↓reduceIte,simprocAttr,LN_succ,e1,e2,e3,e4,e5,e6,e7,e8,e9,strmC_low]
  refine SR.seq ?_
  simp -dsimp only [aqA,↓seqK,↓blkK,↓loopK,step,stepBin,eqB,Nat.add_assoc nid,↓reduceIte,simprocAttr,LN_succ,e1,e2,e3,e4,e5,e6,e7,e8,e9,strmC_low]
  refine S2.dec (fun h3=>?_) (fun h3=>?_) <;> simp -dsimp only [aqA,↓seqK,↓blkK,↓loopK,step,stepBin,eqB,Nat.add_assoc nid,↓reduceIte,simprocAttr,LN_succ,e1,e2,e3,e4,e5,e6,e7,e8,e9,strmC_low]
  ·refine SR.cov (t':=.mk) (st':=⟨[(20,.int .i64 D.length),(19,.int .i64 n),(18,.lit n0 n [.s fun i=>u3L.getD i []]),(5,.sl (nid+24) 0 D.length),(0,.ptr s 0)],[(s,strmC nl A q)]++devHs nid D,nid+1200,nid⟩) ?_ ?_
   ·generalize devHs nid D=Hs at *
    first | refine Cov.goG (nid+200) Hs [_] [_] [] [] (by omega) hs (by simp [kOK,hsk]) (by simp) ?_ | refine Cov.goG (nid+200) Hs [_,_] [_] [] [] (by omega) hs (by simp [kOK,hsk]) (by simp) ?_ | refine Cov.goG (nid+200) Hs [_,_,_] [_] [] [] (by omega) hs (by simp [kOK,hsk]) (by simp) ?_ | refine Cov.goG (nid+200) Hs [_,_,_,_] [_] [] [] (by omega) hs (by simp [kOK,hsk]) (by simp) ?_ | refine Cov.goG (nid+200) Hs [_,_,_,_,_] [_] [] [] (by omega) hs (by simp [kOK,hsk]) (by simp) ?_ | refine Cov.goG (nid+200) Hs [_,_,_,_,_,_] [_] [] [] (by omega) hs (by simp [kOK,hsk]) (by simp) ?_ | refine Cov.goG (nid+200) Hs [_,_,_,_,_,_,_] [_] [] [] (by omega) hs (by simp [kOK,hsk]) (by simp) ?_ | refine Cov.goG (nid+200) Hs [_,_,_,_,_,_,_,_] [_] [] [] (by omega) hs (by simp [kOK,hsk]) (by simp) ?_ | refine Cov.goG (nid+200) Hs [_,_,_,_,_,_,_,_,_] [_] [] [] (by omega) hs (by simp [kOK,hsk]) (by simp) ?_ | refine Cov.goG (nid+200) Hs [_,_,_,_,_,_,_,_,_,_] [_] [] [] (by omega) hs (by simp [kOK,hsk]) (by simp) ?_ | refine Cov.goG (nid+200) Hs [_,_,_,_,_,_,_,_,_,_,_] [_] [] [] (by omega) hs (by simp [kOK,hsk]) (by simp) ?_ | refine Cov.goG (nid+200) Hs [_,_,_,_,_,_,_,_,_,_,_,_] [_] [] [] (by omega) hs (by simp [kOK,hsk]) (by simp) ?_ | refine Cov.goG (nid+200) Hs [_,_,_,_,_,_,_,_,_,_,_,_,_] [_] [] [] (by omega) hs (by simp [kOK,hsk]) (by simp) ?_ | refine Cov.goG (nid+200) Hs [_,_,_,_,_,_,_,_,_,_,_,_,_,_] [_] [] [] (by omega) hs (by simp [kOK,hsk]) (by simp) ?_ | refine Cov.goG (nid+200) Hs [_,_,_,_,_,_,_,_,_,_,_,_,_,_,_] [_] [] [] (by omega) hs (by simp [kOK,hsk]) (by simp) ?_ | refine Cov.goG (nid+200) Hs [_,_,_,_,_,_,_,_,_,_,_,_,_,_,_,_] [_] [] [] (by omega) hs (by simp [kOK,hsk]) (by simp) ?_ | refine Cov.goG (nid+200) Hs [_,_,_,_,_,_,_,_,_,_,_,_,_,_,_,_,_] [_] [] [] (by omega) hs (by simp [kOK,hsk]) (by simp) ?_ | refine Cov.goG (nid+200) Hs [_,_,_,_,_,_,_,_,_,_,_,_,_,_,_,_,_,_] [_] [] [] (by omega) hs (by simp [kOK,hsk]) (by simp) ?_ | refine Cov.goG (nid+200) Hs [_,_,_,_,_,_,_,_,_,_,_,_,_,_,_,_,_,_,_] [_] [] [] (by omega) hs (by simp [kOK,hsk]) (by simp) ?_ | refine Cov.goG (nid+200) Hs [_,_,_,_,_,_,_,_,_,_,_,_,_,_,_,_,_,_,_,_] [_] [] [] (by omega) hs (by simp [kOK,hsk]) (by simp) ?_ | refine Cov.goG (nid+200) Hs [_,_,_,_,_,_,_,_,_,_,_,_,_,_,_,_,_,_,_,_,_] [_] [] [] (by omega) hs (by simp [kOK,hsk]) (by simp) ?_ | refine Cov.goG (nid+200) Hs [_,_,_,_,_,_,_,_,_,_,_,_,_,_,_,_,_,_,_,_,_,_] [_] [] [] (by omega) hs (by simp [kOK,hsk]) (by simp) ?_ | refine Cov.goG (nid+200) Hs [_,_,_,_,_,_,_,_,_,_,_,_,_,_,_,_,_,_,_,_,_,_,_] [_] [] [] (by omega) hs (by simp [kOK,hsk]) (by simp) ?_
    simp [cvT,step,res,e1,e2,e3,e4,e5,e6,e7,e8,e9,strmC,-List.getD_eq_getElem?_getD]
   refine SR.seqW _ (hstep n0 q n D (by omega) (by omega) (by omega) _) (fun ⟨⟨d,q2⟩,hd,hq2⟩=>?_)
   simp only at hd hq2
   have hll:(D++[d]).length=D.length+1:=by simp
   have hs2:=devHs_scoped nid (D++[d]) (by omega)
   have hsk2:=devHs_off s nid (D++[d]) h
   refine SR.run (t:=.mk) ?_
   simp -dsimp only [aqA,↓seqK,↓blkK,↓loopK,step,stepBin,eqB,Nat.add_assoc nid,↓reduceIte,simprocAttr,LN_succ,e1,e2,e3,e4,e5,e6,e7,e8,e9,strmC_low]
   refine ⟨by unfold inI64; omega,(D++[d],q2),⟨⟨by simp only [hll]; omega,fun y hy=>?_,by simp only [hll]; omega⟩,by simp only [hll]; omega⟩,?_⟩
   ·rcases List.mem_append.1 hy with hy | hy
    ·exact hG y hy
    ·rw [List.mem_singleton.1 hy]; exact hd
   simp only
   rw [hll]
   clear hs hsk
   have hs:=hs2
   have hsk:=hsk2
   generalize devHs nid (D++[d])=Hs at *
   first | refine Cov.goG (nid+200) Hs [_] [_] [] [] (by omega) hs (by simp [kOK,hsk]) (by simp) ?_ | refine Cov.goG (nid+200) Hs [_,_] [_] [] [] (by omega) hs (by simp [kOK,hsk]) (by simp) ?_ | refine Cov.goG (nid+200) Hs [_,_,_] [_] [] [] (by omega) hs (by simp [kOK,hsk]) (by simp) ?_ | refine Cov.goG (nid+200) Hs [_,_,_,_] [_] [] [] (by omega) hs (by simp [kOK,hsk]) (by simp) ?_ | refine Cov.goG (nid+200) Hs [_,_,_,_,_] [_] [] [] (by omega) hs (by simp [kOK,hsk]) (by simp) ?_ | refine Cov.goG (nid+200) Hs [_,_,_,_,_,_] [_] [] [] (by omega) hs (by simp [kOK,hsk]) (by simp) ?_ | refine Cov.goG (nid+200) Hs [_,_,_,_,_,_,_] [_] [] [] (by omega) hs (by simp [kOK,hsk]) (by simp) ?_ | refine Cov.goG (nid+200) Hs [_,_,_,_,_,_,_,_] [_] [] [] (by omega) hs (by simp [kOK,hsk]) (by simp) ?_ | refine Cov.goG (nid+200) Hs [_,_,_,_,_,_,_,_,_] [_] [] [] (by omega) hs (by simp [kOK,hsk]) (by simp) ?_ | refine Cov.goG (nid+200) Hs [_,_,_,_,_,_,_,_,_,_] [_] [] [] (by omega) hs (by simp [kOK,hsk]) (by simp) ?_ | refine Cov.goG (nid+200) Hs [_,_,_,_,_,_,_,_,_,_,_] [_] [] [] (by omega) hs (by simp [kOK,hsk]) (by simp) ?_ | refine Cov.goG (nid+200) Hs [_,_,_,_,_,_,_,_,_,_,_,_] [_] [] [] (by omega) hs (by simp [kOK,hsk]) (by simp) ?_ | refine Cov.goG (nid+200) Hs [_,_,_,_,_,_,_,_,_,_,_,_,_] [_] [] [] (by omega) hs (by simp [kOK,hsk]) (by simp) ?_ | refine Cov.goG (nid+200) Hs [_,_,_,_,_,_,_,_,_,_,_,_,_,_] [_] [] [] (by omega) hs (by simp [kOK,hsk]) (by simp) ?_ | refine Cov.goG (nid+200) Hs [_,_,_,_,_,_,_,_,_,_,_,_,_,_,_] [_] [] [] (by omega) hs (by simp [kOK,hsk]) (by simp) ?_ | refine Cov.goG (nid+200) Hs [_,_,_,_,_,_,_,_,_,_,_,_,_,_,_,_] [_] [] [] (by omega) hs (by simp [kOK,hsk]) (by simp) ?_ | refine Cov.goG (nid+200) Hs [_,_,_,_,_,_,_,_,_,_,_,_,_,_,_,_,_] [_] [] [] (by omega) hs (by simp [kOK,hsk]) (by simp) ?_ | refine Cov.goG (nid+200) Hs [_,_,_,_,_,_,_,_,_,_,_,_,_,_,_,_,_,_] [_] [] [] (by omega) hs (by simp [kOK,hsk]) (by simp) ?_ | refine Cov.goG (nid+200) Hs [_,_,_,_,_,_,_,_,_,_,_,_,_,_,_,_,_,_,_] [_] [] [] (by omega) hs (by simp [kOK,hsk]) (by simp) ?_ | refine Cov.goG (nid+200) Hs [_,_,_,_,_,_,_,_,_,_,_,_,_,_,_,_,_,_,_,_] [_] [] [] (by omega) hs (by simp [kOK,hsk]) (by simp) ?_ | refine Cov.goG (nid+200) Hs [_,_,_,_,_,_,_,_,_,_,_,_,_,_,_,_,_,_,_,_,_] [_] [] [] (by omega) hs (by simp [kOK,hsk]) (by simp) ?_ | refine Cov.goG (nid+200) Hs [_,_,_,_,_,_,_,_,_,_,_,_,_,_,_,_,_,_,_,_,_,_] [_] [] [] (by omega) hs (by simp [kOK,hsk]) (by simp) ?_ | refine Cov.goG (nid+200) Hs [_,_,_,_,_,_,_,_,_,_,_,_,_,_,_,_,_,_,_,_,_,_,_] [_] [] [] (by omega) hs (by simp [kOK,hsk]) (by simp) ?_
   simp [cvT,step,res,e1,e2,e3,e4,e5,e6,e7,e8,e9,strmC,-List.getD_eq_getElem?_getD]
  ·refine ⟨⟨(D,q),⟨by simp only; omega,by simp only; omega⟩,hG,by simp only; omega⟩,?_⟩
   simp only
   generalize devHs nid D=Hs at *
   first | refine Cov.goG (nid+200) Hs [_] [_] [] [] (by omega) hs (by simp [kOK,hsk]) (by simp) ?_ | refine Cov.goG (nid+200) Hs [_,_] [_] [] [] (by omega) hs (by simp [kOK,hsk]) (by simp) ?_ | refine Cov.goG (nid+200) Hs [_,_,_] [_] [] [] (by omega) hs (by simp [kOK,hsk]) (by simp) ?_ | refine Cov.goG (nid+200) Hs [_,_,_,_] [_] [] [] (by omega) hs (by simp [kOK,hsk]) (by simp) ?_ | refine Cov.goG (nid+200) Hs [_,_,_,_,_] [_] [] [] (by omega) hs (by simp [kOK,hsk]) (by simp) ?_ | refine Cov.goG (nid+200) Hs [_,_,_,_,_,_] [_] [] [] (by omega) hs (by simp [kOK,hsk]) (by simp) ?_ | refine Cov.goG (nid+200) Hs [_,_,_,_,_,_,_] [_] [] [] (by omega) hs (by simp [kOK,hsk]) (by simp) ?_ | refine Cov.goG (nid+200) Hs [_,_,_,_,_,_,_,_] [_] [] [] (by omega) hs (by simp [kOK,hsk]) (by simp) ?_ | refine Cov.goG (nid+200) Hs [_,_,_,_,_,_,_,_,_] [_] [] [] (by omega) hs (by simp [kOK,hsk]) (by simp) ?_ | refine Cov.goG (nid+200) Hs [_,_,_,_,_,_,_,_,_,_] [_] [] [] (by omega) hs (by simp [kOK,hsk]) (by simp) ?_ | refine Cov.goG (nid+200) Hs [_,_,_,_,_,_,_,_,_,_,_] [_] [] [] (by omega) hs (by simp [kOK,hsk]) (by simp) ?_ | refine Cov.goG (nid+200) Hs [_,_,_,_,_,_,_,_,_,_,_,_] [_] [] [] (by omega) hs (by simp [kOK,hsk]) (by simp) ?_ | refine Cov.goG (nid+200) Hs [_,_,_,_,_,_,_,_,_,_,_,_,_] [_] [] [] (by omega) hs (by simp [kOK,hsk]) (by simp) ?_ | refine Cov.goG (nid+200) Hs [_,_,_,_,_,_,_,_,_,_,_,_,_,_] [_] [] [] (by omega) hs (by simp [kOK,hsk]) (by simp) ?_ | refine Cov.goG (nid+200) Hs [_,_,_,_,_,_,_,_,_,_,_,_,_,_,_] [_] [] [] (by omega) hs (by simp [kOK,hsk]) (by simp) ?_ | refine Cov.goG (nid+200) Hs [_,_,_,_,_,_,_,_,_,_,_,_,_,_,_,_] [_] [] [] (by omega) hs (by simp [kOK,hsk]) (by simp) ?_ | refine Cov.goG (nid+200) Hs [_,_,_,_,_,_,_,_,_,_,_,_,_,_,_,_,_] [_] [] [] (by omega) hs (by simp [kOK,hsk]) (by simp) ?_ | refine Cov.goG (nid+200) Hs [_,_,_,_,_,_,_,_,_,_,_,_,_,_,_,_,_,_] [_] [] [] (by omega) hs (by simp [kOK,hsk]) (by simp) ?_ | refine Cov.goG (nid+200) Hs [_,_,_,_,_,_,_,_,_,_,_,_,_,_,_,_,_,_,_] [_] [] [] (by omega) hs (by simp [kOK,hsk]) (by simp) ?_ | refine Cov.goG (nid+200) Hs [_,_,_,_,_,_,_,_,_,_,_,_,_,_,_,_,_,_,_,_] [_] [] [] (by omega) hs (by simp [kOK,hsk]) (by simp) ?_ | refine Cov.goG (nid+200) Hs [_,_,_,_,_,_,_,_,_,_,_,_,_,_,_,_,_,_,_,_,_] [_] [] [] (by omega) hs (by simp [kOK,hsk]) (by simp) ?_ | refine Cov.goG (nid+200) Hs [_,_,_,_,_,_,_,_,_,_,_,_,_,_,_,_,_,_,_,_,_,_] [_] [] [] (by omega) hs (by simp [kOK,hsk]) (by simp) ?_ | refine Cov.goG (nid+200) Hs [_,_,_,_,_,_,_,_,_,_,_,_,_,_,_,_,_,_,_,_,_,_,_] [_] [] [] (by omega) hs (by simp [kOK,hsk]) (by simp) ?_
   simp [cvT,step,res,e1,e2,e3,e4,e5,e6,e7,e8,e9,strmC,-List.getD_eq_getElem?_getD]
 simp only at hD1 hD2 hG hq
 have hs:=devHs_scoped nid D (by omega)
 have hsk:=devHs_off s nid D h
 refine SR.seqEx (ι:={x:List Dev × Nat // x.1.length=D.length∧(∀ d∈x.1,DevOk d)∧x.2≤p+50}) (fun x=>⟨[(5,.sl (nid+24) 0 x.1.1.length),(0,.ptr s 0)],[(s,strmC nl A x.1.2)]++devHs nid x.1.1,nid+12000,nid⟩) ?_ (fun ⟨⟨D2,q2⟩,hl2,hok2,hq2⟩=>?_)
 ·simp -dsimp only [aqA,↓seqK,↓blkK,↓loopK,step,stepBin,eqB,Nat.add_assoc nid,↓reduceIte,simprocAttr,LN_succ,e1,e2,e3,e4,e5,e6,e7,e8,e9,strmC_low]
  refine CallO.on (flip_c s _ nl A q 12 (by omega) (by omega) hA (by omega)) (subH_get (by simp only [aqA,↓seqK,↓blkK,↓loopK,step,stepBin,eqB,Nat.add_assoc nid,↓reduceIte,simprocAttr,LN_succ,e1,e2,e3,e4,e5,e6,e7,e8,e9])) ?_
  simp -dsimp only [aqA,↓seqK,↓blkK,↓loopK,step,stepBin,eqB,Nat.add_assoc nid,↓reduceIte,simprocAttr,LN_succ,e1,e2,e3,e4,e5,e6,e7,e8,e9,strmC_low]
  refine S2.intro (fun h=>?_) (fun h=>?_) <;> simp -dsimp only [aqA,↓seqK,↓blkK,↓loopK,step,stepBin,eqB,Nat.add_assoc nid,↓reduceIte,simprocAttr,LN_succ,e1,e2,e3,e4,e5,e6,e7,e8,e9,strmC_low]
  ·have hnd:=nextV_bd A (q+1) (n:=(D.length:Nat)) (by omega)
   obtain ⟨I,hI⟩:∃ I:Nat,nextV A (q+1) ((D.length:Nat):Int)=I:=⟨_,(Int.toNat_of_nonneg hnd.1).symm⟩
   rw [hI] at hnd
   refine CallO.on (next_c s _ nl A (q+1) _ (by omega) (by omega) hA (by omega)) (subH_get (by simp only [aqA,↓seqK,↓blkK,↓loopK,step,stepBin,eqB,Nat.add_assoc nid,↓reduceIte,simprocAttr,LN_succ,e1,e2,e3,e4,e5,e6,e7,e8,e9])) ?_
   rw [hI]
   have hga:getH (devHs nid D) (nid+24)=some (.arr 57 D.length [.s fun i=>(D.getD i dev0).name,.i .i64 fun i=>(D.getD i dev0).long,.i .i64 fun i=>(D.getD i dev0).id,.o (fun k=>nid+(100+2 * k)) (fun k=>(D.getD k dev0).regs.length),.o (fun k=>nid+(101+2 * k)) (fun k=>(D.getD k dev0).ins.length)]):=by simp [devHs,getH,arrD]
   simp -dsimp only [aqA,↓seqK,↓blkK,↓loopK,step,stepBin,eqB,Nat.add_assoc nid,↓reduceIte,simprocAttr,LN_succ,e1,e2,e3,e4,e5,e6,e7,e8,e9,strmC_low,hga]
   refine ⟨⟨by omega,by omega⟩,?_⟩
   refine CallO.any (spoil_later s nid _ nl A (q+1+1) I D (by assumption) (by omega) (by omega) hA (by omega) (by omega) hG) (subH_pre (X:=[(s,_),(s,_)]) (by simp [keys])) (fun x hx=>?_)
   obtain ⟨x1,x2,x3⟩:=hx
   simp -dsimp only [aqA,↓seqK,↓blkK,↓loopK,step,stepBin,eqB,Nat.add_assoc nid,↓reduceIte,simprocAttr,LN_succ,e1,e2,e3,e4,e5,e6,e7,e8,e9,strmC_low]
   refine ⟨⟨(x.D,x.q),x1,x2,by simp only; omega⟩,?_⟩
   simp only
   rw [← x1]
   refine Cov.sub (by omega) (by simp only [SlotsIn,aqA,↓seqK,↓blkK,↓loopK,step,stepBin,eqB,Nat.add_assoc nid,↓reduceIte,simprocAttr]; try simp) (subH_front ((s,strmC nl A x.q)::devHs nid x.D) _)
  ·refine ⟨⟨(D,q+1),rfl,fun d hd=>(hG d hd).ok,by simp only; omega⟩,?_⟩
   simp only
   generalize devHs nid D=Hs at *
   first | refine Cov.goG (nid+200) Hs [_] [_] [] [] (by omega) hs (by simp [kOK,hsk]) (by simp) ?_ | refine Cov.goG (nid+200) Hs [_,_] [_] [] [] (by omega) hs (by simp [kOK,hsk]) (by simp) ?_ | refine Cov.goG (nid+200) Hs [_,_,_] [_] [] [] (by omega) hs (by simp [kOK,hsk]) (by simp) ?_ | refine Cov.goG (nid+200) Hs [_,_,_,_] [_] [] [] (by omega) hs (by simp [kOK,hsk]) (by simp) ?_ | refine Cov.goG (nid+200) Hs [_,_,_,_,_] [_] [] [] (by omega) hs (by simp [kOK,hsk]) (by simp) ?_ | refine Cov.goG (nid+200) Hs [_,_,_,_,_,_] [_] [] [] (by omega) hs (by simp [kOK,hsk]) (by simp) ?_ | refine Cov.goG (nid+200) Hs [_,_,_,_,_,_,_] [_] [] [] (by omega) hs (by simp [kOK,hsk]) (by simp) ?_ | refine Cov.goG (nid+200) Hs [_,_,_,_,_,_,_,_] [_] [] [] (by omega) hs (by simp [kOK,hsk]) (by simp) ?_ | refine Cov.goG (nid+200) Hs [_,_,_,_,_,_,_,_,_] [_] [] [] (by omega) hs (by simp [kOK,hsk]) (by simp) ?_ | refine Cov.goG (nid+200) Hs [_,_,_,_,_,_,_,_,_,_] [_] [] [] (by omega) hs (by simp [kOK,hsk]) (by simp) ?_ | refine Cov.goG (nid+200) Hs [_,_,_,_,_,_,_,_,_,_,_] [_] [] [] (by omega) hs (by simp [kOK,hsk]) (by simp) ?_ | refine Cov.goG (nid+200) Hs [_,_,_,_,_,_,_,_,_,_,_,_] [_] [] [] (by omega) hs (by simp [kOK,hsk]) (by simp) ?_ | refine Cov.goG (nid+200) Hs [_,_,_,_,_,_,_,_,_,_,_,_,_] [_] [] [] (by omega) hs (by simp [kOK,hsk]) (by simp) ?_ | refine Cov.goG (nid+200) Hs [_,_,_,_,_,_,_,_,_,_,_,_,_,_] [_] [] [] (by omega) hs (by simp [kOK,hsk]) (by simp) ?_ | refine Cov.goG (nid+200) Hs [_,_,_,_,_,_,_,_,_,_,_,_,_,_,_] [_] [] [] (by omega) hs (by simp [kOK,hsk]) (by simp) ?_ | refine Cov.goG (nid+200) Hs [_,_,_,_,_,_,_,_,_,_,_,_,_,_,_,_] [_] [] [] (by omega) hs (by simp [kOK,hsk]) (by simp) ?_ | refine Cov.goG (nid+200) Hs [_,_,_,_,_,_,_,_,_,_,_,_,_,_,_,_,_] [_] [] [] (by omega) hs (by simp [kOK,hsk]) (by simp) ?_ | refine Cov.goG (nid+200) Hs [_,_,_,_,_,_,_,_,_,_,_,_,_,_,_,_,_,_] [_] [] [] (by omega) hs (by simp [kOK,hsk]) (by simp) ?_ | refine Cov.goG (nid+200) Hs [_,_,_,_,_,_,_,_,_,_,_,_,_,_,_,_,_,_,_] [_] [] [] (by omega) hs (by simp [kOK,hsk]) (by simp) ?_ | refine Cov.goG (nid+200) Hs [_,_,_,_,_,_,_,_,_,_,_,_,_,_,_,_,_,_,_,_] [_] [] [] (by omega) hs (by simp [kOK,hsk]) (by simp) ?_ | refine Cov.goG (nid+200) Hs [_,_,_,_,_,_,_,_,_,_,_,_,_,_,_,_,_,_,_,_,_] [_] [] [] (by omega) hs (by simp [kOK,hsk]) (by simp) ?_ | refine Cov.goG (nid+200) Hs [_,_,_,_,_,_,_,_,_,_,_,_,_,_,_,_,_,_,_,_,_,_] [_] [] [] (by omega) hs (by simp [kOK,hsk]) (by simp) ?_ | refine Cov.goG (nid+200) Hs [_,_,_,_,_,_,_,_,_,_,_,_,_,_,_,_,_,_,_,_,_,_,_] [_] [] [] (by omega) hs (by simp [kOK,hsk]) (by simp) ?_
   simp [cvT,step,res,e1,e2,e3,e4,e5,e6,e7,e8,e9,strmC,-List.getD_eq_getElem?_getD]
 simp only at hl2 hok2 hq2
 clear hs hsk
 have hs:=devHs_scoped nid D2 (by omega)
 have hsk:=devHs_off s nid D2 h
 refine SR.seqEx (ι:={D3:List Dev // DevB most D3}) (fun D3=>⟨[(5,.sl (nid+24) 0 D3.1.length)],[(s,strmC nl A (q2+1))]++devHs nid D3.1,nid+15000,nid⟩) ?_ (fun ⟨D3,hB3⟩=>?_)
 ·simp -dsimp only [aqA,↓seqK,↓blkK,↓loopK,step,stepBin,eqB,Nat.add_assoc nid,↓reduceIte,simprocAttr,LN_succ,e1,e2,e3,e4,e5,e6,e7,e8,e9,strmC_low]
  refine CallO.on (flip_c s _ nl A q2 60 (by omega) (by omega) hA (by omega)) (subH_get (by simp only [aqA,↓seqK,↓blkK,↓loopK,step,stepBin,eqB,Nat.add_assoc nid,↓reduceIte,simprocAttr,LN_succ,e1,e2,e3,e4,e5,e6,e7,e8,e9])) ?_
  simp -dsimp only [aqA,↓seqK,↓blkK,↓loopK,step,stepBin,eqB,Nat.add_assoc nid,↓reduceIte,simprocAttr,LN_succ,e1,e2,e3,e4,e5,e6,e7,e8,e9,strmC_low]
  refine S2.intro (fun h=>?_) (fun h=>?_) <;> simp -dsimp only [aqA,↓seqK,↓blkK,↓loopK,step,stepBin,eqB,Nat.add_assoc nid,↓reduceIte,simprocAttr,LN_succ,e1,e2,e3,e4,e5,e6,e7,e8,e9,strmC_low]
  ·refine ⟨⟨[],by simp,by simp⟩,Cov.go [] [(nid+24,5)] ?_⟩
   simp [cvT,step,res,e1,e2,e3,e4,e5,e6,e7,e8,e9,strmC,devHs,famD,inRg,inIn,arrD,-List.getD_eq_getElem?_getD]
  ·refine ⟨⟨D2,by omega,hok2⟩,?_⟩
   generalize devHs nid D2=Hs at *
   first | refine Cov.goG (nid+200) Hs [_] [_] [] [] (by omega) hs (by simp [kOK,hsk]) (by simp) ?_ | refine Cov.goG (nid+200) Hs [_,_] [_] [] [] (by omega) hs (by simp [kOK,hsk]) (by simp) ?_ | refine Cov.goG (nid+200) Hs [_,_,_] [_] [] [] (by omega) hs (by simp [kOK,hsk]) (by simp) ?_ | refine Cov.goG (nid+200) Hs [_,_,_,_] [_] [] [] (by omega) hs (by simp [kOK,hsk]) (by simp) ?_ | refine Cov.goG (nid+200) Hs [_,_,_,_,_] [_] [] [] (by omega) hs (by simp [kOK,hsk]) (by simp) ?_ | refine Cov.goG (nid+200) Hs [_,_,_,_,_,_] [_] [] [] (by omega) hs (by simp [kOK,hsk]) (by simp) ?_ | refine Cov.goG (nid+200) Hs [_,_,_,_,_,_,_] [_] [] [] (by omega) hs (by simp [kOK,hsk]) (by simp) ?_ | refine Cov.goG (nid+200) Hs [_,_,_,_,_,_,_,_] [_] [] [] (by omega) hs (by simp [kOK,hsk]) (by simp) ?_ | refine Cov.goG (nid+200) Hs [_,_,_,_,_,_,_,_,_] [_] [] [] (by omega) hs (by simp [kOK,hsk]) (by simp) ?_ | refine Cov.goG (nid+200) Hs [_,_,_,_,_,_,_,_,_,_] [_] [] [] (by omega) hs (by simp [kOK,hsk]) (by simp) ?_ | refine Cov.goG (nid+200) Hs [_,_,_,_,_,_,_,_,_,_,_] [_] [] [] (by omega) hs (by simp [kOK,hsk]) (by simp) ?_ | refine Cov.goG (nid+200) Hs [_,_,_,_,_,_,_,_,_,_,_,_] [_] [] [] (by omega) hs (by simp [kOK,hsk]) (by simp) ?_ | refine Cov.goG (nid+200) Hs [_,_,_,_,_,_,_,_,_,_,_,_,_] [_] [] [] (by omega) hs (by simp [kOK,hsk]) (by simp) ?_ | refine Cov.goG (nid+200) Hs [_,_,_,_,_,_,_,_,_,_,_,_,_,_] [_] [] [] (by omega) hs (by simp [kOK,hsk]) (by simp) ?_ | refine Cov.goG (nid+200) Hs [_,_,_,_,_,_,_,_,_,_,_,_,_,_,_] [_] [] [] (by omega) hs (by simp [kOK,hsk]) (by simp) ?_ | refine Cov.goG (nid+200) Hs [_,_,_,_,_,_,_,_,_,_,_,_,_,_,_,_] [_] [] [] (by omega) hs (by simp [kOK,hsk]) (by simp) ?_ | refine Cov.goG (nid+200) Hs [_,_,_,_,_,_,_,_,_,_,_,_,_,_,_,_,_] [_] [] [] (by omega) hs (by simp [kOK,hsk]) (by simp) ?_ | refine Cov.goG (nid+200) Hs [_,_,_,_,_,_,_,_,_,_,_,_,_,_,_,_,_,_] [_] [] [] (by omega) hs (by simp [kOK,hsk]) (by simp) ?_ | refine Cov.goG (nid+200) Hs [_,_,_,_,_,_,_,_,_,_,_,_,_,_,_,_,_,_,_] [_] [] [] (by omega) hs (by simp [kOK,hsk]) (by simp) ?_ | refine Cov.goG (nid+200) Hs [_,_,_,_,_,_,_,_,_,_,_,_,_,_,_,_,_,_,_,_] [_] [] [] (by omega) hs (by simp [kOK,hsk]) (by simp) ?_ | refine Cov.goG (nid+200) Hs [_,_,_,_,_,_,_,_,_,_,_,_,_,_,_,_,_,_,_,_,_] [_] [] [] (by omega) hs (by simp [kOK,hsk]) (by simp) ?_ | refine Cov.goG (nid+200) Hs [_,_,_,_,_,_,_,_,_,_,_,_,_,_,_,_,_,_,_,_,_,_] [_] [] [] (by omega) hs (by simp [kOK,hsk]) (by simp) ?_ | refine Cov.goG (nid+200) Hs [_,_,_,_,_,_,_,_,_,_,_,_,_,_,_,_,_,_,_,_,_,_,_] [_] [] [] (by omega) hs (by simp [kOK,hsk]) (by simp) ?_
   simp [cvT,step,res,e1,e2,e3,e4,e5,e6,e7,e8,e9,strmC,-List.getD_eq_getElem?_getD]
 exact hend (q2+1) D3 hB3 (by omega)
end Go.Proofs.YtahjohieahehjaaGreatDoor
namespace Go.Proofs.YtahjohieahehjaaGreatDoor
open Go.RowKit
theorem ColEq.l0 {n:Nat} {nl nl':Nat→Bool} {len len':Nat→Nat} {cols cols':Nat→List Col} (e:∀ j,j<n→nl j=nl' j∧len j=0∧len' j=0):ColEq n (.l nl len cols) (.l nl' len' cols'):=fun Y w j v hj hv=>by
 obtain ⟨h1,h2,h3⟩:=e j hj
 cases hv with
 | @l _ _ _ _ A cap u e2 e3 e4 e5 e6 =>
  have h:=ColRep.l (Y:=Y) (w:=w) (nl:=nl') (len:=len') (cols:=cols') (n:=j) (A:=A) (cap:=cap) u (by rw [← h1]; exact e2) (fun hA=>⟨h3,(e3 hA).2⟩) (by omega) (fun k m hk=>by omega) (fun k m c hk=>by omega)
  rw [h3] at h
  rw [h2]
  exact h
theorem DevOk.s {d:Dev} (h:DevOk d):DevS d :=
 ⟨by have:=h.nm; omega,by have:=h.lg; unfold inI64; omega,by have:=h.idb; unfold inI64; omega,by have:=h.rl; omega,fun x hx=>by have:=h.rs x hx; unfold inI64; omega,by have:=h.il; omega,fun x hx=>by have:=h.is x hx; omega⟩
end Go.Proofs.YtahjohieahehjaaGreatDoor
namespace Go.Proofs.YtahjohieahehjaaGreatDoor
open Go.RowKit
theorem portsH_low (b:Nat):∀ (P:List Port) (i:Nat),i+3 * P.length≤b→∀ x∈portsH i P,x.1<b∧lowBlk b x.2=true
 | [],i,_,x,hx=>by simp [portsH] at hx
 | p::P,i,h,x,hx=>by
  simp only [List.length_cons] at h
  simp only [portsH,List.mem_cons] at hx
  rcases hx with rfl | rfl | rfl | hx
  ·refine ⟨by simp only; omega,?_⟩
   simp [portB,lowBlk_box,lowAll,idsOfs,idsOf,litRg,litIn]
   omega
  ·exact ⟨by simp only; omega,rfl⟩
  ·exact ⟨by simp only; omega,rfl⟩
  ·exact portsH_low b P (i+3) (by omega) x hx
theorem chainH_scoped (c b st:Nat) (P:List Port) (hP:P.length≤3) (h:c+11≤b):Scoped b (chainH c st P):=scoped_list fun x hx=>by
 simp only [chainH,List.mem_cons] at hx
 rcases hx with rfl | rfl | hx
 ·refine ⟨by simp only; omega,?_⟩
  simp [chB,lowBlk_box,lowAll,idsOfs,idsOf]
  omega
 ·refine ⟨by simp only; omega,?_⟩
  show lowCols b P.length _=true
  simp only [lowCols,Bool.and_eq_true,Bool.and_true]
  exact allTo_all fun j hj=>by simp; omega
 ·exact portsH_low b P (c+2) (by omega) x hx
theorem HCov.whole {b hi:Nat} {Hs Z:Heap} (hs:Scoped b Hs) (hb:b≤hi) (hZ:subH Hs Z):HCov hi [] [] Z Hs:=fun id x hx=>by
 have h:=frame_cov (b:=b) (hi:=hi) (ren:=[]) (nils:=[]) (n:=0) Hs [] [] hs (by simp [keys]) rfl rfl hb trivial id x hx
 simp only [List.nil_append] at h
 have e1:getH Z (srcOf [] id)=getH Hs (srcOf [] id):=by
  show getH Z id=getH Hs id
  rw [hx]
  exact hZ id x hx
 rw [e1]
 exact h
theorem RetOK.whole {rs:List ARes} {nid:Nat} {r:PV} {e:AEx} {s:Slots} {n1 b1:Nat} {Hs u Z:Heap} (he:e=.ret∨e=.normal) (hs:Scoped nid u) (hk:∀ id∈keys Hs,id∈keys u) (hZ:subH u Z)
  (h:onAll (readAll ⟨s,Z,n1,b1⟩ rs) fun ps=>PVCov (nid+4) [] [] (retPV ps) r):RetOK rs Hs nid r u e ⟨s,Z,n1,b1⟩:=by
 cases hp:readAll ⟨s,Z,n1,b1⟩ rs with
 | none=>rw [hp] at h; exact h.elim
 | some ps =>
  rw [hp] at h
  have hall:∃ (ren nils:List (Nat × Nat)) (H2:Heap),(∀ id,getH H2 id=getH (u++Hs) id)∧inRange nid (nid+4) ren=true∧inRange nid (nid+4) nils=true∧apart ren nils (liveIds H2)=true∧(liveIds H2).all (fun id=>decide (id<nid+4))=true ∧
    HCov (nid+4) ren nils Z H2∧PVCov (nid+4) ren nils (retPV ps) r:=by
   refine ⟨[],[],u,fun id=>?_,rfl,rfl,frame_apart (b:=nid) (hi:=nid+4) u [] hs rfl rfl rfl,frame_lt (b:=nid) (hi:=nid+4) u [] hs (by omega) rfl,HCov.whole hs (by omega) hZ,h⟩
   rw [getH_appC]
   cases hc:(keys u).contains id
   ·simp only [cond_false]
    have h1:getH u id=none:=by
     cases hg:getH u id with
     | none=>rfl
     | some x=>rw [getH_key hg] at hc; cases hc
    have h2:getH Hs id=none:=by
     cases hg:getH Hs id with
     | none=>rfl
     | some x =>
      have:=hk id (by simpa using getH_key hg)
      rw [show (keys u).contains id=true by simpa using this] at hc
      cases hc
    rw [h1,h2]
   ·rfl
  rcases he with rfl | rfl
  ·show onAll (readAll ⟨s,Z,n1,b1⟩ rs) _
   rw [hp]
   exact hall
  ·show onAll (readAll ⟨s,Z,n1,b1⟩ rs) _
   rw [hp]
   exact hall
theorem subH_refl (H:Heap):subH H H:=fun id b h=>h
theorem Cov.whole {s1 s2:Slots} {n1 n2 b:Nat} {u Z:Heap} (hs:Scoped b u) (hZ:subH u Z) (hn:b≤n2) (h:SlotsCov n2 [] [] s1 s2):Cov ⟨s1,Z,n1,b⟩ ⟨s2,u,n2,b⟩ :=
 Cov.mk [] [] rfl hn rfl rfl (frame_apart (b:=b) (hi:=n2) u [] hs rfl rfl rfl) (frame_lt (b:=b) (hi:=n2) u [] hs hn rfl) (HCov.whole hs hn hZ) h
def chH (c:Nat) (x:ChV):Heap:=chainH c x.st x.P
theorem PortV.s {st:Nat} {p:Port} (h:PortV p):PortS st p:=by
 have hw:=h.sh
 have hb:=h.sh.head
 have:=(bitM_lt hb)
 exact ⟨⟨h.rl,h.il,h.idb,h.lg⟩,by have:=hw.l1; omega,fun _=>hw.l0,fun _=>by omega⟩
def outB1 (st:Nat) (b:UInt8):Int:=if shifts st=true then (bitM b:Nat) else -1
theorem outV_bit {st:Nat} {b:UInt8} (hb:oneBit b=true):outV st b=outB1 st b:=by
 unfold outV outB1
 unfold oneBit at hb
 simp only [Bool.or_eq_true,beq_iff_eq] at hb
 rcases hb with rfl | rfl <;> rfl
theorem tick_c (x:ChV) (tms:Nat) (tdi:UInt8) (n c nid:Nat) (hc:c+11≤nid) (h1:tms<2) (hb:oneBit tdi=true) (hx:ChOk n x) (hl0:0<n) (hl:n≤3) :
  ACall Tryz.prog 62 [.ptr c 0,.int .i64 (tms:Nat),.int .i64 (bitM tdi:Nat)] (chH c x) nid (.int .i64 (outB1 x.st (tickO x tdi))) (chH c (tickV nextN x tms tdi)):=by
 have hm:=bitM_lt hb
 have h:=clock_c x.st x.P tms (bitM tdi) c nid hc h1 hm.1 hx.st (fun p hp=>(hx.ok p hp).s) (by rw [hx.len]; exact hl0) (by rw [hx.len]; exact hl)
 have e:UInt8.ofNat (48+bitM tdi)=tdi:=by rw [← hm.2]; exact UInt8.ofNat_toNat
 rw [e,outV_bit (clockP_V hx.ok hb).2] at h
 exact h
theorem bitW8 {b:UInt8} (hb:oneBit b=true):IntKind.i64.wrap (IntKind.u8.wrap (((b.toNat:Nat):Int) - 48))=(bitM b:Nat):=by
 unfold oneBit at hb
 simp only [Bool.or_eq_true,beq_iff_eq] at hb
 rcases hb with rfl | rfl <;> rfl
theorem bits_at {l:Bs} (h:l.all oneBit=true) {k:Nat} (hk:k<l.length):oneBit (l.getD k 0)=true:=by
 rw [List.getD_eq_getElem?_getD,List.getElem?_eq_getElem hk]
 exact List.all_eq_true.1 h _ (List.getElem_mem _)
end Go.Proofs.YtahjohieahehjaaGreatDoor
namespace Go.Proofs.YtahjohieahehjaaGreatDoor
def bitsFaultV (s:List UInt8):Int:=if 20000<s.length then 2 else if bitsOk s=true then 0 else 9
theorem bitsFaultV_ok {s:List UInt8} (h:bitsFaultV s=0):s.length≤20000∧bitsOk s=true:=by
 unfold bitsFaultV at h
 split at h
 ·cases h
 ·split at h
  ·exact ⟨by omega,by assumption⟩
  ·cases h
end Go.Proofs.YtahjohieahehjaaGreatDoor
namespace Go.Proofs.YtahjohieahehjaaGreatDoor
open Go.RowKit
theorem Cov.heap {s:Slots} {H H':Heap} {n b:Nat} (hH:subH H' H):Cov ⟨s,H,n,b⟩ ⟨s,H',n,b⟩:=fun C nt Y m a w h =>
 ⟨Y,m,h.size,h.defers,h.slots,HSF.some_sub h.heap hH,h.base⟩
theorem bitsFaultT_c (s:List UInt8) (nid:Nat) (hs:s.length≤1099511627776):ACall Tryz.prog 69 [.str s] [] nid (.int .i64 (bitsFaultV s)) []:=by
 refine acall_run c69 (by simp [a69]) ?_
 simp -dsimp only [aqA,↓seqK,↓blkK,↓loopK,step,stepBin,eqB,Nat.reduceBEq,Nat.reduceBeqDiff,Nat.add_assoc nid,Nat.reduceAdd,reduceCtorEq,↓reduceIte,Nat.reduceLeDiff,Nat.reduceBneDiff,Nat.reduceLT,a69]
 refine S2.dec (fun h=>?_) (fun h=>?_) <;> simp -dsimp only [aqA,↓seqK,↓blkK,↓loopK,step,stepBin,eqB,Nat.reduceBEq,Nat.reduceBeqDiff,Nat.add_assoc nid,Nat.reduceAdd,reduceCtorEq,↓reduceIte,Nat.reduceLeDiff,Nat.reduceBneDiff,Nat.reduceLT]
 ·have e:bitsFaultV s=2:=by unfold bitsFaultV; rw [if_pos (by omega)]
  rw [e]
  refine RetOK.pure (.inl rfl) rfl ?_
  simp [cvT,step,res]
 have e:bitsFaultV s=if bitsOk s=true then 0 else 9:=by unfold bitsFaultV; rw [if_neg (by omega)]
 rw [e]
 refine CallO.pure (bits_c s _ hs) ?_
 simp -dsimp only [aqA,↓seqK,↓blkK,↓loopK,step,stepBin,eqB,Nat.reduceBEq,Nat.reduceBeqDiff,Nat.add_assoc nid,Nat.reduceAdd,reduceCtorEq,↓reduceIte,Nat.reduceLeDiff,Nat.reduceBneDiff,Nat.reduceLT]
 cases hb:bitsOk s <;> simp -dsimp only [aqA,↓seqK,↓blkK,↓loopK,step,stepBin,eqB,Nat.reduceBEq,Nat.reduceBeqDiff,Nat.add_assoc nid,Nat.reduceAdd,reduceCtorEq,↓reduceIte,Nat.reduceLeDiff,Nat.reduceBneDiff,Nat.reduceLT]
 ·refine RetOK.pure (.inl rfl) rfl ?_
  simp [cvT,step,res]
 ·refine RetOK.pure (.inl rfl) rfl ?_
  simp [cvT,step,res]
theorem outByte {b:UInt8} (hb:oneBit b=true):IntKind.u8.wrap (48+((bitM b:Nat):Int))=(b.toNat:Nat):=by
 unfold oneBit at hb
 simp only [Bool.or_eq_true,beq_iff_eq] at hb
 rcases hb with rfl | rfl <;> rfl
theorem bits_ok {l:Bs} (h:bitsFaultV l=0):l.all oneBit=true∧l.length≤20000:=by
 obtain ⟨h1,h2⟩:=bitsFaultV_ok h
 exact ⟨h2,h1⟩
end Go.Proofs.YtahjohieahehjaaGreatDoor
namespace Go.Proofs.YtahjohieahehjaaGreatDoor
open Go.RowKit
theorem cloneRg_c (nl:Bool) (R:List (Bs × Int)) (nid:Nat) (hR:R.length≤1000):ACall Tryz.prog 73 [litRg nl R] [] nid (.sl nid 0 R.length) [(nid,arrRg R)]:=by
 refine ACall.nonnil 0 rfl (fun hnl=>?_)
 refine acall_run c73 (by simp [a73]) ?_
 unfold litRg
 simp -dsimp only [aqA,↓seqK,↓blkK,↓loopK,step,stepBin,eqB,Nat.add_assoc nid,↓reduceIte,simprocAttr,LN_succ,a73]
 refine S2.intro (fun h=>?_) (fun h=>?_)
 ·simp -dsimp only [aqA,↓seqK,↓blkK,↓loopK,step,stepBin,eqB,Nat.add_assoc nid,↓reduceIte,simprocAttr,LN_succ]
  have hR0:R=[]:=List.eq_nil_of_length_eq_zero (hnl h)
  subst hR0
  refine RetOK.go [] [(nid,2)] (.inl rfl) ?_
  simp [a73,cvT,step,res,arrRg]
 ·simp -dsimp only [aqA,↓seqK,↓blkK,↓loopK,step,stepBin,eqB,Nat.add_assoc nid,↓reduceIte,simprocAttr,LN_succ]
  refine ⟨⟨by omega,by omega⟩,RetOK.go [(nid,nid+20)] [] (.inl rfl) ?_⟩
  simp [a73,cvT,step,res,arrRg,-List.getD_eq_getElem?_getD]
theorem cloneIn_c (nl:Bool) (R:List (Bs × Bs)) (nid:Nat) (hR:R.length≤1000):ACall Tryz.prog 74 [litIn nl R] [] nid (.sl nid 0 R.length) [(nid,arrIn R)]:=by
 refine ACall.nonnil 0 rfl (fun hnl=>?_)
 refine acall_run c74 (by simp [a74]) ?_
 unfold litIn
 simp -dsimp only [aqA,↓seqK,↓blkK,↓loopK,step,stepBin,eqB,Nat.add_assoc nid,↓reduceIte,simprocAttr,LN_succ,a74]
 refine S2.intro (fun h=>?_) (fun h=>?_)
 ·simp -dsimp only [aqA,↓seqK,↓blkK,↓loopK,step,stepBin,eqB,Nat.add_assoc nid,↓reduceIte,simprocAttr,LN_succ]
  have hR0:R=[]:=List.eq_nil_of_length_eq_zero (hnl h)
  subst hR0
  refine RetOK.go [] [(nid,2)] (.inl rfl) ?_
  simp [a74,cvT,step,res,arrIn]
 ·simp -dsimp only [aqA,↓seqK,↓blkK,↓loopK,step,stepBin,eqB,Nat.add_assoc nid,↓reduceIte,simprocAttr,LN_succ]
  refine ⟨⟨by omega,by omega⟩,RetOK.go [(nid,nid+20)] [] (.inl rfl) ?_⟩
  simp [a74,cvT,step,res,arrIn,-List.getD_eq_getElem?_getD]
mutual
theorem lend_out (H:Heap) (G:List Nat) (nl:Nat→Bool):∀ p:PV,(∀ id∈idsOf p,id ∉ G)→lend H G nl p=p
 | .sl id off n,h=>by
  have:G.contains id=false:=by simpa using h id (by simp [idsOf])
  simp only [lend,this,Bool.false_and,cond_false]
 | .agg ps,h=>by
  simp only [lend]
  rw [lends_out H G nl ps h]
 | .int _ _,_=>rfl
 | .bool _,_=>rfl
 | .str _,_=>rfl
 | .lit _ _ _,_=>rfl
 | .ptr _ _,_=>rfl
 | .nilp,_=>rfl
 | .nili,_=>rfl
 | .elp _ _,_=>rfl
 | .arp _ _ _,_=>rfl
 | .arv _,_=>rfl
 | .tup _,_=>rfl
 | .fn _ _,_=>rfl
 | .mp _,_=>rfl
 | .stp _,_=>rfl
 | .any,_=>rfl
theorem lends_out (H:Heap) (G:List Nat) (nl:Nat→Bool):∀ ps:List PV,(∀ id∈idsOfs ps,id ∉ G)→lends H G nl ps=ps
 | [],_=>rfl
 | p::ps,h=>by
  simp only [lends]
  rw [lend_out H G nl p fun id hid=>h id (by simp [idsOfs,hid]),lends_out H G nl ps fun id hid=>h id (by simp [idsOfs,hid])]
end
theorem frzH_low {c:Nat} (H:Heap) (G:List Nat) (nl:Nat→Bool) (hG:∀ g∈G,c≤g):∀ F:Heap,(∀ x∈F,lowBlk c x.2=true)→frzH H G nl F=F
 | [],_=>rfl
 | (i,none)::F,h=>by
  simp only [frzH]
  rw [frzH_low H G nl hG F fun x hx=>h x (List.mem_cons_of_mem _ hx)]
 | (i,some b)::F,h=>by
  simp only [frzH]
  rw [frzH_low H G nl hG F fun x hx=>h x (List.mem_cons_of_mem _ hx)]
  have hb:=h _ List.mem_cons_self
  cases b with
  | box T cs =>
   have:lends H G nl cs=cs:=lends_out H G nl cs fun id hid hg=>by
    have hb':lowAll c (idsOfs cs)=true:=hb
    have h1:=List.all_eq_true.1 hb' id hid
    simp only [decide_eq_true_eq] at h1
    have:=hG id hg
    omega
   simp only [frzBlk,this]
  | arr T n cols=>rfl
  | map kk dom cc=>rfl
  | mape kk dom cc q sid=>rfl
def mapD (R:List (Bs × Int)) (q:MK):Bool:=R.any fun r=>decide (q=.s r.1)
def mapV (R:List (Bs × Int)) (q:MK):Bs:=R.foldl (fun v r=>if q=.s r.1 then Lib.repeatL [48] r.2.toNat else v) []
theorem mapD_snoc (R:List (Bs × Int)) (r:Bs × Int) (q:MK):mapD (R++[r]) q=if q=.s r.1 then true else mapD R q:=by
 unfold mapD
 rw [List.any_append]
 by_cases h:q=.s r.1 <;> simp [h]
theorem mapV_snoc (R:List (Bs × Int)) (r:Bs × Int) (q:MK):mapV (R++[r]) q=if q=.s r.1 then Lib.repeatL [48] r.2.toNat else mapV R q:=by
 unfold mapV
 rw [List.foldl_append]
 rfl
def port0 (d:Dev) (b1 b2:Bool):Port:=⟨d,b1,b2,[],[48],mapD d.regs,mapV d.regs,mapD d.regs,mapV d.regs⟩
def portsK (D:List Dev) (f:(Nat→Bool) × (Nat→Bool)) (k:Nat):List Port:=(List.range k).map fun j=>port0 (D.getD j dev0) (f.1 j) (f.2 j)
theorem portsK_len (D:List Dev) (f:(Nat→Bool) × (Nat→Bool)) (k:Nat):(portsK D f k).length=k:=by simp [portsK]
theorem portsH_app (i:Nat):∀ (P Q:List Port),portsH i (P++Q)=portsH i P++portsH (i+3 * P.length) Q:=by
 intro P
 induction P generalizing i with
 | nil=>intro Q; rfl
 | cons p P ih =>
  intro Q
  simp only [portsH,List.cons_append,List.length_cons]
  rw [ih (i+3) Q]
  rw [show i+3+3 * P.length=i+3 * (P.length+1) by omega]
theorem portsH_ge:∀ (P:List Port) (i:Nat),∀ x∈portsH i P,i≤x.1
 | [],i,x,hx=>by simp [portsH] at hx
 | p::P,i,x,hx=>by
  simp only [portsH,List.mem_cons] at hx
  rcases hx with rfl | rfl | rfl | hx
  ·exact Nat.le_refl _
  ·simp only; omega
  ·simp only; omega
  ·have:=portsH_ge P (i+3) x hx; omega
def setF (f:(Nat→Bool) × (Nat→Bool)) (k:Nat) (b1 b2:Bool):(Nat→Bool) × (Nat→Bool):=(fun j=>if j=k then b1 else f.1 j,fun j=>if j=k then b2 else f.2 j)
theorem portsK_succ (D:List Dev) (f:(Nat→Bool) × (Nat→Bool)) (k:Nat) (b1 b2:Bool):portsK D (setF f k b1 b2) (k+1)=portsK D f k++[port0 (D.getD k dev0) b1 b2]:=by
 unfold portsK
 rw [List.range_succ,List.map_append]
 congr 1
 ·refine List.map_congr_left fun j hj=>?_
  have:=List.mem_range.1 hj
  have hne:¬ j=k:=by omega
  simp [setF,hne]
 ·simp [setF]
theorem Cov.wholeG (c:Nat) {s1 s2:Slots} {n1 n2 b:Nat} {u Z:Heap} (hbc:b≤c) (hs:Scoped c u) (hZ:subH u Z) (hn:c≤n2) (h:SlotsCov n2 [] [] s1 s2):Cov ⟨s1,Z,n1,b⟩ ⟨s2,u,n2,b⟩ :=
 Cov.mk [] [] rfl (by simp only; omega) rfl rfl (frame_apart (b:=c) (hi:=n2) u [] hs rfl rfl rfl) (frame_lt (b:=c) (hi:=n2) u [] hs hn rfl) (HCov.whole hs hn hZ) h
theorem RetOKW.whole {k:Nat} {rs:List ARes} {nid:Nat} {r:PV} {e:AEx} {s:Slots} {n1 b1:Nat} {u Z:Heap} (he:e=.ret∨e=.normal) (hs:Scoped (nid+k) u) (hZ:subH u Z)
  (h:onAll (readAll ⟨s,Z,n1,b1⟩ rs) fun ps=>PVCov (nid+k) [] [] (retPV ps) r):RetOKW k rs [] nid r u e ⟨s,Z,n1,b1⟩:=by
 cases hp:readAll ⟨s,Z,n1,b1⟩ rs with
 | none=>rw [hp] at h; exact h.elim
 | some ps =>
  rw [hp] at h
  have hall:∃ (ren nils:List (Nat × Nat)) (H2:Heap),(∀ id,getH H2 id=getH (u++[]) id)∧inRange nid (nid+k) ren=true∧inRange nid (nid+k) nils=true∧apart ren nils (liveIds H2)=true∧(liveIds H2).all (fun id=>decide (id<nid+k))=true ∧
    HCov (nid+k) ren nils Z H2∧PVCov (nid+k) ren nils (retPV ps) r :=
   ⟨[],[],u,fun id=>by rw [List.append_nil],rfl,rfl,frame_apart (b:=nid+k) (hi:=nid+k) u [] hs rfl rfl rfl,frame_lt (b:=nid+k) (hi:=nid+k) u [] hs (Nat.le_refl _) rfl,HCov.whole hs (Nat.le_refl _) hZ,h⟩
  rcases he with rfl | rfl
  ·show onAll (readAll ⟨s,Z,n1,b1⟩ rs) _
   rw [hp]
   exact hall
  ·show onAll (readAll ⟨s,Z,n1,b1⟩ rs) _
   rw [hp]
   exact hall
set_option maxHeartbeats 16000000 in
theorem new_I (n0:Bool) (n1 n2:Nat→Bool) (D:List Dev) (nid:Nat) (hD1:1≤D.length) (hD:D.length≤3) (hS:∀ d∈D,DevS d∧∀ r∈d.regs,0≤r.2∧r.2≤1000) (he:devsE D=0) :
  ACallIW Tryz.prog 11 25 [.lit n0 D.length (devP n1 n2 D)] [] nid (fun _:(Nat→Bool) × (Nat→Bool)=>True) (fun _=>.tup [.ptr nid 0,.int .i64 0]) (fun f=>chainH nid 0 (portsK D f D.length)):=by
 have hck:=fun m=>checkDevices_c n0 n1 n2 D m (by omega) (fun d hd=>(hS d hd).1)
 rw [he] at hck
 refine acallIW_sr c25 (by simp [a25]) ?_
 unfold a25
 refine SR.seq ?_
 simp -dsimp only [aqA,↓seqK,↓blkK,↓loopK,step,stepBin,eqB,Nat.add_assoc nid,↓reduceIte,simprocAttr,LN_succ]
 refine SR.seqTo ⟨[(0,.lit n0 D.length (devP n1 n2 D))],[],nid+100,nid⟩ ?_ ?_
 ·simp -dsimp only [aqA,↓seqK,↓blkK,↓loopK,step,stepBin,eqB,Nat.add_assoc nid,↓reduceIte,simprocAttr,LN_succ]
  refine CallO.pure (hck _) ?_
  simp -dsimp only [aqA,↓seqK,↓blkK,↓loopK,step,stepBin,eqB,Nat.add_assoc nid,↓reduceIte,simprocAttr,LN_succ]
  refine Cov.go [] [] ?_
  simp [cvT,step,res,ColsEq.refl]
 refine SR.seqTo ⟨[(5,.ptr nid 0),(0,.lit n0 D.length (devP n1 n2 D))],[(nid,chB 0 (nid+1) 0),(nid+1,some (.arr 98 0 [.q fun k=>nid+2+3 * k]))],nid+200,nid⟩ ?_ ?_
 ·simp -dsimp only [aqA,↓seqK,↓blkK,↓loopK,step,stepBin,eqB,Nat.add_assoc nid,↓reduceIte,simprocAttr,LN_succ]
  refine Cov.go [(nid,nid+104)] [(nid+1,1)] ?_
  simp [cvT,step,res,ColsEq.refl,chB]
 refine SR.seqW (ι:=(Nat→Bool) × (Nat→Bool)) (fun f=>⟨[(5,.ptr nid 0)],chainH nid 0 (portsK D f D.length),nid+9000,nid⟩) ?_ (fun f=>?_)
 rotate_left
 ·have hs:Scoped (nid+11) (chainH nid 0 (portsK D f D.length)):=chainH_scoped nid (nid+11) 0 _ (by rw [portsK_len]; exact hD) (Nat.le_refl _)
  generalize hH:chainH nid 0 (portsK D f D.length)=Hs at *
  refine SR.run (t:=.mk) ?_
  simp -dsimp only [aqA,↓seqK,↓blkK,↓loopK,step,stepBin,eqB,Nat.add_assoc nid,↓reduceIte,simprocAttr,LN_succ]
  refine ⟨f,?_⟩
  rw [hH]
  refine RetOKW.whole (.inl rfl) hs (subH_refl _) ?_
  simp [a25,cvT,step,res]
 have hcol:(fun k=>nid+2+3 * k)=fun k=>nid+(2+3 * k):=by funext k; omega
 have hlow:∀ (f:(Nat→Bool) × (Nat→Bool)) (k:Nat),k<D.length→∀ x∈portsH (nid+2) (portsK D f k),x.1<nid+20∧lowBlk (nid+20) x.2=true:=fun f k hk=>portsH_low (nid+20) _ _ (by rw [portsK_len]; omega)
 refine SR.seqTo ⟨[(20,.int .i64 0),(19,.int .i64 D.length),(18,.lit n0 D.length (devP n1 n2 D)),(5,.ptr nid 0)],[(nid,chB 0 (nid+1) 0),(nid+1,some (.arr 98 0 [.q fun k=>nid+2+3 * k]))],nid+250,nid⟩ ?_ ?_
 ·unfold chB
  simp -dsimp only [aqA,↓seqK,↓blkK,↓loopK,step,stepBin,eqB,Nat.add_assoc nid,↓reduceIte,simprocAttr,LN_succ]
  refine Cov.go [] [] ?_
  simp [cvT,step,res,ColsEq.refl,chB]
 refine SR.block ?_
 refine SR.loopP (fun x:Nat × ((Nat→Bool) × (Nat→Bool))=>x.1≤D.length) (fun x=>⟨[(20,.int .i64 x.1),(19,.int .i64 D.length),(18,.lit n0 D.length (devP n1 n2 D)),(5,.ptr nid 0)],(nid,chB 0 (nid+1) x.1)::(nid+1,some (.arr 98 x.1 [.q fun k=>nid+2+3 * k]))::portsH (nid+2) (portsK D x.2 x.1),nid+300,nid⟩) (fun x=>D.length+1 - x.1) (0,(fun _=>false,fun _=>false)) (by simp) (Cov.go [] [] ?_) (fun ⟨k,f⟩ hk=>?_)
 ·simp [cvT,step,res,ColsEq.refl,chB,portsK,portsH]
 simp only at hk ⊢
 refine SR.seq ?_
 unfold chB
 simp -dsimp only [aqA,↓seqK,↓blkK,↓loopK,step,stepBin,eqB,Nat.add_assoc nid,↓reduceIte,simprocAttr,LN_succ]
 refine SR.seq ?_
 simp -dsimp only [aqA,↓seqK,↓blkK,↓loopK,step,stepBin,eqB,Nat.add_assoc nid,↓reduceIte,simprocAttr,LN_succ]
 refine S2.dec (fun h3=>?_) (fun h3=>?_) <;> simp -dsimp only [aqA,↓seqK,↓blkK,↓loopK,step,stepBin,eqB,Nat.add_assoc nid,↓reduceIte,simprocAttr,LN_succ]
 ·have hkl:k<D.length:=by omega
  have hlf:=hlow f k hkl
  have hm:D.getD k dev0∈D:=by rw [List.getD_eq_getElem?_getD,List.getElem?_eq_getElem hkl]; exact List.getElem_mem _
  obtain ⟨hb,hbr⟩:=hS _ hm
  have hrl:=hb.rl
  have hil:=hb.il
  refine SR.seqW (ι:=Bool × Bool) (fun b=>⟨[(20,.int .i64 k),(19,.int .i64 D.length),(18,.lit n0 D.length (devP n1 n2 D)),(5,.ptr nid 0)],(nid,chB 0 (nid+1) (k+1))::(nid+1,some (.arr 98 (k+1) [.q fun k=>nid+(2+3 * k)]))::portsH (nid+2) (portsK D (setF f k b.1 b.2) (k+1)),nid+4000,nid⟩) ?_ (fun ⟨b1,b2⟩=>?_)
  rotate_left
  ·simp only
   have hsc:Scoped (nid+20) ((nid,chB 0 (nid+1) (k+1))::(nid+1,some (.arr 98 (k+1) [.q fun k=>nid+(2+3 * k)]))::portsH (nid+2) (portsK D (setF f k b1 b2) (k+1))):=by
    have h:=chainH_scoped nid (nid+20) 0 (portsK D (setF f k b1 b2) (k+1)) (by rw [portsK_len]; omega) (by omega)
    unfold chainH at h
    rw [portsK_len,hcol] at h
    exact h
   unfold chB at hsc ⊢
   refine SR.run (t:=.mk) ?_
   generalize hH:portsH (nid+2) (portsK D (setF f k b1 b2) (k+1))=Hs at *
   simp -dsimp only [aqA,↓seqK,↓blkK,↓loopK,step,stepBin,eqB,Nat.add_assoc nid,↓reduceIte,simprocAttr,LN_succ]
   refine ⟨by unfold inI64; omega,(k+1,setF f k b1 b2),⟨by omega,by omega⟩,?_⟩
   simp only
   rw [hH]
   refine Cov.wholeG (nid+20) (by omega) hsc (subH_refl _) (by omega) ?_
   simp [cvT,step,res,ColsEq.refl]
  have hq:∀ j,j<k→∀ a,30≤a→(nid+a==nid+(2+3 * j))=false:=fun j hj a ha=>by rw [beq_eq_false_iff_ne]; omega
  have hs:Scoped (nid+20) (portsH (nid+2) (portsK D f k)):=scoped_list hlf
  have hge:=portsH_ge (portsK D f k) (nid+2)
  have hz:nid ∉ keys (portsH (nid+2) (portsK D f k))∧nid+1 ∉ keys (portsH (nid+2) (portsK D f k)):=by
   constructor <;> intro hid <;> simp only [keys,List.mem_map] at hid <;> obtain ⟨x,hx,hx2⟩:=hid <;> have:=hge x hx <;> omega
  have hfz:∀ (H:Heap) (nl:Nat→Bool),frzH H [nid+410,nid+411] nl (portsH (nid+2) (portsK D f k))=portsH (nid+2) (portsK D f k):=fun H nl=>frzH_low (c:=nid+20) H _ nl (by simp) _ fun x hx=>(hlf x hx).2
  have hsucc:=fun b1 b2=>portsK_succ D f k b1 b2
  have hcat:=fun b1 b2=>portsH_app (nid+2) (portsK D f k) [port0 (D.getD k dev0) b1 b2]
  rw [portsK_len] at hcat
  have hnew:∀ b1 b2,portsH (nid+2) (portsK D (setF f k b1 b2) (k+1))=portsH (nid+2) (portsK D f k)++portsH (nid+2+3 * k) [port0 (D.getD k dev0) b1 b2]:=fun b1 b2=>by rw [hsucc,hcat]
  clear hsucc hcat
  generalize hH:portsH (nid+2) (portsK D f k)=Hs at *
  refine SR.block ?_
  refine SR.seqTo ⟨[(7,.ptr (nid+400) 0),(20,.int .i64 k),(19,.int .i64 D.length),(18,.lit n0 D.length (devP n1 n2 D)),(5,.ptr nid 0)],[(nid+400,boxL (n1 k) (n2 k) (D.getD k dev0)),(nid,chB 0 (nid+1) k),(nid+1,some (.arr 98 k [.q fun k=>nid+(2+3 * k)]))]++Hs,nid+700,nid⟩ ?_ ?_
  ·unfold devP
   simp -dsimp only [aqA,↓seqK,↓blkK,↓loopK,step,stepBin,eqB,Nat.add_assoc nid,↓reduceIte,simprocAttr,LN_succ]
   refine ⟨⟨by omega,by omega⟩,?_⟩
   first | refine Cov.goG (nid+20) Hs [_] [_,_,_] [(nid+400,nid+312)] [] (by omega) hs (by simp [kOK,hz]) (by simp) ?_ | refine Cov.goG (nid+20) Hs [_,_] [_,_,_] [(nid+400,nid+312)] [] (by omega) hs (by simp [kOK,hz]) (by simp) ?_ | refine Cov.goG (nid+20) Hs [_,_,_] [_,_,_] [(nid+400,nid+312)] [] (by omega) hs (by simp [kOK,hz]) (by simp) ?_ | refine Cov.goG (nid+20) Hs [_,_,_,_] [_,_,_] [(nid+400,nid+312)] [] (by omega) hs (by simp [kOK,hz]) (by simp) ?_ | refine Cov.goG (nid+20) Hs [_,_,_,_,_] [_,_,_] [(nid+400,nid+312)] [] (by omega) hs (by simp [kOK,hz]) (by simp) ?_ | refine Cov.goG (nid+20) Hs [_,_,_,_,_,_] [_,_,_] [(nid+400,nid+312)] [] (by omega) hs (by simp [kOK,hz]) (by simp) ?_ | refine Cov.goG (nid+20) Hs [_,_,_,_,_,_,_] [_,_,_] [(nid+400,nid+312)] [] (by omega) hs (by simp [kOK,hz]) (by simp) ?_ | refine Cov.goG (nid+20) Hs [_,_,_,_,_,_,_,_] [_,_,_] [(nid+400,nid+312)] [] (by omega) hs (by simp [kOK,hz]) (by simp) ?_ | refine Cov.goG (nid+20) Hs [_,_,_,_,_,_,_,_,_] [_,_,_] [(nid+400,nid+312)] [] (by omega) hs (by simp [kOK,hz]) (by simp) ?_ | refine Cov.goG (nid+20) Hs [_,_,_,_,_,_,_,_,_,_] [_,_,_] [(nid+400,nid+312)] [] (by omega) hs (by simp [kOK,hz]) (by simp) ?_ | refine Cov.goG (nid+20) Hs [_,_,_,_,_,_,_,_,_,_,_] [_,_,_] [(nid+400,nid+312)] [] (by omega) hs (by simp [kOK,hz]) (by simp) ?_ | refine Cov.goG (nid+20) Hs [_,_,_,_,_,_,_,_,_,_,_,_] [_,_,_] [(nid+400,nid+312)] [] (by omega) hs (by simp [kOK,hz]) (by simp) ?_ | refine Cov.goG (nid+20) Hs [_,_,_,_,_,_,_,_,_,_,_,_,_] [_,_,_] [(nid+400,nid+312)] [] (by omega) hs (by simp [kOK,hz]) (by simp) ?_ | refine Cov.goG (nid+20) Hs [_,_,_,_,_,_,_,_,_,_,_,_,_,_] [_,_,_] [(nid+400,nid+312)] [] (by omega) hs (by simp [kOK,hz]) (by simp) ?_ | refine Cov.goG (nid+20) Hs [_,_,_,_,_,_,_,_,_,_,_,_,_,_,_] [_,_,_] [(nid+400,nid+312)] [] (by omega) hs (by simp [kOK,hz]) (by simp) ?_ | refine Cov.goG (nid+20) Hs [_,_,_,_,_,_,_,_,_,_,_,_,_,_,_,_] [_,_,_] [(nid+400,nid+312)] [] (by omega) hs (by simp [kOK,hz]) (by simp) ?_ | refine Cov.goG (nid+20) Hs [_,_,_,_,_,_,_,_,_,_,_,_,_,_,_,_,_] [_,_,_] [(nid+400,nid+312)] [] (by omega) hs (by simp [kOK,hz]) (by simp) ?_ | refine Cov.goG (nid+20) Hs [_,_,_,_,_,_,_,_,_,_,_,_,_,_,_,_,_,_] [_,_,_] [(nid+400,nid+312)] [] (by omega) hs (by simp [kOK,hz]) (by simp) ?_ | refine Cov.goG (nid+20) Hs [_,_,_,_,_,_,_,_,_,_,_,_,_,_,_,_,_,_,_] [_,_,_] [(nid+400,nid+312)] [] (by omega) hs (by simp [kOK,hz]) (by simp) ?_ | refine Cov.goG (nid+20) Hs [_,_,_,_,_,_,_,_,_,_,_,_,_,_,_,_,_,_,_,_] [_,_,_] [(nid+400,nid+312)] [] (by omega) hs (by simp [kOK,hz]) (by simp) ?_ | refine Cov.goG (nid+20) Hs [_,_,_,_,_,_,_,_,_,_,_,_,_,_,_,_,_,_,_,_,_] [_,_,_] [(nid+400,nid+312)] [] (by omega) hs (by simp [kOK,hz]) (by simp) ?_ | refine Cov.goG (nid+20) Hs [_,_,_,_,_,_,_,_,_,_,_,_,_,_,_,_,_,_,_,_,_,_] [_,_,_] [(nid+400,nid+312)] [] (by omega) hs (by simp [kOK,hz]) (by simp) ?_ | refine Cov.goG (nid+20) Hs [_,_,_,_,_,_,_,_,_,_,_,_,_,_,_,_,_,_,_,_,_,_,_] [_,_,_] [(nid+400,nid+312)] [] (by omega) hs (by simp [kOK,hz]) (by simp) ?_
   simp [cvT,step,res,boxL,chB,litRg,litIn,ColsEq.refl,-List.getD_eq_getElem?_getD]
   exact fun j hj=>by simp [hq j hj]; omega
  generalize hx:D.getD k dev0=x at *
  have hc1:=fun m=>cloneRg_c (n1 k) x.regs m (by omega)
  have hc2:=fun m=>cloneIn_c (n2 k) x.ins m (by omega)
  unfold litRg at hc1
  unfold litIn at hc2
  refine SR.seqTo ⟨[(7,.ptr (nid+400) 0),(20,.int .i64 k),(19,.int .i64 D.length),(18,.lit n0 D.length (devP n1 n2 D)),(5,.ptr nid 0)],[(nid+400,boxDv x (.sl (nid+410) 0 x.regs.length) (.sl (nid+411) 0 x.ins.length)),(nid+410,arrRg x.regs),(nid+411,arrIn x.ins),(nid,chB 0 (nid+1) k),(nid+1,some (.arr 98 k [.q fun k=>nid+(2+3 * k)]))]++Hs,nid+900,nid⟩ ?_ ?_
  ·unfold boxL litRg litIn chB
   simp -dsimp only [aqA,↓seqK,↓blkK,↓loopK,step,stepBin,eqB,Nat.add_assoc nid,↓reduceIte,simprocAttr,LN_succ]
   refine CallX.pure (hc1 _) ?_
   unfold arrRg
   simp -dsimp only [aqA,↓seqK,↓blkK,↓loopK,step,stepBin,eqB,Nat.add_assoc nid,↓reduceIte,simprocAttr,LN_succ]
   refine CallX.pure (hc2 _) ?_
   unfold arrIn
   simp -dsimp only [aqA,↓seqK,↓blkK,↓loopK,step,stepBin,eqB,Nat.add_assoc nid,↓reduceIte,simprocAttr,LN_succ]
   first | refine Cov.goG (nid+20) Hs [_] [_,_,_,_,_] [(nid+410,nid+708),(nid+411,nid+720)] [] (by omega) hs (by simp [kOK,hz]) (by simp) ?_ | refine Cov.goG (nid+20) Hs [_,_] [_,_,_,_,_] [(nid+410,nid+708),(nid+411,nid+720)] [] (by omega) hs (by simp [kOK,hz]) (by simp) ?_ | refine Cov.goG (nid+20) Hs [_,_,_] [_,_,_,_,_] [(nid+410,nid+708),(nid+411,nid+720)] [] (by omega) hs (by simp [kOK,hz]) (by simp) ?_ | refine Cov.goG (nid+20) Hs [_,_,_,_] [_,_,_,_,_] [(nid+410,nid+708),(nid+411,nid+720)] [] (by omega) hs (by simp [kOK,hz]) (by simp) ?_ | refine Cov.goG (nid+20) Hs [_,_,_,_,_] [_,_,_,_,_] [(nid+410,nid+708),(nid+411,nid+720)] [] (by omega) hs (by simp [kOK,hz]) (by simp) ?_ | refine Cov.goG (nid+20) Hs [_,_,_,_,_,_] [_,_,_,_,_] [(nid+410,nid+708),(nid+411,nid+720)] [] (by omega) hs (by simp [kOK,hz]) (by simp) ?_ | refine Cov.goG (nid+20) Hs [_,_,_,_,_,_,_] [_,_,_,_,_] [(nid+410,nid+708),(nid+411,nid+720)] [] (by omega) hs (by simp [kOK,hz]) (by simp) ?_ | refine Cov.goG (nid+20) Hs [_,_,_,_,_,_,_,_] [_,_,_,_,_] [(nid+410,nid+708),(nid+411,nid+720)] [] (by omega) hs (by simp [kOK,hz]) (by simp) ?_ | refine Cov.goG (nid+20) Hs [_,_,_,_,_,_,_,_,_] [_,_,_,_,_] [(nid+410,nid+708),(nid+411,nid+720)] [] (by omega) hs (by simp [kOK,hz]) (by simp) ?_ | refine Cov.goG (nid+20) Hs [_,_,_,_,_,_,_,_,_,_] [_,_,_,_,_] [(nid+410,nid+708),(nid+411,nid+720)] [] (by omega) hs (by simp [kOK,hz]) (by simp) ?_ | refine Cov.goG (nid+20) Hs [_,_,_,_,_,_,_,_,_,_,_] [_,_,_,_,_] [(nid+410,nid+708),(nid+411,nid+720)] [] (by omega) hs (by simp [kOK,hz]) (by simp) ?_ | refine Cov.goG (nid+20) Hs [_,_,_,_,_,_,_,_,_,_,_,_] [_,_,_,_,_] [(nid+410,nid+708),(nid+411,nid+720)] [] (by omega) hs (by simp [kOK,hz]) (by simp) ?_ | refine Cov.goG (nid+20) Hs [_,_,_,_,_,_,_,_,_,_,_,_,_] [_,_,_,_,_] [(nid+410,nid+708),(nid+411,nid+720)] [] (by omega) hs (by simp [kOK,hz]) (by simp) ?_ | refine Cov.goG (nid+20) Hs [_,_,_,_,_,_,_,_,_,_,_,_,_,_] [_,_,_,_,_] [(nid+410,nid+708),(nid+411,nid+720)] [] (by omega) hs (by simp [kOK,hz]) (by simp) ?_ | refine Cov.goG (nid+20) Hs [_,_,_,_,_,_,_,_,_,_,_,_,_,_,_] [_,_,_,_,_] [(nid+410,nid+708),(nid+411,nid+720)] [] (by omega) hs (by simp [kOK,hz]) (by simp) ?_ | refine Cov.goG (nid+20) Hs [_,_,_,_,_,_,_,_,_,_,_,_,_,_,_,_] [_,_,_,_,_] [(nid+410,nid+708),(nid+411,nid+720)] [] (by omega) hs (by simp [kOK,hz]) (by simp) ?_ | refine Cov.goG (nid+20) Hs [_,_,_,_,_,_,_,_,_,_,_,_,_,_,_,_,_] [_,_,_,_,_] [(nid+410,nid+708),(nid+411,nid+720)] [] (by omega) hs (by simp [kOK,hz]) (by simp) ?_ | refine Cov.goG (nid+20) Hs [_,_,_,_,_,_,_,_,_,_,_,_,_,_,_,_,_,_] [_,_,_,_,_] [(nid+410,nid+708),(nid+411,nid+720)] [] (by omega) hs (by simp [kOK,hz]) (by simp) ?_ | refine Cov.goG (nid+20) Hs [_,_,_,_,_,_,_,_,_,_,_,_,_,_,_,_,_,_,_] [_,_,_,_,_] [(nid+410,nid+708),(nid+411,nid+720)] [] (by omega) hs (by simp [kOK,hz]) (by simp) ?_ | refine Cov.goG (nid+20) Hs [_,_,_,_,_,_,_,_,_,_,_,_,_,_,_,_,_,_,_,_] [_,_,_,_,_] [(nid+410,nid+708),(nid+411,nid+720)] [] (by omega) hs (by simp [kOK,hz]) (by simp) ?_ | refine Cov.goG (nid+20) Hs [_,_,_,_,_,_,_,_,_,_,_,_,_,_,_,_,_,_,_,_,_] [_,_,_,_,_] [(nid+410,nid+708),(nid+411,nid+720)] [] (by omega) hs (by simp [kOK,hz]) (by simp) ?_ | refine Cov.goG (nid+20) Hs [_,_,_,_,_,_,_,_,_,_,_,_,_,_,_,_,_,_,_,_,_,_] [_,_,_,_,_] [(nid+410,nid+708),(nid+411,nid+720)] [] (by omega) hs (by simp [kOK,hz]) (by simp) ?_ | refine Cov.goG (nid+20) Hs [_,_,_,_,_,_,_,_,_,_,_,_,_,_,_,_,_,_,_,_,_,_,_] [_,_,_,_,_] [(nid+410,nid+708),(nid+411,nid+720)] [] (by omega) hs (by simp [kOK,hz]) (by simp) ?_
   simp [cvT,step,res,boxDv,arrRg,arrIn,chB,litRg,litIn,ColsEq.refl,-List.getD_eq_getElem?_getD]
   exact fun j hj=>by simp [hq j hj]; omega
  refine SR.freezeB [nid+410,nid+411] (fun nf=>?_)
  simp only [frzS,frzH,frzBlk,lends,lend,kill,noOs,boxDv,arrRg,arrIn,chB,List.cons_append,List.nil_append,aqA,↓seqK,↓blkK,↓loopK,step,stepBin,eqB,Nat.add_assoc nid,↓reduceIte,simprocAttr,LN_succ,hfz]
  generalize nf (nid+410)=b1
  generalize nf (nid+411)=b2
  refine SR.seqTo ⟨[(8,.ptr (nid+420) 0),(7,.ptr (nid+400) 0),(20,.int .i64 k),(19,.int .i64 D.length),(18,.lit n0 D.length (devP n1 n2 D)),(5,.ptr nid 0)],[(nid+420,portB (port0 x b1 b2) (nid+421) (nid+422)),(nid+421,mapS (mapD []) (mapV [])),(nid+422,mapS (mapD []) (mapV [])),(nid+400,boxL b1 b2 x),(nid,chB 0 (nid+1) k),(nid+1,some (.arr 98 k [.q fun k=>nid+(2+3 * k)]))]++Hs,nid+1200,nid⟩ ?_ ?_
  ·simp -dsimp only [aqA,↓seqK,↓blkK,↓loopK,step,stepBin,eqB,Nat.add_assoc nid,↓reduceIte,simprocAttr,LN_succ,mNew]
   first | refine Cov.goG (nid+20) Hs [_] [_,_,_,_,_,_] [(nid+420,nid+916),(nid+421,nid+904),(nid+422,nid+908)] [] (by omega) hs (by simp [kOK,hz]) (by simp) ?_ | refine Cov.goG (nid+20) Hs [_,_] [_,_,_,_,_,_] [(nid+420,nid+916),(nid+421,nid+904),(nid+422,nid+908)] [] (by omega) hs (by simp [kOK,hz]) (by simp) ?_ | refine Cov.goG (nid+20) Hs [_,_,_] [_,_,_,_,_,_] [(nid+420,nid+916),(nid+421,nid+904),(nid+422,nid+908)] [] (by omega) hs (by simp [kOK,hz]) (by simp) ?_ | refine Cov.goG (nid+20) Hs [_,_,_,_] [_,_,_,_,_,_] [(nid+420,nid+916),(nid+421,nid+904),(nid+422,nid+908)] [] (by omega) hs (by simp [kOK,hz]) (by simp) ?_ | refine Cov.goG (nid+20) Hs [_,_,_,_,_] [_,_,_,_,_,_] [(nid+420,nid+916),(nid+421,nid+904),(nid+422,nid+908)] [] (by omega) hs (by simp [kOK,hz]) (by simp) ?_ | refine Cov.goG (nid+20) Hs [_,_,_,_,_,_] [_,_,_,_,_,_] [(nid+420,nid+916),(nid+421,nid+904),(nid+422,nid+908)] [] (by omega) hs (by simp [kOK,hz]) (by simp) ?_ | refine Cov.goG (nid+20) Hs [_,_,_,_,_,_,_] [_,_,_,_,_,_] [(nid+420,nid+916),(nid+421,nid+904),(nid+422,nid+908)] [] (by omega) hs (by simp [kOK,hz]) (by simp) ?_ | refine Cov.goG (nid+20) Hs [_,_,_,_,_,_,_,_] [_,_,_,_,_,_] [(nid+420,nid+916),(nid+421,nid+904),(nid+422,nid+908)] [] (by omega) hs (by simp [kOK,hz]) (by simp) ?_ | refine Cov.goG (nid+20) Hs [_,_,_,_,_,_,_,_,_] [_,_,_,_,_,_] [(nid+420,nid+916),(nid+421,nid+904),(nid+422,nid+908)] [] (by omega) hs (by simp [kOK,hz]) (by simp) ?_ | refine Cov.goG (nid+20) Hs [_,_,_,_,_,_,_,_,_,_] [_,_,_,_,_,_] [(nid+420,nid+916),(nid+421,nid+904),(nid+422,nid+908)] [] (by omega) hs (by simp [kOK,hz]) (by simp) ?_ | refine Cov.goG (nid+20) Hs [_,_,_,_,_,_,_,_,_,_,_] [_,_,_,_,_,_] [(nid+420,nid+916),(nid+421,nid+904),(nid+422,nid+908)] [] (by omega) hs (by simp [kOK,hz]) (by simp) ?_ | refine Cov.goG (nid+20) Hs [_,_,_,_,_,_,_,_,_,_,_,_] [_,_,_,_,_,_] [(nid+420,nid+916),(nid+421,nid+904),(nid+422,nid+908)] [] (by omega) hs (by simp [kOK,hz]) (by simp) ?_ | refine Cov.goG (nid+20) Hs [_,_,_,_,_,_,_,_,_,_,_,_,_] [_,_,_,_,_,_] [(nid+420,nid+916),(nid+421,nid+904),(nid+422,nid+908)] [] (by omega) hs (by simp [kOK,hz]) (by simp) ?_ | refine Cov.goG (nid+20) Hs [_,_,_,_,_,_,_,_,_,_,_,_,_,_] [_,_,_,_,_,_] [(nid+420,nid+916),(nid+421,nid+904),(nid+422,nid+908)] [] (by omega) hs (by simp [kOK,hz]) (by simp) ?_ | refine Cov.goG (nid+20) Hs [_,_,_,_,_,_,_,_,_,_,_,_,_,_,_] [_,_,_,_,_,_] [(nid+420,nid+916),(nid+421,nid+904),(nid+422,nid+908)] [] (by omega) hs (by simp [kOK,hz]) (by simp) ?_ | refine Cov.goG (nid+20) Hs [_,_,_,_,_,_,_,_,_,_,_,_,_,_,_,_] [_,_,_,_,_,_] [(nid+420,nid+916),(nid+421,nid+904),(nid+422,nid+908)] [] (by omega) hs (by simp [kOK,hz]) (by simp) ?_ | refine Cov.goG (nid+20) Hs [_,_,_,_,_,_,_,_,_,_,_,_,_,_,_,_,_] [_,_,_,_,_,_] [(nid+420,nid+916),(nid+421,nid+904),(nid+422,nid+908)] [] (by omega) hs (by simp [kOK,hz]) (by simp) ?_ | refine Cov.goG (nid+20) Hs [_,_,_,_,_,_,_,_,_,_,_,_,_,_,_,_,_,_] [_,_,_,_,_,_] [(nid+420,nid+916),(nid+421,nid+904),(nid+422,nid+908)] [] (by omega) hs (by simp [kOK,hz]) (by simp) ?_ | refine Cov.goG (nid+20) Hs [_,_,_,_,_,_,_,_,_,_,_,_,_,_,_,_,_,_,_] [_,_,_,_,_,_] [(nid+420,nid+916),(nid+421,nid+904),(nid+422,nid+908)] [] (by omega) hs (by simp [kOK,hz]) (by simp) ?_ | refine Cov.goG (nid+20) Hs [_,_,_,_,_,_,_,_,_,_,_,_,_,_,_,_,_,_,_,_] [_,_,_,_,_,_] [(nid+420,nid+916),(nid+421,nid+904),(nid+422,nid+908)] [] (by omega) hs (by simp [kOK,hz]) (by simp) ?_ | refine Cov.goG (nid+20) Hs [_,_,_,_,_,_,_,_,_,_,_,_,_,_,_,_,_,_,_,_,_] [_,_,_,_,_,_] [(nid+420,nid+916),(nid+421,nid+904),(nid+422,nid+908)] [] (by omega) hs (by simp [kOK,hz]) (by simp) ?_ | refine Cov.goG (nid+20) Hs [_,_,_,_,_,_,_,_,_,_,_,_,_,_,_,_,_,_,_,_,_,_] [_,_,_,_,_,_] [(nid+420,nid+916),(nid+421,nid+904),(nid+422,nid+908)] [] (by omega) hs (by simp [kOK,hz]) (by simp) ?_ | refine Cov.goG (nid+20) Hs [_,_,_,_,_,_,_,_,_,_,_,_,_,_,_,_,_,_,_,_,_,_,_] [_,_,_,_,_,_] [(nid+420,nid+916),(nid+421,nid+904),(nid+422,nid+908)] [] (by omega) hs (by simp [kOK,hz]) (by simp) ?_
   simp [cvT,step,res,boxL,portB,mapS,port0,chB,litRg,litIn,mapD,mapV,ColsEq.refl,-List.getD_eq_getElem?_getD]
   exact fun j hj=>by simp [hq j hj]; omega
  refine SR.seqTo ⟨[(8,.ptr (nid+420) 0),(20,.int .i64 k),(19,.int .i64 D.length),(18,.lit n0 D.length (devP n1 n2 D)),(5,.ptr nid 0)],[(nid+420,portB (port0 x b1 b2) (nid+421) (nid+422)),(nid+421,mapS (mapD x.regs) (mapV x.regs)),(nid+422,mapS (mapD x.regs) (mapV x.regs)),(nid,chB 0 (nid+1) k),(nid+1,some (.arr 98 k [.q fun k=>nid+(2+3 * k)]))]++Hs,nid+1800,nid⟩ ?_ ?_
  ·unfold boxL litRg litIn portB mapS chB
   simp -dsimp only [aqA,↓seqK,↓blkK,↓loopK,step,stepBin,eqB,Nat.add_assoc nid,↓reduceIte,simprocAttr,LN_succ]
   refine LP.mkP (fun j:Nat=>j≤x.regs.length) (fun j=>⟨[(40,.int .i64 j),(39,.int .i64 x.regs.length),(38,litRg b1 x.regs),(8,.ptr (nid+420) 0),(20,.int .i64 k),(19,.int .i64 D.length),(18,.lit n0 D.length (devP n1 n2 D)),(5,.ptr nid 0)],[(nid+420,portB (port0 x b1 b2) (nid+421) (nid+422)),(nid+421,mapS (mapD (x.regs.take j)) (mapV (x.regs.take j))),(nid+422,mapS (mapD (x.regs.take j)) (mapV (x.regs.take j))),(nid,chB 0 (nid+1) k),(nid+1,some (.arr 98 k [.q fun k=>nid+(2+3 * k)]))]++Hs,nid+1500,nid⟩) (fun j=>x.regs.length+1 - j) 0 (by omega) ?_ (fun j hj=>?_)
   ·first | refine Cov.goG (nid+20) Hs [_] [_,_,_,_,_] [] [] (by omega) hs (by simp [kOK,hz]) (by simp) ?_ | refine Cov.goG (nid+20) Hs [_,_] [_,_,_,_,_] [] [] (by omega) hs (by simp [kOK,hz]) (by simp) ?_ | refine Cov.goG (nid+20) Hs [_,_,_] [_,_,_,_,_] [] [] (by omega) hs (by simp [kOK,hz]) (by simp) ?_ | refine Cov.goG (nid+20) Hs [_,_,_,_] [_,_,_,_,_] [] [] (by omega) hs (by simp [kOK,hz]) (by simp) ?_ | refine Cov.goG (nid+20) Hs [_,_,_,_,_] [_,_,_,_,_] [] [] (by omega) hs (by simp [kOK,hz]) (by simp) ?_ | refine Cov.goG (nid+20) Hs [_,_,_,_,_,_] [_,_,_,_,_] [] [] (by omega) hs (by simp [kOK,hz]) (by simp) ?_ | refine Cov.goG (nid+20) Hs [_,_,_,_,_,_,_] [_,_,_,_,_] [] [] (by omega) hs (by simp [kOK,hz]) (by simp) ?_ | refine Cov.goG (nid+20) Hs [_,_,_,_,_,_,_,_] [_,_,_,_,_] [] [] (by omega) hs (by simp [kOK,hz]) (by simp) ?_ | refine Cov.goG (nid+20) Hs [_,_,_,_,_,_,_,_,_] [_,_,_,_,_] [] [] (by omega) hs (by simp [kOK,hz]) (by simp) ?_ | refine Cov.goG (nid+20) Hs [_,_,_,_,_,_,_,_,_,_] [_,_,_,_,_] [] [] (by omega) hs (by simp [kOK,hz]) (by simp) ?_ | refine Cov.goG (nid+20) Hs [_,_,_,_,_,_,_,_,_,_,_] [_,_,_,_,_] [] [] (by omega) hs (by simp [kOK,hz]) (by simp) ?_ | refine Cov.goG (nid+20) Hs [_,_,_,_,_,_,_,_,_,_,_,_] [_,_,_,_,_] [] [] (by omega) hs (by simp [kOK,hz]) (by simp) ?_ | refine Cov.goG (nid+20) Hs [_,_,_,_,_,_,_,_,_,_,_,_,_] [_,_,_,_,_] [] [] (by omega) hs (by simp [kOK,hz]) (by simp) ?_ | refine Cov.goG (nid+20) Hs [_,_,_,_,_,_,_,_,_,_,_,_,_,_] [_,_,_,_,_] [] [] (by omega) hs (by simp [kOK,hz]) (by simp) ?_ | refine Cov.goG (nid+20) Hs [_,_,_,_,_,_,_,_,_,_,_,_,_,_,_] [_,_,_,_,_] [] [] (by omega) hs (by simp [kOK,hz]) (by simp) ?_ | refine Cov.goG (nid+20) Hs [_,_,_,_,_,_,_,_,_,_,_,_,_,_,_,_] [_,_,_,_,_] [] [] (by omega) hs (by simp [kOK,hz]) (by simp) ?_ | refine Cov.goG (nid+20) Hs [_,_,_,_,_,_,_,_,_,_,_,_,_,_,_,_,_] [_,_,_,_,_] [] [] (by omega) hs (by simp [kOK,hz]) (by simp) ?_ | refine Cov.goG (nid+20) Hs [_,_,_,_,_,_,_,_,_,_,_,_,_,_,_,_,_,_] [_,_,_,_,_] [] [] (by omega) hs (by simp [kOK,hz]) (by simp) ?_ | refine Cov.goG (nid+20) Hs [_,_,_,_,_,_,_,_,_,_,_,_,_,_,_,_,_,_,_] [_,_,_,_,_] [] [] (by omega) hs (by simp [kOK,hz]) (by simp) ?_ | refine Cov.goG (nid+20) Hs [_,_,_,_,_,_,_,_,_,_,_,_,_,_,_,_,_,_,_,_] [_,_,_,_,_] [] [] (by omega) hs (by simp [kOK,hz]) (by simp) ?_ | refine Cov.goG (nid+20) Hs [_,_,_,_,_,_,_,_,_,_,_,_,_,_,_,_,_,_,_,_,_] [_,_,_,_,_] [] [] (by omega) hs (by simp [kOK,hz]) (by simp) ?_ | refine Cov.goG (nid+20) Hs [_,_,_,_,_,_,_,_,_,_,_,_,_,_,_,_,_,_,_,_,_,_] [_,_,_,_,_] [] [] (by omega) hs (by simp [kOK,hz]) (by simp) ?_ | refine Cov.goG (nid+20) Hs [_,_,_,_,_,_,_,_,_,_,_,_,_,_,_,_,_,_,_,_,_,_,_] [_,_,_,_,_] [] [] (by omega) hs (by simp [kOK,hz]) (by simp) ?_
    simp [cvT,step,res,boxL,portB,mapS,port0,chB,litRg,litIn,ColsEq.refl,-List.getD_eq_getElem?_getD]
    exact fun j hj=>by omega
   unfold litRg portB mapS chB litIn
   simp -dsimp only [aqA,↓seqK,↓blkK,↓loopK,step,stepBin,eqB,Nat.add_assoc nid,↓reduceIte,simprocAttr,LN_succ]
   refine S2.dec (fun h4=>?_) (fun h4=>?_) <;> simp -dsimp only [aqA,↓seqK,↓blkK,↓loopK,step,stepBin,eqB,Nat.add_assoc nid,↓reduceIte,simprocAttr,LN_succ]
   ·have hjl:j<x.regs.length:=by omega
    have hrm:x.regs.getD j reg0∈x.regs:=by rw [List.getD_eq_getElem?_getD,List.getElem?_eq_getElem hjl]; exact List.getElem_mem _
    have hr2:=hbr _ hrm
    have htk:x.regs.take (j+1)=x.regs.take j++[x.regs.getD j reg0]:=by rw [List.take_add_one,List.getElem?_eq_getElem hjl,List.getD_eq_getElem?_getD,List.getElem?_eq_getElem hjl]; rfl
    generalize hr:x.regs.getD j reg0=r at *
    obtain ⟨L,hL⟩:∃ L:Nat,r.2=L:=⟨_,(Int.toNat_of_nonneg hr2.1).symm⟩
    refine ⟨⟨by omega,by omega⟩,?_⟩
    rw [hL]
    refine CallX.pure (repeat_cc [48] L _ (by omega) (by simp; omega)) ?_
    simp -dsimp only [aqA,↓seqK,↓blkK,↓loopK,step,stepBin,eqB,Nat.add_assoc nid,↓reduceIte,simprocAttr,LN_succ,mkKey,mPut,mGet,keyIn]
    refine ⟨by unfold inI64; omega,j+1,⟨by omega,by omega⟩,?_⟩
    rw [htk]
    have hrt:r.2.toNat=L:=by omega
    first | refine Cov.goG (nid+20) Hs [_] [_,_,_,_,_] [] [] (by omega) hs (by simp [kOK,hz]) (by simp) ?_ | refine Cov.goG (nid+20) Hs [_,_] [_,_,_,_,_] [] [] (by omega) hs (by simp [kOK,hz]) (by simp) ?_ | refine Cov.goG (nid+20) Hs [_,_,_] [_,_,_,_,_] [] [] (by omega) hs (by simp [kOK,hz]) (by simp) ?_ | refine Cov.goG (nid+20) Hs [_,_,_,_] [_,_,_,_,_] [] [] (by omega) hs (by simp [kOK,hz]) (by simp) ?_ | refine Cov.goG (nid+20) Hs [_,_,_,_,_] [_,_,_,_,_] [] [] (by omega) hs (by simp [kOK,hz]) (by simp) ?_ | refine Cov.goG (nid+20) Hs [_,_,_,_,_,_] [_,_,_,_,_] [] [] (by omega) hs (by simp [kOK,hz]) (by simp) ?_ | refine Cov.goG (nid+20) Hs [_,_,_,_,_,_,_] [_,_,_,_,_] [] [] (by omega) hs (by simp [kOK,hz]) (by simp) ?_ | refine Cov.goG (nid+20) Hs [_,_,_,_,_,_,_,_] [_,_,_,_,_] [] [] (by omega) hs (by simp [kOK,hz]) (by simp) ?_ | refine Cov.goG (nid+20) Hs [_,_,_,_,_,_,_,_,_] [_,_,_,_,_] [] [] (by omega) hs (by simp [kOK,hz]) (by simp) ?_ | refine Cov.goG (nid+20) Hs [_,_,_,_,_,_,_,_,_,_] [_,_,_,_,_] [] [] (by omega) hs (by simp [kOK,hz]) (by simp) ?_ | refine Cov.goG (nid+20) Hs [_,_,_,_,_,_,_,_,_,_,_] [_,_,_,_,_] [] [] (by omega) hs (by simp [kOK,hz]) (by simp) ?_ | refine Cov.goG (nid+20) Hs [_,_,_,_,_,_,_,_,_,_,_,_] [_,_,_,_,_] [] [] (by omega) hs (by simp [kOK,hz]) (by simp) ?_ | refine Cov.goG (nid+20) Hs [_,_,_,_,_,_,_,_,_,_,_,_,_] [_,_,_,_,_] [] [] (by omega) hs (by simp [kOK,hz]) (by simp) ?_ | refine Cov.goG (nid+20) Hs [_,_,_,_,_,_,_,_,_,_,_,_,_,_] [_,_,_,_,_] [] [] (by omega) hs (by simp [kOK,hz]) (by simp) ?_ | refine Cov.goG (nid+20) Hs [_,_,_,_,_,_,_,_,_,_,_,_,_,_,_] [_,_,_,_,_] [] [] (by omega) hs (by simp [kOK,hz]) (by simp) ?_ | refine Cov.goG (nid+20) Hs [_,_,_,_,_,_,_,_,_,_,_,_,_,_,_,_] [_,_,_,_,_] [] [] (by omega) hs (by simp [kOK,hz]) (by simp) ?_ | refine Cov.goG (nid+20) Hs [_,_,_,_,_,_,_,_,_,_,_,_,_,_,_,_,_] [_,_,_,_,_] [] [] (by omega) hs (by simp [kOK,hz]) (by simp) ?_ | refine Cov.goG (nid+20) Hs [_,_,_,_,_,_,_,_,_,_,_,_,_,_,_,_,_,_] [_,_,_,_,_] [] [] (by omega) hs (by simp [kOK,hz]) (by simp) ?_ | refine Cov.goG (nid+20) Hs [_,_,_,_,_,_,_,_,_,_,_,_,_,_,_,_,_,_,_] [_,_,_,_,_] [] [] (by omega) hs (by simp [kOK,hz]) (by simp) ?_ | refine Cov.goG (nid+20) Hs [_,_,_,_,_,_,_,_,_,_,_,_,_,_,_,_,_,_,_,_] [_,_,_,_,_] [] [] (by omega) hs (by simp [kOK,hz]) (by simp) ?_ | refine Cov.goG (nid+20) Hs [_,_,_,_,_,_,_,_,_,_,_,_,_,_,_,_,_,_,_,_,_] [_,_,_,_,_] [] [] (by omega) hs (by simp [kOK,hz]) (by simp) ?_ | refine Cov.goG (nid+20) Hs [_,_,_,_,_,_,_,_,_,_,_,_,_,_,_,_,_,_,_,_,_,_] [_,_,_,_,_] [] [] (by omega) hs (by simp [kOK,hz]) (by simp) ?_ | refine Cov.goG (nid+20) Hs [_,_,_,_,_,_,_,_,_,_,_,_,_,_,_,_,_,_,_,_,_,_,_] [_,_,_,_,_] [] [] (by omega) hs (by simp [kOK,hz]) (by simp) ?_
    simp [cvT,step,res,boxL,portB,mapS,port0,chB,litRg,litIn,mapD_snoc,mapV_snoc,hrt,ColsEq.refl,-List.getD_eq_getElem?_getD]
    exact ⟨fun q _ _=>by simp [mVal,mapV_snoc,hrt],fun j hj=>by omega⟩
   ·have hje:j=x.regs.length:=by omega
    subst hje
    rw [List.take_length]
    first | refine Cov.goG (nid+20) Hs [_] [_,_,_,_,_] [] [] (by omega) hs (by simp [kOK,hz]) (by simp) ?_ | refine Cov.goG (nid+20) Hs [_,_] [_,_,_,_,_] [] [] (by omega) hs (by simp [kOK,hz]) (by simp) ?_ | refine Cov.goG (nid+20) Hs [_,_,_] [_,_,_,_,_] [] [] (by omega) hs (by simp [kOK,hz]) (by simp) ?_ | refine Cov.goG (nid+20) Hs [_,_,_,_] [_,_,_,_,_] [] [] (by omega) hs (by simp [kOK,hz]) (by simp) ?_ | refine Cov.goG (nid+20) Hs [_,_,_,_,_] [_,_,_,_,_] [] [] (by omega) hs (by simp [kOK,hz]) (by simp) ?_ | refine Cov.goG (nid+20) Hs [_,_,_,_,_,_] [_,_,_,_,_] [] [] (by omega) hs (by simp [kOK,hz]) (by simp) ?_ | refine Cov.goG (nid+20) Hs [_,_,_,_,_,_,_] [_,_,_,_,_] [] [] (by omega) hs (by simp [kOK,hz]) (by simp) ?_ | refine Cov.goG (nid+20) Hs [_,_,_,_,_,_,_,_] [_,_,_,_,_] [] [] (by omega) hs (by simp [kOK,hz]) (by simp) ?_ | refine Cov.goG (nid+20) Hs [_,_,_,_,_,_,_,_,_] [_,_,_,_,_] [] [] (by omega) hs (by simp [kOK,hz]) (by simp) ?_ | refine Cov.goG (nid+20) Hs [_,_,_,_,_,_,_,_,_,_] [_,_,_,_,_] [] [] (by omega) hs (by simp [kOK,hz]) (by simp) ?_ | refine Cov.goG (nid+20) Hs [_,_,_,_,_,_,_,_,_,_,_] [_,_,_,_,_] [] [] (by omega) hs (by simp [kOK,hz]) (by simp) ?_ | refine Cov.goG (nid+20) Hs [_,_,_,_,_,_,_,_,_,_,_,_] [_,_,_,_,_] [] [] (by omega) hs (by simp [kOK,hz]) (by simp) ?_ | refine Cov.goG (nid+20) Hs [_,_,_,_,_,_,_,_,_,_,_,_,_] [_,_,_,_,_] [] [] (by omega) hs (by simp [kOK,hz]) (by simp) ?_ | refine Cov.goG (nid+20) Hs [_,_,_,_,_,_,_,_,_,_,_,_,_,_] [_,_,_,_,_] [] [] (by omega) hs (by simp [kOK,hz]) (by simp) ?_ | refine Cov.goG (nid+20) Hs [_,_,_,_,_,_,_,_,_,_,_,_,_,_,_] [_,_,_,_,_] [] [] (by omega) hs (by simp [kOK,hz]) (by simp) ?_ | refine Cov.goG (nid+20) Hs [_,_,_,_,_,_,_,_,_,_,_,_,_,_,_,_] [_,_,_,_,_] [] [] (by omega) hs (by simp [kOK,hz]) (by simp) ?_ | refine Cov.goG (nid+20) Hs [_,_,_,_,_,_,_,_,_,_,_,_,_,_,_,_,_] [_,_,_,_,_] [] [] (by omega) hs (by simp [kOK,hz]) (by simp) ?_ | refine Cov.goG (nid+20) Hs [_,_,_,_,_,_,_,_,_,_,_,_,_,_,_,_,_,_] [_,_,_,_,_] [] [] (by omega) hs (by simp [kOK,hz]) (by simp) ?_ | refine Cov.goG (nid+20) Hs [_,_,_,_,_,_,_,_,_,_,_,_,_,_,_,_,_,_,_] [_,_,_,_,_] [] [] (by omega) hs (by simp [kOK,hz]) (by simp) ?_ | refine Cov.goG (nid+20) Hs [_,_,_,_,_,_,_,_,_,_,_,_,_,_,_,_,_,_,_,_] [_,_,_,_,_] [] [] (by omega) hs (by simp [kOK,hz]) (by simp) ?_ | refine Cov.goG (nid+20) Hs [_,_,_,_,_,_,_,_,_,_,_,_,_,_,_,_,_,_,_,_,_] [_,_,_,_,_] [] [] (by omega) hs (by simp [kOK,hz]) (by simp) ?_ | refine Cov.goG (nid+20) Hs [_,_,_,_,_,_,_,_,_,_,_,_,_,_,_,_,_,_,_,_,_,_] [_,_,_,_,_] [] [] (by omega) hs (by simp [kOK,hz]) (by simp) ?_ | refine Cov.goG (nid+20) Hs [_,_,_,_,_,_,_,_,_,_,_,_,_,_,_,_,_,_,_,_,_,_,_] [_,_,_,_,_] [] [] (by omega) hs (by simp [kOK,hz]) (by simp) ?_
    simp [cvT,step,res,boxL,portB,mapS,port0,chB,litRg,litIn,ColsEq.refl,-List.getD_eq_getElem?_getD]
    exact fun j hj=>by omega
  refine SR.run (t:=.mk) ?_
  unfold portB mapS chB
  simp -dsimp only [aqA,↓seqK,↓blkK,↓loopK,step,stepBin,eqB,Nat.add_assoc nid,↓reduceIte,simprocAttr,LN_succ]
  refine ⟨⟨by omega,by omega⟩,(b1,b2),?_⟩
  rw [← hH]
  simp only
  have hn:∀ a,1≤a→(nid+a==nid)=false:=fun a ha=>by rw [beq_eq_false_iff_ne]; omega
  have hk3:k=0∨k=1∨k=2:=by omega
  clear hc1 hc2 hcol hlow hnew hfz hz hge hs hlf hck hH hq
  rcases hk3 with rfl | rfl | rfl
  ·simp only [portsK,portsH,List.range_succ,List.range_zero,List.nil_append,List.cons_append,List.map_cons,List.map_nil,Nat.add_assoc,Nat.reduceAdd]
   refine Cov.go [(nid+1,nid+1828),(nid+2,nid+420),(nid+3,nid+421),(nid+4,nid+422)] [] ?_
   simp [cvT,step,res,setF,portB,mapS,port0,litRg,litIn,chB,hx,ColsEq.refl,-List.getD_eq_getElem?_getD]
   rfl
  ·simp only [portsK,portsH,List.range_succ,List.range_zero,List.nil_append,List.cons_append,List.map_cons,List.map_nil,Nat.add_assoc,Nat.reduceAdd]
   refine Cov.go [(nid+1,nid+1828),(nid+5,nid+420),(nid+6,nid+421),(nid+7,nid+422)] [] ?_
   simp [cvT,step,res,setF,portB,mapS,port0,litRg,litIn,chB,hx,ColsEq.refl,-List.getD_eq_getElem?_getD]
   exact fun j hj=>by rcases (by omega:j=0∨j=1) with rfl | rfl <;> simp [hn]
  ·simp only [portsK,portsH,List.range_succ,List.range_zero,List.nil_append,List.cons_append,List.map_cons,List.map_nil,Nat.add_assoc,Nat.reduceAdd]
   refine Cov.go [(nid+1,nid+1828),(nid+8,nid+420),(nid+9,nid+421),(nid+10,nid+422)] [] ?_
   simp [cvT,step,res,setF,portB,mapS,port0,litRg,litIn,chB,hx,ColsEq.refl,-List.getD_eq_getElem?_getD]
   exact fun j hj=>by rcases (by omega:j=0∨j=1∨j=2) with rfl | rfl | rfl <;> simp [hn]
 ·have hkn:k=D.length:=by omega
  subst hkn
  refine ⟨f,?_⟩
  have e:chainH nid 0 (portsK D f D.length)=(nid,some (.box 95 [.int .i64 ((0:Nat):Int),.sl (nid+1) 0 D.length]))::(nid+1,some (.arr 98 D.length [.q fun k=>nid+2+3 * k]))::portsH (nid+2) (portsK D f D.length):=by
   unfold chainH chB
   rw [portsK_len]
  rw [e]
  rw [hcol]
  exact Cov.sub (by omega) (by simp only [SlotsIn,aqA,↓seqK,↓blkK,↓loopK,step,stepBin,eqB,Nat.reduceBEq,Nat.reduceBeqDiff,Nat.add_assoc nid,Nat.reduceAdd,reduceCtorEq,↓reduceIte,Nat.reduceLeDiff,Nat.reduceBneDiff,Nat.reduceLT]; try simp) (subH_refl _)
end Go.Proofs.YtahjohieahehjaaGreatDoor
namespace Go.Proofs.YtahjohieahehjaaGreatDoor
theorem fb_all {α:Type} {f:α→Int} {l:List α} (h:firstBad f l=0):∀ a∈l,f a=0:=by
 intro a ha
 exact Classical.byContradiction fun hne=>by
  induction l with
  | nil=>cases ha
  | cons b l ih =>
   by_cases hb:f b=0
   ·have h':firstBad f (b::l)=firstBad f l:=by simp [firstBad,hb]
    rw [h'] at h
    rcases List.mem_cons.1 ha with rfl | ha
    ·exact hne hb
    ·exact ih h ha
   ·have h':firstBad f (b::l)=f b:=by simp [firstBad,hb]
    rw [h'] at h
    exact hb h
structure DevR (d:Dev):Prop where
 lg:2≤d.long∧d.long≤32
 idb:0≤d.id∧d.id≤4294967295
 rl:d.regs.length≤10
 il:d.ins.length≤100
 rs:∀ r∈d.regs,1≤r.2∧r.2≤1000
 is:∀ x∈d.ins,regIs d x.2=true
theorem outB_no {x a b:Int} (h:outB x a b=false):a≤x∧x≤b:=by
 unfold outB at h
 simp at h
 omega
theorem devR_of {D:List Dev} (h:devsE D=0):∀ d∈D,DevR d:=by
 intro d hd
 unfold devsE at h
 split at h
 ·cases h
 split at h
 ·cases h
 obtain ⟨i,hi,rfl⟩:=List.getElem_of_mem hd
 have hf:=fb_all h i (List.mem_range.2 hi)
 have e:D.getD i dev0=D[i]:=by rw [List.getD_eq_getElem?_getD,List.getElem?_eq_getElem hi]; rfl
 unfold devE at hf
 rw [e] at hf
 generalize D[i]=d at *
 split at hf
 ·cases hf
 split at hf
 ·cases hf
 split at hf
 ·cases hf
 rename_i h1 h2 h3
 split at hf
 ·cases hf
 split at hf
 ·cases hf
 rename_i h4 h5
 have hr:regsE d=0:=Classical.byContradiction fun hne=>by rw [if_pos hne] at hf; exact hne hf
 have hi:inssE d=0:=by rw [if_neg (by simpa using hr)] at hf; exact hf
 have hlg:outB d.long 2 32=false:=by
  cases ho:outB d.long 2 32
  ·rfl
  ·exact absurd (.inl ho) h3
 have hib:outB d.id 0 4294967295=false:=by
  cases ho:outB d.id 0 4294967295
  ·rfl
  ·exact absurd (.inr ho) h3
 refine ⟨outB_no hlg,outB_no hib,by omega,by omega,fun r hr'=>?_,fun x hx=>?_⟩
 ·obtain ⟨j,hj,rfl⟩:=List.getElem_of_mem hr'
  have hz:=fb_all hr j (List.mem_range.2 hj)
  have e2:d.regs.getD j reg0=d.regs[j]:=by rw [List.getD_eq_getElem?_getD,List.getElem?_eq_getElem hj]; rfl
  unfold regE at hz
  rw [e2] at hz
  split at hz
  ·cases hz
  split at hz
  ·cases hz
  split at hz
  ·cases hz
  rename_i h6
  exact outB_no (by simpa using h6)
 ·obtain ⟨j,hj,rfl⟩:=List.getElem_of_mem hx
  have hz:=fb_all hi j (List.mem_range.2 hj)
  have e2:d.ins.getD j ins0=d.ins[j]:=by rw [List.getD_eq_getElem?_getD,List.getElem?_eq_getElem hj]; rfl
  unfold insE at hz
  rw [e2] at hz
  split at hz
  ·cases hz
  split at hz
  ·cases hz
  split at hz
  ·cases hz
  split at hz
  ·cases hz
  split at hz
  ·rename_i h6
   unfold regIs
   simp only [Bool.or_eq_true,Bool.and_eq_true,decide_eq_true_eq]
   rcases h6 with h6 | h6 | h6
   ·exact .inl (.inl h6)
   ·exact .inl (.inr h6)
   ·exact .inr h6
  ·cases hz
theorem repW {n:Nat} (h1:1≤n) (h2:n≤1000):BitsW (Lib.repeatL [48] n):=by
 rw [rep48]
 refine ⟨by simp; omega,by simp; omega,?_⟩
 simp only [List.all_replicate]
 simp [oneBit]
theorem mapV_ok {R : List (Bs × Int)} (h : ∀ r ∈ R,1 ≤ r.2 ∧ r.2 ≤ 1000) (q : MK) (hq : mapD R q = true) : BitsW (mapV R q) := by
  have key : ∀ (R : List (Bs × Int)) (v : Bs),(∀ r ∈ R,1 ≤ r.2 ∧ r.2 ≤ 1000) → (BitsW v ∨ mapD R q = true) → BitsW (R.foldl (fun v r => if q = .s r.1 then Lib.repeatL [48] r.2.toNat else v) v) := by
    intro R
    induction R with
    | nil => intro v _ hv; rcases hv with hv | hv
             · exact hv
             · simp [mapD] at hv
    | cons r R ih =>
      intro v hR hv
      simp only [List.foldl_cons]
      refine ih _ (fun x hx => hR x (List.mem_cons_of_mem _ hx)) ?_
      have hr := hR r List.mem_cons_self
      by_cases hqr : q = .s r.1
      · rw [if_pos hqr]; exact .inl (repW (by omega) (by omega))
      · rw [if_neg hqr]
        rcases hv with hv | hv
        · exact .inl hv
        · refine .inr ?_
          unfold mapD at hv ⊢
          simpa [hqr] using hv
  exact key R [] h (.inr hq)
theorem regOf_ok {d:Dev} (hd:DevR d) {n:Bs} (hn:regIs d n=true):(regOf d n).1=byL∨(regOf d n).1=idL∨mapD d.regs (.s (regOf d n).1)=true:=by
 unfold regOf
 split
 ·exact .inl rfl
 ·split
  ·exact .inr (.inl rfl)
  ·rename_i h1 h2
   refine .inr (.inr ?_)
   have ho:ownB d n=true:=by
    unfold regIs at hn
    simp only [Bool.or_eq_true,Bool.and_eq_true,decide_eq_true_eq] at hn
    rcases hn with (hn | hn) | hn
    ·exact absurd hn h1
    ·exact absurd hn h2
    ·exact hn
   rw [ownB_find] at ho
   obtain ⟨r,hr⟩:=Option.isSome_iff_exists.1 ho
   rw [hr]
   have hm:=List.mem_of_find?_eq_some hr
   unfold mapD
   exact List.any_eq_true.2 ⟨r,hm,by simp⟩
theorem nameOf_ok {d:Dev} (hd:DevR d) (code:Bs):regIs d (nameOf d code)=true:=by
 unfold nameOf
 have key:∀ (l:List (Bs × Bs)) (n:Bs),(∀ x∈l,regIs d x.2=true)→regIs d n=true→regIs d (l.foldl (fun n x=>if x.1=code then x.2 else n) n)=true:=by
  intro l
  induction l with
  | nil=>intro n _ h; exact h
  | cons x l ih =>
   intro n hl hn
   simp only [List.foldl_cons]
   refine ih _ (fun y hy=>hl y (List.mem_cons_of_mem _ hy)) ?_
   split
   ·exact hl x List.mem_cons_self
   ·exact hn
 exact key _ _ hd.is (by unfold regIs; simp)
theorem port0_V {d:Dev} (hd:DevR d) (b1 b2:Bool):PortV (port0 d b1 b2):=by
 have hrl:=hd.rl
 have hil:=hd.il
 refine ⟨by simp only [port0]; omega,by simp only [port0]; omega,hd.idb,hd.lg,fun code=>?_,⟨by simp [port0],by simp [port0],by simp [port0,oneBit]⟩⟩
 have hsel:(selP d code).1=byL∨(selP d code).1=idL∨mapD d.regs (.s (selP d code).1)=true:=by
  unfold selP
  split
  ·split
   ·rename_i h
    exact regOf_ok hd h
   ·exact .inl rfl
  ·exact regOf_ok hd (nameOf_ok hd code)
 unfold captV
 show BitsW (if (selP d code).1=byL then [48] else if (selP d code).1=idL then idBits d.id else bif mapD d.regs (.s (selP d code).1) then mapV d.regs (.s (selP d code).1) else [])
 split
 ·exact ⟨by simp,by simp,by simp [oneBit]⟩
 ·split
  ·obtain ⟨N,hN⟩:∃ N:Nat,d.id=N:=⟨_,(Int.toNat_of_nonneg hd.idb.1).symm⟩
   rw [hN]
   refine ⟨by rw [idBits_len]; omega,by rw [idBits_len]; omega,List.all_eq_true.2 fun b hb=>?_⟩
   unfold idBits at hb
   obtain ⟨i,_,rfl⟩:=List.mem_map.1 hb
   rcases Nat.mod_two_eq_zero_or_one ((N:Int).toNat >>> i) with e | e <;> rw [e] <;> rfl
  ·rename_i h1 h2
   have hm:mapD d.regs (.s (selP d code).1)=true:=by
    rcases hsel with h | h | h
    ·exact absurd h h1
    ·exact absurd h h2
    ·exact h
   rw [hm]
   exact mapV_ok hd.rs _ hm
end Go.Proofs.YtahjohieahehjaaGreatDoor
namespace Go.Proofs.YtahjohieahehjaaGreatDoor
structure SameP (p q:Port):Prop where
 d:q.d=p.d
 ins:q.instr=p.instr
 l:q.shift.length=p.shift.length
 iD:q.iD=p.iD
 iV:q.iV=p.iV
inductive SamePs:List Port→List Port→Prop
 | nil:SamePs [] []
 | cons {p q:Port} {P Q:List Port}:SameP p q→SamePs P Q→SamePs (p::P) (q::Q)
theorem SameP.refl (p:Port):SameP p p:=⟨rfl,rfl,rfl,rfl,rfl⟩
theorem SamePs.refl:∀ P,SamePs P P
 | []=>.nil
 | p::P=>.cons (.refl p) (SamePs.refl P)
theorem SameP.trans {p q r:Port} (h:SameP p q) (k:SameP q r):SameP p r:=⟨k.d.trans h.d,k.ins.trans h.ins,k.l.trans h.l,k.iD.trans h.iD,k.iV.trans h.iV⟩
theorem SamePs.trans:∀ {P Q R},SamePs P Q→SamePs Q R→SamePs P R
 | [],_,_,.nil,.nil=>.nil
 | _::_,_,_,.cons h hs,.cons k ks=>.cons (h.trans k) (hs.trans ks)
end Go.Proofs.YtahjohieahehjaaGreatDoor
namespace Go.Proofs.YtahjohieahehjaaGreatDoor
theorem act_still {st:Nat} (h:shifts st=false) (p:Port) (b:UInt8):actV st p b=((actV st p 48).1,b):=by
 have h411:¬ (st=4∨st=11):=by
  unfold shifts at h
  simpa using h
 unfold actV
 rw [if_neg h411,if_neg h411]
 by_cases h0:st=0
 ·rw [if_pos h0,if_pos h0]
 ·rw [if_neg h0,if_neg h0]
  by_cases h3:st=3
  ·rw [if_pos h3,if_pos h3]
  ·rw [if_neg h3,if_neg h3]
   by_cases h8:st=8
   ·rw [if_pos h8,if_pos h8]
   ·rw [if_neg h8,if_neg h8]
    by_cases h10:st=10
    ·rw [if_pos h10,if_pos h10]
    ·rw [if_neg h10,if_neg h10]
     by_cases h15:st=15
     ·rw [if_pos h15,if_pos h15]
     ·rw [if_neg h15,if_neg h15]
theorem clock_still {st:Nat} (h:shifts st=false):∀ (P:List Port) (b:UInt8),clockP st P b=(P.map (fun p=>(actV st p 48).1),b)
 | [],b=>rfl
 | p::P,b=>by
  simp only [clockP,List.map_cons]
  rw [act_still h p b,clock_still h P b]
end Go.Proofs.YtahjohieahehjaaGreatDoor
namespace Go.Proofs.YtahjohieahehjaaGreatDoor
def nameR (d:Dev) (code:Bs):Bs:=d.ins.foldl (fun n x=>if x.1=code then x.2 else n) (if code=[]∧d.id≠0 then idL else byL)
def selR (d:Dev) (code:Bs):Bs × Int:=match d.regs.find? (fun x=>x.1==nameR d code) with
 | some r=>r
 | none=>(nameR d code,if nameR d code=idL then 32 else 1)
structure DevN (d:Dev):Prop where
 nb:∀ r∈d.regs,r.1≠byL∧r.1≠idL
 nd:∀ r∈d.regs,∀ x∈d.regs,x.1=r.1→x=r
 ic:∀ x∈d.ins,((x.1.length:Nat):Int)=d.long
 io:d.id≠0→d.id % 2=1
theorem devN_of {D:List Dev} (h:devsE D=0):∀ d∈D,DevN d:=by
 intro d hd
 have hR:=devR_of h d hd
 unfold devsE at h
 split at h
 ·cases h
 split at h
 ·cases h
 obtain ⟨i,hi,rfl⟩:=List.getElem_of_mem hd
 have hf:=fb_all h i (List.mem_range.2 hi)
 have e:D.getD i dev0=D[i]:=by rw [List.getD_eq_getElem?_getD,List.getElem?_eq_getElem hi]; rfl
 unfold devE at hf
 rw [e] at hf
 generalize D[i]=d at *
 split at hf
 ·cases hf
 split at hf
 ·cases hf
 split at hf
 ·cases hf
 rename_i h1 h2 h3
 split at hf
 ·cases hf
 split at hf
 ·cases hf
 rename_i h4 h5
 have hr:regsE d=0:=Classical.byContradiction fun hne=>by rw [if_pos hne] at hf; exact hne hf
 have hi:inssE d=0:=by rw [if_neg (by simpa using hr)] at hf; exact hf
 have hreg:∀ j,j<d.regs.length→¬ ((d.regs.getD j reg0).1=byL∨(d.regs.getD j reg0).1=idL∨(d.regs.take j).any (fun x=>x.1==(d.regs.getD j reg0).1)=true):=by
  intro j hj hc
  have hz:=fb_all hr j (List.mem_range.2 hj)
  unfold regE at hz
  split at hz
  ·cases hz
  ·cases hz
 have hlt:∀ j k,j<k→k<d.regs.length→¬ (d.regs.getD j reg0).1=(d.regs.getD k reg0).1:=by
  intro j k hjk hk hn
  refine hreg k hk (.inr (.inr (List.any_eq_true.2 ⟨d.regs.getD j reg0,?_,by simp only [beq_iff_eq]; exact hn⟩)))
  rw [List.getD_eq_getElem?_getD,List.getElem?_eq_getElem (by omega)]
  exact List.mem_take_iff_getElem.2 ⟨j,by omega,rfl⟩
 have hg:∀ j (hj:j<d.regs.length),d.regs.getD j reg0=d.regs[j]:=fun j hj=>by rw [List.getD_eq_getElem?_getD,List.getElem?_eq_getElem hj]; rfl
 refine ⟨fun r hr'=>?_,fun r hr' x hx hn=>?_,fun x hx=>?_,fun h0=>?_⟩
 ·obtain ⟨j,hj,rfl⟩:=List.getElem_of_mem hr'
  have:=hreg j hj
  rw [hg j hj] at this
  exact ⟨fun h=>this (.inl h),fun h=>this (.inr (.inl h))⟩
 ·obtain ⟨j,hj,rfl⟩:=List.getElem_of_mem hr'
  obtain ⟨k,hk,rfl⟩:=List.getElem_of_mem hx
  rcases Nat.lt_trichotomy j k with hjk | hjk | hjk
  ·have:=hlt j k hjk hk
   rw [hg j hj,hg k hk] at this
   exact absurd hn.symm this
  ·subst hjk; rfl
  ·have:=hlt k j hjk hj
   rw [hg j hj,hg k hk] at this
   exact absurd hn this
 ·obtain ⟨j,hj,rfl⟩:=List.getElem_of_mem hx
  have hz:=fb_all hi j (List.mem_range.2 hj)
  have e2:d.ins.getD j ins0=d.ins[j]:=by rw [List.getD_eq_getElem?_getD,List.getElem?_eq_getElem hj]; rfl
  unfold insE at hz
  rw [e2] at hz
  split at hz
  ·cases hz
  rename_i h6
  exact Classical.byContradiction fun h=>h6 h
 ·have h6:¬ d.id.tmod 2=0:=fun h=>h4 ⟨h0,h⟩
  have h7:=hR.idb
  rw [Int.tmod_eq_emod_of_nonneg h7.1] at h6
  omega
theorem nameR_of {d:Dev} (hR:DevR d) (hN:DevN d) (code:Bs):nameR d code=if code=[]∧d.id≠0 then idL else nameOf d code:=by
 by_cases hc:code=[]
 ·subst hc
  have key:∀ (l:List (Bs × Bs)) (n:Bs),(∀ x∈l,x.1≠[])→l.foldl (fun n x=>if x.1=[] then x.2 else n) n=n:=by
   intro l
   induction l with
   | nil=>intro n _; rfl
   | cons x l ih =>
    intro n hl
    simp only [List.foldl_cons]
    rw [if_neg (hl x List.mem_cons_self)]
    exact ih n fun y hy=>hl y (List.mem_cons_of_mem _ hy)
  have hne:∀ x∈d.ins,x.1≠[]:=fun x hx h=>by
   have h1:=hN.ic x hx
   have h2:=hR.lg
   rw [h] at h1
   simp at h1
   omega
  unfold nameR nameOf
  rw [key _ _ hne,key _ _ hne]
 ·unfold nameR nameOf
  rw [if_neg (fun h=>hc h.1),if_neg (fun h=>hc h.1)]
theorem findR_no {R:List (Bs × Int)} {n:Bs} (h:∀ r∈R,r.1≠n):R.find? (fun x=>x.1==n)=none:=by
 rw [List.find?_eq_none]
 intro r hr
 simp only [beq_iff_eq]
 exact h r hr
theorem selR_eq {d:Dev} (hR:DevR d) (hN:DevN d) (code:Bs):selR d code=selP d code:=by
 have hid0:regIs d idL=decide (d.id≠0):=by
  have h1:ownB d idL=false:=by
   unfold ownB
   rw [List.any_eq_false]
   intro r hr
   simp only [beq_iff_eq]
   exact (hN.nb r hr).2
  unfold regIs
  rw [h1]
  have:decide (idL=byL)=false:=by decide
  rw [this]
  simp
 have hreg:∀ n,regIs d n=true→(match d.regs.find? (fun x=>x.1==n) with | some r=>r | none=>(n,if n=idL then (32:Int) else 1))=regOf d n:=by
  intro n hn
  unfold regOf
  by_cases h1:n=byL
  ·rw [if_pos h1,findR_no fun r hr=>by rw [h1]; exact (hN.nb r hr).1]
   subst h1
   rfl
  ·rw [if_neg h1]
   by_cases h2:n=idL∧d.id≠0
   ·rw [if_pos h2,findR_no fun r hr=>by rw [h2.1]; exact (hN.nb r hr).2]
    simp [h2.1]
   ·rw [if_neg h2]
    have ho:ownB d n=true:=by
     unfold regIs at hn
     simp only [Bool.or_eq_true,Bool.and_eq_true,decide_eq_true_eq] at hn
     rcases hn with (hn | hn) | hn
     ·exact absurd hn h1
     ·exact absurd hn h2
     ·exact hn
    rw [ownB_find] at ho
    obtain ⟨r,hr⟩:=Option.isSome_iff_exists.1 ho
    rw [hr]
    rfl
 have hkey:∀ n,nameR d code=n→regIs d n=true→selR d code=regOf d n:=fun n hn hr=>by
  unfold selR
  rw [hn]
  exact hreg n hr
 have hnm:=nameR_of hR hN code
 unfold selP
 by_cases hc:code=[]
 ·rw [if_pos hc,hid0]
  by_cases hz:d.id=0
  ·rw [if_neg (fun h=>h.2 hz)] at hnm
   have e2:decide (d.id≠0)=false:=by simp [hz]
   rw [e2]
   have e3:nameOf d code=byL:=by
    have key:∀ (l:List (Bs × Bs)) (n:Bs),(∀ x∈l,x.1≠[])→l.foldl (fun n x=>if x.1=[] then x.2 else n) n=n:=by
     intro l
     induction l with
     | nil=>intro n _; rfl
     | cons x l ih =>
      intro n hl
      simp only [List.foldl_cons]
      rw [if_neg (hl x List.mem_cons_self)]
      exact ih n fun y hy=>hl y (List.mem_cons_of_mem _ hy)
    unfold nameOf
    rw [hc]
    exact key _ _ fun x hx h=>by
     have h1:=hN.ic x hx
     have h2:=hR.lg
     rw [h] at h1
     simp at h1
     omega
   rw [e3] at hnm
   rw [hkey _ hnm (by unfold regIs; simp)]
   simp [regOf]
  ·rw [if_pos ⟨hc,hz⟩] at hnm
   have e2:decide (d.id≠0)=true:=by simp [hz]
   rw [e2,if_pos rfl]
   exact hkey idL hnm (by rw [hid0]; exact e2)
 ·rw [if_neg hc]
  rw [if_neg (fun h=>hc h.1)] at hnm
  exact hkey _ hnm (nameOf_ok hR code)
theorem selP_reg {d:Dev} (hd:DevR d) (code:Bs):selP d code=(byL,1)∨selP d code=(idL,32)∨selP d code∈d.regs:=by
 have key:∀ n,regIs d n=true→regOf d n=(byL,1)∨regOf d n=(idL,32)∨regOf d n∈d.regs:=by
  intro n hn
  unfold regOf
  split
  ·exact .inl rfl
  ·split
   ·exact .inr (.inl rfl)
   ·rename_i h1 h2
    refine .inr (.inr ?_)
    have ho:ownB d n=true:=by
     unfold regIs at hn
     simp only [Bool.or_eq_true,Bool.and_eq_true,decide_eq_true_eq] at hn
     rcases hn with (hn | hn) | hn
     ·exact absurd hn h1
     ·exact absurd hn h2
     ·exact hn
    rw [ownB_find] at ho
    obtain ⟨r,hr⟩:=Option.isSome_iff_exists.1 ho
    rw [hr]
    exact List.mem_of_find?_eq_some hr
 unfold selP
 split
 ·split
  ·rename_i h
   exact key _ h
  ·exact .inl rfl
 ·exact key _ (nameOf_ok hd code)
end Go.Proofs.YtahjohieahehjaaGreatDoor
namespace Go.Proofs.YtahjohieahehjaaGreatDoor
def idTo (l:Bs):Nat→Nat
 | 0=>0
 | k+1=>idTo l k+bitM (l.getD k 0) * 2 ^ k
theorem idTo_lt {l:Bs} (h:∀ i,bitM (l.getD i 0)<2∨l.length≤i):∀ k,k≤l.length→idTo l k<2 ^ k
 | 0,_=>by simp [idTo]
 | k+1,hk=>by
  have h1:=idTo_lt h k (by omega)
  have h2:bitM (l.getD k 0)<2:=(h k).resolve_right (by omega)
  simp only [idTo]
  have h3:bitM (l.getD k 0)=0∨bitM (l.getD k 0)=1:=by omega
  rw [Nat.pow_succ]
  rcases h3 with e | e <;> rw [e] <;> omega
def identF (s:Bs):Nat→List Nat→Nat→List Nat × Nat × Int
 | 0,_,_=>([],0,8)
 | f+1,out,k =>
  if s.length≤k then ([],0,8)
  else if s.getD k 0=48 then identF s f (out++[0]) (k+1)
  else if s.length - k<32 then ([],0,9)
  else if idTo (s.drop k) 32=4294967295 then (if 20<out.length then ([],0,2) else (out,k,0))
  else identF s f (out++[idTo (s.drop k) 32]) (k+32)
def identV (s:Bs):List Nat × Nat × Int:=identF s (s.length+1) [] 0
theorem identF_len (s:Bs):∀ f out k,out.length≤k→k≤s.length→(identF s f out k).1.length≤s.length
 | 0,out,k,h,h2=>by simp [identF]
 | f+1,out,k,h,h2=>by
  unfold identF
  split
  ·simp
  ·split
   ·exact identF_len s f _ _ (by simp; omega) (by omega)
   ·split
    ·simp
    ·split
     ·split
      ·simp
      ·simp only; omega
     ·exact identF_len s f _ _ (by simp; omega) (by omega)
end Go.Proofs.YtahjohieahehjaaGreatDoor
namespace Go.Proofs.YtahjohieahehjaaGreatDoor
def atP (P:List Port) (a:Bs):Option Port:=P.find? fun p=>p.d.name==a
def inD (P:List Port):MK→Bool
 | .q a b=>match atP P a with
  | some p=>p.iD (.s b)
  | none=>false
 | _=>false
def inV (P:List Port):MK→Bs
 | .q a b=>match atP P a with
  | some p=>p.iV (.s b)
  | none=>[]
 | _=>[]
def outD (P:List Port):MK→Bool
 | .q a b=>match atP P a with
  | some p=>p.oD (.s b)
  | none=>false
 | _=>false
def outM (P:List Port):MK→Bs
 | .q a b=>match atP P a with
  | some p=>p.oV (.s b)
  | none=>[]
 | _=>[]
structure PortR (p:Port):Prop where
 r:DevR p.d
 n:DevN p.d
 iD:p.iD=mapD p.d.regs
 oD:p.oD=mapD p.d.regs
def Apart (P:List Port):Prop:=∀ (j k:Nat) (p q:Port),P[j]?=some p→P[k]?=some q→p.d.name=q.d.name→j=k
theorem atP_at {P:List Port} (h:Apart P) {k:Nat} {p:Port} (hp:P[k]?=some p):atP P p.d.name=some p:=by
 unfold atP
 cases hf:P.find? fun q=>q.d.name==p.d.name with
 | none =>
  have:=List.find?_eq_none.1 hf p (List.mem_of_getElem? hp)
  simp at this
 | some q =>
  have h1:=List.find?_some hf
  have h2:=List.mem_of_find?_eq_some hf
  obtain ⟨j,hj⟩:=List.mem_iff_getElem?.1 h2
  have:=h j k q p hj hp (by simpa using h1)
  subst this
  rw [hp] at hj
  exact hj.symm
theorem set_of {P:List Port} {k:Nat} {p q:Port} (hp:P[k]?=some p) (hd:q.d=p.d):∀ (i:Nat) (x:Port),(P.set k q)[i]?=some x→∃ x':Port,P[i]?=some x'∧x'.d=x.d:=by
 intro i x hx
 by_cases e:k=i
 ·subst e
  rw [List.getElem?_set_self (List.getElem?_eq_some_iff.1 hp).1] at hx
  injection hx with hx
  subst hx
  exact ⟨p,hp,hd.symm⟩
 ·rw [List.getElem?_set_ne e] at hx
  exact ⟨x,hx,rfl⟩
theorem atP_set {P:List Port} (h:Apart P) {k:Nat} {p q:Port} (hp:P[k]?=some p) (hd:q.d=p.d) (a:Bs):atP (P.set k q) a=if a=p.d.name then some q else atP P a:=by
 have hk:k<P.length:=(List.getElem?_eq_some_iff.1 hp).1
 have hset:(P.set k q)[k]?=some q:=by rw [List.getElem?_set_self hk]
 have hap:Apart (P.set k q):=by
  intro i j x y hx hy hn
  have e:=set_of hp hd
  obtain ⟨x',h1,h2⟩:=e i x hx
  obtain ⟨y',h3,h4⟩:=e j y hy
  exact h i j x' y' h1 h3 (by rw [h2,h4]; exact hn)
 by_cases ha:a=p.d.name
 ·rw [if_pos ha,ha,← hd]
  exact atP_at hap hset
 ·rw [if_neg ha]
  unfold atP
  have key:∀ (P:List Port) (k:Nat),P[k]?=some p→(P.set k q).find? (fun p=>p.d.name==a)=P.find? (fun p=>p.d.name==a):=by
   intro P
   induction P with
   | nil=>intro k h; simp at h
   | cons x P ih =>
    intro k h
    cases k with
    | zero =>
     simp only [List.getElem?_cons_zero,Option.some.injEq] at h
     subst h
     have e1:(x.d.name==a)=false:=by simpa using fun e=>ha e.symm
     have e2:(q.d.name==a)=false:=by rw [hd]; exact e1
     simp [List.find?_cons,e1,e2]
    | succ k =>
     simp only [List.getElem?_cons_succ] at h
     simp only [List.set_cons_succ,List.find?_cons,ih k h]
  exact key P k hp
theorem Apart.set {P:List Port} (h:Apart P) {k:Nat} {p q:Port} (hp:P[k]?=some p) (hd:q.d=p.d):Apart (P.set k q):=by
 intro i j x y hx hy hn
 have e:=set_of hp hd
 obtain ⟨x',h1,h2⟩:=e i x hx
 obtain ⟨y',h3,h4⟩:=e j y hy
 exact h i j x' y' h1 h3 (by rw [h2,h4]; exact hn)
def actR (st:Nat) (p:Port):Port:=if shifts st=true then p else (actV st p 48).1
theorem actR_d (st:Nat) (p:Port):(actR st p).d=p.d:=by
 unfold actR
 split
 ·rfl
 ·exact (actV_i st p 48).2.2
theorem mapD_mem {R:List (Bs × Int)} {r:Bs × Int} (h:r∈R):mapD R (.s r.1)=true:=by
 unfold mapD
 exact List.any_eq_true.2 ⟨r,h,by simp⟩
theorem sel_own {p:Port} (h:PortR p):((selP p.d p.instr).1=byL∨(selP p.d p.instr).1=idL)∧mapD p.d.regs (.s (selP p.d p.instr).1)=false∨((selP p.d p.instr).1≠byL∧(selP p.d p.instr).1≠idL)∧mapD p.d.regs (.s (selP p.d p.instr).1)=true:=by
 have hno:∀ n,(n=byL∨n=idL)→mapD p.d.regs (.s n)=false:=fun n hn=>by
  unfold mapD
  rw [List.any_eq_false]
  intro r hr
  have:=h.n.nb r hr
  simp only [decide_eq_true_eq,MK.s.injEq]
  intro e
  rcases hn with hn | hn
  ·exact this.1 (by rw [← e]; exact hn)
  ·exact this.2 (by rw [← e]; exact hn)
 rcases selP_reg h.r p.instr with e | e | e
 ·exact .inl ⟨.inl (by rw [e]),hno _ (.inl (by rw [e]))⟩
 ·exact .inl ⟨.inr (by rw [e]),hno _ (.inr (by rw [e]))⟩
 ·exact .inr ⟨h.n.nb _ e,mapD_mem e⟩
theorem actR_R {st:Nat} {p:Port} (h:PortR p):PortR (actR st p):=by
 have hd:=actR_d st p
 have hi:(actR st p).iD=p.iD:=by
  unfold actR
  split
  ·rfl
  ·exact (actV_i st p 48).1
 have ho:(actR st p).oD=p.oD:=by
  unfold actR
  split
  ·rfl
  ·unfold actV
   split
   ·rfl
   ·split
    ·rfl
    ·split
     ·rfl
     ·split
      ·split
       ·rename_i hsel
        rcases sel_own h with ⟨h1,_⟩ | ⟨_,h1⟩
        ·exact absurd h1 (by rintro (e | e); exact hsel.1 e; exact hsel.2 e)
        ·simp only
         funext q
         by_cases hq:q=.s (selP p.d p.instr).1
         ·rw [if_pos hq,hq,h.oD,h1]
         ·rw [if_neg hq]
       ·rfl
      ·split
       ·rfl
       ·split
        ·rfl
        ·rfl
 exact ⟨by rw [hd]; exact h.r,by rw [hd]; exact h.n,by rw [hi,hd]; exact h.iD,by rw [ho,hd]; exact h.oD⟩
structure RelR (D:List Dev) (P:List Port):Prop where
 len:P.length=D.length
 d:∀ k q,P[k]?=some q→q.d=D.getD k dev0∧PortR q∧PortV q
 ap:Apart P
 s:∀ q∈P,DevS q.d
theorem inD_same {P:List Port} (h:Apart P) {k:Nat} {p q:Port} (hp:P[k]?=some p) (hd:q.d=p.d) (hi:q.iD=p.iD):inD (P.set k q)=inD P:=by
 funext m
 cases m with
 | q a b =>
  simp only [inD]
  rw [atP_set h hp hd]
  by_cases ha:a=p.d.name
  ·rw [if_pos ha,ha,atP_at h hp]
   simp only [hi]
  ·rw [if_neg ha]
 | _=>rfl
theorem inV_same {P:List Port} (h:Apart P) {k:Nat} {p q:Port} (hp:P[k]?=some p) (hd:q.d=p.d) (hi:q.iV=p.iV):inV (P.set k q)=inV P:=by
 funext m
 cases m with
 | q a b =>
  simp only [inV]
  rw [atP_set h hp hd]
  by_cases ha:a=p.d.name
  ·rw [if_pos ha,ha,atP_at h hp]
   simp only [hi]
  ·rw [if_neg ha]
 | _=>rfl
theorem outD_same {P:List Port} (h:Apart P) {k:Nat} {p q:Port} (hp:P[k]?=some p) (hd:q.d=p.d) (hi:q.oD=p.oD):outD (P.set k q)=outD P:=by
 funext m
 cases m with
 | q a b =>
  simp only [outD]
  rw [atP_set h hp hd]
  by_cases ha:a=p.d.name
  ·rw [if_pos ha,ha,atP_at h hp]
   simp only [hi]
  ·rw [if_neg ha]
 | _=>rfl
theorem outM_same {P:List Port} (h:Apart P) {k:Nat} {p q:Port} (hp:P[k]?=some p) (hd:q.d=p.d) (hi:q.oV=p.oV):outM (P.set k q)=outM P:=by
 funext m
 cases m with
 | q a b =>
  simp only [outM]
  rw [atP_set h hp hd]
  by_cases ha:a=p.d.name
  ·rw [if_pos ha,ha,atP_at h hp]
   simp only [hi]
  ·rw [if_neg ha]
 | _=>rfl
theorem outD_upd {P:List Port} (h:Apart P) {k:Nat} {p q:Port} {s:Bs} (hp:P[k]?=some p) (hd:q.d=p.d) (ho:q.oD=fun m=>if m=.s s then true else p.oD m) :
  outD (P.set k q)=fun m=>if m=.q p.d.name s then true else outD P m:=by
 funext m
 cases m with
 | q a b =>
  simp only [outD]
  rw [atP_set h hp hd]
  by_cases ha:a=p.d.name
  ·rw [if_pos ha,ha,atP_at h hp]
   simp only [ho]
   by_cases hb:b=s
   ·simp [hb]
   ·rw [if_neg (by simpa using hb),if_neg (by simpa using hb)]
  ·rw [if_neg ha,if_neg (by simp [ha])]
 | _=>simp [outD]
theorem outM_upd {P:List Port} (h:Apart P) {k:Nat} {p q:Port} {s v:Bs} (hp:P[k]?=some p) (hd:q.d=p.d) (ho:q.oV=fun m=>if m=.s s then v else p.oV m) :
  outM (P.set k q)=fun m=>if m=.q p.d.name s then v else outM P m:=by
 funext m
 cases m with
 | q a b =>
  simp only [outM]
  rw [atP_set h hp hd]
  by_cases ha:a=p.d.name
  ·rw [if_pos ha,ha,atP_at h hp]
   simp only [ho]
   by_cases hb:b=s
   ·simp [hb]
   ·rw [if_neg (by simpa using hb),if_neg (by simpa using hb)]
  ·rw [if_neg ha,if_neg (by simp [ha])]
 | _=>simp [outM]
theorem set_none {P:List Port} {k:Nat} {p:Port} (hp:P[k]?=some p):P.set k p=P:=by
 apply List.ext_getElem?
 intro i
 by_cases e:k=i
 ·subst e
  rw [List.getElem?_set_self (List.getElem?_eq_some_iff.1 hp).1,hp]
 ·rw [List.getElem?_set_ne e]
theorem set_getD {P:List Port} {k:Nat} {p q z:Port} (hp:P[k]?=some p) (j:Nat):(P.set k q).getD j z=if j=k then q else P.getD j z:=by
 rw [List.getD_eq_getElem?_getD,List.getD_eq_getElem?_getD]
 by_cases e:k=j
 ·subst e
  rw [List.getElem?_set_self (List.getElem?_eq_some_iff.1 hp).1,if_pos rfl]
  rfl
 ·rw [List.getElem?_set_ne e,if_neg (fun h=>e h.symm)]
theorem RelR.act {D:List Dev} {P:List Port} (h:RelR D P) {k:Nat} {p q:Port} (hp:P[k]?=some p) (hd:q.d=p.d) (hR:PortR q) (hV:PortV q):RelR D (P.set k q):=by
 refine ⟨by rw [List.length_set]; exact h.len,fun j x hx=>?_,h.ap.set hp hd,fun x hx=>?_⟩
 ·by_cases e:k=j
  ·subst e
   rw [List.getElem?_set_self (List.getElem?_eq_some_iff.1 hp).1] at hx
   injection hx with hx
   subst hx
   exact ⟨by rw [hd]; exact (h.d k p hp).1,hR,hV⟩
  ·rw [List.getElem?_set_ne e] at hx
   exact h.d j x hx
 ·rcases List.mem_or_eq_of_mem_set hx with hx | rfl
  ·exact h.s x hx
  ·rw [hd]; exact h.s p (List.mem_of_getElem? hp)
theorem actR_V {st:Nat} {p:Port} (h:PortV p):PortV (actR st p):=by
 unfold actR
 split
 ·exact h
 ·exact (actV_V h (by decide)).1
end Go.Proofs.YtahjohieahehjaaGreatDoor
namespace Go.Proofs.YtahjohieahehjaaGreatDoor
def shTo (st:Nat) (P:List Port) (b:UInt8) (k:Nat):List Port × UInt8:=((clockP st (P.take k) b).1++P.drop k,(clockP st (P.take k) b).2)
theorem clockP_app (st:Nat):∀ (P:List Port) (p:Port) (b:UInt8),clockP st (P++[p]) b=((clockP st P b).1++[(actV st p (clockP st P b).2).1],(actV st p (clockP st P b).2).2)
 | [],p,b=>rfl
 | q::P,p,b=>by
  simp only [List.cons_append,clockP]
  rw [clockP_app st P p]
theorem take_one {P:List Port} {k:Nat} {p:Port} (hp:P[k]?=some p):P.take (k+1)=P.take k++[p]∧P.drop k=p::P.drop (k+1):=by
 have hk:=(List.getElem?_eq_some_iff.1 hp).1
 have e:P[k]=p:=by
  have:=List.getElem?_eq_getElem hk
  rw [hp] at this
  injection this with this
  exact this.symm
 refine ⟨by rw [List.take_add_one,hp]; rfl,by rw [List.drop_eq_getElem_cons hk,e]⟩
theorem shTo_succ {st:Nat} {P:List Port} {b:UInt8} {k:Nat} {p:Port} (hp:P[k]?=some p) :
  (shTo st P b k).1[k]?=some p∧shTo st P b (k+1)=((shTo st P b k).1.set k (actV st p (shTo st P b k).2).1,(actV st p (shTo st P b k).2).2):=by
 obtain ⟨h1,h2⟩:=take_one hp
 have hk:=(List.getElem?_eq_some_iff.1 hp).1
 have hl:(clockP st (P.take k) b).1.length=k:=by rw [clockP_len,List.length_take]; omega
 unfold shTo
 rw [h1,clockP_app,h2]
 refine ⟨?_,?_⟩
 ·rw [List.getElem?_append_right (by omega),hl,Nat.sub_self]
  rfl
 ·simp only [Prod.mk.injEq,and_true]
  rw [List.set_append_right _ _ (by omega),hl,Nat.sub_self]
  simp
theorem shTo_zero (st:Nat) (P:List Port) (b:UInt8):shTo st P b 0=(P,b):=by simp [shTo,clockP]
theorem shTo_all (st:Nat) (P:List Port) (b:UInt8):shTo st P b P.length=clockP st P b:=by simp [shTo]
def actTo (st:Nat) (P:List Port) (k:Nat):List Port:=(P.take k).map (actR st)++P.drop k
theorem actTo_succ {st:Nat} {P:List Port} {k:Nat} {p:Port} (hp:P[k]?=some p):(actTo st P k)[k]?=some p∧actTo st P (k+1)=(actTo st P k).set k (actR st p):=by
 obtain ⟨h1,h2⟩:=take_one hp
 have hk:=(List.getElem?_eq_some_iff.1 hp).1
 have hl:((P.take k).map (actR st)).length=k:=by rw [List.length_map,List.length_take]; omega
 unfold actTo
 rw [h1,List.map_append,h2]
 refine ⟨?_,?_⟩
 ·rw [List.getElem?_append_right (by omega),hl,Nat.sub_self]
  rfl
 ·rw [List.set_append_right _ _ (by omega),hl,Nat.sub_self]
  simp
theorem actTo_zero (st:Nat) (P:List Port):actTo st P 0=P:=by simp [actTo]
theorem actTo_all (st:Nat) (P:List Port):actTo st P P.length=P.map (actR st):=by simp [actTo]
theorem actR_shift {st:Nat} (h:shifts st=true) (P:List Port):P.map (actR st)=P:=by
 have:actR st=id:=by
  funext p
  unfold actR
  rw [if_pos h]
  rfl
 rw [this,List.map_id]
theorem actR_still {st:Nat} (h:shifts st=false) (P:List Port) (b:UInt8):clockP st P b=(P.map (actR st),b):=by
 rw [clock_still h]
 congr 2
 funext p
 unfold actR
 rw [if_neg (by rw [h]; simp)]
theorem RelR.acts {D:List Dev} {P:List Port} (h:RelR D P) (st:Nat):∀ k,k≤P.length→RelR D (actTo st P k)
 | 0,_=>by rw [actTo_zero]; exact h
 | k+1,hk=>by
  have hp:P[k]?=some P[k]:=List.getElem?_eq_getElem (by omega)
  obtain ⟨h1,h2⟩:=actTo_succ (st:=st) hp
  obtain ⟨_,hR,hV⟩:=h.d k _ hp
  rw [h2]
  exact (h.acts st k (by omega)).act h1 (actR_d st _) (actR_R hR) (actR_V hV)
theorem act_shiftR {st:Nat} (hs:shifts st=true) {p:Port} (hR:PortR p) (b:UInt8):PortR (actV st p b).1∧(actV st p b).1.d=p.d∧actV st p b=({ p with shift:=p.shift.drop 1++[b] },p.shift.getD 0 0):=by
 have h411:st=4∨st=11:=by
  unfold shifts at hs
  simpa using hs
 have e:actV st p b=({ p with shift:=p.shift.drop 1++[b] },p.shift.getD 0 0):=by
  unfold actV
  rw [if_neg (by omega),if_neg (by omega),if_pos h411]
 refine ⟨?_,by rw [e],e⟩
 rw [e]
 exact ⟨hR.r,hR.n,hR.iD,hR.oD⟩
theorem RelR.shift {D:List Dev} {P:List Port} (h:RelR D P) {st:Nat} (hs:shifts st=true) {b:UInt8} (hb:oneBit b=true):∀ k,k≤P.length→RelR D (shTo st P b k).1∧oneBit (shTo st P b k).2=true
 | 0,_=>by rw [shTo_zero]; exact ⟨h,hb⟩
 | k+1,hk=>by
  have hp:P[k]?=some P[k]:=List.getElem?_eq_getElem (by omega)
  obtain ⟨h1,h2⟩:=shTo_succ (st:=st) (b:=b) hp
  obtain ⟨_,hR,hV⟩:=h.d k _ hp
  obtain ⟨g1,g2⟩:=h.shift hs hb k (by omega)
  obtain ⟨f1,f2,_⟩:=act_shiftR hs hR (shTo st P b k).2
  have f3:=actV_V (st:=st) hV g2
  rw [h2]
  exact ⟨g1.act h1 f2 f1 f3.1,f3.2⟩
theorem RelR.clock {D:List Dev} {P:List Port} (h:RelR D P) (st:Nat) {b:UInt8} (hb:oneBit b=true):RelR D (clockP st P b).1:=by
 cases hs:shifts st
 ·rw [actR_still hs,← actTo_all]
  exact h.acts st _ (Nat.le_refl _)
 ·rw [← shTo_all]
  exact (h.shift hs hb _ (Nat.le_refl _)).1
end Go.Proofs.YtahjohieahehjaaGreatDoor
namespace Go.Proofs.YtahjohieahehjaaGreatDoor
open Go.RowKit
end Go.Proofs.YtahjohieahehjaaGreatDoor
namespace Go.Proofs.YtahjohieahehjaaGreatDoor
open Go.RowKit
end Go.Proofs.YtahjohieahehjaaGreatDoor
namespace Go.Proofs.YtahjohieahehjaaGreatDoor
open Go.RowKit
end Go.Proofs.YtahjohieahehjaaGreatDoor
namespace Go.Proofs.YtahjohieahehjaaGreatDoor
open Go.RowKit
theorem isState_c (n:Int) (nid:Nat):ACall Tryz.prog 122 [.int .i64 n] [] nid (.bool (!outB n 0 15)) []:=by
 refine acall_run c122 (by simp [a122]) ?_
 simp -dsimp only [a122,aqT,aqU,aqN,aqP,aqM,↓seqK,↓blkK,↓loopK,step,stepBin,eqB,Nat.reduceBEq,Nat.reduceBeqDiff,Nat.add_assoc nid,Nat.reduceAdd,reduceCtorEq,↓reduceIte,Nat.reduceLeDiff,Nat.reduceBneDiff,Option.toList,← Int.ofNat_tmod,← Int.ofNat_tdiv,Nat.reduceLT]
 refine CallO.pure (out_c _ _ _ _) ?_
 simp -dsimp only [aqT,aqU,aqN,aqP,aqM,↓seqK,↓blkK,↓loopK,step,stepBin,eqB,Nat.reduceBEq,Nat.reduceBeqDiff,Nat.add_assoc nid,Nat.reduceAdd,reduceCtorEq,↓reduceIte,Nat.reduceLeDiff,Nat.reduceBneDiff,Option.toList,← Int.ofNat_tmod,← Int.ofNat_tdiv,Nat.reduceLT]
 refine RetOK.pure (.inl rfl) rfl ?_
 simp [cvT,step,res]
theorem pathP (s t nid:Nat) (hs:s<16) (ht:t<16):ACall Tryz.prog 72 [.int .i64 (s:Nat),.int .i64 (t:Nat)] [] nid (.tup [.str (pathV s t),.int .i64 0]) []:=by
 have h1:outB (s:Nat) 0 15=false:=by unfold outB; simp; omega
 have h2:outB (t:Nat) 0 15=false:=by unfold outB; simp; omega
 refine acall_run c72 (by simp [a72]) ?_
 simp -dsimp only [a72,aqT,aqU,aqN,aqP,aqM,↓seqK,↓blkK,↓loopK,step,stepBin,eqB,Nat.reduceBEq,Nat.reduceBeqDiff,Nat.add_assoc nid,Nat.reduceAdd,reduceCtorEq,↓reduceIte,Nat.reduceLeDiff,Nat.reduceBneDiff,Option.toList,← Int.ofNat_tmod,← Int.ofNat_tdiv,Nat.reduceLT]
 refine CallO.pure (isState_c _ _) ?_
 rw [h1]
 simp -dsimp only [aqT,aqU,aqN,aqP,aqM,↓seqK,↓blkK,↓loopK,step,stepBin,eqB,Nat.reduceBEq,Nat.reduceBeqDiff,Nat.add_assoc nid,Nat.reduceAdd,reduceCtorEq,↓reduceIte,Nat.reduceLeDiff,Nat.reduceBneDiff,Option.toList,← Int.ofNat_tmod,← Int.ofNat_tdiv,Nat.reduceLT,Bool.not_false,Bool.not_true]
 refine CallO.pure (isState_c _ _) ?_
 rw [h2]
 simp -dsimp only [aqT,aqU,aqN,aqP,aqM,↓seqK,↓blkK,↓loopK,step,stepBin,eqB,Nat.reduceBEq,Nat.reduceBeqDiff,Nat.add_assoc nid,Nat.reduceAdd,reduceCtorEq,↓reduceIte,Nat.reduceLeDiff,Nat.reduceBneDiff,Option.toList,← Int.ofNat_tmod,← Int.ofNat_tdiv,Nat.reduceLT,Bool.not_false,Bool.not_true]
 refine CallO.pure (path_st s t _ hs) ?_
 simp -dsimp only [aqT,aqU,aqN,aqP,aqM,↓seqK,↓blkK,↓loopK,step,stepBin,eqB,Nat.reduceBEq,Nat.reduceBeqDiff,Nat.add_assoc nid,Nat.reduceAdd,reduceCtorEq,↓reduceIte,Nat.reduceLeDiff,Nat.reduceBneDiff,Option.toList,← Int.ofNat_tmod,← Int.ofNat_tdiv,Nat.reduceLT]
 refine RetOK.pure (.inl rfl) rfl ?_
 simp [cvT,step,res]
theorem path41:pathV 4 1=[49,49,48]:=by decide
theorem path41_c (nid:Nat):ACall Tryz.prog 72 [.int .i64 4,.int .i64 1] [] nid (.tup [.str [49,49,48],.int .i64 0]) []:=by
 have h:=pathP 4 1 nid (by omega) (by omega)
 rw [path41] at h
 exact h
end Go.Proofs.YtahjohieahehjaaGreatDoor
namespace Go.Proofs.YtahjohieahehjaaGreatDoor
open Go.RowKit
theorem Scoped.cons {b i:Nat} {c:Option ABlk} {Hs:Heap} (hi:i<b) (hc:lowBlk b c=true) (h:Scoped b Hs):Scoped b ((i,c)::Hs):=by
 have:=lowHeap_cons hi hc h.lowHeap
 exact ⟨this.1,this.2⟩
theorem subH_mix1 {b k:Nat} {Hs R:Heap} (A:Option ABlk) (hs:Scoped b Hs) (hk:b≤k):subH ((k,A)::Hs) (Hs++(k,A)::R):=fun id y hy=>by
 simp only [getH] at hy
 rw [getH_appC]
 cases e:(k==id)
 ·rw [e] at hy
  simp only [cond_false] at hy
  rw [getH_key hy]
  exact hy
 ·rw [e] at hy
  simp only [cond_true] at hy
  have e':=eq_of_beq e
  subst e'
  cases hc:(keys Hs).contains k
  ·simp only [cond_false,getH,e,cond_true]
   exact hy
  ·have:=hs.lt k (by simpa using hc)
   omega
theorem portsK_ok {D:List Dev} (he:devsE D=0) (f:(Nat→Bool) × (Nat→Bool)):ChOk D.length ⟨0,portsK D f D.length⟩ :=
 ⟨by simp only; omega,portsK_len _ _ _,fun p hp=>by
  unfold portsK at hp
  obtain ⟨j,hj,rfl⟩:=List.mem_map.1 hp
  have hj':=List.mem_range.1 hj
  exact port0_V (devR_of he _ (by rw [List.getD_eq_getElem?_getD,List.getElem?_eq_getElem hj']; exact List.getElem_mem _)) _ _⟩
end Go.Proofs.YtahjohieahehjaaGreatDoor
namespace Go.Proofs.YtahjohieahehjaaGreatDoor
theorem names_ne {D:List Dev} (he:devsE D=0) {j k:Nat} (hj:j<k) (hk:k<D.length):¬ (D.getD j dev0).name=(D.getD k dev0).name:=by
 unfold devsE at he
 split at he
 ·cases he
 split at he
 ·cases he
 have hf:=fb_all he k (List.mem_range.2 hk)
 unfold devE at hf
 split at hf
 ·cases hf
 split at hf
 ·cases hf
 rename_i h1 h2
 intro hn
 apply h2
 refine List.any_eq_true.2 ⟨D.getD j dev0,?_,by simp only [beq_iff_eq]; exact hn⟩
 rw [List.getD_eq_getElem?_getD,List.getElem?_eq_getElem (by omega)]
 exact List.mem_take_iff_getElem.2 ⟨j,by omega,rfl⟩
end Go.Proofs.YtahjohieahehjaaGreatDoor
namespace Go.Proofs.YtahjohieahehjaaGreatDoor
abbrev KR:=Bs × (Bs × Int)
def keysD (D:List Dev):List KR:=D.flatMap fun d=>d.regs.map fun r=>(d.name,r)
def mapD2 (L:List KR) (q:MK):Bool:=L.any fun e=>decide (q=.q e.1 e.2.1)
def stepV (q:MK) (v:Bs) (e:KR):Bs:=if q=.q e.1 e.2.1 then Lib.repeatL [48] e.2.2.toNat else v
def mapV2 (L:List KR) (q:MK):Bs:=L.foldl (stepV q) []
theorem mapD2_snoc (L:List KR) (e:KR) (q:MK):mapD2 (L++[e]) q=if q=.q e.1 e.2.1 then true else mapD2 L q:=by
 unfold mapD2
 rw [List.any_append]
 by_cases h:q=.q e.1 e.2.1 <;> simp [h]
theorem mapV2_snoc (L:List KR) (e:KR) (q:MK):mapV2 (L++[e]) q=if q=.q e.1 e.2.1 then Lib.repeatL [48] e.2.2.toNat else mapV2 L q:=by
 unfold mapV2
 rw [List.foldl_append]
 rfl
theorem keysD_take {D:List Dev} {k:Nat} (hk:k<D.length):keysD (D.take (k+1))=keysD (D.take k)++(D.getD k dev0).regs.map fun r=>((D.getD k dev0).name,r):=by
 unfold keysD
 rw [List.take_add_one,List.getElem?_eq_getElem hk,Option.toList_some,List.flatMap_append,List.getD_eq_getElem?_getD,List.getElem?_eq_getElem hk]
 simp
theorem seg_other {d:Dev} {a b:Bs} (h:d.name≠a) (v:Bs):(d.regs.map fun r=>((d.name,r):KR)).foldl (stepV (.q a b)) v=v:=by
 have key:∀ (R:List (Bs × Int)) (v:Bs),(R.map fun r=>((d.name,r):KR)).foldl (stepV (.q a b)) v=v:=by
  intro R
  induction R with
  | nil=>intro v; rfl
  | cons r R ih =>
   intro v
   simp only [List.map_cons,List.foldl_cons]
   rw [ih]
   unfold stepV
   rw [if_neg (by simp; intro e; exact absurd e.symm h)]
 exact key _ v
theorem seg_own {d:Dev} (b v:Bs):(d.regs.map fun r=>((d.name,r):KR)).foldl (stepV (.q d.name b)) v=d.regs.foldl (fun v r=>if MK.s b=.s r.1 then Lib.repeatL [48] r.2.toNat else v) v:=by
 have key:∀ (R:List (Bs × Int)) (v:Bs),(R.map fun r=>((d.name,r):KR)).foldl (stepV (.q d.name b)) v=R.foldl (fun v r=>if MK.s b=.s r.1 then Lib.repeatL [48] r.2.toNat else v) v:=by
  intro R
  induction R with
  | nil=>intro v; rfl
  | cons r R ih =>
   intro v
   simp only [List.map_cons,List.foldl_cons]
   rw [ih]
   congr 1
   unfold stepV
   by_cases e:b=r.1
   ·rw [if_pos (by simp [e]),if_pos (by rw [e])]
   ·rw [if_neg (by simp [e]),if_neg (by simp [e])]
 exact key _ v
theorem fold_other {D:List Dev} {a b:Bs} (h:∀ d∈D,d.name≠a) (v:Bs):(keysD D).foldl (stepV (.q a b)) v=v:=by
 induction D generalizing v with
 | nil=>rfl
 | cons d D ih =>
  have e:keysD (d::D)=(d.regs.map fun r=>(d.name,r))++keysD D:=by simp [keysD]
  rw [e,List.foldl_append,seg_other (h d List.mem_cons_self),ih fun x hx=>h x (List.mem_cons_of_mem _ hx)]
theorem names_nd {D:List Dev} (he:devsE D=0) {d x:Dev} {D1 D2:List Dev} (hD:D=D1++d::D2) (hx:x∈D1∨x∈D2):x.name≠d.name:=by
 have hd:D.getD D1.length dev0=d:=by rw [hD,List.getD_eq_getElem?_getD,List.getElem?_append_right (Nat.le_refl _),Nat.sub_self]; rfl
 have hl:D1.length<D.length:=by rw [hD]; simp
 rcases hx with hx | hx
 ·obtain ⟨i,hi,rfl⟩:=List.getElem_of_mem hx
  have e:D.getD i dev0=D1[i]:=by rw [hD,List.getD_eq_getElem?_getD,List.getElem?_append_left hi,List.getElem?_eq_getElem hi]; rfl
  have:=names_ne he (j:=i) (k:=D1.length) hi hl
  rw [e,hd] at this
  exact this
 ·obtain ⟨i,hi,rfl⟩:=List.getElem_of_mem hx
  have hlt:D1.length+1+i<D.length:=by rw [hD]; simp; omega
  have e:D.getD (D1.length+1+i) dev0=D2[i]:=by
   rw [hD,List.getD_eq_getElem?_getD,List.getElem?_append_right (by omega),show D1.length+1+i - D1.length=i+1 by omega,List.getElem?_cons_succ,List.getElem?_eq_getElem hi]
   rfl
  have:=names_ne he (j:=D1.length) (k:=D1.length+1+i) (by omega) hlt
  rw [e,hd] at this
  exact fun h=>this h.symm
theorem val_own {D:List Dev} (he:devsE D=0) {d:Dev} (hd:d∈D) (b:Bs):mapV2 (keysD D) (.q d.name b)=mapV d.regs (.s b):=by
 obtain ⟨D1,D2,rfl⟩:=List.append_of_mem hd
 have e:keysD (D1++d::D2)=keysD D1++((d.regs.map fun r=>(d.name,r))++keysD D2):=by simp [keysD]
 unfold mapV2
 rw [e,List.foldl_append,List.foldl_append,fold_other (fun x hx=>names_nd he rfl (.inl hx)),seg_own,fold_other (fun x hx=>names_nd he rfl (.inr hx))]
 rfl
theorem dom_own {D:List Dev} (he:devsE D=0) {d:Dev} (hd:d∈D) (b:Bs):mapD2 (keysD D) (.q d.name b)=mapD d.regs (.s b):=by
 rw [Bool.eq_iff_iff]
 unfold mapD2 mapD
 rw [List.any_eq_true,List.any_eq_true]
 constructor
 ·rintro ⟨e,h1,h2⟩
  simp only [decide_eq_true_eq,MK.q.injEq] at h2
  obtain ⟨x,hx,h3⟩:=List.mem_flatMap.1 h1
  obtain ⟨r,hr,rfl⟩:=List.mem_map.1 h3
  simp only at h2
  have hxd:x=d:=by
   obtain ⟨D1,D2,rfl⟩:=List.append_of_mem hd
   rcases List.mem_append.1 hx with h | h
   ·exact absurd h2.1.symm (names_nd he rfl (.inl h))
   ·rcases List.mem_cons.1 h with h | h
    ·exact h
    ·exact absurd h2.1.symm (names_nd he rfl (.inr h))
  subst hxd
  exact ⟨r,hr,by simp [h2.2]⟩
 ·rintro ⟨r,hr,h2⟩
  simp only [decide_eq_true_eq,MK.s.injEq] at h2
  exact ⟨(d.name,r),List.mem_flatMap.2 ⟨d,hd,List.mem_map.2 ⟨r,hr,rfl⟩⟩,by simp [h2]⟩
theorem dom_none {D:List Dev} {a b:Bs} (h:∀ d∈D,d.name≠a):mapD2 (keysD D) (.q a b)=false:=by
 unfold mapD2
 rw [List.any_eq_false]
 intro e he
 obtain ⟨x,hx,h3⟩:=List.mem_flatMap.1 he
 obtain ⟨r,hr,rfl⟩:=List.mem_map.1 h3
 have:=h x hx
 simp
 intro e
 exact absurd e.symm this
theorem mapD2_off {L:List KR} {q:MK} (h:∀ a b,q≠.q a b):mapD2 L q=false:=by
 unfold mapD2
 rw [List.any_eq_false]
 intro e _
 simp only [decide_eq_true_eq]
 exact h _ _
theorem portsK_at {D:List Dev} {f:(Nat→Bool) × (Nat→Bool)} {k:Nat} (hk:k<D.length):(portsK D f D.length)[k]?=some (port0 (D.getD k dev0) (f.1 k) (f.2 k)):=by
 unfold portsK
 rw [List.getElem?_map,List.getElem?_range hk]
 rfl
theorem portsK_ap {D:List Dev} (he:devsE D=0) (f:(Nat→Bool) × (Nat→Bool)):Apart (portsK D f D.length):=by
 intro j k p q hp hq hn
 have hj:j<D.length:=by have:=(List.getElem?_eq_some_iff.1 hp).1; rwa [portsK_len] at this
 have hk:k<D.length:=by have:=(List.getElem?_eq_some_iff.1 hq).1; rwa [portsK_len] at this
 rw [portsK_at hj] at hp
 rw [portsK_at hk] at hq
 injection hp with hp
 injection hq with hq
 subst hp
 subst hq
 simp only [port0] at hn
 rcases Nat.lt_trichotomy j k with h | h | h
 ·exact absurd hn (names_ne he h hk)
 ·exact h
 ·exact absurd hn.symm (names_ne he h hj)
theorem portsK_R {D:List Dev} (he:devsE D=0) (hS:∀ d∈D,DevS d) (f:(Nat→Bool) × (Nat→Bool)):RelR D (portsK D f D.length):=by
 refine ⟨portsK_len _ _ _,fun k q hq=>?_,portsK_ap he f,fun q hq=>?_⟩
 ·have hk:k<D.length:=by have:=(List.getElem?_eq_some_iff.1 hq).1; rwa [portsK_len] at this
  rw [portsK_at hk] at hq
  injection hq with hq
  subst hq
  have hm:D.getD k dev0∈D:=by rw [List.getD_eq_getElem?_getD,List.getElem?_eq_getElem hk]; exact List.getElem_mem _
  exact ⟨rfl,⟨devR_of he _ hm,devN_of he _ hm,rfl,rfl⟩,port0_V (devR_of he _ hm) _ _⟩
 ·unfold portsK at hq
  obtain ⟨j,hj,rfl⟩:=List.mem_map.1 hq
  have hj':=List.mem_range.1 hj
  exact hS _ (by show D.getD j dev0∈D; rw [List.getD_eq_getElem?_getD,List.getElem?_eq_getElem hj']; exact List.getElem_mem _)
theorem new_maps {D:List Dev} (he:devsE D=0) (f:(Nat→Bool) × (Nat→Bool)) (q:MK) :
  (mapD2 (keysD D) q=inD (portsK D f D.length) q∧(mapD2 (keysD D) q=true→mapV2 (keysD D) q=inV (portsK D f D.length) q)) ∧
  (mapD2 (keysD D) q=outD (portsK D f D.length) q∧(mapD2 (keysD D) q=true→mapV2 (keysD D) q=outM (portsK D f D.length) q)):=by
 cases q with
 | q a b =>
  by_cases ha:∃ k,k<D.length∧(D.getD k dev0).name=a
  ·obtain ⟨k,hk,rfl⟩:=ha
   have hm:D.getD k dev0∈D:=by rw [List.getD_eq_getElem?_getD,List.getElem?_eq_getElem hk]; exact List.getElem_mem _
   have hat:=atP_at (portsK_ap he f) (portsK_at (f:=f) hk)
   have hat':atP (portsK D f D.length) (D.getD k dev0).name=some (port0 (D.getD k dev0) (f.1 k) (f.2 k)):=hat
   rw [dom_own he hm,val_own he hm]
   simp [inD,inV,outD,outM,hat',port0,-List.getD_eq_getElem?_getD]
  ·have hno:∀ d∈D,d.name≠a:=fun d hd hn=>by
    obtain ⟨i,hi,rfl⟩:=List.getElem_of_mem hd
    exact ha ⟨i,hi,by rw [List.getD_eq_getElem?_getD,List.getElem?_eq_getElem hi]; exact hn⟩
   have hat:atP (portsK D f D.length) a=none:=by
    unfold atP
    rw [List.find?_eq_none]
    intro p hp
    unfold portsK at hp
    obtain ⟨j,hj,rfl⟩:=List.mem_map.1 hp
    have hj':=List.mem_range.1 hj
    simp only [port0,beq_iff_eq]
    exact hno _ (by rw [List.getD_eq_getElem?_getD,List.getElem?_eq_getElem hj']; exact List.getElem_mem _)
   rw [dom_none hno]
   simp [inD,outD,hat]
 | i n=>rw [mapD2_off (by simp)]; exact ⟨⟨rfl,fun h=>by cases h⟩,⟨rfl,fun h=>by cases h⟩⟩
 | s n=>rw [mapD2_off (by simp)]; exact ⟨⟨rfl,fun h=>by cases h⟩,⟨rfl,fun h=>by cases h⟩⟩
 | p n m=>rw [mapD2_off (by simp)]; exact ⟨⟨rfl,fun h=>by cases h⟩,⟨rfl,fun h=>by cases h⟩⟩
end Go.Proofs.YtahjohieahehjaaGreatDoor
namespace Go.Proofs.YtahjohieahehjaaGreatDoor
def runTo (x:ChV) (t d:Bs):Nat→ChV
 | 0=>x
 | k+1=>tickV nextN (runTo x t d k) (bitM (t.getD k 0)) (d.getD k 0)
def runC (x:ChV) (t d:Bs) (k:Nat):UInt8:=if shifts (runTo x t d k).st=true then tickO (runTo x t d k) (d.getD k 0) else 122
def runV (x:ChV) (t d:Bs):Bs:=(List.range t.length).map (runC x t d)
def runFault (t d:Bs):Int:=if 20000<t.length∨20000<d.length then 2 else if ¬ t.length=d.length then 3 else if bitsOk t=true∧bitsOk d=true then 0 else 9
theorem runFault_ok {t d:Bs} (h:runFault t d=0):t.length≤20000∧t.length=d.length∧t.all oneBit=true∧d.all oneBit=true:=by
 unfold runFault at h
 split at h
 ·cases h
 ·split at h
  ·cases h
  ·split at h
   ·rename_i h1 h2 h3
    exact ⟨by omega,by omega,h3.1,h3.2⟩
   ·cases h
theorem runs_ok {n:Nat} {x:ChV} {t d:Bs} (h:ChOk n x) (ht:t.all oneBit=true) (hd:d.all oneBit=true) (hl:t.length=d.length):∀ k,k≤t.length→ChOk n (runTo x t d k)
 | 0,_=>h
 | k+1,hk=>tick_ok (fun s t hs ht=>nextN_lt hs ht) (runs_ok h ht hd hl k (by omega)) (bitM_lt (bits_at ht (by omega))).1 (bits_at hd (by omega))
theorem runs_R {n:Nat} {D:List Dev} {x:ChV} {t d:Bs} (h:ChOk n x) (hR:RelR D x.P) (ht:t.all oneBit=true) (hd:d.all oneBit=true) (hl:t.length=d.length):∀ k,k≤t.length→RelR D (runTo x t d k).P
 | 0,_=>hR
 | k+1,hk=>(runs_R h hR ht hd hl k (by omega)).clock _ (bits_at hd (by omega))
theorem runC_bit {n:Nat} {x:ChV} {t d:Bs} (h:ChOk n x) (ht:t.all oneBit=true) (hd:d.all oneBit=true) (hl:t.length=d.length) {k:Nat} (hk:k<t.length):oneBit (tickO (runTo x t d k) (d.getD k 0))=true :=
 (clockP_V (runs_ok h ht hd hl k (by omega)).ok (bits_at hd (by omega))).2
def bareP (p:Port):Port:={ p with m1:=false,m2:=false }
theorem act_bare (st:Nat) (p:Port) (b:UInt8):actV st (bareP p) b=(bareP (actV st p b).1,(actV st p b).2):=by
 have hc:captV (bareP p)=captV p:=rfl
 unfold actV
 split
 ·rfl
 ·split
  ·rw [hc]; rfl
  ·split
   ·rfl
   ·split
    ·show (if (selP p.d p.instr).1≠byL∧(selP p.d p.instr).1≠idL then _ else _,b)=(bareP (if (selP p.d p.instr).1≠byL∧(selP p.d p.instr).1≠idL then _ else _),b)
     split <;> rfl
    ·split
     ·rfl
     ·split
      ·rfl
      ·rfl
theorem clock_bare (st:Nat):∀ (P:List Port) (b:UInt8),clockP st (P.map bareP) b=((clockP st P b).1.map bareP,(clockP st P b).2)
 | [],b=>rfl
 | p::P,b=>by
  simp only [List.map_cons,clockP]
  rw [act_bare,clock_bare st P]
theorem runs_bare (s:Nat) (P:List Port) (t d:Bs):∀ k,runTo ⟨s,P.map bareP⟩ t d k=⟨(runTo ⟨s,P⟩ t d k).st,(runTo ⟨s,P⟩ t d k).P.map bareP⟩
 | 0=>rfl
 | k+1=>by
  simp only [runTo]
  rw [runs_bare s P t d k]
  unfold tickV
  simp only
  rw [clock_bare]
theorem runV_bare (s:Nat) (P:List Port) (t d:Bs):runV ⟨s,P.map bareP⟩ t d=runV ⟨s,P⟩ t d:=by
 unfold runV
 refine List.map_congr_left fun k _=>?_
 unfold runC
 rw [runs_bare]
 simp only
 unfold tickO
 simp only
 rw [clock_bare]
def portsN (D:List Dev):List Port:=portsK D (fun _=>false,fun _=>false) D.length
theorem runV_new (D:List Dev) (f:(Nat→Bool) × (Nat→Bool)) (t d:Bs):runV ⟨0,portsK D f D.length⟩ t d=runV ⟨0,portsN D⟩ t d:=by
 rw [← runV_bare 0 (portsK D f D.length),← runV_bare 0 (portsN D)]
 congr 2
 unfold portsN portsK
 rw [List.map_map,List.map_map]
 rfl
end Go.Proofs.YtahjohieahehjaaGreatDoor
namespace Go.Proofs.YtahjohieahehjaaGreatDoor
open Go.RowKit
theorem findR_at {n:Bs}:∀ {R:List (Bs × Int)} {k:Nat},k<R.length→(R.getD k reg0).1=n→(∀ j,j<k→(R.getD j reg0).1≠n)→R.find? (fun x=>x.1==n)=some (R.getD k reg0)
 | [],k,hk,_,_=>by simp at hk
 | r::R,0,_,h,_=>by
  have h':r.1=n:=h
  rw [List.find?_cons_of_pos (by simp [h'])]
  rfl
 | r::R,k+1,hk,h,hj=>by
  have h0:r.1≠n:=hj 0 (by omega)
  rw [List.find?_cons_of_neg (by simp [h0])]
  exact findR_at (R:=R) (by simpa using hk) h fun j hjk=>hj (j+1) (by omega)
theorem findR_off {R:List (Bs × Int)} {n:Bs} (h:∀ j,j<R.length→(R.getD j reg0).1≠n):R.find? (fun x=>x.1==n)=none :=
 findR_no fun r hr=>by
  obtain ⟨j,hj,rfl⟩:=List.getElem_of_mem hr
  have:=h j hj
  rwa [List.getD_eq_getElem?_getD,List.getElem?_eq_getElem hj] at this
def nameFrom (d:Dev) (code n:Bs) (k:Nat):Bs:=(d.ins.take k).foldl (fun n x=>if x.1=code then x.2 else n) n
theorem nameFrom_succ (d:Dev) (code n:Bs) {k:Nat} (hk:k<d.ins.length):nameFrom d code n (k+1)=if (d.ins.getD k ins0).1=code then (d.ins.getD k ins0).2 else nameFrom d code n k:=by
 have e:d.ins.getD k ins0=d.ins[k]:=by rw [List.getD_eq_getElem?_getD,List.getElem?_eq_getElem hk]; rfl
 unfold nameFrom
 rw [List.take_add_one,List.getElem?_eq_getElem hk,List.foldl_append,e]
 rfl
set_option maxHeartbeats 4000000 in
theorem selR_c (n1 n2:Bool) (d:Dev) (code:Bs) (nid:Nat) (hR:d.regs.length≤1000) (hI:d.ins.length≤1000) :
  ACall Tryz.prog 49 [dvP n1 n2 d,.str code] [] nid (.agg [.str (selR d code).1,.int .i64 (selR d code).2]) []:=by
 refine acall_sr c49 (by simp [a49]) ?_
 unfold a49 dvP litRg litIn
 refine SR.seqTo ⟨[(2,.ptr nid 0),(4,.ptr (nid+4) 0),(1,.str code)],[(nid,boxL n1 n2 d),(nid+4,boxRg reg0)],nid+100,nid⟩ ?_ ?_
 ·simp -dsimp only [aqA,↓seqK,↓blkK,↓loopK,step,stepBin,eqB,Nat.add_assoc nid,↓reduceIte,simprocAttr,LN_succ]
  refine Cov.go [] [] ?_
  simp [cvT,step,res,boxL,boxRg,reg0,litRg,litIn,-List.getD_eq_getElem?_getD]
 refine SR.seq ?_
 simp -dsimp only [aqA,↓seqK,↓blkK,↓loopK,step,stepBin,eqB,Nat.add_assoc nid,↓reduceIte,simprocAttr,LN_succ]
 obtain ⟨n0,hn0⟩:∃ n0,(if code=[]∧d.id≠0 then idL else byL)=n0:=⟨_,rfl⟩
 refine SR.seqTo ⟨[(5,.str n0),(2,.ptr nid 0),(4,.ptr (nid+4) 0),(1,.str code)],[(nid,boxL n1 n2 d),(nid+4,boxRg reg0)],nid+200,nid⟩ ?_ ?_
 ·unfold boxL boxRg litRg litIn
  have e1:=strEq code []
  by_cases h1:code=[]
  ·rw [decide_eq_true h1] at e1
   by_cases h2:d.id=0
   ·have e2:(d.id != 0)=false:=by simp [h2]
    rw [if_neg (fun h=>h.2 h2)] at hn0
    subst hn0
    simp -dsimp only [aqA,↓seqK,↓blkK,↓loopK,step,stepBin,eqB,Nat.add_assoc nid,↓reduceIte,simprocAttr,LN_succ,e1,e2]
    refine Cov.go [] [] ?_
    simp [cvT,step,res,boxL,boxRg,litRg,litIn,byL,-List.getD_eq_getElem?_getD]
   ·have e2:(d.id != 0)=true:=by simp [h2]
    rw [if_pos ⟨h1,h2⟩] at hn0
    subst hn0
    simp -dsimp only [aqA,↓seqK,↓blkK,↓loopK,step,stepBin,eqB,Nat.add_assoc nid,↓reduceIte,simprocAttr,LN_succ,e1,e2]
    refine Cov.go [] [] ?_
    simp [cvT,step,res,boxL,boxRg,litRg,litIn,idL,-List.getD_eq_getElem?_getD]
  ·rw [decide_eq_false h1] at e1
   rw [if_neg (fun h=>h1 h.1)] at hn0
   subst hn0
   simp -dsimp only [aqA,↓seqK,↓blkK,↓loopK,step,stepBin,eqB,Nat.add_assoc nid,↓reduceIte,simprocAttr,LN_succ,e1]
   refine Cov.go [] [] ?_
   simp [cvT,step,res,boxL,boxRg,litRg,litIn,byL,-List.getD_eq_getElem?_getD]
 have hfin:nameFrom d code n0 d.ins.length=nameR d code:=by unfold nameFrom nameR; rw [List.take_length,hn0]
 refine SR.seqTo ⟨[(5,.str (nameR d code)),(2,.ptr nid 0),(4,.ptr (nid+4) 0)],[(nid,boxL n1 n2 d),(nid+4,boxRg reg0)],nid+2000,nid⟩ ?_ ?_
 ·unfold boxL boxRg litRg litIn
  simp -dsimp only [aqA,↓seqK,↓blkK,↓loopK,step,stepBin,eqB,Nat.add_assoc nid,↓reduceIte,simprocAttr,LN_succ]
  refine LP.mkP (fun k:Nat=>k≤d.ins.length) (fun k:Nat=>⟨[(5,.str (nameFrom d code n0 k)),(18,litIn n2 d.ins),(19,.int .i64 d.ins.length),(20,.int .i64 k),(2,.ptr nid 0),(4,.ptr (nid+4) 0),(1,.str code)],[(nid,boxL n1 n2 d),(nid+4,boxRg reg0)],nid+300,nid⟩) (fun k=>d.ins.length+1 - k) 0 (by omega) (Cov.go [] [] ?_) (fun k hk=>?_)
  ·simp [cvT,step,res,boxL,boxRg,litRg,litIn,nameFrom,-List.getD_eq_getElem?_getD]
  unfold boxL boxRg litRg litIn
  simp -dsimp only [aqA,↓seqK,↓blkK,↓loopK,step,stepBin,eqB,Nat.add_assoc nid,↓reduceIte,simprocAttr,LN_succ]
  refine S2.dec (fun h3=>?_) (fun h3=>?_) <;> simp -dsimp only [aqA,↓seqK,↓blkK,↓loopK,step,stepBin,eqB,Nat.add_assoc nid,↓reduceIte,simprocAttr,LN_succ]
  ·have hkl:k<d.ins.length:=by omega
   have hs:=nameFrom_succ d code n0 hkl
   have e5:=strEq (d.ins.getD k ins0).1 code
   refine ⟨⟨by omega,by omega⟩,?_⟩
   by_cases h:(d.ins.getD k ins0).1=code
   ·rw [if_pos h] at hs
    rw [decide_eq_true h] at e5
    simp -dsimp only [aqA,↓seqK,↓blkK,↓loopK,step,stepBin,eqB,Nat.add_assoc nid,↓reduceIte,simprocAttr,LN_succ,e5]
    refine ⟨by unfold inI64; omega,k+1,⟨by omega,by omega⟩,Cov.go [] [] ?_⟩
    rw [hs]
    simp [cvT,step,res,boxL,boxRg,litRg,litIn,-List.getD_eq_getElem?_getD]
   ·rw [if_neg h] at hs
    rw [decide_eq_false h] at e5
    simp -dsimp only [aqA,↓seqK,↓blkK,↓loopK,step,stepBin,eqB,Nat.add_assoc nid,↓reduceIte,simprocAttr,LN_succ,e5]
    refine ⟨by unfold inI64; omega,k+1,⟨by omega,by omega⟩,Cov.go [] [] ?_⟩
    rw [hs]
    simp [cvT,step,res,boxL,boxRg,litRg,litIn,-List.getD_eq_getElem?_getD]
  ·have hkn:k=d.ins.length:=by omega
   rw [hkn,hfin]
   refine Cov.go [] [] ?_
   simp [cvT,step,res,boxL,boxRg,litRg,litIn,-List.getD_eq_getElem?_getD]
 obtain ⟨sv,hsv⟩:∃ sv,selR d code=sv:=⟨_,rfl⟩
 unfold selR at hsv
 rw [show selR d code=sv from hsv]
 generalize nameR d code=nm at *
 refine SR.seqW (ι:={_x:Unit // d.regs.find? (fun x=>x.1==nm)=none}) (fun _=>⟨[(5,.str nm),(4,.ptr (nid+4) 0)],[(nid+4,boxRg reg0)],nid+8000,nid⟩) ?_ (fun ⟨_,hno⟩=>?_)
 ·refine SR.seq ?_
  unfold boxL boxRg litRg litIn
  simp -dsimp only [aqA,↓seqK,↓blkK,↓loopK,step,stepBin,eqB,Nat.add_assoc nid,↓reduceIte,simprocAttr,LN_succ]
  refine SR.block ?_
  refine SR.loopP (fun k:Nat=>k≤d.regs.length∧∀ j,j<k→(d.regs.getD j reg0).1≠nm) (fun k:Nat=>⟨[(5,.str nm),(32,litRg n1 d.regs),(33,.int .i64 d.regs.length),(34,.int .i64 k),(4,.ptr (nid+4) 0)],[(nid+4,boxRg reg0)],nid+3000,nid⟩) (fun k=>d.regs.length+1 - k) 0 ⟨by omega,fun j hj=>by omega⟩ ?_ (fun k ⟨hk,hb⟩=>?_)
  ·refine Cov.go [] [] ?_
   simp [cvT,step,res,boxL,boxRg,litRg,litIn,-List.getD_eq_getElem?_getD]
  refine SR.run (t:=.mk) ?_
  unfold boxRg litRg
  simp -dsimp only [aqA,↓seqK,↓blkK,↓loopK,step,stepBin,eqB,Nat.add_assoc nid,↓reduceIte,simprocAttr,LN_succ]
  refine S2.dec (fun h3=>?_) (fun h3=>?_) <;> simp -dsimp only [aqA,↓seqK,↓blkK,↓loopK,step,stepBin,eqB,Nat.add_assoc nid,↓reduceIte,simprocAttr,LN_succ]
  ·have hkl:k<d.regs.length:=by omega
   have e5:=strEq (d.regs.getD k reg0).1 nm
   refine ⟨⟨by omega,by omega⟩,?_⟩
   by_cases h:(d.regs.getD k reg0).1=nm
   ·rw [decide_eq_true h] at e5
    rw [findR_at hkl h hb] at hsv
    simp only at hsv
    subst hsv
    simp -dsimp only [aqA,↓seqK,↓blkK,↓loopK,step,stepBin,eqB,Nat.add_assoc nid,↓reduceIte,simprocAttr,LN_succ,e5]
    refine RetOK.go [] [] (.inl rfl) ?_
    simp [a49,cvT,step,res,-List.getD_eq_getElem?_getD]
   ·rw [decide_eq_false h] at e5
    simp -dsimp only [aqA,↓seqK,↓blkK,↓loopK,step,stepBin,eqB,Nat.add_assoc nid,↓reduceIte,simprocAttr,LN_succ,e5]
    refine ⟨by unfold inI64; omega,k+1,⟨⟨by omega,fun j hj=>?_⟩,by omega⟩,Cov.go [] [] ?_⟩
    ·rcases (by omega:j<k∨j=k) with hj | rfl
     ·exact hb j hj
     ·exact h
    simp [cvT,step,res,boxRg,litRg,-List.getD_eq_getElem?_getD]
  ·have hkn:k=d.regs.length:=by omega
   refine ⟨⟨(),findR_off fun j hj=>hb j (by omega)⟩,Cov.go [] [] ?_⟩
   simp [cvT,step,res,boxRg,litRg,-List.getD_eq_getElem?_getD]
 rw [hno] at hsv
 simp only at hsv
 subst hsv
 refine SR.run (t:=.mk) ?_
 unfold boxRg
 have e5:=strEq nm idL
 by_cases h:nm=idL
 ·rw [decide_eq_true h] at e5
  unfold idL at e5
  rw [if_pos h]
  simp -dsimp only [aqA,↓seqK,↓blkK,↓loopK,step,stepBin,eqB,Nat.add_assoc nid,↓reduceIte,simprocAttr,LN_succ,e5]
  refine RetOK.go [] [] (.inl rfl) ?_
  simp [a49,cvT,step,res,-List.getD_eq_getElem?_getD]
 ·rw [decide_eq_false h] at e5
  unfold idL at e5
  rw [if_neg h]
  simp -dsimp only [aqA,↓seqK,↓blkK,↓loopK,step,stepBin,eqB,Nat.add_assoc nid,↓reduceIte,simprocAttr,LN_succ,e5]
  refine RetOK.go [] [] (.inl rfl) ?_
  simp [a49,cvT,step,res,-List.getD_eq_getElem?_getD]
theorem snocN (l:List Nat) (x:Nat) (xi:Int) (hx:xi=x):∀ j,j<l.length+1→(if j<l.length then ((l.getD j 0:Nat):Int) else [xi].getD (j - l.length) 0)=(((l++[x]).getD j 0:Nat):Int):=by
 intro j hj
 by_cases h:j<l.length
 ·rw [if_pos h,List.getD_eq_getElem?_getD,List.getD_eq_getElem?_getD,List.getElem?_append_left h]
 ·have e:j=l.length:=by omega
  subst e
  rw [if_neg h,Nat.sub_self,List.getD_eq_getElem?_getD (l:=l++[x]),List.getElem?_append_right (Nat.le_refl _),Nat.sub_self,hx]
  rfl
theorem idStep (a b i:Nat) (ha:a<2 ^ i) (hb:b<2) (hi:i<32):IntKind.i64.wrap ((BitVec.ofInt IntKind.i64.bits ((a:Nat):Int) ||| BitVec.ofInt IntKind.i64.bits (IntKind.i64.wrap (((b:Nat):Int) * 2 ^ (min i IntKind.i64.bits)))).toNat:Int)=((a+b * 2 ^ i:Nat):Int):=by
 have e:min i IntKind.i64.bits=i:=Nat.min_eq_left (by show i≤64; omega)
 have hp:(2:Nat) ^ i<2147483649:=by
  have:=Nat.pow_lt_pow_right (a:=2) (by omega) (show i<32 from hi)
  have:=Nat.pow_le_pow_right (n:=2) (by omega) (show i≤31 by omega)
  omega
 have hbp:b * 2 ^ i<2147483649:=by
  rcases (by omega:b=0∨b=1) with rfl | rfl <;> omega
 have e2:(((b:Nat):Int) * 2 ^ i)=((b * 2 ^ i:Nat):Int):=by push_cast; rfl
 rw [e,e2,i64_nat (a:=b * 2 ^ i) (by omega),or64 a (b * 2 ^ i) (by omega) (by omega)]
 congr 1
 have:=Nat.shiftLeft_add_eq_or_of_lt ha b
 rw [Nat.shiftLeft_eq] at this
 rw [Nat.or_comm,← this,Nat.add_comm]
set_option maxHeartbeats 4000000 in
theorem identify_c (s:Bs) (nid:Nat) (hs:s.length≤1099511627776) (hf:bitsFaultV s=0) :
  ACall Tryz.prog 21 [.str s] [] nid (.tup [.sl nid 0 (identV s).1.length,.int .i64 ((identV s).2.1:Nat),.int .i64 (identV s).2.2]) [(nid,some (.arr 3 (identV s).1.length [.i .i64 fun i=>((identV s).1.getD i 0:Nat)]))]:=by
 obtain ⟨hbits,hsl⟩:=bits_ok hf
 refine acall_sr c21 (by simp [a21]) ?_
 unfold a21
 refine SR.seq ?_
 simp -dsimp only [aqA,↓seqK,↓blkK,↓loopK,step,stepBin,eqB,Nat.add_assoc nid,↓reduceIte,simprocAttr,LN_succ]
 refine SR.seqTo ⟨[(0,.str s)],[],nid+20,nid⟩ ?_ ?_
 ·simp -dsimp only [aqA,↓seqK,↓blkK,↓loopK,step,stepBin,eqB,Nat.add_assoc nid,↓reduceIte,simprocAttr,LN_succ]
  refine CallO.pure (bitsFaultT_c s _ hs) ?_
  rw [hf]
  simp -dsimp only [aqA,↓seqK,↓blkK,↓loopK,step,stepBin,eqB,Nat.add_assoc nid,↓reduceIte,simprocAttr,LN_succ]
  refine Cov.go [] [] ?_
  simp [cvT,step,res]
 refine SR.seq ?_
 simp -dsimp only [aqA,↓seqK,↓blkK,↓loopK,step,stepBin,eqB,Nat.add_assoc nid,↓reduceIte,simprocAttr,LN_succ]
 refine SR.seqW (ι:={_x:Unit // identV s=([],0,8)}) (fun _=>⟨[],[],nid+9000,nid⟩) ?_ (fun ⟨_,he⟩=>?_)
 ·refine SR.seq ?_
  simp -dsimp only [aqA,↓seqK,↓blkK,↓loopK,step,stepBin,eqB,Nat.add_assoc nid,↓reduceIte,simprocAttr,LN_succ]
  refine SR.block ?_
  refine SR.loopP (fun z:Nat × List Nat × Nat=>(z.2.1.length≤z.2.2∧z.2.2≤s.length∧s.length<z.2.2+z.1)∧identF s z.1 z.2.1 z.2.2=identV s) (fun z=>⟨[(7,.int .i64 (z.2.2:Nat)),(6,.sl (nid+300) 0 z.2.1.length),(0,.str s)],[(nid+300,some (.arr 3 z.2.1.length [.i .i64 fun i=>(z.2.1.getD i 0:Nat)]))],nid+400,nid⟩) (fun z=>z.1) (s.length+1,[],0) ⟨⟨by simp,by simp,by simp⟩,rfl⟩ ?_ (fun ⟨f,out,k⟩ hz=>?_)
  ·refine Cov.go [] [(nid+300,1)] ?_
   simp [cvT,step,res,ColsEq.refl]
  obtain ⟨⟨hz1,hz2,hz3⟩,hz4⟩:=hz
  simp only at hz1 hz2 hz3 hz4 ⊢
  obtain ⟨g,rfl⟩:∃ g,f=g+1:=⟨f - 1,by omega⟩
  unfold identF at hz4
  refine SR.seq ?_
  simp -dsimp only [aqA,↓seqK,↓blkK,↓loopK,step,stepBin,eqB,Nat.add_assoc nid,↓reduceIte,simprocAttr,LN_succ]
  refine S2.dec (fun h3=>?_) (fun h3=>?_) <;> simp -dsimp only [aqA,↓seqK,↓blkK,↓loopK,step,stepBin,eqB,Nat.add_assoc nid,↓reduceIte,simprocAttr,LN_succ]
  ·have hkl:k<s.length:=by omega
   rw [if_neg (by omega)] at hz4
   have hb:=bits_at hbits hkl
   refine SR.block ?_
   have e8:((((s.getD k 0).toNat:Nat):Int)==48)=decide (s.getD k 0=48):=by
    rcases (by unfold oneBit at hb; simpa using hb:s.getD k 0=48∨s.getD k 0=49) with h | h <;> rw [h] <;> rfl
   have hbO:=fun i (hi:k+i<s.length)=>bits_at hbits (k:=k+i) hi
   have hltA:=idTo_lt (l:=s.drop k) (fun j=>by
    rcases Nat.lt_or_ge j (s.drop k).length with hj | hj
    ·rw [List.length_drop] at hj
     have:=hbO j (by omega)
     left
     rw [List.getD_eq_getElem?_getD,List.getElem?_drop,← List.getD_eq_getElem?_getD]
     exact (bitM_lt this).1
    ·exact .inr hj)
   by_cases h0:s.getD k 0=48
   ·rw [decide_eq_true h0] at e8
    rw [if_pos h0] at hz4
    refine SR.run (t:=.mk) ?_
    simp -dsimp only [aqA,↓seqK,↓blkK,↓loopK,step,stepBin,eqB,Nat.add_assoc nid,↓reduceIte,simprocAttr,LN_succ,e8]
    refine ⟨⟨by omega,by omega⟩,⟨by omega,by omega⟩,by unfold inI64; omega,(g,out++[0],k+1),⟨⟨⟨by simp only [List.length_append,List.length_singleton]; omega,by simp only; omega,by simp only; omega⟩,hz4⟩,by simp only; omega⟩,Cov.go [(nid+300,nid+440)] [] ?_⟩
    simp [cvT,step,res,ColsEq.refl,-List.getD_eq_getElem?_getD]
    exact ColEq.i fun j hj=>snocN out 0 0 rfl j hj
   rw [decide_eq_false h0] at e8
   rw [if_neg h0] at hz4
   refine SR.seqTo ⟨[(7,.int .i64 (k:Nat)),(6,.sl (nid+300) 0 out.length),(0,.str s)],[(nid+300,some (.arr 3 out.length [.i .i64 fun i=>(out.getD i 0:Nat)]))],nid+500,nid⟩ ?_ ?_
   ·simp -dsimp only [aqA,↓seqK,↓blkK,↓loopK,step,stepBin,eqB,Nat.add_assoc nid,↓reduceIte,simprocAttr,LN_succ,e8]
    refine ⟨⟨by omega,by omega⟩,?_⟩
    refine Cov.go [] [] ?_
    simp [cvT,step,res,ColsEq.refl]
   refine SR.seqEx (ι:={_x:Unit // 32≤s.length - k}) (fun _=>⟨[(7,.int .i64 (k:Nat)),(6,.sl (nid+300) 0 out.length),(0,.str s)],[(nid+300,some (.arr 3 out.length [.i .i64 fun i=>(out.getD i 0:Nat)]))],nid+600,nid⟩) ?_ (fun ⟨_,h32⟩=>?_)
   ·simp -dsimp only [aqA,↓seqK,↓blkK,↓loopK,step,stepBin,eqB,Nat.add_assoc nid,↓reduceIte,simprocAttr,LN_succ]
    refine ⟨by unfold inI64; omega,?_⟩
    refine S2.dec (fun h4=>?_) (fun h4=>?_) <;> simp -dsimp only [aqA,↓seqK,↓blkK,↓loopK,step,stepBin,eqB,Nat.add_assoc nid,↓reduceIte,simprocAttr,LN_succ]
    ·rw [if_pos (by omega)] at hz4
     rw [← hz4]
     refine RetOK.go [] [(nid,1)] (.inl rfl) ?_
     simp [a21,cvT,step,res]
    ·refine ⟨⟨(),by omega⟩,Cov.go [] [] ?_⟩
     simp [cvT,step,res,ColsEq.refl]
   rw [if_neg (by omega)] at hz4
   refine SR.seq ?_
   simp -dsimp only [aqA,↓seqK,↓blkK,↓loopK,step,stepBin,eqB,Nat.add_assoc nid,↓reduceIte,simprocAttr,LN_succ]
   refine SR.seqW (ι:=Unit) (fun _=>⟨[(8,.int .i64 (idTo (s.drop k) 32:Nat)),(7,.int .i64 (k:Nat)),(6,.sl (nid+300) 0 out.length),(0,.str s)],[(nid+300,some (.arr 3 out.length [.i .i64 fun i=>(out.getD i 0:Nat)]))],nid+2000,nid⟩) ?_ (fun _=>?_)
   ·refine SR.seq ?_
    simp -dsimp only [aqA,↓seqK,↓blkK,↓loopK,step,stepBin,eqB,Nat.add_assoc nid,↓reduceIte,simprocAttr,LN_succ]
    refine SR.block ?_
    refine SR.loopP (fun i:Nat=>i≤32) (fun i=>⟨[(33,.int .i64 (i:Nat)),(8,.int .i64 (idTo (s.drop k) i:Nat)),(7,.int .i64 (k:Nat)),(6,.sl (nid+300) 0 out.length),(0,.str s)],[(nid+300,some (.arr 3 out.length [.i .i64 fun i=>(out.getD i 0:Nat)]))],nid+1000,nid⟩) (fun i=>33 - i) 0 (by omega) ?_ (fun i hi=>?_)
    ·refine Cov.go [] [] ?_
     simp [cvT,step,res,idTo,ColsEq.refl]
    refine SR.run (t:=.mk) ?_
    simp -dsimp only [aqA,↓seqK,↓blkK,↓loopK,step,stepBin,eqB,Nat.add_assoc nid,↓reduceIte,simprocAttr,LN_succ]
    refine S2.dec (fun h4=>?_) (fun h4=>?_) <;> simp -dsimp only [aqA,↓seqK,↓blkK,↓loopK,step,stepBin,eqB,Nat.add_assoc nid,↓reduceIte,simprocAttr,LN_succ]
    ·have hi32:i<32:=by omega
     have hb2:=hbO i (by omega)
     have hg:(s.drop k).getD i 0=s.getD (k+i) 0:=by rw [List.getD_eq_getElem?_getD,List.getD_eq_getElem?_getD,List.getElem?_drop]
     have hlt:=hltA i (by rw [List.length_drop]; omega)
     have hst:=idStep (idTo (s.drop k) i) (bitM (s.getD (k+i) 0)) i hlt (bitM_lt hb2).1 hi32
     have hw:=bitW8 hb2
     have e:((k:Int)+(i:Int)).toNat=k+i:=by omega
     have e3:idTo (s.drop k) (i+1)=idTo (s.drop k) i+bitM (s.getD (k+i) 0) * 2 ^ i:=by rw [← hg]; rfl
     rw [e,hw,hst]
     refine ⟨by unfold inI64; omega,⟨by omega,by omega⟩,by omega,by unfold inI64; omega,i+1,⟨by omega,by omega⟩,Cov.go [] [] ?_⟩
     rw [e3]
     simp [cvT,step,res,ColsEq.refl,-List.getD_eq_getElem?_getD]
    ·have hi32:i=32:=by omega
     subst hi32
     refine ⟨(),Cov.go [] [] ?_⟩
     simp [cvT,step,res,ColsEq.refl]
   have h33:idTo (s.drop k) 32<4294967296:=hltA 32 (by rw [List.length_drop]; omega)
   refine SR.run (t:=.mk) ?_
   have e9:(((idTo (s.drop k) 32:Nat):Int)==4294967295)=decide (idTo (s.drop k) 32=4294967295):=by rw [Bool.eq_iff_iff]; simp; omega
   by_cases h5:idTo (s.drop k) 32=4294967295
   ·rw [decide_eq_true h5] at e9
    rw [if_pos h5] at hz4
    simp -dsimp only [aqA,↓seqK,↓blkK,↓loopK,step,stepBin,eqB,Nat.add_assoc nid,↓reduceIte,simprocAttr,LN_succ,e9]
    refine S2.dec (fun h4=>?_) (fun h4=>?_) <;> simp -dsimp only [aqA,↓seqK,↓blkK,↓loopK,step,stepBin,eqB,Nat.add_assoc nid,↓reduceIte,simprocAttr,LN_succ]
    ·rw [if_pos (by omega)] at hz4
     rw [← hz4]
     refine RetOK.go [] [(nid,1)] (.inl rfl) ?_
     simp [a21,cvT,step,res]
    ·rw [if_neg (by omega)] at hz4
     rw [← hz4]
     refine RetOK.go [(nid,nid+300)] [] (.inl rfl) ?_
     simp [a21,cvT,step,res,ColsEq.refl]
   ·rw [decide_eq_false h5] at e9
    rw [if_neg h5] at hz4
    simp -dsimp only [aqA,↓seqK,↓blkK,↓loopK,step,stepBin,eqB,Nat.add_assoc nid,↓reduceIte,simprocAttr,LN_succ,e9]
    refine ⟨⟨by omega,by omega⟩,by unfold inI64; omega,(g,out++[idTo (s.drop k) 32],k+32),⟨⟨⟨by simp only [List.length_append,List.length_singleton]; omega,by simp only; omega,by simp only; omega⟩,hz4⟩,by simp only; omega⟩,Cov.go [(nid+300,nid+2020)] [] ?_⟩
    simp [cvT,step,res,ColsEq.refl,-List.getD_eq_getElem?_getD]
    exact ColEq.i fun j hj=>snocN out (idTo (s.drop k) 32) _ rfl j hj
  ·rw [if_pos (by omega)] at hz4
   refine ⟨⟨(),hz4.symm⟩,Cov.go [] [] ?_⟩
   simp [cvT,step,res]
 rw [he]
 refine SR.run (t:=.mk) ?_
 simp -dsimp only [aqA,↓seqK,↓blkK,↓loopK,step,stepBin,eqB,Nat.add_assoc nid,↓reduceIte,simprocAttr,LN_succ]
 refine RetOK.go [] [(nid,1)] (.inl rfl) ?_
 simp [a21,cvT,step,res]
end Go.Proofs.YtahjohieahehjaaGreatDoor
namespace Go.Proofs.YtahjohieahehjaaGreatDoor
open Go.RowKit Go.Shelf Go.Lib
theorem itoa_cc (n:Nat) (nid:Nat) (hn:n<100):ACall Tryz.prog 68 [.int .i64 (n:Nat)] [] nid (.str (Lib.decDigits n)) [] :=
 acall_below (us:=[.int .i64 (n:Nat)]) nid Tryz.func68 (by kernel_rfl) (by kernel_rfl) rfl rfl (fun w=>by
  have h:=Any.strconv_Itoa_small Tryz.lays171 n hn w
  have hf:Tryz.lays171_ren.f 171=68:=by kernel_rfl
  rw [hf] at h
  refine h.mono ?_
  rintro e w' ⟨rfl,rfl⟩
  exact ⟨rfl,Below.refl _ _⟩)
theorem bitS {n:Nat} (h:n<2):Lib.decDigits n=[UInt8.ofNat (48+n)]:=by
 rcases (by omega:n=0∨n=1) with rfl | rfl <;> kernel_rfl
end Go.Proofs.YtahjohieahehjaaGreatDoor
namespace Go.Proofs.YtahjohieahehjaaGreatDoor
open Go.RowKit
def pz:Port:=⟨dev0,false,false,[],[],fun _=>false,fun _=>[],fun _=>false,fun _=>[]⟩
def RH (c : Nat) (n0 : Bool) (n1 n2 : Nat → Bool) (D : List Dev) (st : Nat) (P : List Port) : Heap :=
  [(c,some (.box 104 [.lit n0 D.length (devP n1 n2 D),.int .i64 (st : Nat),.sl (c + 1) 0 D.length,.sl (c + 2) 0 D.length,.mp (c + 3),.mp (c + 4)])),
   (c + 1,some (.arr 9 D.length [.s fun j => (P.getD j pz).instr])),
   (c + 2,some (.arr 9 D.length [.s fun j => (P.getD j pz).shift])),
   (c + 3,some (.map .q (inD P) (.s (inV P)))),
   (c + 4,some (.map .q (outD P) (.s (outM P))))]
theorem RH_scoped (c b:Nat) (n0:Bool) (n1 n2:Nat→Bool) (D:List Dev) (st:Nat) (P:List Port) (h:c+5≤b):Scoped b (RH c n0 n1 n2 D st P):=scoped_list fun x hx=>by
 simp only [RH,List.mem_cons,List.not_mem_nil,or_false] at hx
 rcases hx with rfl | rfl | rfl | rfl | rfl
 ·exact ⟨by simp only; omega,by simp [lowBlk,lowAll,idsOfs,idsOf]; omega⟩
 ·exact ⟨by simp only; omega,rfl⟩
 ·exact ⟨by simp only; omega,rfl⟩
 ·exact ⟨by simp only; omega,rfl⟩
 ·exact ⟨by simp only; omega,rfl⟩
theorem pGet {P:List Port} {k:Nat} {p:Port} (h:P[k]?=some p):P.getD k pz=p:=by
 rw [List.getD_eq_getElem?_getD,h]; rfl
theorem nb (c i j:Nat) (h:i≠j):(c+i==c+j)=false∧(c==c+(i+1))=false∧(c+(i+1)==c)=false:=by
 refine ⟨?_,?_,?_⟩ <;> rw [beq_eq_false_iff_ne] <;> omega
theorem RH0 (c:Nat) (n0:Bool) (n1 n2:Nat→Bool) (D:List Dev) (st:Nat) (P:List Port):getH (RH c n0 n1 n2 D st P) c=some (.box 104 [.lit n0 D.length (devP n1 n2 D),.int .i64 (st:Nat),.sl (c+1) 0 D.length,.sl (c+2) 0 D.length,.mp (c+3),.mp (c+4)]):=by simp [RH,getH]
theorem RH1 (c:Nat) (n0:Bool) (n1 n2:Nat→Bool) (D:List Dev) (st:Nat) (P:List Port):getH (RH c n0 n1 n2 D st P) (c+1)=some (.arr 9 D.length [.s fun j=>(P.getD j pz).instr]):=by
 simp only [RH,getH,(nb c 0 1 (by omega)).2.1,cond_false,BEq.rfl,cond_true]
theorem RH2 (c:Nat) (n0:Bool) (n1 n2:Nat→Bool) (D:List Dev) (st:Nat) (P:List Port):getH (RH c n0 n1 n2 D st P) (c+2)=some (.arr 9 D.length [.s fun j=>(P.getD j pz).shift]):=by
 simp only [RH,getH,(nb c 1 0 (by omega)).2.1,(nb c 1 2 (by omega)).1,cond_false,BEq.rfl,cond_true]
theorem RH3 (c:Nat) (n0:Bool) (n1 n2:Nat→Bool) (D:List Dev) (st:Nat) (P:List Port):getH (RH c n0 n1 n2 D st P) (c+3)=some (.map .q (inD P) (.s (inV P))):=by
 simp only [RH,getH,(nb c 2 0 (by omega)).2.1,(nb c 1 3 (by omega)).1,(nb c 2 3 (by omega)).1,cond_false,BEq.rfl,cond_true]
theorem RH4 (c:Nat) (n0:Bool) (n1 n2:Nat→Bool) (D:List Dev) (st:Nat) (P:List Port):getH (RH c n0 n1 n2 D st P) (c+4)=some (.map .q (outD P) (.s (outM P))):=by
 simp only [RH,getH,(nb c 3 0 (by omega)).2.1,(nb c 1 4 (by omega)).1,(nb c 2 4 (by omega)).1,(nb c 3 4 (by omega)).1,cond_false,BEq.rfl,cond_true]
theorem idBits_take (N:Nat) {j:Nat} (hj:j<32):(idBits (N:Nat)).take (j+1)=(idBits (N:Nat)).take j++[UInt8.ofNat (48+(N >>> j) % 2)]:=by
 have hl:j<(idBits (N:Nat)).length:=by rw [idBits_len]; exact hj
 rw [List.take_add_one,List.getElem?_eq_getElem hl,Option.toList_some]
 have:=idBits_get N j hj
 rw [List.getD_eq_getElem?_getD,List.getElem?_eq_getElem hl] at this
 congr 2
theorem sel_short {p:Port} (hr:DevR p.d) (hs:DevS p.d):(selP p.d p.instr).1.length≤1000:=by
 rcases selP_reg hr p.instr with e | e | e
 ·rw [e]; simp [byL]
 ·rw [e]; simp [idL]
 ·exact (hs.rs _ e).1
set_option maxHeartbeats 8000000 in
theorem capt_R (c nid:Nat) (n0:Bool) (n1 n2:Nat→Bool) (D:List Dev) (st:Nat) (P:List Port) (k:Nat) (p:Port) (hc:c+5≤nid) (h:RelR D P) (hp:P[k]?=some p) (hD:D.length≤1000) :
  ACall Tryz.prog 124 [.ptr c 0,.int .i64 (k:Nat)] (RH c n0 n1 n2 D st P) nid (.str (captV p)) []:=by
 have hkl:k<D.length:=by rw [← h.len]; exact (List.getElem?_eq_some_iff.1 hp).1
 obtain ⟨hd,hR,hV⟩:=h.d k p hp
 have hS:=h.s p (List.mem_of_getElem? hp)
 have hsl:=sel_short hR.r hS
 have hat:=atP_at h.ap hp
 obtain ⟨r,hr⟩:∃ r,selP p.d p.instr=r:=⟨_,rfl⟩
 have hsel:=fun m=>selR_c (n1 k) (n2 k) p.d p.instr m (by have:=hR.r.rl; omega) (by have:=hR.r.il; omega)
 rw [selR_eq hR.r hR.n,hr] at hsel
 rw [hr] at hsl
 have hcv:captV p=if r.1=byL then [48] else if r.1=idL then idBits p.d.id else bif p.iD (.s r.1) then p.iV (.s r.1) else []:=by unfold captV; rw [hr]
 rw [hcv]
 have hs:=RH_scoped c nid n0 n1 n2 D st P hc
 have hl0:=RH0 c n0 n1 n2 D st P
 have hl1:=RH1 c n0 n1 n2 D st P
 have hl3:=RH3 c n0 n1 n2 D st P
 have hi1:inD P (.q p.d.name r.1)=p.iD (.s r.1):=by simp only [inD,hat]
 have hi2:inV P (.q p.d.name r.1)=p.iV (.s r.1):=by simp only [inV,hat]
 have hpi:(P.getD k pz).instr=p.instr:=by rw [pGet hp]
 generalize RH c n0 n1 n2 D st P=Hs at *
 have hcc:∀ k,(nid+k==c)=false:=fun k=>by simp; omega
 have hc1:∀ k,(nid+k==c+1)=false:=fun k=>by simp; omega
 have hc3:∀ k,(nid+k==c+3)=false:=fun k=>by simp; omega
 refine acall_sr c124 (by simp [a124]) ?_
 unfold a124
 refine SR.seq ?_
 simp -dsimp only [aqA,↓seqK,↓blkK,↓loopK,step,stepBin,eqB,Nat.add_assoc nid,↓reduceIte,simprocAttr,LN_succ]
 refine SR.seqTo ⟨[(5,.ptr (nid+200) 0),(0,.ptr c 0),(1,.int .i64 (k:Nat))],[(nid+200,boxRg r)]++Hs,nid+300,nid⟩ ?_ ?_
 ·unfold devP at hl0
  unfold dvP litRg litIn at hsel
  rw [hd] at hsel
  simp -dsimp only [aqA,↓seqK,↓blkK,↓loopK,step,stepBin,eqB,Nat.add_assoc nid,↓reduceIte,simprocAttr,LN_succ,hl0,hl1]
  refine ⟨⟨by omega,by omega⟩,⟨by omega,by omega⟩,?_⟩
  rw [hpi]
  refine CallX.pure (hsel _) ?_
  simp -dsimp only [aqA,↓seqK,↓blkK,↓loopK,step,stepBin,eqB,Nat.add_assoc nid,↓reduceIte,simprocAttr,LN_succ,hl0,hl1,hcc,hc1,hc3]
  first | refine Cov.goG (nid) Hs [_] [_] [(nid+200,nid+64)] [] (by omega) hs (by simp [kOK]) (by simp) ?_ | refine Cov.goG (nid) Hs [_,_] [_] [(nid+200,nid+64)] [] (by omega) hs (by simp [kOK]) (by simp) ?_ | refine Cov.goG (nid) Hs [_,_,_] [_] [(nid+200,nid+64)] [] (by omega) hs (by simp [kOK]) (by simp) ?_ | refine Cov.goG (nid) Hs [_,_,_,_] [_] [(nid+200,nid+64)] [] (by omega) hs (by simp [kOK]) (by simp) ?_ | refine Cov.goG (nid) Hs [_,_,_,_,_] [_] [(nid+200,nid+64)] [] (by omega) hs (by simp [kOK]) (by simp) ?_ | refine Cov.goG (nid) Hs [_,_,_,_,_,_] [_] [(nid+200,nid+64)] [] (by omega) hs (by simp [kOK]) (by simp) ?_ | refine Cov.goG (nid) Hs [_,_,_,_,_,_,_] [_] [(nid+200,nid+64)] [] (by omega) hs (by simp [kOK]) (by simp) ?_ | refine Cov.goG (nid) Hs [_,_,_,_,_,_,_,_] [_] [(nid+200,nid+64)] [] (by omega) hs (by simp [kOK]) (by simp) ?_ | refine Cov.goG (nid) Hs [_,_,_,_,_,_,_,_,_] [_] [(nid+200,nid+64)] [] (by omega) hs (by simp [kOK]) (by simp) ?_ | refine Cov.goG (nid) Hs [_,_,_,_,_,_,_,_,_,_] [_] [(nid+200,nid+64)] [] (by omega) hs (by simp [kOK]) (by simp) ?_ | refine Cov.goG (nid) Hs [_,_,_,_,_,_,_,_,_,_,_] [_] [(nid+200,nid+64)] [] (by omega) hs (by simp [kOK]) (by simp) ?_ | refine Cov.goG (nid) Hs [_,_,_,_,_,_,_,_,_,_,_,_] [_] [(nid+200,nid+64)] [] (by omega) hs (by simp [kOK]) (by simp) ?_ | refine Cov.goG (nid) Hs [_,_,_,_,_,_,_,_,_,_,_,_,_] [_] [(nid+200,nid+64)] [] (by omega) hs (by simp [kOK]) (by simp) ?_ | refine Cov.goG (nid) Hs [_,_,_,_,_,_,_,_,_,_,_,_,_,_] [_] [(nid+200,nid+64)] [] (by omega) hs (by simp [kOK]) (by simp) ?_ | refine Cov.goG (nid) Hs [_,_,_,_,_,_,_,_,_,_,_,_,_,_,_] [_] [(nid+200,nid+64)] [] (by omega) hs (by simp [kOK]) (by simp) ?_ | refine Cov.goG (nid) Hs [_,_,_,_,_,_,_,_,_,_,_,_,_,_,_,_] [_] [(nid+200,nid+64)] [] (by omega) hs (by simp [kOK]) (by simp) ?_ | refine Cov.goG (nid) Hs [_,_,_,_,_,_,_,_,_,_,_,_,_,_,_,_,_] [_] [(nid+200,nid+64)] [] (by omega) hs (by simp [kOK]) (by simp) ?_ | refine Cov.goG (nid) Hs [_,_,_,_,_,_,_,_,_,_,_,_,_,_,_,_,_,_] [_] [(nid+200,nid+64)] [] (by omega) hs (by simp [kOK]) (by simp) ?_ | refine Cov.goG (nid) Hs [_,_,_,_,_,_,_,_,_,_,_,_,_,_,_,_,_,_,_] [_] [(nid+200,nid+64)] [] (by omega) hs (by simp [kOK]) (by simp) ?_ | refine Cov.goG (nid) Hs [_,_,_,_,_,_,_,_,_,_,_,_,_,_,_,_,_,_,_,_] [_] [(nid+200,nid+64)] [] (by omega) hs (by simp [kOK]) (by simp) ?_ | refine Cov.goG (nid) Hs [_,_,_,_,_,_,_,_,_,_,_,_,_,_,_,_,_,_,_,_,_] [_] [(nid+200,nid+64)] [] (by omega) hs (by simp [kOK]) (by simp) ?_ | refine Cov.goG (nid) Hs [_,_,_,_,_,_,_,_,_,_,_,_,_,_,_,_,_,_,_,_,_,_] [_] [(nid+200,nid+64)] [] (by omega) hs (by simp [kOK]) (by simp) ?_ | refine Cov.goG (nid) Hs [_,_,_,_,_,_,_,_,_,_,_,_,_,_,_,_,_,_,_,_,_,_,_] [_] [(nid+200,nid+64)] [] (by omega) hs (by simp [kOK]) (by simp) ?_
  simp [cvT,step,res,boxRg,hcc,ColsEq.refl,-List.getD_eq_getElem?_getD]
  omega
 have q5:=strEq r.1 [98,121,112,97,115,115]
 have q6:=strEq r.1 [105,100,99,111,100,101]
 by_cases h5:r.1=byL
 ·rw [if_pos h5]
  rw [decide_eq_true (show r.1=[98,121,112,97,115,115] from h5)] at q5
  refine SR.run (t:=.mk) ?_
  unfold boxRg
  simp -dsimp only [aqA,↓seqK,↓blkK,↓loopK,step,stepBin,eqB,Nat.add_assoc nid,↓reduceIte,simprocAttr,LN_succ,q5,hcc]
  refine RetOK.goF Hs [] [(nid+200,_)] [] [] [] (.inl rfl) hs (by simp [kOK]) rfl ?_
  simp [a124,cvT,step,res]
 rw [if_neg h5]
 rw [decide_eq_false (show ¬ r.1=[98,121,112,97,115,115] from h5)] at q5
 by_cases h6:r.1=idL
 ·rw [if_pos h6]
  rw [decide_eq_true (show r.1=[105,100,99,111,100,101] from h6)] at q6
  refine SR.run (t:=.mk) ?_
  unfold boxRg
  simp -dsimp only [aqA,↓seqK,↓blkK,↓loopK,step,stepBin,eqB,Nat.add_assoc nid,↓reduceIte,simprocAttr,LN_succ,q5,q6,hcc]
  obtain ⟨N,hN⟩:∃ N:Nat,p.d.id=N:=⟨_,(Int.toNat_of_nonneg hR.r.idb.1).symm⟩
  have hNb:=hR.r.idb
  have hid:(D.getD k dev0).id=(N:Int):=by rw [← hd]; exact hN
  rw [hN] at hNb ⊢
  unfold devP at hl0
  refine LP.mkP (fun j:Nat=>j≤32) (fun j=>⟨[(29,.int .i64 (j:Nat)),(6,.str ((idBits (N:Nat)).take j)),(0,.ptr c 0),(1,.int .i64 (k:Nat))],[]++Hs,nid+400,nid⟩) (fun j=>33 - j) 0 (by omega) (Cov.goG nid Hs [_] [] [] [] (by omega) hs (by simp [kOK]) (by simp) ?_) (fun j hj=>?_)
  ·simp [cvT,step,res,hcc]
   omega
  simp -dsimp only [aqA,↓seqK,↓blkK,↓loopK,step,stepBin,eqB,Nat.add_assoc nid,↓reduceIte,simprocAttr,LN_succ,hl0,hcc]
  refine S2.dec (fun h3=>?_) (fun h3=>?_) <;> simp -dsimp only [aqA,↓seqK,↓blkK,↓loopK,step,stepBin,eqB,Nat.add_assoc nid,↓reduceIte,simprocAttr,LN_succ,hl0,hcc]
  ·have hm:=Nat.mod_lt (N >>> j) (show 0<2 by omega)
   refine ⟨⟨by omega,by omega⟩,by omega,?_⟩
   rw [hid,bit1 N j (by omega) (by omega)]
   refine CallO.pure (itoa_cc ((N >>> j) % 2) _ (by omega)) ?_
   rw [bitS hm]
   simp -dsimp only [aqA,↓seqK,↓blkK,↓loopK,step,stepBin,eqB,Nat.add_assoc nid,↓reduceIte,simprocAttr,LN_succ,hl0,hcc]
   have hlt:=List.length_take_le j (idBits (N:Nat))
   refine ⟨by omega,by unfold inI64; omega,j+1,⟨by omega,by omega⟩,Cov.goG nid Hs [] [] [] [] (by omega) hs (by simp [kOK]) (by simp) ?_⟩
   rw [idBits_take N (by omega)]
   simp [cvT,step,res,hcc,-List.getD_eq_getElem?_getD]
   omega
  ·have hk2:j=32:=by omega
   subst hk2
   rw [List.take_of_length_le (by rw [idBits_len]; omega)]
   refine RetOK.goF Hs [] [] [] [] [] (.inl rfl) hs (by simp [kOK]) rfl ?_
   simp [a124,cvT,step,res]
 ·rw [if_neg h6]
  rw [decide_eq_false (show ¬ r.1=[105,100,99,111,100,101] from h6)] at q6
  refine SR.seqTo ⟨[(5,.ptr (nid+200) 0),(0,.ptr c 0),(1,.int .i64 (k:Nat))],[(nid+200,boxRg r)]++Hs,nid+400,nid⟩ ?_ ?_
  ·unfold boxRg
   simp -dsimp only [aqA,↓seqK,↓blkK,↓loopK,step,stepBin,eqB,Nat.add_assoc nid,↓reduceIte,simprocAttr,LN_succ,q5,q6,hcc]
   first | refine Cov.goG (nid) Hs [_] [_] [] [] (by omega) hs (by simp [kOK]) (by simp) ?_ | refine Cov.goG (nid) Hs [_,_] [_] [] [] (by omega) hs (by simp [kOK]) (by simp) ?_ | refine Cov.goG (nid) Hs [_,_,_] [_] [] [] (by omega) hs (by simp [kOK]) (by simp) ?_ | refine Cov.goG (nid) Hs [_,_,_,_] [_] [] [] (by omega) hs (by simp [kOK]) (by simp) ?_ | refine Cov.goG (nid) Hs [_,_,_,_,_] [_] [] [] (by omega) hs (by simp [kOK]) (by simp) ?_ | refine Cov.goG (nid) Hs [_,_,_,_,_,_] [_] [] [] (by omega) hs (by simp [kOK]) (by simp) ?_ | refine Cov.goG (nid) Hs [_,_,_,_,_,_,_] [_] [] [] (by omega) hs (by simp [kOK]) (by simp) ?_ | refine Cov.goG (nid) Hs [_,_,_,_,_,_,_,_] [_] [] [] (by omega) hs (by simp [kOK]) (by simp) ?_ | refine Cov.goG (nid) Hs [_,_,_,_,_,_,_,_,_] [_] [] [] (by omega) hs (by simp [kOK]) (by simp) ?_ | refine Cov.goG (nid) Hs [_,_,_,_,_,_,_,_,_,_] [_] [] [] (by omega) hs (by simp [kOK]) (by simp) ?_ | refine Cov.goG (nid) Hs [_,_,_,_,_,_,_,_,_,_,_] [_] [] [] (by omega) hs (by simp [kOK]) (by simp) ?_ | refine Cov.goG (nid) Hs [_,_,_,_,_,_,_,_,_,_,_,_] [_] [] [] (by omega) hs (by simp [kOK]) (by simp) ?_ | refine Cov.goG (nid) Hs [_,_,_,_,_,_,_,_,_,_,_,_,_] [_] [] [] (by omega) hs (by simp [kOK]) (by simp) ?_ | refine Cov.goG (nid) Hs [_,_,_,_,_,_,_,_,_,_,_,_,_,_] [_] [] [] (by omega) hs (by simp [kOK]) (by simp) ?_ | refine Cov.goG (nid) Hs [_,_,_,_,_,_,_,_,_,_,_,_,_,_,_] [_] [] [] (by omega) hs (by simp [kOK]) (by simp) ?_ | refine Cov.goG (nid) Hs [_,_,_,_,_,_,_,_,_,_,_,_,_,_,_,_] [_] [] [] (by omega) hs (by simp [kOK]) (by simp) ?_ | refine Cov.goG (nid) Hs [_,_,_,_,_,_,_,_,_,_,_,_,_,_,_,_,_] [_] [] [] (by omega) hs (by simp [kOK]) (by simp) ?_ | refine Cov.goG (nid) Hs [_,_,_,_,_,_,_,_,_,_,_,_,_,_,_,_,_,_] [_] [] [] (by omega) hs (by simp [kOK]) (by simp) ?_ | refine Cov.goG (nid) Hs [_,_,_,_,_,_,_,_,_,_,_,_,_,_,_,_,_,_,_] [_] [] [] (by omega) hs (by simp [kOK]) (by simp) ?_ | refine Cov.goG (nid) Hs [_,_,_,_,_,_,_,_,_,_,_,_,_,_,_,_,_,_,_,_] [_] [] [] (by omega) hs (by simp [kOK]) (by simp) ?_ | refine Cov.goG (nid) Hs [_,_,_,_,_,_,_,_,_,_,_,_,_,_,_,_,_,_,_,_,_] [_] [] [] (by omega) hs (by simp [kOK]) (by simp) ?_ | refine Cov.goG (nid) Hs [_,_,_,_,_,_,_,_,_,_,_,_,_,_,_,_,_,_,_,_,_,_] [_] [] [] (by omega) hs (by simp [kOK]) (by simp) ?_ | refine Cov.goG (nid) Hs [_,_,_,_,_,_,_,_,_,_,_,_,_,_,_,_,_,_,_,_,_,_,_] [_] [] [] (by omega) hs (by simp [kOK]) (by simp) ?_
   simp [cvT,step,res,boxRg,hcc,ColsEq.refl,-List.getD_eq_getElem?_getD]
   omega
  refine SR.run (t:=.mk) ?_
  unfold boxRg
  unfold devP at hl0
  simp -dsimp only [aqA,↓seqK,↓blkK,↓loopK,step,stepBin,eqB,Nat.add_assoc nid,↓reduceIte,simprocAttr,LN_succ,hl0,hl3,hcc,hc3,mkKey,mGet,keyIn]
  refine ⟨⟨by omega,by omega⟩,⟨by rw [← hd]; have:=hS.nm; omega,by omega⟩,?_⟩
  rw [← hd,hi1,hi2]
  refine RetOK.goF Hs [] [(nid+200,_)] [] [] [] (.inl rfl) hs (by simp [kOK]) rfl ?_
  simp [a124,cvT,step,res]
end Go.Proofs.YtahjohieahehjaaGreatDoor
namespace Go.Proofs.YtahjohieahehjaaGreatDoor
open Go.RowKit
theorem subH_put {s:Nat} {A:ABlk} {Hs Hs' X:Heap} (hu:∀ id y,getH Hs' id=some y→(id=s∧y=A)∨(id≠s∧getH Hs id=some y)) (hf:subH Hs (X++Hs)):subH Hs' ((s,some A)::(X++Hs)):=fun id y hy=>by
 rcases hu id y hy with ⟨rfl,rfl⟩ | ⟨hne,hg⟩
 ·simp [getH]
 ·simp only [getH]
  have:(s==id)=false:=by simpa using fun e=>hne e.symm
  rw [this]
  exact hf id y hg
theorem RH_keys (c:Nat) (n0:Bool) (n1 n2:Nat→Bool) (D:List Dev) (st st':Nat) (P Q:List Port):keys (RH c n0 n1 n2 D st P)=keys (RH c n0 n1 n2 D st' Q):=rfl
theorem RH_get {c:Nat} {n0:Bool} {n1 n2:Nat→Bool} {D:List Dev} {st:Nat} {P:List Port} {id:Nat} {y:ABlk} (h:getH (RH c n0 n1 n2 D st P) id=some y) :
  (id=c∧getH (RH c n0 n1 n2 D st P) c=some y)∨(id=c+1∧getH (RH c n0 n1 n2 D st P) (c+1)=some y)∨(id=c+2∧getH (RH c n0 n1 n2 D st P) (c+2)=some y)∨(id=c+3∧getH (RH c n0 n1 n2 D st P) (c+3)=some y)∨(id=c+4∧getH (RH c n0 n1 n2 D st P) (c+4)=some y):=by
 have hk:=getH_key h
 have:id∈keys (RH c n0 n1 n2 D st P):=by simpa using hk
 simp only [RH,keys,List.map_cons,List.map_nil,List.mem_cons,List.not_mem_nil,or_false] at this
 rcases this with rfl | rfl | rfl | rfl | rfl
 ·exact .inl ⟨rfl,h⟩
 ·exact .inr (.inl ⟨rfl,h⟩)
 ·exact .inr (.inr (.inl ⟨rfl,h⟩))
 ·exact .inr (.inr (.inr (.inl ⟨rfl,h⟩)))
 ·exact .inr (.inr (.inr (.inr ⟨rfl,h⟩)))
section
variable {c:Nat} {n0:Bool} {n1 n2:Nat→Bool} {D:List Dev} {st:Nat} {P:List Port} {k:Nat} {p q:Port}
theorem RH_instr (h:Apart P) (hp:P[k]?=some p) (v:Bs) (hq:q={ p with instr:=v }):∀ id y,getH (RH c n0 n1 n2 D st (P.set k q)) id=some y →
  (id=c+1∧y=.arr 9 D.length [.s fun j=>if j=k then v else (P.getD j pz).instr])∨(id≠c+1∧getH (RH c n0 n1 n2 D st P) id=some y):=by
 intro id y hy
 have hd:q.d=p.d:=by rw [hq]
 rcases RH_get hy with ⟨e,h1⟩ | ⟨e,h1⟩ | ⟨e,h1⟩ | ⟨e,h1⟩ | ⟨e,h1⟩ <;> subst e
 ·exact .inr ⟨by omega,by rw [RH0] at h1 ⊢; exact h1⟩
 ·rw [RH1] at h1
  injection h1 with h1
  refine .inl ⟨rfl,?_⟩
  rw [← h1]
  congr 3
  funext j
  rw [set_getD hp]
  by_cases e:j=k
  ·rw [if_pos e,if_pos e,hq]
  ·rw [if_neg e,if_neg e]
 ·refine .inr ⟨by omega,?_⟩
  rw [RH2] at h1 ⊢
  rw [← h1]
  congr 4
  funext j
  rw [set_getD hp]
  by_cases e:j=k
  ·rw [if_pos e,hq,e,pGet hp]
  ·rw [if_neg e]
 ·exact .inr ⟨by omega,by rw [RH3,inD_same h hp hd (by rw [hq]),inV_same h hp hd (by rw [hq])] at h1; rw [RH3]; exact h1⟩
 ·exact .inr ⟨by omega,by rw [RH4,outD_same h hp hd (by rw [hq]),outM_same h hp hd (by rw [hq])] at h1; rw [RH4]; exact h1⟩
theorem RH_shift (h:Apart P) (hp:P[k]?=some p) (v:Bs) (hq:q={ p with shift:=v }):∀ id y,getH (RH c n0 n1 n2 D st (P.set k q)) id=some y →
  (id=c+2∧y=.arr 9 D.length [.s fun j=>if j=k then v else (P.getD j pz).shift])∨(id≠c+2∧getH (RH c n0 n1 n2 D st P) id=some y):=by
 intro id y hy
 have hd:q.d=p.d:=by rw [hq]
 rcases RH_get hy with ⟨e,h1⟩ | ⟨e,h1⟩ | ⟨e,h1⟩ | ⟨e,h1⟩ | ⟨e,h1⟩ <;> subst e
 ·exact .inr ⟨by omega,by rw [RH0] at h1 ⊢; exact h1⟩
 ·refine .inr ⟨by omega,?_⟩
  rw [RH1] at h1 ⊢
  rw [← h1]
  congr 4
  funext j
  rw [set_getD hp]
  by_cases e:j=k
  ·rw [if_pos e,hq,e,pGet hp]
  ·rw [if_neg e]
 ·rw [RH2] at h1
  injection h1 with h1
  refine .inl ⟨rfl,?_⟩
  rw [← h1]
  congr 3
  funext j
  rw [set_getD hp]
  by_cases e:j=k
  ·rw [if_pos e,if_pos e,hq]
  ·rw [if_neg e,if_neg e]
 ·exact .inr ⟨by omega,by rw [RH3,inD_same h hp hd (by rw [hq]),inV_same h hp hd (by rw [hq])] at h1; rw [RH3]; exact h1⟩
 ·exact .inr ⟨by omega,by rw [RH4,outD_same h hp hd (by rw [hq]),outM_same h hp hd (by rw [hq])] at h1; rw [RH4]; exact h1⟩
theorem RH_out (h:Apart P) (hp:P[k]?=some p) (s v:Bs) (hq:q={ p with oD:=fun m=>if m=.s s then true else p.oD m,oV:=fun m=>if m=.s s then v else p.oV m }):∀ id y,getH (RH c n0 n1 n2 D st (P.set k q)) id=some y →
  (id=c+4∧y=.map .q (fun m=>if m=.q p.d.name s then true else outD P m) (.s fun m=>if m=.q p.d.name s then v else outM P m))∨(id≠c+4∧getH (RH c n0 n1 n2 D st P) id=some y):=by
 intro id y hy
 have hd:q.d=p.d:=by rw [hq]
 rcases RH_get hy with ⟨e,h1⟩ | ⟨e,h1⟩ | ⟨e,h1⟩ | ⟨e,h1⟩ | ⟨e,h1⟩ <;> subst e
 ·exact .inr ⟨by omega,by rw [RH0] at h1 ⊢; exact h1⟩
 ·refine .inr ⟨by omega,?_⟩
  rw [RH1] at h1 ⊢
  rw [← h1]
  congr 4
  funext j
  rw [set_getD hp]
  by_cases e:j=k
  ·rw [if_pos e,hq,e,pGet hp]
  ·rw [if_neg e]
 ·refine .inr ⟨by omega,?_⟩
  rw [RH2] at h1 ⊢
  rw [← h1]
  congr 4
  funext j
  rw [set_getD hp]
  by_cases e:j=k
  ·rw [if_pos e,hq,e,pGet hp]
  ·rw [if_neg e]
 ·exact .inr ⟨by omega,by rw [RH3,inD_same h hp hd (by rw [hq]),inV_same h hp hd (by rw [hq])] at h1; rw [RH3]; exact h1⟩
 ·rw [RH4,outD_upd h hp hd (s:=s) (by rw [hq]),outM_upd h hp hd (s:=s) (v:=v) (by rw [hq])] at h1
  injection h1 with h1
  exact .inl ⟨rfl,h1.symm⟩
end
set_option maxHeartbeats 16000000 in
theorem act_R (c nid:Nat) (n0:Bool) (n1 n2:Nat→Bool) (D:List Dev) (st:Nat) (P:List Port) (k:Nat) (p:Port) (hc:c+5≤nid) (h:RelR D P) (hp:P[k]?=some p) (hD:D.length≤1000) :
  ACall Tryz.prog 76 [.ptr c 0,.int .i64 (k:Nat)] (RH c n0 n1 n2 D st P) nid (.tup []) (RH c n0 n1 n2 D st (P.set k (actR st p))):=by
 have hkl:k<D.length:=by rw [← h.len]; exact (List.getElem?_eq_some_iff.1 hp).1
 obtain ⟨hd,hR,hV⟩:=h.d k p hp
 have hS:=h.s p (List.mem_of_getElem? hp)
 have hs:=RH_scoped c nid n0 n1 n2 D st P hc
 have hs2:=RH_scoped c nid n0 n1 n2 D st (P.set k (actR st p)) hc
 have hkk:∀ id∈keys (RH c n0 n1 n2 D st P),id∈keys (RH c n0 n1 n2 D st (P.set k (actR st p))):=fun id hid=>by rw [RH_keys c n0 n1 n2 D st st (P.set k (actR st p)) P]; exact hid
 have hl0:=RH0 c n0 n1 n2 D st P
 have hl1:=RH1 c n0 n1 n2 D st P
 have hl2:=RH2 c n0 n1 n2 D st P
 have hl4:=RH4 c n0 n1 n2 D st P
 have hcap:=fun m (hm:nid≤m)=>capt_R c m n0 n1 n2 D st P k p (by omega) h hp hD
 have hnone:subH (RH c n0 n1 n2 D st P) (RH c n0 n1 n2 D st P):=subH_refl _
 have hi:=fun v hq=>RH_instr (c:=c) (n0:=n0) (n1:=n1) (n2:=n2) (D:=D) (st:=st) (q:=actR st p) h.ap hp v hq
 have hsf:=fun v hq=>RH_shift (c:=c) (n0:=n0) (n1:=n1) (n2:=n2) (D:=D) (st:=st) (q:=actR st p) h.ap hp v hq
 have hot:=fun s v hq=>RH_out (c:=c) (n0:=n0) (n1:=n1) (n2:=n2) (D:=D) (st:=st) (q:=actR st p) h.ap hp s v hq
 have hself:actR st p=p→RH c n0 n1 n2 D st (P.set k (actR st p))=RH c n0 n1 n2 D st P:=fun e=>by rw [e,set_none hp]
 have hlow:∀ (A:Option ABlk) (m:Nat),nid≤m→lowH ((nid+100,A)::RH c n0 n1 n2 D st P) m (List.map (fun x=>x.1) (RH c n0 n1 n2 D st P))=true:=fun A m hm=>by
  have hcc:∀ j,(nid+100==c+j)=false∨5≤j:=fun j=>by
   by_cases hj:j<5
   ·left; simp; omega
   ·right; omega
  have g0:(nid+100==c)=false:=by simp; omega
  have g1:=(hcc 1).resolve_right (by omega)
  have g2:=(hcc 2).resolve_right (by omega)
  have g3:=(hcc 3).resolve_right (by omega)
  have g4:=(hcc 4).resolve_right (by omega)
  show lowH _ m [c,c+1,c+2,c+3,c+4]=true
  simp only [lowH,getH,g0,g1,g2,g3,g4,cond_false,RH0,RH1,RH2,RH3,RH4]
  simp [lowBlk,lowAll,lowCols,idsOfs,idsOf]
  omega
 generalize RH c n0 n1 n2 D st (P.set k (actR st p))=Hs2 at *
 generalize RH c n0 n1 n2 D st P=Hs at *
 have hcc:∀ k,(nid+k==c)=false:=fun k=>by simp; omega
 have hc1:∀ k,(nid+k==c+1)=false:=fun k=>by simp; omega
 have hc2:∀ k,(nid+k==c+2)=false:=fun k=>by simp; omega
 have hc4:∀ k,(nid+k==c+4)=false:=fun k=>by simp; omega
 refine acall_sr c76 (by simp [a76]) ?_
 unfold a76
 refine SR.seqTo ⟨[(4,.ptr (nid+100) 0),(0,.ptr c 0),(1,.int .i64 (k:Nat))],[(nid+100,boxL (n1 k) (n2 k) p.d)]++Hs,nid+200,nid⟩ ?_ ?_
 ·unfold devP at hl0
  simp -dsimp only [aqA,↓seqK,↓blkK,↓loopK,step,stepBin,eqB,Nat.add_assoc nid,↓reduceIte,simprocAttr,LN_succ,hl0]
  refine ⟨⟨by omega,by omega⟩,?_⟩
  rw [hd]
  first | refine Cov.goG (nid) Hs [_] [_] [(nid+100,nid+28)] [] (by omega) hs (by simp [kOK]) (by simp) ?_ | refine Cov.goG (nid) Hs [_,_] [_] [(nid+100,nid+28)] [] (by omega) hs (by simp [kOK]) (by simp) ?_ | refine Cov.goG (nid) Hs [_,_,_] [_] [(nid+100,nid+28)] [] (by omega) hs (by simp [kOK]) (by simp) ?_ | refine Cov.goG (nid) Hs [_,_,_,_] [_] [(nid+100,nid+28)] [] (by omega) hs (by simp [kOK]) (by simp) ?_ | refine Cov.goG (nid) Hs [_,_,_,_,_] [_] [(nid+100,nid+28)] [] (by omega) hs (by simp [kOK]) (by simp) ?_ | refine Cov.goG (nid) Hs [_,_,_,_,_,_] [_] [(nid+100,nid+28)] [] (by omega) hs (by simp [kOK]) (by simp) ?_ | refine Cov.goG (nid) Hs [_,_,_,_,_,_,_] [_] [(nid+100,nid+28)] [] (by omega) hs (by simp [kOK]) (by simp) ?_ | refine Cov.goG (nid) Hs [_,_,_,_,_,_,_,_] [_] [(nid+100,nid+28)] [] (by omega) hs (by simp [kOK]) (by simp) ?_ | refine Cov.goG (nid) Hs [_,_,_,_,_,_,_,_,_] [_] [(nid+100,nid+28)] [] (by omega) hs (by simp [kOK]) (by simp) ?_ | refine Cov.goG (nid) Hs [_,_,_,_,_,_,_,_,_,_] [_] [(nid+100,nid+28)] [] (by omega) hs (by simp [kOK]) (by simp) ?_ | refine Cov.goG (nid) Hs [_,_,_,_,_,_,_,_,_,_,_] [_] [(nid+100,nid+28)] [] (by omega) hs (by simp [kOK]) (by simp) ?_ | refine Cov.goG (nid) Hs [_,_,_,_,_,_,_,_,_,_,_,_] [_] [(nid+100,nid+28)] [] (by omega) hs (by simp [kOK]) (by simp) ?_ | refine Cov.goG (nid) Hs [_,_,_,_,_,_,_,_,_,_,_,_,_] [_] [(nid+100,nid+28)] [] (by omega) hs (by simp [kOK]) (by simp) ?_ | refine Cov.goG (nid) Hs [_,_,_,_,_,_,_,_,_,_,_,_,_,_] [_] [(nid+100,nid+28)] [] (by omega) hs (by simp [kOK]) (by simp) ?_ | refine Cov.goG (nid) Hs [_,_,_,_,_,_,_,_,_,_,_,_,_,_,_] [_] [(nid+100,nid+28)] [] (by omega) hs (by simp [kOK]) (by simp) ?_ | refine Cov.goG (nid) Hs [_,_,_,_,_,_,_,_,_,_,_,_,_,_,_,_] [_] [(nid+100,nid+28)] [] (by omega) hs (by simp [kOK]) (by simp) ?_ | refine Cov.goG (nid) Hs [_,_,_,_,_,_,_,_,_,_,_,_,_,_,_,_,_] [_] [(nid+100,nid+28)] [] (by omega) hs (by simp [kOK]) (by simp) ?_ | refine Cov.goG (nid) Hs [_,_,_,_,_,_,_,_,_,_,_,_,_,_,_,_,_,_] [_] [(nid+100,nid+28)] [] (by omega) hs (by simp [kOK]) (by simp) ?_ | refine Cov.goG (nid) Hs [_,_,_,_,_,_,_,_,_,_,_,_,_,_,_,_,_,_,_] [_] [(nid+100,nid+28)] [] (by omega) hs (by simp [kOK]) (by simp) ?_ | refine Cov.goG (nid) Hs [_,_,_,_,_,_,_,_,_,_,_,_,_,_,_,_,_,_,_,_] [_] [(nid+100,nid+28)] [] (by omega) hs (by simp [kOK]) (by simp) ?_ | refine Cov.goG (nid) Hs [_,_,_,_,_,_,_,_,_,_,_,_,_,_,_,_,_,_,_,_,_] [_] [(nid+100,nid+28)] [] (by omega) hs (by simp [kOK]) (by simp) ?_ | refine Cov.goG (nid) Hs [_,_,_,_,_,_,_,_,_,_,_,_,_,_,_,_,_,_,_,_,_,_] [_] [(nid+100,nid+28)] [] (by omega) hs (by simp [kOK]) (by simp) ?_ | refine Cov.goG (nid) Hs [_,_,_,_,_,_,_,_,_,_,_,_,_,_,_,_,_,_,_,_,_,_,_] [_] [(nid+100,nid+28)] [] (by omega) hs (by simp [kOK]) (by simp) ?_
  simp [cvT,step,res,boxL,litRg,litIn,hcc,ColsEq.refl,-List.getD_eq_getElem?_getD]
  omega
 refine SR.seqTo ⟨[(18,.int .i64 (st:Nat)),(4,.ptr (nid+100) 0),(0,.ptr c 0),(1,.int .i64 (k:Nat))],[(nid+100,boxL (n1 k) (n2 k) p.d)]++Hs,nid+300,nid⟩ ?_ ?_
 ·simp -dsimp only [aqA,↓seqK,↓blkK,↓loopK,step,stepBin,eqB,Nat.add_assoc nid,↓reduceIte,simprocAttr,LN_succ,hl0,hcc]
  first | refine Cov.goG (nid) Hs [_] [_] [] [] (by omega) hs (by simp [kOK]) (by simp) ?_ | refine Cov.goG (nid) Hs [_,_] [_] [] [] (by omega) hs (by simp [kOK]) (by simp) ?_ | refine Cov.goG (nid) Hs [_,_,_] [_] [] [] (by omega) hs (by simp [kOK]) (by simp) ?_ | refine Cov.goG (nid) Hs [_,_,_,_] [_] [] [] (by omega) hs (by simp [kOK]) (by simp) ?_ | refine Cov.goG (nid) Hs [_,_,_,_,_] [_] [] [] (by omega) hs (by simp [kOK]) (by simp) ?_ | refine Cov.goG (nid) Hs [_,_,_,_,_,_] [_] [] [] (by omega) hs (by simp [kOK]) (by simp) ?_ | refine Cov.goG (nid) Hs [_,_,_,_,_,_,_] [_] [] [] (by omega) hs (by simp [kOK]) (by simp) ?_ | refine Cov.goG (nid) Hs [_,_,_,_,_,_,_,_] [_] [] [] (by omega) hs (by simp [kOK]) (by simp) ?_ | refine Cov.goG (nid) Hs [_,_,_,_,_,_,_,_,_] [_] [] [] (by omega) hs (by simp [kOK]) (by simp) ?_ | refine Cov.goG (nid) Hs [_,_,_,_,_,_,_,_,_,_] [_] [] [] (by omega) hs (by simp [kOK]) (by simp) ?_ | refine Cov.goG (nid) Hs [_,_,_,_,_,_,_,_,_,_,_] [_] [] [] (by omega) hs (by simp [kOK]) (by simp) ?_ | refine Cov.goG (nid) Hs [_,_,_,_,_,_,_,_,_,_,_,_] [_] [] [] (by omega) hs (by simp [kOK]) (by simp) ?_ | refine Cov.goG (nid) Hs [_,_,_,_,_,_,_,_,_,_,_,_,_] [_] [] [] (by omega) hs (by simp [kOK]) (by simp) ?_ | refine Cov.goG (nid) Hs [_,_,_,_,_,_,_,_,_,_,_,_,_,_] [_] [] [] (by omega) hs (by simp [kOK]) (by simp) ?_ | refine Cov.goG (nid) Hs [_,_,_,_,_,_,_,_,_,_,_,_,_,_,_] [_] [] [] (by omega) hs (by simp [kOK]) (by simp) ?_ | refine Cov.goG (nid) Hs [_,_,_,_,_,_,_,_,_,_,_,_,_,_,_,_] [_] [] [] (by omega) hs (by simp [kOK]) (by simp) ?_ | refine Cov.goG (nid) Hs [_,_,_,_,_,_,_,_,_,_,_,_,_,_,_,_,_] [_] [] [] (by omega) hs (by simp [kOK]) (by simp) ?_ | refine Cov.goG (nid) Hs [_,_,_,_,_,_,_,_,_,_,_,_,_,_,_,_,_,_] [_] [] [] (by omega) hs (by simp [kOK]) (by simp) ?_ | refine Cov.goG (nid) Hs [_,_,_,_,_,_,_,_,_,_,_,_,_,_,_,_,_,_,_] [_] [] [] (by omega) hs (by simp [kOK]) (by simp) ?_ | refine Cov.goG (nid) Hs [_,_,_,_,_,_,_,_,_,_,_,_,_,_,_,_,_,_,_,_] [_] [] [] (by omega) hs (by simp [kOK]) (by simp) ?_ | refine Cov.goG (nid) Hs [_,_,_,_,_,_,_,_,_,_,_,_,_,_,_,_,_,_,_,_,_] [_] [] [] (by omega) hs (by simp [kOK]) (by simp) ?_ | refine Cov.goG (nid) Hs [_,_,_,_,_,_,_,_,_,_,_,_,_,_,_,_,_,_,_,_,_,_] [_] [] [] (by omega) hs (by simp [kOK]) (by simp) ?_ | refine Cov.goG (nid) Hs [_,_,_,_,_,_,_,_,_,_,_,_,_,_,_,_,_,_,_,_,_,_,_] [_] [] [] (by omega) hs (by simp [kOK]) (by simp) ?_
  simp [cvT,step,res,boxL,litRg,litIn,hcc,ColsEq.refl,-List.getD_eq_getElem?_getD]
  omega
 refine SR.block ?_
 have eq1:∀ n:Nat,(((st:Nat):Int)==(n:Int))=decide (st=n):=fun n=>by rw [Bool.eq_iff_iff]; simp; omega
 have e0:(((st:Nat):Int)==0)=decide (st=0):=eq1 0
 have e3:(((st:Nat):Int)==3)=decide (st=3):=eq1 3
 have e8:(((st:Nat):Int)==8)=decide (st=8):=eq1 8
 have e10:(((st:Nat):Int)==10)=decide (st=10):=eq1 10
 have e15:(((st:Nat):Int)==15)=decide (st=15):=eq1 15
 clear eq1
 have hsh:∀ n,st=n→n≠4→n≠11→shifts st=false:=fun n e h4 h11=>by
  unfold shifts
  rw [e]
  simp [h4,h11]
 by_cases h0:st=0
 ·rw [decide_eq_true h0] at e0
  have hq:actR st p={ p with instr:=[] }:=by
   unfold actR
   rw [if_neg (by rw [hsh 0 h0 (by decide) (by decide)]; simp)]
   unfold actV
   rw [if_pos h0]
  have hu:=hi [] hq
  refine SR.run (t:=.mk) ?_
  simp -dsimp only [aqA,↓seqK,↓blkK,↓loopK,step,stepBin,eqB,Nat.add_assoc nid,↓reduceIte,simprocAttr,LN_succ,hl0,hl1,hcc,hc1,e0]
  refine ⟨⟨by omega,by omega⟩,?_⟩
  refine RetOK.whole (.inr rfl) hs2 hkk (subH_put (X:=[_]) hu (subH_frame (X:=[_]) hs (by simp [kOK]))) ?_
  simp [a76,cvT,step,res]
 rw [decide_eq_false h0] at e0
 by_cases h3:st=3
 ·rw [decide_eq_true h3] at e3
  have hq:actR st p={ p with shift:=captV p }:=by
   unfold actR
   rw [if_neg (by rw [hsh 3 h3 (by decide) (by decide)]; simp)]
   unfold actV
   rw [if_neg h0,if_pos h3]
  have hu:=hsf _ hq
  refine SR.run (t:=.mk) ?_
  simp -dsimp only [aqA,↓seqK,↓blkK,↓loopK,step,stepBin,eqB,Nat.add_assoc nid,↓reduceIte,simprocAttr,LN_succ,hl0,hl2,hcc,hc2,e0,e3]
  refine CallX.on (hcap _ (by omega)) (subH_frame (X:=[_]) hs (by simp [kOK])) ?_
  simp -dsimp only [aqA,↓seqK,↓blkK,↓loopK,step,stepBin,eqB,Nat.add_assoc nid,↓reduceIte,simprocAttr,LN_succ,hl0,hl2,hcc,hc2,e0,e3]
  refine ⟨?_,⟨by omega,by omega⟩,?_⟩
  ·rw [hlow _ _ (by omega)]
   simp
   omega
  refine RetOK.whole (.inr rfl) hs2 hkk (subH_put (X:=[_]) hu (subH_frame (X:=[_]) hs (by simp [kOK]))) ?_
  simp [a76,cvT,step,res]
 rw [decide_eq_false h3] at e3
 by_cases h10:st=10
 ·rw [decide_eq_true h10] at e10
  have hq:actR st p={ p with shift:=capIR p.d }:=by
   unfold actR
   rw [if_neg (by rw [hsh 10 h10 (by decide) (by decide)]; simp)]
   unfold actV
   rw [if_neg h0,if_neg h3,if_neg (by omega),if_neg (by omega),if_pos h10]
  have hu:=hsf _ hq
  have hlg:=hR.r.lg
  obtain ⟨L,hL⟩:∃ L:Nat,p.d.long - 1=L:=⟨_,(Int.toNat_of_nonneg (by omega)).symm⟩
  refine SR.run (t:=.mk) ?_
  unfold boxL
  simp -dsimp only [aqA,↓seqK,↓blkK,↓loopK,step,stepBin,eqB,Nat.add_assoc nid,↓reduceIte,simprocAttr,LN_succ,hl0,hl2,hcc,hc2,e0,e3,e10]
  refine ⟨by unfold inI64; omega,?_⟩
  rw [hL]
  refine CallX.pure (repeat_cc [48] L _ (by omega) (by simp; omega)) ?_
  rw [rep48]
  simp -dsimp only [aqA,↓seqK,↓blkK,↓loopK,step,stepBin,eqB,Nat.add_assoc nid,↓reduceIte,simprocAttr,LN_succ,hl0,hl2,hcc,hc2,e0,e3]
  have hcI:capIR p.d=49::List.replicate L 48:=by
   unfold capIR
   rw [hL]
   rfl
  rw [hcI] at hu
  refine ⟨by simp; omega,⟨by omega,by omega⟩,?_⟩
  refine RetOK.whole (.inr rfl) hs2 hkk (subH_put (X:=[_]) hu (subH_frame (X:=[_]) hs (by simp [kOK]))) ?_
  simp [a76,cvT,step,res]
 rw [decide_eq_false h10] at e10
 by_cases h15:st=15
 ·rw [decide_eq_true h15] at e15
  have hq:actR st p={ p with instr:=p.shift }:=by
   unfold actR
   rw [if_neg (by rw [hsh 15 h15 (by decide) (by decide)]; simp)]
   unfold actV
   rw [if_neg h0,if_neg h3,if_neg (by omega),if_neg (by omega),if_neg h10,if_pos h15]
  have hu:=hi _ hq
  refine SR.run (t:=.mk) ?_
  simp -dsimp only [aqA,↓seqK,↓blkK,↓loopK,step,stepBin,eqB,Nat.add_assoc nid,↓reduceIte,simprocAttr,LN_succ,hl0,hl1,hl2,hcc,hc1,hc2,e0,e3,e10,e15]
  rw [pGet hp]
  refine ⟨⟨by omega,by omega⟩,⟨by omega,by omega⟩,?_⟩
  refine RetOK.whole (.inr rfl) hs2 hkk (subH_put (X:=[_]) hu (subH_frame (X:=[_]) hs (by simp [kOK]))) ?_
  simp [a76,cvT,step,res]
 rw [decide_eq_false h15] at e15
 by_cases h8:st=8
 ·rw [decide_eq_true h8] at e8
  have hsl:=sel_short hR.r hS
  have hsel:=fun m=>selR_c (n1 k) (n2 k) p.d p.instr m (by have:=hR.r.rl; omega) (by have:=hR.r.il; omega)
  rw [selR_eq hR.r hR.n] at hsel
  obtain ⟨r,hr⟩:∃ r,selP p.d p.instr=r:=⟨_,rfl⟩
  have hown:=sel_own hR
  rw [hr] at hsel hsl hown
  have hq:actR st p=if r.1≠byL∧r.1≠idL then { p with oD:=fun q=>if q=.s r.1 then true else p.oD q,oV:=fun q=>if q=.s r.1 then p.shift else p.oV q } else p:=by
   unfold actR
   rw [if_neg (by rw [hsh 8 h8 (by decide) (by decide)]; simp)]
   unfold actV
   rw [if_neg h0,if_neg h3,if_neg (by omega),if_pos h8,hr]
  have hat:=atP_at h.ap hp
  have hoD:outD P (.q p.d.name r.1)=mapD p.d.regs (.s r.1):=by simp only [outD,hat,hR.oD]
  have hpi:(P.getD k pz).instr=p.instr:=by rw [pGet hp]
  unfold dvP litRg litIn at hsel
  refine SR.run (t:=.mk) ?_
  unfold boxL litRg litIn
  simp -dsimp only [aqA,↓seqK,↓blkK,↓loopK,step,stepBin,eqB,Nat.add_assoc nid,↓reduceIte,simprocAttr,LN_succ,hl0,hl1,hl2,hcc,hc1,hc2,e0,e3,e10,e15,e8]
  refine ⟨⟨by omega,by omega⟩,?_⟩
  rw [hpi]
  refine CallX.pure (hsel _) ?_
  simp -dsimp only [aqA,↓seqK,↓blkK,↓loopK,step,stepBin,eqB,Nat.add_assoc nid,↓reduceIte,simprocAttr,LN_succ,hl0,hl1,hl2,hl4,hcc,hc1,hc2,hc4,mkKey,mGet,keyIn]
  refine ⟨⟨by have:=hS.nm; omega,by omega⟩,?_⟩
  rw [hoD]
  rcases hown with ⟨h1,h2⟩ | ⟨h1,h2⟩
  ·rw [if_neg (fun h=>by rcases h1 with h1 | h1; exact h.1 h1; exact h.2 h1)] at hq
   have e:=hself hq
   subst e
   rw [h2]
   simp -dsimp only [aqA,↓seqK,↓blkK,↓loopK,step,stepBin,eqB,Nat.add_assoc nid,↓reduceIte,simprocAttr,LN_succ]
   refine RetOK.whole (.inr rfl) hs hkk (subH_frame (X:=[_,_,_]) hs (by simp [kOK])) ?_
   simp [a76,cvT,step,res]
  ·rw [if_pos h1] at hq
   have hu:=hot _ _ hq
   rw [h2]
   simp -dsimp only [aqA,↓seqK,↓blkK,↓loopK,step,stepBin,eqB,Nat.add_assoc nid,↓reduceIte,simprocAttr,LN_succ,hl0,hl1,hl2,hl4,hcc,hc1,hc2,hc4,mkKey,mGet,mPut,keyIn]
   rw [pGet hp]
   refine ⟨⟨by omega,by omega⟩,⟨by have:=hS.nm; omega,by omega⟩,?_⟩
   refine RetOK.whole (.inr rfl) hs2 hkk (subH_put (X:=[_,_,_]) hu (subH_frame (X:=[_,_,_]) hs (by simp [kOK]))) ?_
   simp [a76,cvT,step,res]
 rw [decide_eq_false h8] at e8
 have hq:actR st p=p:=by
  unfold actR
  split
  ·rfl
  ·rename_i hn
   unfold actV
   have:¬ (st=4∨st=11):=by
    unfold shifts at hn
    simpa using hn
   rw [if_neg h0,if_neg h3,if_neg this,if_neg h8,if_neg h10,if_neg h15]
 have e:=hself hq
 subst e
 refine SR.run (t:=.mk) ?_
 simp -dsimp only [aqA,↓seqK,↓blkK,↓loopK,step,stepBin,eqB,Nat.add_assoc nid,↓reduceIte,simprocAttr,LN_succ,e0,e3,e8,e10,e15]
 refine RetOK.whole (.inr rfl) hs hkk (subH_frame (X:=[_]) hs (by simp [kOK])) ?_
 simp [a76,cvT,step,res]
end Go.Proofs.YtahjohieahehjaaGreatDoor
namespace Go.Proofs.YtahjohieahehjaaGreatDoor
open Go.RowKit
theorem stCells_get2:∀ s,s<16→∀ t,t<2→∃ r,((stCells.drop (s * 2)).take 2).drop (t * 1)=.int .i64 (nextN s t:Nat)::r:=by
 intro s hs t ht
 rcases t with _ | _ | t
 ·rcases s with _ | _ | _ | _ | _ | _ | _ | _ | _ | _ | _ | _ | _ | _ | _ | _ | s <;> first | exact ⟨_,rfl⟩ | omega
 ·rcases s with _ | _ | _ | _ | _ | _ | _ | _ | _ | _ | _ | _ | _ | _ | _ | _ | s <;> first | exact ⟨_,rfl⟩ | omega
 ·omega
theorem after_c (s t nid:Nat) (hs:s<16) (ht:t<2):ACall Tryz.prog 77 [.int .i64 (s:Nat),.int .i64 (t:Nat)] [] nid (.int .i64 (nextN s t:Nat)) []:=by
 refine acall_run c77 (by simp [a77]) ?_
 obtain ⟨r,hr⟩:=stCells_get2 s hs t ht
 have e:stCells=[.int .i64 1,.int .i64 0,.int .i64 1,.int .i64 2,.int .i64 3,.int .i64 9,.int .i64 4,.int .i64 5,.int .i64 4,.int .i64 5,.int .i64 6,.int .i64 8,.int .i64 6,.int .i64 7,.int .i64 4,.int .i64 8,
  .int .i64 1,.int .i64 2,.int .i64 10,.int .i64 0,.int .i64 11,.int .i64 12,.int .i64 11,.int .i64 12,.int .i64 13,.int .i64 15,.int .i64 13,.int .i64 14,.int .i64 11,.int .i64 15,.int .i64 1,.int .i64 2]:=rfl
 rw [e] at hr
 have hd:decide (s * 2≤30)=true:=by simp; omega
 simp -dsimp only [a77,aqA,↓seqK,↓blkK,↓loopK,step,stepBin,eqB,Nat.add_assoc nid,↓reduceIte,simprocAttr,hd]
 refine ⟨by omega,?_⟩
 rw [hr]
 simp -dsimp only [aqA,↓seqK,↓blkK,↓loopK,step,stepBin,eqB,Nat.add_assoc nid,↓reduceIte,simprocAttr]
 refine ⟨by omega,?_⟩
 refine RetOK.pure (.inl rfl) rfl ?_
 simp [cvT,step,res]
theorem tmsFault_c (s:List UInt8) (nid:Nat) (hs:s.length≤1099511627776):ACall Tryz.prog 70 [.str s] [] nid (.int .i64 (bitsFaultV s)) []:=by
 refine acall_run c70 (by simp [a70]) ?_
 simp -dsimp only [aqA,↓seqK,↓blkK,↓loopK,step,stepBin,eqB,Nat.add_assoc nid,↓reduceIte,simprocAttr,a70]
 unfold bitsFaultV
 refine S2.dec (fun h=>?_) (fun h=>?_) <;> simp -dsimp only [aqA,↓seqK,↓blkK,↓loopK,step,stepBin,eqB,Nat.add_assoc nid,↓reduceIte,simprocAttr]
 ·rw [if_pos (by omega)]
  refine RetOK.pure (.inl rfl) rfl ?_
  simp [cvT,step,res]
 rw [if_neg (by omega)]
 refine CallO.pure (bitsFaultR_c s _ hs) ?_
 simp -dsimp only [aqA,↓seqK,↓blkK,↓loopK,step,stepBin,eqB,Nat.add_assoc nid,↓reduceIte,simprocAttr]
 refine RetOK.pure (.inl rfl) rfl ?_
 simp [cvT,step,res]
end Go.Proofs.YtahjohieahehjaaGreatDoor
