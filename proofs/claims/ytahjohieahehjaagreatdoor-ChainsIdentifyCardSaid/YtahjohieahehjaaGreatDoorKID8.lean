/-
 ChainsIdentify,the walk,by the abstract machine.
-/
import Derived.Test.YtahjohieahehjaaGreatDoorKID7
import Derived.Test.YtahjohieahehjaaGreatDoorKID5
import Derived.Test.YtahjohieahehjaaGreatDoorKID3
import Derived.Test.YtahjohieahehjaaGreatDoorProg
import Derived.Test.YtahjohieahehjaaGreatDoorChecked
import Derived.Handed
import Derived.HandedShaped
import Derived.Shelf.Vars
import Derived.KernelRfl
set_option linter.unusedVariables false
set_option linter.unusedSimpArgs false
set_option maxRecDepth 100000
namespace Go.Proofs.YtahjohieahehjaaGreatDoor
open Go.RowKit
theorem bits_of' {l:Bs} (h:l.all oneBit=true) (hl:l.length≤20000):bitsFaultV l=0:=by
 have h2:bitsOk l=true:=h
 unfold bitsFaultV
 rw [if_neg (by omega),if_pos h2]
theorem scanO_bits {n T:Nat} {x:ChV} {l:Bs} (h:ChOk n x) (hs:x.st<2) (hT:T=4∨T=11) (hl:l.all oneBit=true):(scanO x T l).all oneBit=true:=by
 unfold scanO
 rw [List.all_eq_true]
 intro b hb
 obtain ⟨k,hk,rfl⟩:=List.mem_map.1 hb
 have hk':=List.mem_range.1 hk
 have h1:=feed_ok (scan1_ok h hs hT).1 hl k (by omega)
 exact (clockP_V h1.ok (bits_at hl hk')).2
set_option maxHeartbeats 4000000 in
theorem idMost_c (n1 n2:Bool) (d:Dev) (nid:Nat):ACall Tryz.prog 43 [dvP n1 n2 d] [] nid (.bool (decide (d.id=4294967295))) []:=by
 refine acall_sr c43 (by simp [a43]) ?_
 unfold a43 dvP litRg litIn
 refine SR.run (t:=.mk) ?_
 simp -dsimp only [aqA,↓seqK,↓blkK,↓loopK,step,stepBin,eqB,Nat.add_assoc nid,↓reduceIte,simprocAttr,LN_succ]
 have e:(d.id==4294967295)=decide (d.id=4294967295):=by rw [Bool.eq_iff_iff]; simp
 rw [e]
 refine RetOK.go [] [] (.inl rfl) ?_
 simp [a43,cvT,step,res,-List.getD_eq_getElem?_getD]
set_option maxHeartbeats 16000000 in
theorem identify_law_c (nl:Bool) (A:List Int) (nid:Nat) (hA:A.length≤17592186044416):ACall Tryz.prog 7 [litI nl A] [] nid (.bool true) []:=by
 refine acall_sr c7 (by simp [a7]) ?_
 unfold a7 litI
 refine SR.seq ?_
 simp -dsimp only [aqA,↓seqK,↓blkK,↓loopK,step,stepBin,eqB,Nat.add_assoc nid,↓reduceIte,simprocAttr,LN_succ]
 refine SR.seqTo ⟨[(3,.ptr (nid+12) 0)],[(nid+12,strmC nl A 0)],nid+50,nid⟩ ?_ ?_
 ·simp -dsimp only [aqA,↓seqK,↓blkK,↓loopK,step,stepBin,eqB,Nat.add_assoc nid,↓reduceIte,simprocAttr,LN_succ]
  refine Cov.go [] [] ?_
  simp [cvT,step,res,strmC,-List.getD_eq_getElem?_getD]
  trace_state
 refine SR.seqEx (ι:={x:DvX // (DevB 3 x.D∧devsE x.D=0)∧x.q≤0+360}) (fun x=>⟨[(4,.lit x.1.n0 x.1.D.length (devP x.1.n1 x.1.n2 x.1.D)),(3,.ptr (nid+12) 0)],[(nid+12,strmC nl A x.1.q)],nid+200,nid⟩) ?_ (fun ⟨x,⟨hB,he⟩,hq⟩=>?_)
 ·simp -dsimp only [aqA,↓seqK,↓blkK,↓loopK,step,stepBin,eqB,Nat.add_assoc nid,↓reduceIte,simprocAttr,LN_succ,strmC_low]
  refine CallO.any (rightDevices_I (nid+12) _ nl A 0 3 (by omega) (by omega) hA (by omega) (by omega)) (subH_get (by simp only [aqA,↓seqK,↓blkK,↓loopK,step,stepBin,eqB,Nat.add_assoc nid,↓reduceIte,simprocAttr,LN_succ])) (fun x hx=>?_)
  simp -dsimp only [aqA,↓seqK,↓blkK,↓loopK,step,stepBin,eqB,Nat.add_assoc nid,↓reduceIte,simprocAttr,LN_succ,strmC_low]
  refine ⟨⟨x,hx⟩,Cov.go [] [] ?_⟩
  simp [cvT,step,res,strmC,ColsEq.refl]
 simp only at hq ⊢
 have hlen:0<x.D.length:=by
  rcases Nat.eq_zero_or_pos x.D.length with h | h
  ·unfold devsE at he; rw [if_pos h] at he; cases he
  ·exact h
 have hl3:=hB.len
 have hR:=devR_of he
 have hS:∀ d∈x.D,DevS d∧∀ r∈d.regs,0≤r.2∧r.2≤1000:=fun d hd=>⟨(hB.ok d hd).s,fun r hr=>by have:=(hR d hd).rs r hr; omega⟩
 refine SR.seqMvCallW (k:=11) (Hs:=[]) (by omega) (fun id b h=>by cases h) (new_I x.n0 x.n1 x.n2 x.D (nid+204) hlen hl3 hS he) (fun f _=>?_)
 have hok:=portsK_ok he f
 have hch:chainH (nid+204) 0 (portsK x.D f x.D.length)=chH (nid+204) ⟨0,portsK x.D f x.D.length⟩:=rfl
 rw [hch]
 generalize hy:(⟨0,portsK x.D f x.D.length⟩:ChV)=y at *
 have hsc:∀ (z:ChV),ChOk x.D.length z→∀ m,nid+215≤m→Scoped m (chH (nid+204) z):=fun z hz m hm=>chainH_scoped (nid+204) m z.st z.P (by rw [hz.len]; exact hl3) hm
 have hoff:=chH_off (c:=nid+204) (s:=nid+12) (x:=y) (by omega)
 have hsy:=Scoped.cons (b:=nid+300) (i:=nid+12) (c:=strmC nl A x.q) (by omega) rfl (hsc y hok (nid+300) (by omega))
 have hsw:=subH_swap (A:=strmC nl A x.q) hoff
 generalize hH:chH (nid+204) y=Hs at *
 simp -dsimp only [aqA,↓seqK,↓blkK,↓loopK,step,stepBin,eqB,Nat.add_assoc nid,↓reduceIte,simprocAttr,LN_succ,strmC_low]
 refine SR.cov (t':=.mk) (st':=⟨[(5,.ptr (nid+204) 0),(6,.int .i64 0),(4,.lit x.n0 x.D.length (devP x.n1 x.n2 x.D)),(3,.ptr (nid+12) 0)],(nid+12,strmC nl A x.q)::Hs,nid+400,nid⟩) ?_ ?_
 ·refine Cov.wholeG (nid+300) (by omega) hsy hsw (by omega) ?_
  simp [cvT,step,res,ColsEq.refl]
 clear hsw hsy
 have hsH:=hsc y hok
 rw [hH] at hsH
 have hs:=hsH (nid+300) (by omega)
 refine SR.seqTo ⟨[(5,.ptr (nid+204) 0),(4,.lit x.n0 x.D.length (devP x.n1 x.n2 x.D))],[]++Hs,nid+400,nid⟩ ?_ ?_
 ·simp -dsimp only [aqA,↓seqK,↓blkK,↓loopK,step,stepBin,eqB,Nat.add_assoc nid,↓reduceIte,simprocAttr,LN_succ,strmC_low]
  first | refine Cov.goG (nid+300) Hs [_] [] [] [] (by omega) hs (by simp [kOK,hoff]) (by simp) ?_ | refine Cov.goG (nid+300) Hs [_,_] [] [] [] (by omega) hs (by simp [kOK,hoff]) (by simp) ?_ | refine Cov.goG (nid+300) Hs [_,_,_] [] [] [] (by omega) hs (by simp [kOK,hoff]) (by simp) ?_ | refine Cov.goG (nid+300) Hs [_,_,_,_] [] [] [] (by omega) hs (by simp [kOK,hoff]) (by simp) ?_ | refine Cov.goG (nid+300) Hs [_,_,_,_,_] [] [] [] (by omega) hs (by simp [kOK,hoff]) (by simp) ?_ | refine Cov.goG (nid+300) Hs [_,_,_,_,_,_] [] [] [] (by omega) hs (by simp [kOK,hoff]) (by simp) ?_ | refine Cov.goG (nid+300) Hs [_,_,_,_,_,_,_] [] [] [] (by omega) hs (by simp [kOK,hoff]) (by simp) ?_ | refine Cov.goG (nid+300) Hs [_,_,_,_,_,_,_,_] [] [] [] (by omega) hs (by simp [kOK,hoff]) (by simp) ?_ | refine Cov.goG (nid+300) Hs [_,_,_,_,_,_,_,_,_] [] [] [] (by omega) hs (by simp [kOK,hoff]) (by simp) ?_ | refine Cov.goG (nid+300) Hs [_,_,_,_,_,_,_,_,_,_] [] [] [] (by omega) hs (by simp [kOK,hoff]) (by simp) ?_ | refine Cov.goG (nid+300) Hs [_,_,_,_,_,_,_,_,_,_,_] [] [] [] (by omega) hs (by simp [kOK,hoff]) (by simp) ?_ | refine Cov.goG (nid+300) Hs [_,_,_,_,_,_,_,_,_,_,_,_] [] [] [] (by omega) hs (by simp [kOK,hoff]) (by simp) ?_ | refine Cov.goG (nid+300) Hs [_,_,_,_,_,_,_,_,_,_,_,_,_] [] [] [] (by omega) hs (by simp [kOK,hoff]) (by simp) ?_ | refine Cov.goG (nid+300) Hs [_,_,_,_,_,_,_,_,_,_,_,_,_,_] [] [] [] (by omega) hs (by simp [kOK,hoff]) (by simp) ?_ | refine Cov.goG (nid+300) Hs [_,_,_,_,_,_,_,_,_,_,_,_,_,_,_] [] [] [] (by omega) hs (by simp [kOK,hoff]) (by simp) ?_ | refine Cov.goG (nid+300) Hs [_,_,_,_,_,_,_,_,_,_,_,_,_,_,_,_] [] [] [] (by omega) hs (by simp [kOK,hoff]) (by simp) ?_ | refine Cov.goG (nid+300) Hs [_,_,_,_,_,_,_,_,_,_,_,_,_,_,_,_,_] [] [] [] (by omega) hs (by simp [kOK,hoff]) (by simp) ?_ | refine Cov.goG (nid+300) Hs [_,_,_,_,_,_,_,_,_,_,_,_,_,_,_,_,_,_] [] [] [] (by omega) hs (by simp [kOK,hoff]) (by simp) ?_ | refine Cov.goG (nid+300) Hs [_,_,_,_,_,_,_,_,_,_,_,_,_,_,_,_,_,_,_] [] [] [] (by omega) hs (by simp [kOK,hoff]) (by simp) ?_ | refine Cov.goG (nid+300) Hs [_,_,_,_,_,_,_,_,_,_,_,_,_,_,_,_,_,_,_,_] [] [] [] (by omega) hs (by simp [kOK,hoff]) (by simp) ?_ | refine Cov.goG (nid+300) Hs [_,_,_,_,_,_,_,_,_,_,_,_,_,_,_,_,_,_,_,_,_] [] [] [] (by omega) hs (by simp [kOK,hoff]) (by simp) ?_ | refine Cov.goG (nid+300) Hs [_,_,_,_,_,_,_,_,_,_,_,_,_,_,_,_,_,_,_,_,_,_] [] [] [] (by omega) hs (by simp [kOK,hoff]) (by simp) ?_ | refine Cov.goG (nid+300) Hs [_,_,_,_,_,_,_,_,_,_,_,_,_,_,_,_,_,_,_,_,_,_,_] [] [] [] (by omega) hs (by simp [kOK,hoff]) (by simp) ?_
  simp [cvT,step,res,strmC,ColsEq.refl]
 have hl4:(List.replicate (32 * x.D.length+32) (49:UInt8)).all oneBit=true:=by rw [List.all_replicate]; simp [oneBit]
 have hf4:=bits_of' hl4 (by simp; omega)
 have hdr:=fun m (hm:nid+215≤m)=>shiftDR_c y (List.replicate (32 * x.D.length+32) 49) x.D.length (nid+204) m (by omega) hok (by rw [← hy]; simp only; omega) (by simp) hf4 hlen hl3
 rw [hH] at hdr
 have hgb:=scanO_bits (T:=4) hok (by rw [← hy]; simp only; omega) (.inl rfl) hl4
 have hgl:(scanO y 4 (List.replicate (32 * x.D.length+32) 49)).length=32 * x.D.length+32:=by unfold scanO; simp
 have hlaw:=ident_law he (by omega) f
 rw [hy] at hlaw
 generalize scanO y 4 (List.replicate (32 * x.D.length+32) 49)=got at *
 generalize chH (nid+204) (scanV y 4 (List.replicate (32 * x.D.length+32) 49))=Hs4 at *
 refine SR.seqTo ⟨[(7,.str got),(6,.int .i64 0),(4,.lit x.n0 x.D.length (devP x.n1 x.n2 x.D))],[],nid+500,nid⟩ ?_ ?_
 ·simp -dsimp only [aqA,↓seqK,↓blkK,↓loopK,step,stepBin,eqB,Nat.add_assoc nid,↓reduceIte,simprocAttr,LN_succ]
  have e:(32:Int) * ((x.D.length:Nat):Int)+32=((32 * x.D.length+32:Nat):Int):=by push_cast; rfl
  refine ⟨by unfold inI64; omega,by unfold inI64; omega,?_⟩
  rw [e]
  refine CallO.pure (repeat_cc [49] (32 * x.D.length+32) _ (by omega) (by simp; omega)) ?_
  have rep49:∀ k,Lib.repeatL [49] k=List.replicate k 49:=fun k=>by
   induction k with
   | zero=>rfl
   | succ k ih=>simp [Lib.repeatL,ih,List.replicate_succ]
  rw [rep49]
  simp -dsimp only [aqA,↓seqK,↓blkK,↓loopK,step,stepBin,eqB,Nat.add_assoc nid,↓reduceIte,simprocAttr,LN_succ]
  refine CallO.on (hdr _ (by omega)) (subH_frame (X:=[]) hs (by simp [kOK])) ?_
  simp -dsimp only [aqA,↓seqK,↓blkK,↓loopK,step,stepBin,eqB,Nat.add_assoc nid,↓reduceIte,simprocAttr,LN_succ]
  refine Cov.go [] [] ?_
  simp [cvT,step,res,ColsEq.refl]
 refine SR.seqTo ⟨[(7,.str got),(4,.lit x.n0 x.D.length (devP x.n1 x.n2 x.D))],[],nid+550,nid⟩ ?_ ?_
 ·simp -dsimp only [aqA,↓seqK,↓blkK,↓loopK,step,stepBin,eqB,Nat.add_assoc nid,↓reduceIte,simprocAttr,LN_succ]
  refine Cov.go [] [] ?_
  simp [cvT,step,res,ColsEq.refl]
 have hic:=fun m=>identify_c got m (by omega) (bits_of' hgb (by omega))
 have hil:=identF_len got (got.length+1) [] 0 (by simp) (by omega)
 rw [show identF got (got.length+1) [] 0=identV got from rfl] at hil
 obtain ⟨I,hI⟩:∃ I,identV got=I:=⟨_,rfl⟩
 rw [hI] at hic hlaw hil
 refine SR.seqTo ⟨[(8,.sl (nid+600) 0 I.1.length),(9,.int .i64 (I.2.1:Nat)),(6,.int .i64 I.2.2),(4,.lit x.n0 x.D.length (devP x.n1 x.n2 x.D))],[(nid+600,some (.arr 3 I.1.length [.i .i64 fun i=>(I.1.getD i 0:Nat)]))],nid+700,nid⟩ ?_ ?_
 ·simp -dsimp only [aqA,↓seqK,↓blkK,↓loopK,step,stepBin,eqB,Nat.add_assoc nid,↓reduceIte,simprocAttr,LN_succ]
  refine CallO.pure (hic _) ?_
  simp -dsimp only [aqA,↓seqK,↓blkK,↓loopK,step,stepBin,eqB,Nat.add_assoc nid,↓reduceIte,simprocAttr,LN_succ]
  refine Cov.go [(nid+600,nid+554)] [] ?_
  simp [cvT,step,res,ColsEq.refl]
 have hcn:∀ m,ACall Tryz.prog 42 [.lit x.n0 x.D.length (devP x.n1 x.n2 x.D),.fn 43 []] [] m (.bool ((List.range x.D.length).any fun k=>decide ((x.D.getD k dev0).id=4294967295))) []:=fun m =>
  containsDv_h _ [] [] (fun k=>decide ((x.D.getD k dev0).id=4294967295)) _ _ _ _ _ _ _ _ _ _ _ m (scoped_list fun x hx=>by cases hx) rfl (by omega) (fun k hk m' hm=>idMost_c (x.n1 k) (x.n2 k) (x.D.getD k dev0) m')
 refine SR.seqEx (ι:={_x:Unit // ∀ d∈x.D,¬ d.id=4294967295}) (fun _=>⟨[(8,.sl (nid+600) 0 I.1.length),(9,.int .i64 (I.2.1:Nat)),(6,.int .i64 I.2.2),(4,.lit x.n0 x.D.length (devP x.n1 x.n2 x.D))],[(nid+600,some (.arr 3 I.1.length [.i .i64 fun i=>(I.1.getD i 0:Nat)]))],nid+900,nid⟩) ?_ (fun ⟨_,hno⟩=>?_)
 ·simp -dsimp only [aqA,↓seqK,↓blkK,↓loopK,step,stepBin,eqB,Nat.add_assoc nid,↓reduceIte,simprocAttr,LN_succ]
  refine CallO.pure (hcn _) ?_
  cases hc:(List.range x.D.length).any fun k=>decide ((x.D.getD k dev0).id=4294967295)
  ·simp -dsimp only [aqA,↓seqK,↓blkK,↓loopK,step,stepBin,eqB,Nat.add_assoc nid,↓reduceIte,simprocAttr,LN_succ]
   refine ⟨⟨(),fun d hd h=>?_⟩,Cov.go [] [] ?_⟩
   ·obtain ⟨i,hi,rfl⟩:=List.getElem_of_mem hd
    have:=List.any_eq_false.1 hc i (List.mem_range.2 hi)
    rw [List.getD_eq_getElem?_getD,List.getElem?_eq_getElem hi] at this
    simp at this
    exact this h
   simp [cvT,step,res,ColsEq.refl]
  ·simp -dsimp only [aqA,↓seqK,↓blkK,↓loopK,step,stepBin,eqB,Nat.add_assoc nid,↓reduceIte,simprocAttr,LN_succ]
   refine CallO.pure (ready_c _) ?_
   simp -dsimp only [aqA,↓seqK,↓blkK,↓loopK,step,stepBin,eqB,Nat.add_assoc nid,↓reduceIte,simprocAttr,LN_succ]
   refine RetOK.go [] [] (.inl rfl) ?_
   simp [a7,cvT,step,res]
 have hI2:=hlaw hno
 subst hI2
 have hvl:(idsV x.D).length=x.D.length:=by simp [idsV]
 simp only [List.length_reverse,hvl] at hil ⊢
 have hvk:∀ k,k<x.D.length→((((idsV x.D).reverse.getD (x.D.length - 1 - k) 0:Nat):Int) != (x.D.getD k dev0).id)=false:=fun k hk=>by
  have hm:x.D.getD k dev0∈x.D:=by rw [List.getD_eq_getElem?_getD,List.getElem?_eq_getElem hk]; exact List.getElem_mem _
  have hb:=(hR _ hm).idb
  have e:(idsV x.D).reverse.getD (x.D.length - 1 - k) 0=(x.D.getD k dev0).id.toNat:=by
   rw [List.getD_eq_getElem?_getD,List.getElem?_reverse (by omega),hvl,show x.D.length - 1 - (x.D.length - 1 - k)=k by omega]
   unfold idsV
   rw [List.getElem?_map,List.getD_eq_getElem?_getD,List.getElem?_eq_getElem hk]
   rfl
  rw [e,Int.toNat_of_nonneg hb.1]
  simp
 have hlk:∀ k,k<x.D.length→longTo (idsV x.D) (k+1)=longTo (idsV x.D) k+(if (x.D.getD k dev0).id=0 then 1 else 32):=fun k hk=>by
  rw [longTo_succ (by omega)]
  have hm:x.D.getD k dev0∈x.D:=by rw [List.getD_eq_getElem?_getD,List.getElem?_eq_getElem hk]; exact List.getElem_mem _
  have hb:=(hR _ hm).idb
  have e:(idsV x.D).getD k 0=(x.D.getD k dev0).id.toNat:=by
   unfold idsV
   rw [List.getD_eq_getElem?_getD,List.getElem?_map,List.getD_eq_getElem?_getD,List.getElem?_eq_getElem hk]
   rfl
  rw [e]
  congr 1
  by_cases h0:(x.D.getD k dev0).id=0
  ·rw [if_pos h0,if_pos (by omega)]
  ·rw [if_neg h0,if_neg (by omega)]
 have hll:∀ k,longTo (idsV x.D) k≤32 * (idsV x.D).length:=fun k=>by
  unfold longTo
  have:=pieces_le ((idsV x.D).take k)
  have h2:((idsV x.D).take k).length≤(idsV x.D).length:=by simp; omega
  omega
 clear hlaw hic hcn hil hdr
 have hF0:longTo (idsV x.D) 0=0:=rfl
 generalize (idsV x.D).reverse=V at *
 generalize longTo (idsV x.D)=F at *
 refine SR.seqTo ⟨[(8,.sl (nid+600) 0 x.D.length),(9,.int .i64 (F x.D.length:Nat)),(4,.lit x.n0 x.D.length (devP x.n1 x.n2 x.D))],[(nid+600,some (.arr 3 x.D.length [.i .i64 fun i=>(V.getD i 0:Nat)]))],nid+950,nid⟩ ?_ ?_
 ·have b0:(((x.D.length:Nat):Int) != (x.D.length:Nat))=false:=by simp
  simp -dsimp only [aqA,↓seqK,↓blkK,↓loopK,step,stepBin,eqB,Nat.add_assoc nid,↓reduceIte,simprocAttr,LN_succ,b0]
  refine Cov.go [] [] ?_
  simp [cvT,step,res,ColsEq.refl]
 refine SR.seq ?_
 simp -dsimp only [aqA,↓seqK,↓blkK,↓loopK,step,stepBin,eqB,Nat.add_assoc nid,↓reduceIte,simprocAttr,LN_succ]
 refine SR.seqW (ι:=Unit) (fun _=>⟨[(10,.int .i64 (F x.D.length:Nat)),(9,.int .i64 (F x.D.length:Nat))],[],nid+9000,nid⟩) ?_ (fun _=>?_)
 ·refine SR.seq ?_
  simp -dsimp only [aqA,↓seqK,↓blkK,↓loopK,step,stepBin,eqB,Nat.add_assoc nid,↓reduceIte,simprocAttr,LN_succ]
  refine SR.block ?_
  refine SR.loopP (fun k:Nat=>k≤x.D.length) (fun k=>⟨[(61,.int .i64 k),(60,.int .i64 x.D.length),(59,.lit x.n0 x.D.length (devP x.n1 x.n2 x.D)),(10,.int .i64 (F k:Nat)),(9,.int .i64 (F x.D.length:Nat)),(8,.sl (nid+600) 0 x.D.length),(4,.lit x.n0 x.D.length (devP x.n1 x.n2 x.D))],[(nid+600,some (.arr 3 x.D.length [.i .i64 fun i=>(V.getD i 0:Nat)]))],nid+1000,nid⟩) (fun k=>x.D.length+1 - k) 0 (by omega) ?_ (fun k hk=>?_)
  ·refine Cov.go [] [] ?_
   simp [cvT,step,res,ColsEq.refl,hF0]
  refine SR.seq ?_
  simp -dsimp only [aqA,↓seqK,↓blkK,↓loopK,step,stepBin,eqB,Nat.add_assoc nid,↓reduceIte,simprocAttr,LN_succ]
  refine SR.seq ?_
  simp -dsimp only [aqA,↓seqK,↓blkK,↓loopK,step,stepBin,eqB,Nat.add_assoc nid,↓reduceIte,simprocAttr,LN_succ]
  refine S2.dec (fun h3=>?_) (fun h3=>?_) <;> simp -dsimp only [aqA,↓seqK,↓blkK,↓loopK,step,stepBin,eqB,Nat.add_assoc nid,↓reduceIte,simprocAttr,LN_succ]
  ·have hkl:k<x.D.length:=by omega
   refine SR.seqW (ι:=Unit) (fun _=>⟨[(61,.int .i64 k),(60,.int .i64 x.D.length),(59,.lit x.n0 x.D.length (devP x.n1 x.n2 x.D)),(10,.int .i64 (F (k+1):Nat)),(9,.int .i64 (F x.D.length:Nat)),(8,.sl (nid+600) 0 x.D.length),(4,.lit x.n0 x.D.length (devP x.n1 x.n2 x.D))],[(nid+600,some (.arr 3 x.D.length [.i .i64 fun i=>(V.getD i 0:Nat)]))],nid+4000,nid⟩) ?_ (fun _=>?_)
   ·refine SR.block ?_
    refine SR.seqTo ⟨[(11,.int .i64 k),(12,.ptr (nid+1100) 0),(61,.int .i64 k),(60,.int .i64 x.D.length),(59,.lit x.n0 x.D.length (devP x.n1 x.n2 x.D)),(10,.int .i64 (F k:Nat)),(9,.int .i64 (F x.D.length:Nat)),(8,.sl (nid+600) 0 x.D.length),(4,.lit x.n0 x.D.length (devP x.n1 x.n2 x.D))],[(nid+1100,boxL (x.n1 k) (x.n2 k) (x.D.getD k dev0)),(nid+600,some (.arr 3 x.D.length [.i .i64 fun i=>(V.getD i 0:Nat)]))],nid+1200,nid⟩ ?_ ?_
    ·unfold devP
     simp -dsimp only [aqA,↓seqK,↓blkK,↓loopK,step,stepBin,eqB,Nat.add_assoc nid,↓reduceIte,simprocAttr,LN_succ]
     refine ⟨⟨by omega,by omega⟩,?_⟩
     refine Cov.go [(nid+1100,nid+1016)] [] ?_
     simp [cvT,step,res,boxL,litRg,litIn,ColsEq.refl,-List.getD_eq_getElem?_getD]
    refine SR.seqTo ⟨[(12,.ptr (nid+1100) 0),(61,.int .i64 k),(60,.int .i64 x.D.length),(59,.lit x.n0 x.D.length (devP x.n1 x.n2 x.D)),(10,.int .i64 (F k:Nat)),(9,.int .i64 (F x.D.length:Nat)),(8,.sl (nid+600) 0 x.D.length),(4,.lit x.n0 x.D.length (devP x.n1 x.n2 x.D))],[(nid+1100,boxL (x.n1 k) (x.n2 k) (x.D.getD k dev0)),(nid+600,some (.arr 3 x.D.length [.i .i64 fun i=>(V.getD i 0:Nat)]))],nid+1300,nid⟩ ?_ ?_
    ·unfold boxL litRg litIn
     simp -dsimp only [aqA,↓seqK,↓blkK,↓loopK,step,stepBin,eqB,Nat.add_assoc nid,↓reduceIte,simprocAttr,LN_succ]
     have e4:((x.D.length:Int) - 1 - (k:Int)).toNat=x.D.length - 1 - k:=by omega
     refine ⟨by unfold inI64; omega,by unfold inI64; omega,⟨by omega,by omega⟩,?_⟩
     rw [e4,hvk k hkl]
     simp -dsimp only [aqA,↓seqK,↓blkK,↓loopK,step,stepBin,eqB,Nat.add_assoc nid,↓reduceIte,simprocAttr,LN_succ]
     refine Cov.go [] [] ?_
     simp [cvT,step,res,boxL,litRg,litIn,ColsEq.refl,-List.getD_eq_getElem?_getD]
    have hlk1:=hlk k hkl
    have hlb:=hll k
    refine SR.run (t:=.mk) ?_
    unfold boxL litRg litIn
    by_cases h0:(x.D.getD k dev0).id=0
    ·have b1:((x.D.getD k dev0).id != 0)=false:=by rw [h0]; rfl
     rw [if_pos h0] at hlk1
     simp -dsimp only [aqA,↓seqK,↓blkK,↓loopK,step,stepBin,eqB,Nat.add_assoc nid,↓reduceIte,simprocAttr,LN_succ,b1]
     refine ⟨by unfold inI64; omega,(),?_⟩
     rw [hlk1]
     refine Cov.go [] [] ?_
     simp [cvT,step,res,ColsEq.refl,-List.getD_eq_getElem?_getD]
    ·have b1:((x.D.getD k dev0).id != 0)=true:=by rw [bne_iff_ne]; exact h0
     rw [if_neg h0] at hlk1
     simp -dsimp only [aqA,↓seqK,↓blkK,↓loopK,step,stepBin,eqB,Nat.add_assoc nid,↓reduceIte,simprocAttr,LN_succ,b1]
     refine ⟨by unfold inI64; omega,by unfold inI64; omega,(),?_⟩
     rw [hlk1]
     refine Cov.go [] [] ?_
     simp [cvT,step,res,ColsEq.refl,-List.getD_eq_getElem?_getD]
     omega
   ·refine SR.run (t:=.mk) ?_
    simp -dsimp only [aqA,↓seqK,↓blkK,↓loopK,step,stepBin,eqB,Nat.add_assoc nid,↓reduceIte,simprocAttr,LN_succ]
    refine ⟨by unfold inI64; omega,k+1,⟨by omega,by omega⟩,?_⟩
    refine Cov.go [] [] ?_
    simp [cvT,step,res,ColsEq.refl]
  ·have hkn:k=x.D.length:=by omega
   subst hkn
   refine ⟨(),Cov.go [] [] ?_⟩
   simp [cvT,step,res]
 refine SR.run (t:=.mk) ?_
 simp -dsimp only [aqA,↓seqK,↓blkK,↓loopK,step,stepBin,eqB,Nat.add_assoc nid,↓reduceIte,simprocAttr,LN_succ]
 refine CallO.pure (ready_c _) ?_
 simp -dsimp only [aqA,↓seqK,↓blkK,↓loopK,step,stepBin,eqB,Nat.add_assoc nid,↓reduceIte,simprocAttr,LN_succ]
 refine RetOK.go [] [] (.inl rfl) ?_
 simp [a7,cvT,step,res]
end Go.Proofs.YtahjohieahehjaaGreatDoor
namespace Go.Proofs.YtahjohieahehjaaGreatDoor
open Go.RowKit
theorem handed_shaped {H:Type} {enc:TypeId × Value→H} {a:Assume} {C:Checked} {os:Os} {f:FuncId} {fn:Func} {s:ChangeSpec} {conds:List PathCond} {apart fresh handsOn again:Bool} {X:World→Array Value→Prop}
  (hX:∀ (w w':World) (args:Array Value),w.heap=w'.heap→X w args→X w' args)
  (own:ownKnob C.prog.godebug=none) (started:os.Started) (noInit:C.prog.inits.idxOf? f=none) (hfn:C.prog.funcs[f]?=some fn)
  (witness:∃ (w:World) (tape:Tape) (i:Input),w.os=os∧(w.forCall tape i).Shaped C.prog∧i.vars=[]∧Input.okWide C.prog (w.forCall tape i) .any w.heap.size f i ∧
   ((s.pre enc C.prog fn conds apart (w.forCall tape i).memory i.args∧X (w.forCall tape i).memory i.args)∧sizedMet enc C.prog fn (OpenSpec.ofChange s) apart (w.forCall tape i).memory i.args)∧a.holds C.prog (lone (Frame.enter C.prog f i.args .normal) [] (w.forCall tape i)))
  (contract:∀ (W:World) (base:Nat) (args:Array Value) (ds gs:List (DataW H)) (before:List MemPlace),
   (∀ (j:Nat) t v,fn.params[j]?=some t→args[j]?=some v→Value.okWide C.prog W .any base t v) →
   DataW.Whole enc C.prog fn.params.toList s.vars apart W args.toList ds gs before →
   conds.all (PathCond.test C.prog ⟨fn.params.toList,ds,s.plain.varTypes C.prog,gs⟩)=true →
   (DataW.weightsEach C.prog (fn.params.toList++s.plain.varTypes C.prog) (ds++gs)).all (·≤reachBytes)=true→X W args→W.ShapedOpen C.prog →
   Calls C.prog f args W fun e W'=>∃ v,e=.returned v∧s.post enc C.prog fn apart fresh handsOn again W args v W') :
  ReturnsInHanded a C os f .any (fun w args=>(s.pre enc C.prog fn conds apart w args∧X w args)∧sizedMet enc C.prog fn (OpenSpec.ofChange s) apart w args) (s.post enc C.prog fn apart fresh handsOn again):=by
 refine returnsInHanded_of_calls own started noInit witness ?_
 intro w tape i _ hsh _ hok hpre _
 obtain ⟨_,_,_,fn',hfn',_,_,_,_,hval⟩:=hok
 have e:fn'=fn:=Option.some.inj (hfn'.symm.trans hfn)
 subst e
 obtain ⟨⟨⟨ds,gs,before,hw,hc⟩,hx⟩,hz⟩:=hpre
 have hw':=DataW.Whole.of_heap (w':=w.forCall tape i) (by rfl) hw
 refine (contract (w.forCall tape i) w.heap.size i.args ds gs before hval hw' hc (hz.weights hw) (hX _ _ _ (by rfl) hx) hsh).mono fun e W' ⟨v,he,hp⟩=>?_
 subst he
 exact ChangeSpec.post_blind hp
theorem gok_cell {W:World} {g:Nat} {m:Int} (h:W.cell? ⟨g,0,none⟩=some (.int .i64 m)):g<W.heap.size∧∃ o,W.heap[g]?=some o∧cell0 o=some (.int .i64 m):=by
 unfold World.cell? at h
 simp only at h
 split at h
 ·rename_i c t f hc
  refine ⟨?_,_,hc,?_⟩
  ·rcases Nat.lt_or_ge g W.heap.size with hl | hl
   ·exact hl
   ·rw [Array.getElem?_eq_none hl] at hc; cases hc
  ·simpa [cell0] using h
 ·cases h
set_option maxRecDepth 1000000 in
theorem gok0_of {W:World} (h:W.ShapedOpen Tryz.prog):GOK0 (fun b=>W.heap[b]?) W.heap.size:=by
 obtain ⟨m,hm⟩:=cell_of_shapedOpen_int (g:=0) (t:=3) (zero:=#[.int .i64 0]) (k:=.i64) h (of_decide_eq_true (by kernel_rfl)) (by kernel_rfl) rfl (by kernel_rfl) (by kernel_rfl) Tryz.underlying3
 obtain ⟨h1,o,h2,h3⟩:=gok_cell hm
 exact ⟨o,m,h1,h2,h3⟩
theorem blk_of {W:World} {g j:Nat} {v:Value} (h:W.cell? ⟨g,j,none⟩=some v):g<W.heap.size:=World.block_lt_of_cell? W _ h
theorem gok_of {W:World} (h:W.ShapedOpen Tryz.prog) (ht:TabW W):GOK (fun b=>W.heap[b]?) W.heap.size :=
 ⟨gok0_of h,⟨blk_of ht.1,blk_of (ht.2.1 0 (by decide)),blk_of (ht.2.2 0 (by decide)).1⟩,W,fun _ _=>rfl,ht⟩
end Go.Proofs.YtahjohieahehjaaGreatDoor
