/-
 InstructionsArrive,the walk,by the abstract machine.
-/
import Derived.Test.YtahjohieahehjaaGreatDoorKIA7
import Derived.Test.YtahjohieahehjaaGreatDoorKIA3
import Derived.Test.YtahjohieahehjaaGreatDoorProg
import Derived.Test.YtahjohieahehjaaGreatDoorChecked
import Derived.Handed
import Derived.HandedShaped
import Derived.Shelf.Vars
import Derived.KernelRfl
set_option linter.unusedVariables false
set_option linter.unusedSimpArgs false
set_option maxRecDepth 100000
namespace Go.Proofs.YtahjohieahehjaaGreatDoor
open Go.RowKit
set_option maxHeartbeats 16000000 in
theorem arrive_c (nl:Bool) (A:List Int) (nid:Nat) (hA:A.length≤17592186044416):ACall Tryz.prog 5 [litI nl A] [] nid (.bool true) []:=by
 refine acall_sr c5 (by simp [a5]) ?_
 unfold a5 litI
 refine SR.seq ?_
 simp -dsimp only [aqA,↓seqK,↓blkK,↓loopK,step,stepBin,eqB,Nat.add_assoc nid,↓reduceIte,simprocAttr,LN_succ]
 refine SR.seqTo ⟨[(3,.ptr (nid+12) 0)],[(nid+12,strmC nl A 0)],nid+50,nid⟩ ?_ ?_
 ·simp -dsimp only [aqA,↓seqK,↓blkK,↓loopK,step,stepBin,eqB,Nat.add_assoc nid,↓reduceIte,simprocAttr,LN_succ]
  refine Cov.go [] [] ?_
  simp [cvT,step,res,strmC,-List.getD_eq_getElem?_getD]
  trace_state
 refine SR.seqEx (ι:={x:DvX // (DevB 3 x.D∧devsE x.D=0)∧x.q≤0+360}) (fun x=>⟨[(4,.lit x.1.n0 x.1.D.length (devP x.1.n1 x.1.n2 x.1.D)),(3,.ptr (nid+12) 0)],[(nid+12,strmC nl A x.1.q)],nid+200,nid⟩) ?_ (fun ⟨x,⟨hB,he⟩,hq⟩=>?_)
 ·simp -dsimp only [aqA,↓seqK,↓blkK,↓loopK,step,stepBin,eqB,Nat.add_assoc nid,↓reduceIte,simprocAttr,LN_succ,strmC_low]
  refine CallO.any (rightDevices_I (nid+12) _ nl A 0 3 (by omega) (by omega) hA (by omega) (by omega)) (subH_get (by simp only [aqA,↓seqK,↓blkK,↓loopK,step,stepBin,eqB,Nat.add_assoc nid,↓reduceIte,simprocAttr,LN_succ])) (fun x hx=>?_)
  simp -dsimp only [aqA,↓seqK,↓blkK,↓loopK,step,stepBin,eqB,Nat.add_assoc nid,↓reduceIte,simprocAttr,LN_succ,strmC_low]
  refine ⟨⟨x,hx⟩,Cov.go [] [] ?_⟩
  simp [cvT,step,res,strmC,ColsEq.refl]
 simp only at hq ⊢
 have hlen:0<x.D.length:=by
  rcases Nat.eq_zero_or_pos x.D.length with h | h
  ·unfold devsE at he; rw [if_pos h] at he; cases he
  ·exact h
 have hl3:=hB.len
 have hR:=devR_of he
 have hS:∀ d∈x.D,DevS d∧∀ r∈d.regs,0≤r.2∧r.2≤1000:=fun d hd=>⟨(hB.ok d hd).s,fun r hr=>by have:=(hR d hd).rs r hr; omega⟩
 refine SR.seqMvCallW (k:=11) (Hs:=[]) (by omega) (fun id b h=>by cases h) (new_I x.n0 x.n1 x.n2 x.D (nid+204) hlen hl3 hS he) (fun f _=>?_)
 have hok:=portsK_ok he f
 have hch:chainH (nid+204) 0 (portsK x.D f x.D.length)=chH (nid+204) ⟨0,portsK x.D f x.D.length⟩:=rfl
 rw [hch]
 generalize hy:(⟨0,portsK x.D f x.D.length⟩:ChV)=y at *
 have hsc:∀ (z:ChV),ChOk x.D.length z→∀ m,nid+215≤m→Scoped m (chH (nid+204) z):=fun z hz m hm=>chainH_scoped (nid+204) m z.st z.P (by rw [hz.len]; exact hl3) hm
 have hoff:=chH_off (c:=nid+204) (s:=nid+12) (x:=y) (by omega)
 have hsy:=Scoped.cons (b:=nid+300) (i:=nid+12) (c:=strmC nl A x.q) (by omega) rfl (hsc y hok (nid+300) (by omega))
 have hsw:=subH_swap (A:=strmC nl A x.q) hoff
 generalize hH:chH (nid+204) y=Hs at *
 simp -dsimp only [aqA,↓seqK,↓blkK,↓loopK,step,stepBin,eqB,Nat.add_assoc nid,↓reduceIte,simprocAttr,LN_succ,strmC_low]
 refine SR.cov (t':=.mk) (st':=⟨[(5,.ptr (nid+204) 0),(6,.int .i64 0),(4,.lit x.n0 x.D.length (devP x.n1 x.n2 x.D)),(3,.ptr (nid+12) 0)],(nid+12,strmC nl A x.q)::Hs,nid+400,nid⟩) ?_ ?_
 ·refine Cov.wholeG (nid+300) (by omega) hsy hsw (by omega) ?_
  simp [cvT,step,res,ColsEq.refl]
 clear hsw hsy
 have hsH:=hsc y hok
 rw [hH] at hsH
 have hs:=hsH (nid+300) (by omega)
 refine SR.seqTo ⟨[(5,.ptr (nid+204) 0),(4,.lit x.n0 x.D.length (devP x.n1 x.n2 x.D)),(3,.ptr (nid+12) 0)],[(nid+12,strmC nl A x.q)]++Hs,nid+400,nid⟩ ?_ ?_
 ·simp -dsimp only [aqA,↓seqK,↓blkK,↓loopK,step,stepBin,eqB,Nat.add_assoc nid,↓reduceIte,simprocAttr,LN_succ,strmC_low]
  first | refine Cov.goG (nid+300) Hs [_] [_] [] [] (by omega) hs (by simp [kOK,hoff]) (by simp) ?_ | refine Cov.goG (nid+300) Hs [_,_] [_] [] [] (by omega) hs (by simp [kOK,hoff]) (by simp) ?_ | refine Cov.goG (nid+300) Hs [_,_,_] [_] [] [] (by omega) hs (by simp [kOK,hoff]) (by simp) ?_ | refine Cov.goG (nid+300) Hs [_,_,_,_] [_] [] [] (by omega) hs (by simp [kOK,hoff]) (by simp) ?_ | refine Cov.goG (nid+300) Hs [_,_,_,_,_] [_] [] [] (by omega) hs (by simp [kOK,hoff]) (by simp) ?_ | refine Cov.goG (nid+300) Hs [_,_,_,_,_,_] [_] [] [] (by omega) hs (by simp [kOK,hoff]) (by simp) ?_ | refine Cov.goG (nid+300) Hs [_,_,_,_,_,_,_] [_] [] [] (by omega) hs (by simp [kOK,hoff]) (by simp) ?_ | refine Cov.goG (nid+300) Hs [_,_,_,_,_,_,_,_] [_] [] [] (by omega) hs (by simp [kOK,hoff]) (by simp) ?_ | refine Cov.goG (nid+300) Hs [_,_,_,_,_,_,_,_,_] [_] [] [] (by omega) hs (by simp [kOK,hoff]) (by simp) ?_ | refine Cov.goG (nid+300) Hs [_,_,_,_,_,_,_,_,_,_] [_] [] [] (by omega) hs (by simp [kOK,hoff]) (by simp) ?_ | refine Cov.goG (nid+300) Hs [_,_,_,_,_,_,_,_,_,_,_] [_] [] [] (by omega) hs (by simp [kOK,hoff]) (by simp) ?_ | refine Cov.goG (nid+300) Hs [_,_,_,_,_,_,_,_,_,_,_,_] [_] [] [] (by omega) hs (by simp [kOK,hoff]) (by simp) ?_ | refine Cov.goG (nid+300) Hs [_,_,_,_,_,_,_,_,_,_,_,_,_] [_] [] [] (by omega) hs (by simp [kOK,hoff]) (by simp) ?_ | refine Cov.goG (nid+300) Hs [_,_,_,_,_,_,_,_,_,_,_,_,_,_] [_] [] [] (by omega) hs (by simp [kOK,hoff]) (by simp) ?_ | refine Cov.goG (nid+300) Hs [_,_,_,_,_,_,_,_,_,_,_,_,_,_,_] [_] [] [] (by omega) hs (by simp [kOK,hoff]) (by simp) ?_ | refine Cov.goG (nid+300) Hs [_,_,_,_,_,_,_,_,_,_,_,_,_,_,_,_] [_] [] [] (by omega) hs (by simp [kOK,hoff]) (by simp) ?_ | refine Cov.goG (nid+300) Hs [_,_,_,_,_,_,_,_,_,_,_,_,_,_,_,_,_] [_] [] [] (by omega) hs (by simp [kOK,hoff]) (by simp) ?_ | refine Cov.goG (nid+300) Hs [_,_,_,_,_,_,_,_,_,_,_,_,_,_,_,_,_,_] [_] [] [] (by omega) hs (by simp [kOK,hoff]) (by simp) ?_ | refine Cov.goG (nid+300) Hs [_,_,_,_,_,_,_,_,_,_,_,_,_,_,_,_,_,_,_] [_] [] [] (by omega) hs (by simp [kOK,hoff]) (by simp) ?_ | refine Cov.goG (nid+300) Hs [_,_,_,_,_,_,_,_,_,_,_,_,_,_,_,_,_,_,_,_] [_] [] [] (by omega) hs (by simp [kOK,hoff]) (by simp) ?_ | refine Cov.goG (nid+300) Hs [_,_,_,_,_,_,_,_,_,_,_,_,_,_,_,_,_,_,_,_,_] [_] [] [] (by omega) hs (by simp [kOK,hoff]) (by simp) ?_ | refine Cov.goG (nid+300) Hs [_,_,_,_,_,_,_,_,_,_,_,_,_,_,_,_,_,_,_,_,_,_] [_] [] [] (by omega) hs (by simp [kOK,hoff]) (by simp) ?_ | refine Cov.goG (nid+300) Hs [_,_,_,_,_,_,_,_,_,_,_,_,_,_,_,_,_,_,_,_,_,_,_] [_] [] [] (by omega) hs (by simp [kOK,hoff]) (by simp) ?_
  simp [cvT,step,res,strmC,ColsEq.refl]
 refine SR.seq ?_
 simp -dsimp only [aqA,↓seqK,↓blkK,↓loopK,step,stepBin,eqB,Nat.add_assoc nid,↓reduceIte,simprocAttr,LN_succ,strmC_low]
 refine SR.seq ?_
 simp -dsimp only [aqA,↓seqK,↓blkK,↓loopK,step,stepBin,eqB,Nat.add_assoc nid,↓reduceIte,simprocAttr,LN_succ,strmC_low]
 refine SR.seqW (ι:={C:List Bs // C.length=x.D.length∧∀ i,i<C.length→((C.getD i []).length:Int)=(x.D.getD i dev0).long∧(C.getD i []).all oneBit=true}) (fun C=>⟨[(7,.sl (nid+500) 0 x.D.length),(8,.str (flatC C.1)),(5,.ptr (nid+204) 0),(4,.lit x.n0 x.D.length (devP x.n1 x.n2 x.D))],[(nid+500,some (.arr 9 x.D.length [.s fun i=>C.1.getD i []]))]++Hs,nid+3000,nid⟩) ?_ (fun ⟨C,hCl,hC⟩=>?_)
 ·refine SR.seqTo ⟨[(35,.int .i64 0),(34,.int .i64 x.D.length),(33,.lit x.n0 x.D.length (devP x.n1 x.n2 x.D)),(7,.lit true 0 []),(8,.str []),(5,.ptr (nid+204) 0),(4,.lit x.n0 x.D.length (devP x.n1 x.n2 x.D)),(3,.ptr (nid+12) 0)],[(nid+12,strmC nl A x.q)]++Hs,nid+420,nid⟩ ?_ ?_
  ·simp -dsimp only [aqA,↓seqK,↓blkK,↓loopK,step,stepBin,eqB,Nat.add_assoc nid,↓reduceIte,simprocAttr,LN_succ,strmC_low]
   first | refine Cov.goG (nid+300) Hs [_] [_] [] [] (by omega) hs (by simp [kOK,hoff]) (by simp) ?_ | refine Cov.goG (nid+300) Hs [_,_] [_] [] [] (by omega) hs (by simp [kOK,hoff]) (by simp) ?_ | refine Cov.goG (nid+300) Hs [_,_,_] [_] [] [] (by omega) hs (by simp [kOK,hoff]) (by simp) ?_ | refine Cov.goG (nid+300) Hs [_,_,_,_] [_] [] [] (by omega) hs (by simp [kOK,hoff]) (by simp) ?_ | refine Cov.goG (nid+300) Hs [_,_,_,_,_] [_] [] [] (by omega) hs (by simp [kOK,hoff]) (by simp) ?_ | refine Cov.goG (nid+300) Hs [_,_,_,_,_,_] [_] [] [] (by omega) hs (by simp [kOK,hoff]) (by simp) ?_ | refine Cov.goG (nid+300) Hs [_,_,_,_,_,_,_] [_] [] [] (by omega) hs (by simp [kOK,hoff]) (by simp) ?_ | refine Cov.goG (nid+300) Hs [_,_,_,_,_,_,_,_] [_] [] [] (by omega) hs (by simp [kOK,hoff]) (by simp) ?_ | refine Cov.goG (nid+300) Hs [_,_,_,_,_,_,_,_,_] [_] [] [] (by omega) hs (by simp [kOK,hoff]) (by simp) ?_ | refine Cov.goG (nid+300) Hs [_,_,_,_,_,_,_,_,_,_] [_] [] [] (by omega) hs (by simp [kOK,hoff]) (by simp) ?_ | refine Cov.goG (nid+300) Hs [_,_,_,_,_,_,_,_,_,_,_] [_] [] [] (by omega) hs (by simp [kOK,hoff]) (by simp) ?_ | refine Cov.goG (nid+300) Hs [_,_,_,_,_,_,_,_,_,_,_,_] [_] [] [] (by omega) hs (by simp [kOK,hoff]) (by simp) ?_ | refine Cov.goG (nid+300) Hs [_,_,_,_,_,_,_,_,_,_,_,_,_] [_] [] [] (by omega) hs (by simp [kOK,hoff]) (by simp) ?_ | refine Cov.goG (nid+300) Hs [_,_,_,_,_,_,_,_,_,_,_,_,_,_] [_] [] [] (by omega) hs (by simp [kOK,hoff]) (by simp) ?_ | refine Cov.goG (nid+300) Hs [_,_,_,_,_,_,_,_,_,_,_,_,_,_,_] [_] [] [] (by omega) hs (by simp [kOK,hoff]) (by simp) ?_ | refine Cov.goG (nid+300) Hs [_,_,_,_,_,_,_,_,_,_,_,_,_,_,_,_] [_] [] [] (by omega) hs (by simp [kOK,hoff]) (by simp) ?_ | refine Cov.goG (nid+300) Hs [_,_,_,_,_,_,_,_,_,_,_,_,_,_,_,_,_] [_] [] [] (by omega) hs (by simp [kOK,hoff]) (by simp) ?_ | refine Cov.goG (nid+300) Hs [_,_,_,_,_,_,_,_,_,_,_,_,_,_,_,_,_,_] [_] [] [] (by omega) hs (by simp [kOK,hoff]) (by simp) ?_ | refine Cov.goG (nid+300) Hs [_,_,_,_,_,_,_,_,_,_,_,_,_,_,_,_,_,_,_] [_] [] [] (by omega) hs (by simp [kOK,hoff]) (by simp) ?_ | refine Cov.goG (nid+300) Hs [_,_,_,_,_,_,_,_,_,_,_,_,_,_,_,_,_,_,_,_] [_] [] [] (by omega) hs (by simp [kOK,hoff]) (by simp) ?_ | refine Cov.goG (nid+300) Hs [_,_,_,_,_,_,_,_,_,_,_,_,_,_,_,_,_,_,_,_,_] [_] [] [] (by omega) hs (by simp [kOK,hoff]) (by simp) ?_ | refine Cov.goG (nid+300) Hs [_,_,_,_,_,_,_,_,_,_,_,_,_,_,_,_,_,_,_,_,_,_] [_] [] [] (by omega) hs (by simp [kOK,hoff]) (by simp) ?_ | refine Cov.goG (nid+300) Hs [_,_,_,_,_,_,_,_,_,_,_,_,_,_,_,_,_,_,_,_,_,_,_] [_] [] [] (by omega) hs (by simp [kOK,hoff]) (by simp) ?_
   simp [cvT,step,res,strmC,ColsEq.refl]
  refine SR.block ?_
  refine SR.loopP (fun z:List Bs × Nat=>(z.1.length≤x.D.length∧z.2≤360+32 * z.1.length)∧∀ i,i<z.1.length→((z.1.getD i []).length:Int)=(x.D.getD i dev0).long∧(z.1.getD i []).all oneBit=true) (fun z=>⟨[(35,.int .i64 z.1.length),(34,.int .i64 x.D.length),(33,.lit x.n0 x.D.length (devP x.n1 x.n2 x.D)),(7,.sl (nid+500) 0 z.1.length),(8,.str (flatC z.1)),(5,.ptr (nid+204) 0),(4,.lit x.n0 x.D.length (devP x.n1 x.n2 x.D)),(3,.ptr (nid+12) 0)],[(nid+12,strmC nl A z.2),(nid+500,some (.arr 9 z.1.length [.s fun i=>z.1.getD i []]))]++Hs,nid+1000,nid⟩) (fun z=>x.D.length+1 - z.1.length) ([],x.q) ⟨⟨by simp,by simp; omega⟩,by simp⟩ ?_ (fun ⟨C,q⟩ hz=>?_)
  ·first | refine Cov.goG (nid+300) Hs [_] [_,_] [] [(nid+500,1)] (by omega) hs (by simp [kOK,hoff]) (by simp) ?_ | refine Cov.goG (nid+300) Hs [_,_] [_,_] [] [(nid+500,1)] (by omega) hs (by simp [kOK,hoff]) (by simp) ?_ | refine Cov.goG (nid+300) Hs [_,_,_] [_,_] [] [(nid+500,1)] (by omega) hs (by simp [kOK,hoff]) (by simp) ?_ | refine Cov.goG (nid+300) Hs [_,_,_,_] [_,_] [] [(nid+500,1)] (by omega) hs (by simp [kOK,hoff]) (by simp) ?_ | refine Cov.goG (nid+300) Hs [_,_,_,_,_] [_,_] [] [(nid+500,1)] (by omega) hs (by simp [kOK,hoff]) (by simp) ?_ | refine Cov.goG (nid+300) Hs [_,_,_,_,_,_] [_,_] [] [(nid+500,1)] (by omega) hs (by simp [kOK,hoff]) (by simp) ?_ | refine Cov.goG (nid+300) Hs [_,_,_,_,_,_,_] [_,_] [] [(nid+500,1)] (by omega) hs (by simp [kOK,hoff]) (by simp) ?_ | refine Cov.goG (nid+300) Hs [_,_,_,_,_,_,_,_] [_,_] [] [(nid+500,1)] (by omega) hs (by simp [kOK,hoff]) (by simp) ?_ | refine Cov.goG (nid+300) Hs [_,_,_,_,_,_,_,_,_] [_,_] [] [(nid+500,1)] (by omega) hs (by simp [kOK,hoff]) (by simp) ?_ | refine Cov.goG (nid+300) Hs [_,_,_,_,_,_,_,_,_,_] [_,_] [] [(nid+500,1)] (by omega) hs (by simp [kOK,hoff]) (by simp) ?_ | refine Cov.goG (nid+300) Hs [_,_,_,_,_,_,_,_,_,_,_] [_,_] [] [(nid+500,1)] (by omega) hs (by simp [kOK,hoff]) (by simp) ?_ | refine Cov.goG (nid+300) Hs [_,_,_,_,_,_,_,_,_,_,_,_] [_,_] [] [(nid+500,1)] (by omega) hs (by simp [kOK,hoff]) (by simp) ?_ | refine Cov.goG (nid+300) Hs [_,_,_,_,_,_,_,_,_,_,_,_,_] [_,_] [] [(nid+500,1)] (by omega) hs (by simp [kOK,hoff]) (by simp) ?_ | refine Cov.goG (nid+300) Hs [_,_,_,_,_,_,_,_,_,_,_,_,_,_] [_,_] [] [(nid+500,1)] (by omega) hs (by simp [kOK,hoff]) (by simp) ?_ | refine Cov.goG (nid+300) Hs [_,_,_,_,_,_,_,_,_,_,_,_,_,_,_] [_,_] [] [(nid+500,1)] (by omega) hs (by simp [kOK,hoff]) (by simp) ?_ | refine Cov.goG (nid+300) Hs [_,_,_,_,_,_,_,_,_,_,_,_,_,_,_,_] [_,_] [] [(nid+500,1)] (by omega) hs (by simp [kOK,hoff]) (by simp) ?_ | refine Cov.goG (nid+300) Hs [_,_,_,_,_,_,_,_,_,_,_,_,_,_,_,_,_] [_,_] [] [(nid+500,1)] (by omega) hs (by simp [kOK,hoff]) (by simp) ?_ | refine Cov.goG (nid+300) Hs [_,_,_,_,_,_,_,_,_,_,_,_,_,_,_,_,_,_] [_,_] [] [(nid+500,1)] (by omega) hs (by simp [kOK,hoff]) (by simp) ?_ | refine Cov.goG (nid+300) Hs [_,_,_,_,_,_,_,_,_,_,_,_,_,_,_,_,_,_,_] [_,_] [] [(nid+500,1)] (by omega) hs (by simp [kOK,hoff]) (by simp) ?_ | refine Cov.goG (nid+300) Hs [_,_,_,_,_,_,_,_,_,_,_,_,_,_,_,_,_,_,_,_] [_,_] [] [(nid+500,1)] (by omega) hs (by simp [kOK,hoff]) (by simp) ?_ | refine Cov.goG (nid+300) Hs [_,_,_,_,_,_,_,_,_,_,_,_,_,_,_,_,_,_,_,_,_] [_,_] [] [(nid+500,1)] (by omega) hs (by simp [kOK,hoff]) (by simp) ?_ | refine Cov.goG (nid+300) Hs [_,_,_,_,_,_,_,_,_,_,_,_,_,_,_,_,_,_,_,_,_,_] [_,_] [] [(nid+500,1)] (by omega) hs (by simp [kOK,hoff]) (by simp) ?_ | refine Cov.goG (nid+300) Hs [_,_,_,_,_,_,_,_,_,_,_,_,_,_,_,_,_,_,_,_,_,_,_] [_,_] [] [(nid+500,1)] (by omega) hs (by simp [kOK,hoff]) (by simp) ?_
   simp [cvT,step,res,strmC,flatC,ColsEq.refl]
  obtain ⟨⟨hz1,hz2⟩,hz3⟩:=hz
  simp only at hz1 hz2 hz3 ⊢
  refine SR.seq ?_
  simp -dsimp only [aqA,↓seqK,↓blkK,↓loopK,step,stepBin,eqB,Nat.add_assoc nid,↓reduceIte,simprocAttr,LN_succ,strmC_low]
  refine SR.seq ?_
  simp -dsimp only [aqA,↓seqK,↓blkK,↓loopK,step,stepBin,eqB,Nat.add_assoc nid,↓reduceIte,simprocAttr,LN_succ,strmC_low]
  refine S2.dec (fun h3=>?_) (fun h3=>?_) <;> simp -dsimp only [aqA,↓seqK,↓blkK,↓loopK,step,stepBin,eqB,Nat.add_assoc nid,↓reduceIte,simprocAttr,LN_succ,strmC_low]
  ·have hkl:C.length<x.D.length:=by omega
   have hm:x.D.getD C.length dev0∈x.D:=by rw [List.getD_eq_getElem?_getD,List.getElem?_eq_getElem hkl]; exact List.getElem_mem _
   have hlg:=(hR _ hm).lg
   obtain ⟨L,hL⟩:∃ L:Nat,(x.D.getD C.length dev0).long=L:=⟨_,(Int.toNat_of_nonneg (by omega)).symm⟩
   refine SR.run (t:=.mk) ?_
   unfold devP
   simp -dsimp only [aqA,↓seqK,↓blkK,↓loopK,step,stepBin,eqB,Nat.add_assoc nid,↓reduceIte,simprocAttr,LN_succ,strmC_low]
   refine ⟨⟨by omega,by omega⟩,?_⟩
   rw [hL]
   refine CallO.onE (bitsX (nid+12) _ nl A q L (by omega) (by omega) (by omega) hA) (subH_get (by simp only [aqA,↓seqK,↓blkK,↓loopK,step,stepBin,eqB,Nat.add_assoc nid,↓reduceIte,simprocAttr,LN_succ])) (fun b hb=>?_)
   obtain ⟨hb1,hb2⟩:=hb
   simp -dsimp only [aqA,↓seqK,↓blkK,↓loopK,step,stepBin,eqB,Nat.add_assoc nid,↓reduceIte,simprocAttr,LN_succ,strmC_low]
   have e1:(((C.length+1:Nat):Int) - 1).toNat=C.length:=by omega
   simp only [e1,Nat.lt_irrefl,if_false,Nat.sub_self,List.getD_cons_zero]
   have hfl:=flatC_len (C:=C) (fun i hi=>by
    have h1:=hz3 i hi
    have hm':x.D.getD i dev0∈x.D:=by rw [List.getD_eq_getElem?_getD,List.getElem?_eq_getElem (by omega)]; exact List.getElem_mem _
    have:=(hR _ hm').lg
    omega)
   have hnew:∀ i,i<(C++[b]).length→(((C++[b]).getD i []).length:Int)=(x.D.getD i dev0).long∧((C++[b]).getD i []).all oneBit=true:=fun i hi=>by
    rw [List.length_append,List.length_singleton] at hi
    rcases (by omega:i<C.length∨i=C.length) with h | h
    ·rw [List.getD_eq_getElem?_getD,List.getElem?_append_left h,← List.getD_eq_getElem?_getD]
     exact hz3 i h
    ·subst h
     have e:(C++[b]).getD C.length []=b:=by rw [List.getD_eq_getElem?_getD,List.getElem?_append_right (Nat.le_refl _),Nat.sub_self]; rfl
     rw [e,hL]
     exact ⟨by omega,hb2⟩
   have hll:(C++[b]).length=C.length+1:=by simp
   refine ⟨⟨by omega,by omega⟩,by unfold inI64; omega,⟨by omega,by omega⟩,by omega,by unfold inI64; omega,(C++[b],q+L),⟨⟨⟨by simp only [hll]; omega,by simp only [hll]; omega⟩,hnew⟩,by simp only [hll]; omega⟩,?_⟩
   simp only
   rw [hll,flatC_snoc]
   first | refine Cov.goG (nid+300) Hs [_] [_,_] [(nid+500,nid+1044)] [] (by omega) hs (by simp [kOK,hoff]) (by simp) ?_ | refine Cov.goG (nid+300) Hs [_,_] [_,_] [(nid+500,nid+1044)] [] (by omega) hs (by simp [kOK,hoff]) (by simp) ?_ | refine Cov.goG (nid+300) Hs [_,_,_] [_,_] [(nid+500,nid+1044)] [] (by omega) hs (by simp [kOK,hoff]) (by simp) ?_ | refine Cov.goG (nid+300) Hs [_,_,_,_] [_,_] [(nid+500,nid+1044)] [] (by omega) hs (by simp [kOK,hoff]) (by simp) ?_ | refine Cov.goG (nid+300) Hs [_,_,_,_,_] [_,_] [(nid+500,nid+1044)] [] (by omega) hs (by simp [kOK,hoff]) (by simp) ?_ | refine Cov.goG (nid+300) Hs [_,_,_,_,_,_] [_,_] [(nid+500,nid+1044)] [] (by omega) hs (by simp [kOK,hoff]) (by simp) ?_ | refine Cov.goG (nid+300) Hs [_,_,_,_,_,_,_] [_,_] [(nid+500,nid+1044)] [] (by omega) hs (by simp [kOK,hoff]) (by simp) ?_ | refine Cov.goG (nid+300) Hs [_,_,_,_,_,_,_,_] [_,_] [(nid+500,nid+1044)] [] (by omega) hs (by simp [kOK,hoff]) (by simp) ?_ | refine Cov.goG (nid+300) Hs [_,_,_,_,_,_,_,_,_] [_,_] [(nid+500,nid+1044)] [] (by omega) hs (by simp [kOK,hoff]) (by simp) ?_ | refine Cov.goG (nid+300) Hs [_,_,_,_,_,_,_,_,_,_] [_,_] [(nid+500,nid+1044)] [] (by omega) hs (by simp [kOK,hoff]) (by simp) ?_ | refine Cov.goG (nid+300) Hs [_,_,_,_,_,_,_,_,_,_,_] [_,_] [(nid+500,nid+1044)] [] (by omega) hs (by simp [kOK,hoff]) (by simp) ?_ | refine Cov.goG (nid+300) Hs [_,_,_,_,_,_,_,_,_,_,_,_] [_,_] [(nid+500,nid+1044)] [] (by omega) hs (by simp [kOK,hoff]) (by simp) ?_ | refine Cov.goG (nid+300) Hs [_,_,_,_,_,_,_,_,_,_,_,_,_] [_,_] [(nid+500,nid+1044)] [] (by omega) hs (by simp [kOK,hoff]) (by simp) ?_ | refine Cov.goG (nid+300) Hs [_,_,_,_,_,_,_,_,_,_,_,_,_,_] [_,_] [(nid+500,nid+1044)] [] (by omega) hs (by simp [kOK,hoff]) (by simp) ?_ | refine Cov.goG (nid+300) Hs [_,_,_,_,_,_,_,_,_,_,_,_,_,_,_] [_,_] [(nid+500,nid+1044)] [] (by omega) hs (by simp [kOK,hoff]) (by simp) ?_ | refine Cov.goG (nid+300) Hs [_,_,_,_,_,_,_,_,_,_,_,_,_,_,_,_] [_,_] [(nid+500,nid+1044)] [] (by omega) hs (by simp [kOK,hoff]) (by simp) ?_ | refine Cov.goG (nid+300) Hs [_,_,_,_,_,_,_,_,_,_,_,_,_,_,_,_,_] [_,_] [(nid+500,nid+1044)] [] (by omega) hs (by simp [kOK,hoff]) (by simp) ?_ | refine Cov.goG (nid+300) Hs [_,_,_,_,_,_,_,_,_,_,_,_,_,_,_,_,_,_] [_,_] [(nid+500,nid+1044)] [] (by omega) hs (by simp [kOK,hoff]) (by simp) ?_ | refine Cov.goG (nid+300) Hs [_,_,_,_,_,_,_,_,_,_,_,_,_,_,_,_,_,_,_] [_,_] [(nid+500,nid+1044)] [] (by omega) hs (by simp [kOK,hoff]) (by simp) ?_ | refine Cov.goG (nid+300) Hs [_,_,_,_,_,_,_,_,_,_,_,_,_,_,_,_,_,_,_,_] [_,_] [(nid+500,nid+1044)] [] (by omega) hs (by simp [kOK,hoff]) (by simp) ?_ | refine Cov.goG (nid+300) Hs [_,_,_,_,_,_,_,_,_,_,_,_,_,_,_,_,_,_,_,_,_] [_,_] [(nid+500,nid+1044)] [] (by omega) hs (by simp [kOK,hoff]) (by simp) ?_ | refine Cov.goG (nid+300) Hs [_,_,_,_,_,_,_,_,_,_,_,_,_,_,_,_,_,_,_,_,_,_] [_,_] [(nid+500,nid+1044)] [] (by omega) hs (by simp [kOK,hoff]) (by simp) ?_ | refine Cov.goG (nid+300) Hs [_,_,_,_,_,_,_,_,_,_,_,_,_,_,_,_,_,_,_,_,_,_,_] [_,_] [(nid+500,nid+1044)] [] (by omega) hs (by simp [kOK,hoff]) (by simp) ?_
   simp [cvT,step,res,strmC,devP,ColsEq.refl,-List.getD_eq_getElem?_getD]
   refine ColEq.s fun j hj=>?_
   by_cases hjc:j<C.length
   ·rw [if_pos hjc,List.getD_eq_getElem?_getD,List.getD_eq_getElem?_getD,List.getElem?_append_left hjc]
   ·have e:j=C.length:=by omega
    rw [if_neg hjc,e,List.getD_eq_getElem?_getD,List.getD_eq_getElem?_getD,List.getElem?_append_right (Nat.le_refl _),Nat.sub_self]
  ·have hCe:C.length=x.D.length:=by omega
   refine ⟨⟨C,hCe,hz3⟩,?_⟩
   simp only
   rw [← hCe]
   first | refine Cov.goG (nid+300) Hs [_] [_] [] [] (by omega) hs (by simp [kOK,hoff]) (by simp) ?_ | refine Cov.goG (nid+300) Hs [_,_] [_] [] [] (by omega) hs (by simp [kOK,hoff]) (by simp) ?_ | refine Cov.goG (nid+300) Hs [_,_,_] [_] [] [] (by omega) hs (by simp [kOK,hoff]) (by simp) ?_ | refine Cov.goG (nid+300) Hs [_,_,_,_] [_] [] [] (by omega) hs (by simp [kOK,hoff]) (by simp) ?_ | refine Cov.goG (nid+300) Hs [_,_,_,_,_] [_] [] [] (by omega) hs (by simp [kOK,hoff]) (by simp) ?_ | refine Cov.goG (nid+300) Hs [_,_,_,_,_,_] [_] [] [] (by omega) hs (by simp [kOK,hoff]) (by simp) ?_ | refine Cov.goG (nid+300) Hs [_,_,_,_,_,_,_] [_] [] [] (by omega) hs (by simp [kOK,hoff]) (by simp) ?_ | refine Cov.goG (nid+300) Hs [_,_,_,_,_,_,_,_] [_] [] [] (by omega) hs (by simp [kOK,hoff]) (by simp) ?_ | refine Cov.goG (nid+300) Hs [_,_,_,_,_,_,_,_,_] [_] [] [] (by omega) hs (by simp [kOK,hoff]) (by simp) ?_ | refine Cov.goG (nid+300) Hs [_,_,_,_,_,_,_,_,_,_] [_] [] [] (by omega) hs (by simp [kOK,hoff]) (by simp) ?_ | refine Cov.goG (nid+300) Hs [_,_,_,_,_,_,_,_,_,_,_] [_] [] [] (by omega) hs (by simp [kOK,hoff]) (by simp) ?_ | refine Cov.goG (nid+300) Hs [_,_,_,_,_,_,_,_,_,_,_,_] [_] [] [] (by omega) hs (by simp [kOK,hoff]) (by simp) ?_ | refine Cov.goG (nid+300) Hs [_,_,_,_,_,_,_,_,_,_,_,_,_] [_] [] [] (by omega) hs (by simp [kOK,hoff]) (by simp) ?_ | refine Cov.goG (nid+300) Hs [_,_,_,_,_,_,_,_,_,_,_,_,_,_] [_] [] [] (by omega) hs (by simp [kOK,hoff]) (by simp) ?_ | refine Cov.goG (nid+300) Hs [_,_,_,_,_,_,_,_,_,_,_,_,_,_,_] [_] [] [] (by omega) hs (by simp [kOK,hoff]) (by simp) ?_ | refine Cov.goG (nid+300) Hs [_,_,_,_,_,_,_,_,_,_,_,_,_,_,_,_] [_] [] [] (by omega) hs (by simp [kOK,hoff]) (by simp) ?_ | refine Cov.goG (nid+300) Hs [_,_,_,_,_,_,_,_,_,_,_,_,_,_,_,_,_] [_] [] [] (by omega) hs (by simp [kOK,hoff]) (by simp) ?_ | refine Cov.goG (nid+300) Hs [_,_,_,_,_,_,_,_,_,_,_,_,_,_,_,_,_,_] [_] [] [] (by omega) hs (by simp [kOK,hoff]) (by simp) ?_ | refine Cov.goG (nid+300) Hs [_,_,_,_,_,_,_,_,_,_,_,_,_,_,_,_,_,_,_] [_] [] [] (by omega) hs (by simp [kOK,hoff]) (by simp) ?_ | refine Cov.goG (nid+300) Hs [_,_,_,_,_,_,_,_,_,_,_,_,_,_,_,_,_,_,_,_] [_] [] [] (by omega) hs (by simp [kOK,hoff]) (by simp) ?_ | refine Cov.goG (nid+300) Hs [_,_,_,_,_,_,_,_,_,_,_,_,_,_,_,_,_,_,_,_,_] [_] [] [] (by omega) hs (by simp [kOK,hoff]) (by simp) ?_ | refine Cov.goG (nid+300) Hs [_,_,_,_,_,_,_,_,_,_,_,_,_,_,_,_,_,_,_,_,_,_] [_] [] [] (by omega) hs (by simp [kOK,hoff]) (by simp) ?_ | refine Cov.goG (nid+300) Hs [_,_,_,_,_,_,_,_,_,_,_,_,_,_,_,_,_,_,_,_,_,_,_] [_] [] [] (by omega) hs (by simp [kOK,hoff]) (by simp) ?_
   simp [cvT,step,res,strmC,ColsEq.refl]
 simp only
 have hbO:∀ c∈C,c.all oneBit=true:=fun c hc=>by
  obtain ⟨i,hi,rfl⟩:=List.getElem_of_mem hc
  have:=(hC i hi).2
  rwa [List.getD_eq_getElem?_getD,List.getElem?_eq_getElem hi] at this
 have hCb:∀ i,i<C.length→2≤(C.getD i []).length∧(C.getD i []).length≤32:=fun i hi=>by
  have h1:=(hC i hi).1
  have hm':x.D.getD i dev0∈x.D:=by rw [List.getD_eq_getElem?_getD,List.getElem?_eq_getElem (by omega)]; exact List.getElem_mem _
  have:=(hR _ hm').lg
  omega
 have hfl:bitsFaultV (flatC C)=0∧0<(flatC C).length:=by
  have h1:=flatC_len (C:=C) fun i hi=>(hCb i hi).2
  have h2:bitsOk (flatC C)=true:=flatC_bits hbO
  refine ⟨by unfold bitsFaultV; rw [if_neg (by omega),if_pos h2],?_⟩
  have h3:=hCb 0 (by omega)
  cases C with
  | nil=>simp at hCl; omega
  | cons c r =>
   have h4:2≤c.length:=h3.1
   simp only [flatC,List.length_append]
   omega
 have hshift:=fun m (hm:nid+215≤m)=>shiftIR_c y (flatC C) x.D.length (nid+204) m (by omega) hok (by rw [← hy]; simp only; omega) hfl.2 hfl.1 hlen hl3
 rw [hH] at hshift
 have hok1:ChOk x.D.length (scanV y 11 (flatC C)):=scanV_ok hok (by rw [← hy]; simp only; omega) (.inr rfl) (bits_ok hfl.1).1
 have hs1:=hsc _ hok1 (nid+300) (by omega)
 generalize hH1:chH (nid+204) (scanV y 11 (flatC C))=Hs1 at *
 refine SR.seqTo ⟨[(11,.str (scanO y 11 (flatC C))),(6,.int .i64 0),(7,.sl (nid+500) 0 x.D.length),(8,.str (flatC C)),(5,.ptr (nid+204) 0),(4,.lit x.n0 x.D.length (devP x.n1 x.n2 x.D))],(nid+500,some (.arr 9 x.D.length [.s fun i=>C.getD i []]))::Hs1,nid+3400,nid⟩ ?_ ?_
 ·simp -dsimp only [aqA,↓seqK,↓blkK,↓loopK,step,stepBin,eqB,Nat.add_assoc nid,↓reduceIte,simprocAttr,LN_succ]
  refine CallO.on (hshift _ (by omega)) (subH_frame (X:=[(nid+500,_)]) (hsH (nid+300) (by omega)) (by simp [kOK])) ?_
  simp -dsimp only [aqA,↓seqK,↓blkK,↓loopK,step,stepBin,eqB,Nat.add_assoc nid,↓reduceIte,simprocAttr,LN_succ]
  refine Cov.trans (Cov.heap (subH_mix1 _ hs1 (by omega))) (Cov.goG (nid+300) Hs1 [(nid+500,_)] [(nid+500,_)] [] [] (by omega) hs1 (by simp [kOK]) (by simp) ?_)
  simp [cvT,step,res,ColsEq.refl]
 have hlaw:∀ k,k<x.D.length→(∃ p,(scanV y 11 (flatC C)).P[k]?=some p∧p.d=x.D.getD k dev0∧p.instr=C.getD k []∧∀ j,j<k→∀ q,(scanV y 11 (flatC C)).P[j]?=some q→¬ q.d.name=p.d.name) ∧
   (flatC (C.drop k)).length=(flatC (C.drop (k+1))).length+(C.getD k []).length∧(flatC (C.drop (k+1))).length+(C.getD k []).length≤(scanO y 11 (flatC C)).length ∧
   (scanO y 11 (flatC C)).getD (flatC (C.drop (k+1))).length 0=49∧((scanO y 11 (flatC C)).drop ((flatC (C.drop (k+1))).length+1)).take ((C.getD k []).length - 1)=List.replicate ((C.getD k []).length - 1) 48:=by
  have h:=arrive_law he f hlen hCl (fun i hi=>(hC i hi).1)
  rw [hy] at h
  exact h
 have hgl:(scanO y 11 (flatC C)).length=(flatC C).length:=by unfold scanO; simp
 have hins:=fun m (hm:nid+215≤m) k p h1 h2=>instr_c (scanV y 11 (flatC C)).st (scanV y 11 (flatC C)).P k (nid+204) m p (by omega) (by rw [hok1.len]; exact hl3) h1 h2
 have hH1':chainH (nid+204) (scanV y 11 (flatC C)).st (scanV y 11 (flatC C)).P=Hs1:=hH1
 rw [hH1'] at hins
 generalize (scanV y 11 (flatC C)).P=P1 at *
 generalize scanO y 11 (flatC C)=got at *
 have hge:(((got.length:Nat):Int) != ((flatC C).length:Nat))=false:=by rw [hgl]; simp
 have hk500:nid+300≤nid+500:=by omega
 have hfc:=flatC_len (C:=C) fun i hi=>(hCb i hi).2
 refine SR.seqTo ⟨[(11,.str got),(7,.sl (nid+500) 0 x.D.length),(8,.str (flatC C)),(5,.ptr (nid+204) 0),(4,.lit x.n0 x.D.length (devP x.n1 x.n2 x.D))],[(nid+500,some (.arr 9 x.D.length [.s fun i=>C.getD i []]))]++Hs1,nid+3500,nid⟩ ?_ ?_
 ·simp -dsimp only [aqA,↓seqK,↓blkK,↓loopK,step,stepBin,eqB,Nat.add_assoc nid,↓reduceIte,simprocAttr,LN_succ,hge]
  refine Cov.goG (nid+300) Hs1 [(nid+500,_)] [(nid+500,_)] [] [] (by omega) hs1 (by simp [kOK]) (by simp) ?_
  simp [cvT,step,res,ColsEq.refl]
 refine SR.seq ?_
 simp -dsimp only [aqA,↓seqK,↓blkK,↓loopK,step,stepBin,eqB,Nat.add_assoc nid,↓reduceIte,simprocAttr,LN_succ]
 refine SR.seqW (ι:=Unit) (fun _=>⟨[],[],nid+9000,nid⟩) ?_ (fun _=>?_)
 ·refine SR.seqTo ⟨[(74,.int .i64 0),(73,.int .i64 x.D.length),(72,.lit x.n0 x.D.length (devP x.n1 x.n2 x.D)),(12,.int .i64 (flatC C).length),(11,.str got),(7,.sl (nid+500) 0 x.D.length),(5,.ptr (nid+204) 0)],[(nid+500,some (.arr 9 x.D.length [.s fun i=>C.getD i []]))]++Hs1,nid+3550,nid⟩ ?_ ?_
  ·simp -dsimp only [aqA,↓seqK,↓blkK,↓loopK,step,stepBin,eqB,Nat.add_assoc nid,↓reduceIte,simprocAttr,LN_succ]
   refine Cov.goG (nid+300) Hs1 [(nid+500,_)] [(nid+500,_)] [] [] (by omega) hs1 (by simp [kOK]) (by simp) ?_
   simp [cvT,step,res,ColsEq.refl]
  refine SR.block ?_
  refine SR.loopP (fun k:Nat=>k≤x.D.length) (fun k=>⟨[(74,.int .i64 k),(73,.int .i64 x.D.length),(72,.lit x.n0 x.D.length (devP x.n1 x.n2 x.D)),(12,.int .i64 (flatC (C.drop k)).length),(11,.str got),(7,.sl (nid+500) 0 x.D.length),(5,.ptr (nid+204) 0)],[(nid+500,some (.arr 9 x.D.length [.s fun i=>C.getD i []]))]++Hs1,nid+4000,nid⟩) (fun k=>x.D.length+1 - k) 0 (by omega) ?_ (fun k hk=>?_)
  ·refine Cov.goG (nid+300) Hs1 [(nid+500,_)] [(nid+500,_)] [] [] (by omega) hs1 (by simp [kOK]) (by simp) ?_
   simp [cvT,step,res,ColsEq.refl]
  refine SR.seq ?_
  simp -dsimp only [aqA,↓seqK,↓blkK,↓loopK,step,stepBin,eqB,Nat.add_assoc nid,↓reduceIte,simprocAttr,LN_succ]
  refine SR.seq ?_
  simp -dsimp only [aqA,↓seqK,↓blkK,↓loopK,step,stepBin,eqB,Nat.add_assoc nid,↓reduceIte,simprocAttr,LN_succ]
  refine S2.dec (fun h3=>?_) (fun h3=>?_) <;> simp -dsimp only [aqA,↓seqK,↓blkK,↓loopK,step,stepBin,eqB,Nat.add_assoc nid,↓reduceIte,simprocAttr,LN_succ]
  ·have hkl:k<x.D.length:=by omega
   obtain ⟨⟨p,hp1,hp2,hp3,hp4⟩,ha1,ha2,ha3,ha4⟩:=hlaw k hkl
   have hcl:=(hC k (by omega)).1
   have hcb:=hCb k (by omega)
   have hin:=fun m hm=>hins m hm k p hp1 hp4
   rw [hp2,hp3] at hin
   have hat:((flatC (C.drop k)).length:Int) - (x.D.getD k dev0).long=((flatC (C.drop (k+1))).length:Nat):=by omega
   have b1:(C.getD k [] != C.getD k [])=false:=by simp
   refine SR.seqW (ι:=Unit) (fun _=>⟨[(12,.int .i64 (flatC (C.drop (k+1))).length),(74,.int .i64 k),(73,.int .i64 x.D.length),(72,.lit x.n0 x.D.length (devP x.n1 x.n2 x.D)),(11,.str got),(7,.sl (nid+500) 0 x.D.length),(5,.ptr (nid+204) 0)],[(nid+500,some (.arr 9 x.D.length [.s fun i=>C.getD i []]))]++Hs1,nid+6000,nid⟩) ?_ (fun _=>?_)
   ·refine SR.block ?_
    refine SR.seqTo ⟨[(13,.int .i64 k),(14,.ptr (nid+4100) 0),(12,.int .i64 (flatC (C.drop k)).length),(74,.int .i64 k),(73,.int .i64 x.D.length),(72,.lit x.n0 x.D.length (devP x.n1 x.n2 x.D)),(11,.str got),(7,.sl (nid+500) 0 x.D.length),(5,.ptr (nid+204) 0)],[(nid+4100,boxL (x.n1 k) (x.n2 k) (x.D.getD k dev0)),(nid+500,some (.arr 9 x.D.length [.s fun i=>C.getD i []]))]++Hs1,nid+4200,nid⟩ ?_ ?_
    ·unfold devP
     simp -dsimp only [aqA,↓seqK,↓blkK,↓loopK,step,stepBin,eqB,Nat.add_assoc nid,↓reduceIte,simprocAttr,LN_succ]
     refine ⟨⟨by omega,by omega⟩,?_⟩
     refine Cov.goG (nid+300) Hs1 [_,_,(nid+500,_)] [_,(nid+500,_)] [(nid+4100,nid+4016)] [] (by omega) hs1 (by simp [kOK]) (by simp) ?_
     simp [cvT,step,res,boxL,litRg,litIn,ColsEq.refl,-List.getD_eq_getElem?_getD]
    refine SR.seqTo ⟨[(13,.int .i64 k),(14,.ptr (nid+4100) 0),(12,.int .i64 (flatC (C.drop (k+1))).length),(74,.int .i64 k),(73,.int .i64 x.D.length),(72,.lit x.n0 x.D.length (devP x.n1 x.n2 x.D)),(11,.str got),(7,.sl (nid+500) 0 x.D.length),(5,.ptr (nid+204) 0)],[(nid+4100,boxL (x.n1 k) (x.n2 k) (x.D.getD k dev0)),(nid+500,some (.arr 9 x.D.length [.s fun i=>C.getD i []]))]++Hs1,nid+4300,nid⟩ ?_ ?_
    ·unfold boxL litRg litIn
     simp -dsimp only [aqA,↓seqK,↓blkK,↓loopK,step,stepBin,eqB,Nat.add_assoc nid,↓reduceIte,simprocAttr,LN_succ]
     rw [hat]
     refine ⟨by unfold inI64; omega,?_⟩
     refine Cov.goG (nid+300) Hs1 [_,(nid+500,_)] [_,(nid+500,_)] [] [] (by omega) hs1 (by simp [kOK]) (by simp) ?_
     simp [cvT,step,res,boxL,litRg,litIn,ColsEq.refl,-List.getD_eq_getElem?_getD]
    refine SR.seqTo ⟨[(15,.str (C.getD k [])),(16,.int .i64 0),(13,.int .i64 k),(14,.ptr (nid+4100) 0),(12,.int .i64 (flatC (C.drop (k+1))).length),(74,.int .i64 k),(73,.int .i64 x.D.length),(72,.lit x.n0 x.D.length (devP x.n1 x.n2 x.D)),(11,.str got),(7,.sl (nid+500) 0 x.D.length),(5,.ptr (nid+204) 0)],[(nid+4100,boxL (x.n1 k) (x.n2 k) (x.D.getD k dev0)),(nid+500,some (.arr 9 x.D.length [.s fun i=>C.getD i []]))]++Hs1,nid+4400,nid⟩ ?_ ?_
    ·unfold boxL litRg litIn
     simp -dsimp only [aqA,↓seqK,↓blkK,↓loopK,step,stepBin,eqB,Nat.add_assoc nid,↓reduceIte,simprocAttr,LN_succ]
     refine CallO.on (hin _ (by omega)) (subH_frame (X:=[(nid+4100,_),(nid+500,_)]) hs1 (by simp [kOK])) ?_
     simp -dsimp only [aqA,↓seqK,↓blkK,↓loopK,step,stepBin,eqB,Nat.add_assoc nid,↓reduceIte,simprocAttr,LN_succ]
     refine Cov.goG (nid+300) Hs1 [_,(nid+500,_)] [_,(nid+500,_)] [] [] (by omega) hs1 (by simp [kOK]) (by simp) ?_
     simp [cvT,step,res,boxL,litRg,litIn,ColsEq.refl,-List.getD_eq_getElem?_getD]
    have hco:∀ m,ACall Tryz.prog 37 [.str (List.replicate ((C.getD k []).length - 1) 48),.str [49]] [] m (.bool false) []:=fun m=>by
     have h:=contains_cc (List.replicate ((C.getD k []).length - 1) 48) 49 m
     have e:decide (0≤Lib.indexByte (List.replicate ((C.getD k []).length - 1) 48) 49)=false:=by
      rw [decide_eq_false_iff_not,indexByte_in]
      intro hm
      have:=List.eq_of_mem_replicate hm
      cases this
     rwa [e] at h
    clear hin hins hshift hsc hS hR hlaw
    generalize ha:(flatC (C.drop (k+1))).length=a at *
    have b2:((((got.getD a 0).toNat:Nat):Int) != 49)=false:=by rw [ha3]; rfl
    refine SR.seqTo ⟨[(116,.bool false),(12,.int .i64 a),(74,.int .i64 k),(73,.int .i64 x.D.length),(72,.lit x.n0 x.D.length (devP x.n1 x.n2 x.D)),(11,.str got),(7,.sl (nid+500) 0 x.D.length),(5,.ptr (nid+204) 0)],[(nid+500,some (.arr 9 x.D.length [.s fun i=>C.getD i []]))]++Hs1,nid+5000,nid⟩ ?_ ?_
    ·unfold boxL litRg litIn
     simp -dsimp only [aqA,↓seqK,↓blkK,↓loopK,step,stepBin,eqB,Nat.add_assoc nid,↓reduceIte,simprocAttr,LN_succ,b1]
     refine ⟨⟨by omega,by omega⟩,⟨by omega,by omega⟩,?_⟩
     refine S2.intro (fun h=>absurd (b2.symm.trans h) (by simp)) (fun _=>?_)
     simp -dsimp only [aqA,↓seqK,↓blkK,↓loopK,step,stepBin,eqB,Nat.add_assoc nid,↓reduceIte,simprocAttr,LN_succ]
     have e2:((a:Int)+1).toNat=a+1:=by omega
     have e3:((a:Int)+(x.D.getD k dev0).long).toNat - (a+1)=(C.getD k []).length - 1:=by omega
     refine ⟨by unfold inI64; omega,by unfold inI64; omega,⟨by omega,by omega,by omega⟩,?_⟩
     refine CallO.pure (r:=.bool false) (u:=[]) (by rw [e2,e3,ha4]; exact hco _) ?_
     simp -dsimp only [aqA,↓seqK,↓blkK,↓loopK,step,stepBin,eqB,Nat.add_assoc nid,↓reduceIte,simprocAttr,LN_succ]
     refine Cov.goG (nid+300) Hs1 [_,(nid+500,_)] [(nid+500,_)] [] [] (by omega) hs1 (by simp [kOK]) (by simp) ?_
     simp [cvT,step,res,ColsEq.refl]
    refine SR.run (t:=.mk) ?_
    simp -dsimp only [aqA,↓seqK,↓blkK,↓loopK,step,stepBin,eqB,Nat.add_assoc nid,↓reduceIte,simprocAttr,LN_succ]
    refine ⟨(),?_⟩
    refine Cov.goG (nid+300) Hs1 [(nid+500,_)] [(nid+500,_)] [] [] (by omega) hs1 (by simp [kOK]) (by simp) ?_
    simp [cvT,step,res,ColsEq.refl]
   ·refine SR.run (t:=.mk) ?_
    simp -dsimp only [aqA,↓seqK,↓blkK,↓loopK,step,stepBin,eqB,Nat.add_assoc nid,↓reduceIte,simprocAttr,LN_succ]
    refine ⟨by unfold inI64; omega,k+1,⟨by omega,by omega⟩,?_⟩
    refine Cov.goG (nid+300) Hs1 [(nid+500,_)] [(nid+500,_)] [] [] (by omega) hs1 (by simp [kOK]) (by simp) ?_
    simp [cvT,step,res,ColsEq.refl]
  ·refine ⟨(),?_⟩
   refine Cov.go [] [] ?_
   simp [cvT,step,res]
 refine SR.run (t:=.mk) ?_
 simp -dsimp only [aqA,↓seqK,↓blkK,↓loopK,step,stepBin,eqB,Nat.add_assoc nid,↓reduceIte,simprocAttr,LN_succ]
 refine CallO.pure (ready_c _) ?_
 simp -dsimp only [aqA,↓seqK,↓blkK,↓loopK,step,stepBin,eqB,Nat.add_assoc nid,↓reduceIte,simprocAttr,LN_succ]
 refine RetOK.go [] [] (.inl rfl) ?_
 simp [a5,cvT,step,res]
end Go.Proofs.YtahjohieahehjaaGreatDoor
namespace Go.Proofs.YtahjohieahehjaaGreatDoor
open Go.RowKit
theorem handed_shaped {H:Type} {enc:TypeId × Value→H} {a:Assume} {C:Checked} {os:Os} {f:FuncId} {fn:Func} {s:ChangeSpec} {conds:List PathCond} {apart fresh handsOn again:Bool} {X:World→Array Value→Prop}
  (hX:∀ (w w':World) (args:Array Value),w.heap=w'.heap→X w args→X w' args)
  (own:ownKnob C.prog.godebug=none) (started:os.Started) (noInit:C.prog.inits.idxOf? f=none) (hfn:C.prog.funcs[f]?=some fn)
  (witness:∃ (w:World) (tape:Tape) (i:Input),w.os=os∧(w.forCall tape i).Shaped C.prog∧i.vars=[]∧Input.okWide C.prog (w.forCall tape i) .any w.heap.size f i ∧
   ((s.pre enc C.prog fn conds apart (w.forCall tape i).memory i.args∧X (w.forCall tape i).memory i.args)∧sizedMet enc C.prog fn (OpenSpec.ofChange s) apart (w.forCall tape i).memory i.args)∧a.holds C.prog (lone (Frame.enter C.prog f i.args .normal) [] (w.forCall tape i)))
  (contract:∀ (W:World) (base:Nat) (args:Array Value) (ds gs:List (DataW H)) (before:List MemPlace),
   (∀ (j:Nat) t v,fn.params[j]?=some t→args[j]?=some v→Value.okWide C.prog W .any base t v) →
   DataW.Whole enc C.prog fn.params.toList s.vars apart W args.toList ds gs before →
   conds.all (PathCond.test C.prog ⟨fn.params.toList,ds,s.plain.varTypes C.prog,gs⟩)=true →
   (DataW.weightsEach C.prog (fn.params.toList++s.plain.varTypes C.prog) (ds++gs)).all (·≤reachBytes)=true→X W args→W.ShapedOpen C.prog →
   Calls C.prog f args W fun e W'=>∃ v,e=.returned v∧s.post enc C.prog fn apart fresh handsOn again W args v W') :
  ReturnsInHanded a C os f .any (fun w args=>(s.pre enc C.prog fn conds apart w args∧X w args)∧sizedMet enc C.prog fn (OpenSpec.ofChange s) apart w args) (s.post enc C.prog fn apart fresh handsOn again):=by
 refine returnsInHanded_of_calls own started noInit witness ?_
 intro w tape i _ hsh _ hok hpre _
 obtain ⟨_,_,_,fn',hfn',_,_,_,_,hval⟩:=hok
 have e:fn'=fn:=Option.some.inj (hfn'.symm.trans hfn)
 subst e
 obtain ⟨⟨⟨ds,gs,before,hw,hc⟩,hx⟩,hz⟩:=hpre
 have hw':=DataW.Whole.of_heap (w':=w.forCall tape i) (by rfl) hw
 refine (contract (w.forCall tape i) w.heap.size i.args ds gs before hval hw' hc (hz.weights hw) (hX _ _ _ (by rfl) hx) hsh).mono fun e W' ⟨v,he,hp⟩=>?_
 subst he
 exact ChangeSpec.post_blind hp
theorem gok_cell {W:World} {g:Nat} {m:Int} (h:W.cell? ⟨g,0,none⟩=some (.int .i64 m)):g<W.heap.size∧∃ o,W.heap[g]?=some o∧cell0 o=some (.int .i64 m):=by
 unfold World.cell? at h
 simp only at h
 split at h
 ·rename_i c t f hc
  refine ⟨?_,_,hc,?_⟩
  ·rcases Nat.lt_or_ge g W.heap.size with hl | hl
   ·exact hl
   ·rw [Array.getElem?_eq_none hl] at hc; cases hc
  ·simpa [cell0] using h
 ·cases h
set_option maxRecDepth 1000000 in
theorem gok0_of {W:World} (h:W.ShapedOpen Tryz.prog):GOK0 (fun b=>W.heap[b]?) W.heap.size:=by
 obtain ⟨m,hm⟩:=cell_of_shapedOpen_int (g:=0) (t:=3) (zero:=#[.int .i64 0]) (k:=.i64) h (of_decide_eq_true (by kernel_rfl)) (by kernel_rfl) rfl (by kernel_rfl) (by kernel_rfl) Tryz.underlying3
 obtain ⟨h1,o,h2,h3⟩:=gok_cell hm
 exact ⟨o,m,h1,h2,h3⟩
theorem blk_of {W:World} {g j:Nat} {v:Value} (h:W.cell? ⟨g,j,none⟩=some v):g<W.heap.size:=World.block_lt_of_cell? W _ h
theorem gok_of {W:World} (h:W.ShapedOpen Tryz.prog) (ht:TabW W):GOK (fun b=>W.heap[b]?) W.heap.size :=
 ⟨gok0_of h,⟨blk_of ht.1,blk_of (ht.2.1 0 (by decide)),blk_of (ht.2.2 0 (by decide)).1⟩,W,fun _ _=>rfl,ht⟩
end Go.Proofs.YtahjohieahehjaaGreatDoor
