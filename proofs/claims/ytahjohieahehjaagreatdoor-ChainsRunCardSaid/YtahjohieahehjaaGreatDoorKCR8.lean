/-
 A clock of the document's chain,by the abstract machine.
-/
import Derived.Test.YtahjohieahehjaaGreatDoorKCR7
import Derived.Test.YtahjohieahehjaaGreatDoorKCR4
import Derived.Test.YtahjohieahehjaaGreatDoorKCR6
import Derived.Test.YtahjohieahehjaaGreatDoorKCR5
import Derived.Test.YtahjohieahehjaaGreatDoorKCR3
import Derived.Test.YtahjohieahehjaaGreatDoorProg
import Derived.Test.YtahjohieahehjaaGreatDoorChecked
import Derived.Handed
import Derived.HandedShaped
import Derived.Shelf.Vars
import Derived.KernelRfl
set_option linter.unusedVariables false
set_option linter.unusedSimpArgs false
set_option maxRecDepth 100000
namespace Go.Proofs.YtahjohieahehjaaGreatDoor
open Go.RowKit
theorem RH_st {c:Nat} {n0:Bool} {n1 n2:Nat→Bool} {D:List Dev} {st st':Nat} {P:List Port}:∀ id y,getH (RH c n0 n1 n2 D st' P) id=some y →
  (id=c∧y=.box 104 [.lit n0 D.length (devP n1 n2 D),.int .i64 (st':Nat),.sl (c+1) 0 D.length,.sl (c+2) 0 D.length,.mp (c+3),.mp (c+4)])∨(id≠c∧getH (RH c n0 n1 n2 D st P) id=some y):=by
 intro id y hy
 rcases RH_get hy with ⟨e,h1⟩ | ⟨e,h1⟩ | ⟨e,h1⟩ | ⟨e,h1⟩ | ⟨e,h1⟩ <;> subst e
 ·rw [RH0] at h1
  injection h1 with h1
  exact .inl ⟨rfl,h1.symm⟩
 ·exact .inr ⟨by omega,by rw [RH1] at h1 ⊢; exact h1⟩
 ·exact .inr ⟨by omega,by rw [RH2] at h1 ⊢; exact h1⟩
 ·exact .inr ⟨by omega,by rw [RH3] at h1 ⊢; exact h1⟩
 ·exact .inr ⟨by omega,by rw [RH4] at h1 ⊢; exact h1⟩
set_option maxHeartbeats 16000000 in
theorem clock_R (c nid:Nat) (n0:Bool) (n1 n2:Nat→Bool) (D:List Dev) (st:Nat) (P:List Port) (tms:Nat) (b:UInt8) (hc:c+5≤nid) (h:RelR D P) (hst:st<16) (ht:tms<2) (hb:oneBit b=true) (hD:D.length≤1000) :
  ACall Tryz.prog 29 [.ptr c 0,.int .i64 (tms:Nat),.int .i64 (bitM b:Nat)] (RH c n0 n1 n2 D st P) nid (.int .i64 (outB1 st (clockP st P b).2)) (RH c n0 n1 n2 D (nextN st tms) (clockP st P b).1):=by
 have hPl:=h.len
 refine acall_sr c29 (by simp [a29]) ?_
 unfold a29
 refine SR.seq ?_
 simp -dsimp only [aqA,↓seqK,↓blkK,↓loopK,step,stepBin,eqB,Nat.add_assoc nid,↓reduceIte,simprocAttr,LN_succ]
 refine SR.seq ?_
 simp -dsimp only [aqA,↓seqK,↓blkK,↓loopK,step,stepBin,eqB,Nat.add_assoc nid,↓reduceIte,simprocAttr,LN_succ]
 have hcc:∀ k,(nid+k==c)=false:=fun k=>by simp; omega
 have hc2:∀ k,(nid+k==c+2)=false:=fun k=>by simp; omega
 have eq1:∀ n:Nat,(((st:Nat):Int)==(n:Int))=decide (st=n):=fun n=>by rw [Bool.eq_iff_iff]; simp; omega
 have e4:(((st:Nat):Int)==4)=decide (st=4):=eq1 4
 have e11:(((st:Nat):Int)==11)=decide (st=11):=eq1 11
 have hkeys:∀ st' Q,∀ id∈keys (RH c n0 n1 n2 D st P),id∈keys (RH c n0 n1 n2 D st' Q):=fun st' Q id hid=>by rw [RH_keys c n0 n1 n2 D st' st Q P]; exact hid
 obtain ⟨Q,hQ⟩:∃ Q:List Port × UInt8,(if shifts st=true then clockP st P b else (P,b))=Q:=⟨_,rfl⟩
 have hQR:RelR D Q.1:=by
  rw [← hQ]
  split
  ·exact h.clock st hb
  ·exact h
 refine SR.seqW (ι:=Unit) (fun _=>⟨[(7,.int .i64 (outB1 st Q.2)),(0,.ptr c 0),(1,.int .i64 (tms:Nat))],RH c n0 n1 n2 D st Q.1,nid+5000,nid⟩) ?_ (fun _=>?_)
 ·refine SR.seqTo ⟨[(22,.bool (shifts st)),(7,.int .i64 (-1)),(0,.ptr c 0),(1,.int .i64 (tms:Nat)),(2,.int .i64 (bitM b:Nat))],RH c n0 n1 n2 D st P,nid+100,nid⟩ ?_ ?_
  ·have hs:=RH_scoped c nid n0 n1 n2 D st P hc
   have hl0:=RH0 c n0 n1 n2 D st P
   generalize RH c n0 n1 n2 D st P=Hs at *
   have hsh:shifts st=(decide (st=4) || decide (st=11)):=by
    unfold shifts
    rw [Bool.eq_iff_iff]
    simp
   rw [hsh]
   by_cases h4:st=4
   ·rw [decide_eq_true h4] at e4 ⊢
    simp -dsimp only [aqA,↓seqK,↓blkK,↓loopK,step,stepBin,eqB,Nat.add_assoc nid,↓reduceIte,simprocAttr,LN_succ,hl0,e4]
    refine Cov.whole hs (subH_refl _) (by omega) ?_
    simp [cvT,step,res]
    omega
   ·rw [decide_eq_false h4] at e4 ⊢
    simp -dsimp only [aqA,↓seqK,↓blkK,↓loopK,step,stepBin,eqB,Nat.add_assoc nid,↓reduceIte,simprocAttr,LN_succ,hl0,e4,e11]
    refine Cov.whole hs (subH_refl _) (by omega) ?_
    simp [cvT,step,res]
    omega
  refine SR.cond (b:=shifts st) rfl (fun hsh=>?_) (fun hsh=>?_)
  ·rw [if_pos hsh] at hQ
   refine SR.seq ?_
   simp -dsimp only [aqA,↓seqK,↓blkK,↓loopK,step,stepBin,eqB,Nat.add_assoc nid,↓reduceIte,simprocAttr,LN_succ]
   refine SR.seqTo ⟨[(27,.sl (c+2) 0 D.length),(28,.int .i64 D.length),(29,.int .i64 0),(7,.int .i64 (bitM b:Nat)),(0,.ptr c 0),(1,.int .i64 (tms:Nat))],RH c n0 n1 n2 D st P,nid+200,nid⟩ ?_ ?_
   ·have hs:=RH_scoped c nid n0 n1 n2 D st P hc
    have hl0:=RH0 c n0 n1 n2 D st P
    generalize RH c n0 n1 n2 D st P=Hs at *
    simp -dsimp only [aqA,↓seqK,↓blkK,↓loopK,step,stepBin,eqB,Nat.add_assoc nid,↓reduceIte,simprocAttr,LN_succ,hl0]
    refine Cov.whole hs (subH_refl _) (by omega) ?_
    simp [cvT,step,res]
    omega
   refine SR.block ?_
   refine SR.loopP (fun k:Nat=>k≤D.length) (fun k=>⟨[(27,.sl (c+2) 0 D.length),(28,.int .i64 D.length),(29,.int .i64 (k:Nat)),(7,.int .i64 (bitM (shTo st P b k).2:Nat)),(0,.ptr c 0),(1,.int .i64 (tms:Nat))],RH c n0 n1 n2 D st (shTo st P b k).1,nid+300,nid⟩) (fun k=>D.length+1 - k) 0 (by omega) ?_ (fun k hk=>?_)
   ·rw [shTo_zero]
    refine Cov.whole (RH_scoped c nid n0 n1 n2 D st P hc) (subH_refl _) (by omega) ?_
    simp [cvT,step,res]
    omega
   have hs:=RH_scoped c nid n0 n1 n2 D st (shTo st P b k).1 hc
   have hl0:=RH0 c n0 n1 n2 D st (shTo st P b k).1
   have hl2:=RH2 c n0 n1 n2 D st (shTo st P b k).1
   have hrk:=h.shift hsh hb k (by omega)
   refine SR.run (t:=.mk) ?_
   by_cases h3:((k:Nat):Int)<(D.length:Nat)
   ·have hkl:k<D.length:=by omega
    have hp:P[k]?=some P[k]:=List.getElem?_eq_getElem (by omega)
    obtain ⟨hd,hR,hV⟩:=h.d k _ hp
    obtain ⟨g1,g2⟩:=shTo_succ (st:=st) (b:=b) hp
    obtain ⟨f1,f2,f3⟩:=act_shiftR hsh hR (shTo st P b k).2
    have hsk:=RH_scoped c nid n0 n1 n2 D st (shTo st P b (k+1)).1 hc
    have hu:=RH_shift (c:=c) (n0:=n0) (n1:=n1) (n2:=n2) (D:=D) (st:=st) (q:=(actV st P[k] (shTo st P b k).2).1) hrk.1.ap g1 (P[k].shift.drop 1++[(shTo st P b k).2]) (by rw [f3])
    have hbk:=hrk.2
    have hbit:=bitM_lt hbk
    have hpg:=pGet g1
    have hsb:oneBit (P[k].shift.getD 0 0)=true:=hV.sh.head
    have hw:=bitW8 hsb
    have hbb:UInt8.ofNat (48+bitM (shTo st P b k).2)=(shTo st P b k).2:=by
     rw [← hbit.2]
     simp
    have hsl0:=hV.sh.l0
    have hsl1:=hV.sh.l1
    rw [g2] at hsk
    generalize RH c n0 n1 n2 D st (shTo st P b k).1=Hs at *
    generalize hSt:shTo st P b k=S at *
    simp -dsimp only [aqA,↓seqK,↓blkK,↓loopK,step,stepBin,eqB,Nat.add_assoc nid,↓reduceIte,simprocAttr,LN_succ,hl0,hl2]
    refine S2.dec (fun _=>?_) (fun h=>absurd h3 h)
    simp -dsimp only [aqA,↓seqK,↓blkK,↓loopK,step,stepBin,eqB,Nat.add_assoc nid,↓reduceIte,simprocAttr,LN_succ,hl0,hl2]
    refine ⟨⟨by omega,by omega⟩,?_⟩
    rw [hpg]
    refine ⟨by omega,CallX.pure (itoa_cc (bitM S.2) _ (by omega)) ?_⟩
    rw [bitS hbit.1,hbb]
    simp -dsimp only [aqA,↓seqK,↓blkK,↓loopK,step,stepBin,eqB,Nat.add_assoc nid,↓reduceIte,simprocAttr,LN_succ,hl0,hl2]
    rw [hw]
    have e3:=congrArg Prod.snd f3
    simp only at e3
    refine ⟨by simp; omega,⟨by omega,by omega⟩,by omega,by unfold inI64; omega,k+1,⟨by omega,by omega⟩,?_⟩
    rw [g2]
    simp only
    rw [e3]
    refine Cov.whole hsk (subH_put (X:=[]) hu (subH_refl _)) (by omega) ?_
    simp [cvT,step,res,-List.getD_eq_getElem?_getD]
    omega
   ·have hkn:k=D.length:=by omega
    have hfin:shTo st P b k=Q:=by rw [hkn,← hPl,shTo_all,hQ]
    rw [hfin] at hs hl0 hl2 ⊢
    simp -dsimp only [aqA,↓seqK,↓blkK,↓loopK,step,stepBin,eqB,Nat.add_assoc nid,↓reduceIte,simprocAttr,LN_succ]
    refine S2.dec (fun h=>absurd h h3) (fun _=>?_)
    simp -dsimp only [aqA,↓seqK,↓blkK,↓loopK,step,stepBin,eqB,Nat.add_assoc nid,↓reduceIte,simprocAttr,LN_succ]
    refine ⟨(),?_⟩
    have ho:outB1 st Q.2=(bitM Q.2:Nat):=by unfold outB1; rw [if_pos hsh]
    rw [ho]
    refine Cov.whole hs (subH_refl _) (by omega) ?_
    simp [cvT,step,res,-List.getD_eq_getElem?_getD]
    omega
  ·rw [if_neg (by rw [hsh]; simp)] at hQ
   subst hQ
   have hs:=RH_scoped c nid n0 n1 n2 D st P hc
   refine SR.run (t:=.mk) ?_
   simp -dsimp only [aqA,↓seqK,↓blkK,↓loopK,step,stepBin,eqB,Nat.add_assoc nid,↓reduceIte,simprocAttr,LN_succ]
   refine ⟨(),?_⟩
   have ho:outB1 st b = -1:=by unfold outB1; rw [if_neg (by rw [hsh]; simp)]
   rw [ho]
   refine Cov.whole hs (subH_refl _) (by omega) ?_
   simp [cvT,step,res]
   omega
 have hfin:clockP st P b=(Q.1.map (actR st),Q.2):=by
  rw [← hQ]
  cases hsh:shifts st
  ·rw [if_neg (by simp)]
   exact actR_still hsh P b
  ·rw [if_pos rfl]
   rw [actR_shift hsh]
 rw [hfin]
 have hQl:=hQR.len
 generalize Q.1=Q1 at *
 generalize Q.2=b2 at *
 refine SR.seqW (ι:=Unit) (fun _=>⟨[(7,.int .i64 (outB1 st b2)),(0,.ptr c 0),(1,.int .i64 (tms:Nat))],RH c n0 n1 n2 D st (Q1.map (actR st)),nid+15000,nid⟩) ?_ (fun _=>?_)
 ·refine SR.seqTo ⟨[(54,.int .i64 D.length),(55,.int .i64 0),(7,.int .i64 (outB1 st b2)),(0,.ptr c 0),(1,.int .i64 (tms:Nat))],RH c n0 n1 n2 D st Q1,nid+5200,nid⟩ ?_ ?_
  ·have hs:=RH_scoped c nid n0 n1 n2 D st Q1 hc
   have hl0:=RH0 c n0 n1 n2 D st Q1
   generalize RH c n0 n1 n2 D st Q1=Hs at *
   simp -dsimp only [aqA,↓seqK,↓blkK,↓loopK,step,stepBin,eqB,Nat.add_assoc nid,↓reduceIte,simprocAttr,LN_succ,hl0]
   refine Cov.whole hs (subH_refl _) (by omega) ?_
   simp [cvT,step,res]
   omega
  refine SR.block ?_
  refine SR.loopP (fun k:Nat=>k≤D.length) (fun k=>⟨[(54,.int .i64 D.length),(55,.int .i64 (k:Nat)),(7,.int .i64 (outB1 st b2)),(0,.ptr c 0),(1,.int .i64 (tms:Nat))],RH c n0 n1 n2 D st (actTo st Q1 k),nid+6000,nid⟩) (fun k=>D.length+1 - k) 0 (by omega) ?_ (fun k hk=>?_)
  ·rw [actTo_zero]
   refine Cov.whole (RH_scoped c nid n0 n1 n2 D st Q1 hc) (subH_refl _) (by omega) ?_
   simp [cvT,step,res]
   omega
  have hs:=RH_scoped c nid n0 n1 n2 D st (actTo st Q1 k) hc
  refine SR.run (t:=.mk) ?_
  by_cases h3:((k:Nat):Int)<(D.length:Nat)
  ·have hkl:k<D.length:=by omega
   have hp:Q1[k]?=some Q1[k]:=List.getElem?_eq_getElem (by omega)
   obtain ⟨g1,g2⟩:=actTo_succ (st:=st) hp
   have hact:=fun m (hm:nid≤m)=>act_R c m n0 n1 n2 D st (actTo st Q1 k) k _ (by omega) (hQR.acts st k (by omega)) g1 hD
   rw [← g2] at hact
   have hs2:=RH_scoped c nid n0 n1 n2 D st (actTo st Q1 (k+1)) hc
   simp -dsimp only [aqA,↓seqK,↓blkK,↓loopK,step,stepBin,eqB,Nat.add_assoc nid,↓reduceIte,simprocAttr,LN_succ]
   refine S2.dec (fun _=>?_) (fun h=>absurd h3 h)
   simp -dsimp only [aqA,↓seqK,↓blkK,↓loopK,step,stepBin,eqB,Nat.add_assoc nid,↓reduceIte,simprocAttr,LN_succ]
   refine CallO.on (hact _ (by omega)) (subH_refl _) ?_
   generalize hH2:RH c n0 n1 n2 D st (actTo st Q1 (k+1))=Hs2 at *
   generalize RH c n0 n1 n2 D st (actTo st Q1 k)=Hs at *
   simp -dsimp only [aqA,↓seqK,↓blkK,↓loopK,step,stepBin,eqB,Nat.add_assoc nid,↓reduceIte,simprocAttr,LN_succ]
   refine ⟨by unfold inI64; omega,k+1,⟨by omega,by omega⟩,?_⟩
   rw [hH2]
   refine Cov.whole hs2 (subH_front _ _) (by omega) ?_
   simp [cvT,step,res]
   omega
  ·have hkn:k=D.length:=by omega
   have hfin2:actTo st Q1 k=Q1.map (actR st):=by rw [hkn,← hQl,actTo_all]
   rw [hfin2] at hs ⊢
   simp -dsimp only [aqA,↓seqK,↓blkK,↓loopK,step,stepBin,eqB,Nat.add_assoc nid,↓reduceIte,simprocAttr,LN_succ]
   refine S2.dec (fun h=>absurd h h3) (fun _=>?_)
   simp -dsimp only [aqA,↓seqK,↓blkK,↓loopK,step,stepBin,eqB,Nat.add_assoc nid,↓reduceIte,simprocAttr,LN_succ]
   refine ⟨(),?_⟩
   refine Cov.whole hs (subH_refl _) (by omega) ?_
   simp [cvT,step,res]
   omega
 have hs:=RH_scoped c nid n0 n1 n2 D st (Q1.map (actR st)) hc
 have hs2:=RH_scoped c nid n0 n1 n2 D (nextN st tms) (Q1.map (actR st)) hc
 have hl0:=RH0 c n0 n1 n2 D st (Q1.map (actR st))
 have hkk:=hkeys (nextN st tms) (Q1.map (actR st))
 have hu:=RH_st (c:=c) (n0:=n0) (n1:=n1) (n2:=n2) (D:=D) (st:=st) (st':=nextN st tms) (P:=Q1.map (actR st))
 generalize RH c n0 n1 n2 D (nextN st tms) (Q1.map (actR st))=Hs2 at *
 generalize RH c n0 n1 n2 D st (Q1.map (actR st))=Hs at *
 refine SR.run (t:=.mk) ?_
 simp -dsimp only [aqA,↓seqK,↓blkK,↓loopK,step,stepBin,eqB,Nat.add_assoc nid,↓reduceIte,simprocAttr,LN_succ,hl0]
 refine CallO.pure (after_c st tms _ hst ht) ?_
 simp -dsimp only [aqA,↓seqK,↓blkK,↓loopK,step,stepBin,eqB,Nat.add_assoc nid,↓reduceIte,simprocAttr,LN_succ,hl0]
 trace_state
 refine RetOK.whole (.inl rfl) hs2 hkk (subH_put (X:=[]) hu (subH_refl _)) ?_
 simp [a29,cvT,step,res]
end Go.Proofs.YtahjohieahehjaaGreatDoor
namespace Go.Proofs.YtahjohieahehjaaGreatDoor
open Go.RowKit
def NH (c : Nat) (n0 : Bool) (n1 n2 : Nat → Bool) (D : List Dev) (k : Nat) (L : List KR) : Heap :=
  [(c,some (.box 104 [.lit n0 D.length (devP n1 n2 D),.int .i64 0,.sl (c + 1) 0 D.length,.sl (c + 2) 0 k,.mp (c + 3),.mp (c + 4)])),
   (c + 1,some (.arr 9 D.length [.s fun _ => []])),
   (c + 2,some (.arr 9 k [.s fun _ => [48]])),
   (c + 3,some (.map .q (mapD2 L) (.s (mapV2 L)))),
   (c + 4,some (.map .q (mapD2 L) (.s (mapV2 L))))]
set_option maxHeartbeats 16000000 in
theorem newPort_I (n0:Bool) (n1 n2:Nat→Bool) (D:List Dev) (f:(Nat→Bool) × (Nat→Bool)) (nid:Nat) (hD:D.length≤1000) (hS:∀ d∈D,DevS d) (he:devsE D=0) :
  ACallIW Tryz.prog 5 26 [.lit n0 D.length (devP n1 n2 D)] [] nid (fun _:Unit=>True) (fun _=>.ptr nid 0) (fun _=>RH nid n0 n1 n2 D 0 (portsK D f D.length)):=by
 have hR:=devR_of he
 refine acallIW_sr c26 (by simp [a26]) ?_
 unfold a26
 refine SR.seq ?_
 simp -dsimp only [aqA,↓seqK,↓blkK,↓loopK,step,stepBin,eqB,Nat.add_assoc nid,↓reduceIte,simprocAttr,LN_succ]
 refine SR.seqTo ⟨[(3,.ptr nid 0),(0,.lit n0 D.length (devP n1 n2 D))],NH nid n0 n1 n2 D 0 (keysD (D.take 0)),nid+100,nid⟩ ?_ ?_
 ·simp -dsimp only [aqA,↓seqK,↓blkK,↓loopK,step,stepBin,eqB,Nat.add_assoc nid,↓reduceIte,simprocAttr,LN_succ,mNew]
  refine ⟨⟨by omega,by omega,by omega⟩,?_⟩
  refine Cov.go [(nid,nid+32),(nid+1,nid+16),(nid+3,nid+20),(nid+4,nid+24)] [(nid+2,1)] ?_
  simp [cvT,step,res,NH,keysD,mapD2,mapV2,ColsEq.refl,Col.const]
 refine SR.seqW (ι:=Unit) (fun _=>⟨[(3,.ptr nid 0)],NH nid n0 n1 n2 D D.length (keysD D),nid+90000,nid⟩) ?_ (fun _=>?_)
 ·refine SR.seqTo ⟨[(19,.int .i64 0),(18,.int .i64 D.length),(17,.lit n0 D.length (devP n1 n2 D)),(3,.ptr nid 0)],NH nid n0 n1 n2 D 0 (keysD (D.take 0)),nid+150,nid⟩ ?_ ?_
  ·unfold NH
   simp -dsimp only [aqA,↓seqK,↓blkK,↓loopK,step,stepBin,eqB,Nat.add_assoc nid,↓reduceIte,simprocAttr,LN_succ]
   refine Cov.go [] [] ?_
   simp [cvT,step,res,ColsEq.refl]
  refine SR.block ?_
  refine SR.loopP (fun k:Nat=>k≤D.length) (fun k=>⟨[(19,.int .i64 k),(18,.int .i64 D.length),(17,.lit n0 D.length (devP n1 n2 D)),(3,.ptr nid 0)],NH nid n0 n1 n2 D k (keysD (D.take k)),nid+200,nid⟩) (fun k=>D.length+1 - k) 0 (by omega) ?_ (fun k hk=>?_)
  ·refine Cov.go [] [] ?_
   simp [cvT,step,res,NH,ColsEq.refl,MEq.refl]
  refine SR.seq ?_
  simp -dsimp only [aqA,↓seqK,↓blkK,↓loopK,step,stepBin,eqB,Nat.add_assoc nid,↓reduceIte,simprocAttr,LN_succ]
  refine SR.seq ?_
  simp -dsimp only [aqA,↓seqK,↓blkK,↓loopK,step,stepBin,eqB,Nat.add_assoc nid,↓reduceIte,simprocAttr,LN_succ]
  refine S2.dec (fun h3=>?_) (fun h3=>?_) <;> simp -dsimp only [aqA,↓seqK,↓blkK,↓loopK,step,stepBin,eqB,Nat.add_assoc nid,↓reduceIte,simprocAttr,LN_succ]
  ·have hkl:k<D.length:=by omega
   have hm:D.getD k dev0∈D:=by rw [List.getD_eq_getElem?_getD,List.getElem?_eq_getElem hkl]; exact List.getElem_mem _
   have hb:=hS _ hm
   have hr1:=hR _ hm
   have hrl:=hb.rl
   refine SR.seqW (ι:=Unit) (fun _=>⟨[(19,.int .i64 k),(18,.int .i64 D.length),(17,.lit n0 D.length (devP n1 n2 D)),(3,.ptr nid 0)],NH nid n0 n1 n2 D (k+1) (keysD (D.take (k+1))),nid+9000,nid⟩) ?_ (fun _=>?_)
   ·refine SR.block ?_
    refine SR.seqTo ⟨[(5,.ptr (nid+300) 0),(19,.int .i64 k),(18,.int .i64 D.length),(17,.lit n0 D.length (devP n1 n2 D)),(3,.ptr nid 0)],(nid+300,boxL (n1 k) (n2 k) (D.getD k dev0))::NH nid n0 n1 n2 D k (keysD (D.take k)),nid+400,nid⟩ ?_ ?_
    ·unfold NH devP
     simp -dsimp only [aqA,↓seqK,↓blkK,↓loopK,step,stepBin,eqB,Nat.add_assoc nid,↓reduceIte,simprocAttr,LN_succ]
     refine ⟨⟨by omega,by omega⟩,?_⟩
     refine Cov.go [(nid+300,nid+212)] [] ?_
     simp [cvT,step,res,boxL,litRg,litIn,ColsEq.refl,MEq.refl,-List.getD_eq_getElem?_getD]
    generalize hx:D.getD k dev0=x at *
    refine SR.seqTo ⟨[(5,.ptr (nid+300) 0),(19,.int .i64 k),(18,.int .i64 D.length),(17,.lit n0 D.length (devP n1 n2 D)),(3,.ptr nid 0)],(nid+300,boxL (n1 k) (n2 k) x)::NH nid n0 n1 n2 D (k+1) (keysD (D.take k)),nid+500,nid⟩ ?_ ?_
    ·unfold NH
     simp -dsimp only [aqA,↓seqK,↓blkK,↓loopK,step,stepBin,eqB,Nat.add_assoc nid,↓reduceIte,simprocAttr,LN_succ]
     refine ⟨⟨by omega,by omega⟩,Cov.go [(nid+2,nid+424)] [] ?_⟩
     simp [cvT,step,res,boxL,litRg,litIn,ColsEq.refl,MEq.refl,-List.getD_eq_getElem?_getD]
     refine ColEq.s fun j hj=>?_
     by_cases hjk:j<k
     ·rw [if_pos hjk]
     ·have e:j=k:=by omega
      rw [if_neg hjk,e,Nat.sub_self]
      rfl
    have htk1:=keysD_take hkl
    rw [hx] at htk1
    rw [htk1]
    generalize keysD (D.take k)=L at *
    refine SR.seqTo ⟨[(33,litRg (n1 k) x.regs),(35,.int .i64 0),(34,.int .i64 x.regs.length),(5,.ptr (nid+300) 0),(19,.int .i64 k),(18,.int .i64 D.length),(17,.lit n0 D.length (devP n1 n2 D)),(3,.ptr nid 0)],(nid+300,boxL (n1 k) (n2 k) x)::NH nid n0 n1 n2 D (k+1) L,nid+550,nid⟩ ?_ ?_
    ·unfold NH boxL litRg litIn
     simp -dsimp only [aqA,↓seqK,↓blkK,↓loopK,step,stepBin,eqB,Nat.add_assoc nid,↓reduceIte,simprocAttr,LN_succ]
     refine Cov.go [] [] ?_
     simp [cvT,step,res,ColsEq.refl,MEq.refl,-List.getD_eq_getElem?_getD]
    refine SR.block ?_
    refine SR.loopP (fun j:Nat=>j≤x.regs.length) (fun j=>⟨[(33,litRg (n1 k) x.regs),(35,.int .i64 (j:Nat)),(34,.int .i64 x.regs.length),(5,.ptr (nid+300) 0),(19,.int .i64 k),(18,.int .i64 D.length),(17,.lit n0 D.length (devP n1 n2 D)),(3,.ptr nid 0)],(nid+300,boxL (n1 k) (n2 k) x)::NH nid n0 n1 n2 D (k+1) (L++(x.regs.take j).map fun r=>(x.name,r)),nid+600,nid⟩) (fun j=>x.regs.length+1 - j) 0 (by omega) ?_ (fun j hj=>?_)
    ·refine Cov.go [] [] ?_
     simp [cvT,step,res,NH,boxL,litRg,litIn,ColsEq.refl,MEq.refl,-List.getD_eq_getElem?_getD]
    refine SR.seq ?_
    simp -dsimp only [aqA,↓seqK,↓blkK,↓loopK,step,stepBin,eqB,Nat.add_assoc nid,↓reduceIte,simprocAttr,LN_succ]
    refine SR.seq ?_
    simp -dsimp only [aqA,↓seqK,↓blkK,↓loopK,step,stepBin,eqB,Nat.add_assoc nid,↓reduceIte,simprocAttr,LN_succ]
    refine S2.dec (fun h4=>?_) (fun h4=>?_) <;> simp -dsimp only [aqA,↓seqK,↓blkK,↓loopK,step,stepBin,eqB,Nat.add_assoc nid,↓reduceIte,simprocAttr,LN_succ]
    ·have hjl:j<x.regs.length:=by omega
     have hrm:x.regs.getD j reg0∈x.regs:=by rw [List.getD_eq_getElem?_getD,List.getElem?_eq_getElem hjl]; exact List.getElem_mem _
     have hr2:=hr1.rs _ hrm
     have hrs:=(hb.rs _ hrm).1
     have hnm:=hb.nm
     have htk:(x.regs.take (j+1)).map (fun r=>((x.name,r):KR))=(x.regs.take j).map (fun r=>(x.name,r))++[(x.name,x.regs.getD j reg0)]:=by rw [List.take_add_one,List.getElem?_eq_getElem hjl,List.getD_eq_getElem?_getD,List.getElem?_eq_getElem hjl,Option.toList_some,List.map_append]; rfl
     obtain ⟨N,hN⟩:∃ N:Nat,(x.regs.getD j reg0).2=N:=⟨_,(Int.toNat_of_nonneg (by omega)).symm⟩
     refine SR.seqW (ι:=Unit) (fun _=>⟨[(33,litRg (n1 k) x.regs),(35,.int .i64 (j:Nat)),(34,.int .i64 x.regs.length),(5,.ptr (nid+300) 0),(19,.int .i64 k),(18,.int .i64 D.length),(17,.lit n0 D.length (devP n1 n2 D)),(3,.ptr nid 0)],(nid+300,boxL (n1 k) (n2 k) x)::NH nid n0 n1 n2 D (k+1) (L++(x.regs.take (j+1)).map fun r=>(x.name,r)),nid+2000,nid⟩) ?_ (fun _=>?_)
     ·refine SR.block ?_
      refine SR.seqTo ⟨[(7,.ptr (nid+700) 0),(33,litRg (n1 k) x.regs),(35,.int .i64 (j:Nat)),(34,.int .i64 x.regs.length),(5,.ptr (nid+300) 0),(19,.int .i64 k),(18,.int .i64 D.length),(17,.lit n0 D.length (devP n1 n2 D)),(3,.ptr nid 0)],(nid+700,boxRg (x.regs.getD j reg0))::(nid+300,boxL (n1 k) (n2 k) x)::NH nid n0 n1 n2 D (k+1) (L++(x.regs.take j).map fun r=>(x.name,r)),nid+800,nid⟩ ?_ ?_
      ·unfold NH boxL litRg litIn
       simp -dsimp only [aqA,↓seqK,↓blkK,↓loopK,step,stepBin,eqB,Nat.add_assoc nid,↓reduceIte,simprocAttr,LN_succ]
       refine ⟨⟨by omega,by omega⟩,Cov.go [(nid+700,nid+612)] [] ?_⟩
       simp [cvT,step,res,boxRg,ColsEq.refl,MEq.refl,-List.getD_eq_getElem?_getD]
      rw [htk,← List.append_assoc]
      generalize L++(x.regs.take j).map (fun r=>((x.name,r):KR))=L2 at *
      generalize x.regs.getD j reg0=r at *
      refine SR.seqTo ⟨[(8,.str (List.replicate N 48)),(7,.ptr (nid+700) 0),(33,litRg (n1 k) x.regs),(35,.int .i64 (j:Nat)),(34,.int .i64 x.regs.length),(5,.ptr (nid+300) 0),(19,.int .i64 k),(18,.int .i64 D.length),(17,.lit n0 D.length (devP n1 n2 D)),(3,.ptr nid 0)],(nid+700,boxRg r)::(nid+300,boxL (n1 k) (n2 k) x)::NH nid n0 n1 n2 D (k+1) L2,nid+900,nid⟩ ?_ ?_
      ·unfold NH boxL litRg litIn boxRg
       simp -dsimp only [aqA,↓seqK,↓blkK,↓loopK,step,stepBin,eqB,Nat.add_assoc nid,↓reduceIte,simprocAttr,LN_succ]
       rw [hN]
       refine CallO.pure (repeat_cc [48] N _ (by omega) (by simp; omega)) ?_
       rw [rep48]
       simp -dsimp only [aqA,↓seqK,↓blkK,↓loopK,step,stepBin,eqB,Nat.add_assoc nid,↓reduceIte,simprocAttr,LN_succ]
       refine Cov.go [] [] ?_
       rw [← hN]
       simp [cvT,step,res,boxRg,ColsEq.refl,MEq.refl,-List.getD_eq_getElem?_getD]
      refine SR.run (t:=.mk) ?_
      unfold NH boxL litRg litIn boxRg
      simp -dsimp only [aqA,↓seqK,↓blkK,↓loopK,step,stepBin,eqB,Nat.add_assoc nid,↓reduceIte,simprocAttr,LN_succ,mkKey,mGet,mPut,keyIn,opXs]
      refine ⟨⟨by omega,by omega⟩,⟨by omega,by omega⟩,(),?_⟩
      have hrt:r.2.toNat=N:=by omega
      refine Cov.go [] [] ?_
      simp [cvT,step,res,NH,boxL,litRg,litIn,mapD2_snoc,mapV2_snoc,hrt,rep48,ColsEq.refl,MEq.refl,-List.getD_eq_getElem?_getD]
      exact fun q _ _=>by simp [mVal,mapV2_snoc,hrt,rep48]
     ·refine SR.run (t:=.mk) ?_
      unfold NH boxL litRg litIn
      simp -dsimp only [aqA,↓seqK,↓blkK,↓loopK,step,stepBin,eqB,Nat.add_assoc nid,↓reduceIte,simprocAttr,LN_succ]
      refine ⟨by unfold inI64; omega,j+1,⟨by omega,by omega⟩,?_⟩
      refine Cov.go [] [] ?_
      simp [cvT,step,res,NH,ColsEq.refl,MEq.refl,-List.getD_eq_getElem?_getD]
    ·have hjn:j=x.regs.length:=by omega
     subst hjn
     rw [List.take_length]
     refine ⟨(),?_⟩
     unfold NH
     refine Cov.go [] [] ?_
     simp [cvT,step,res,ColsEq.refl,MEq.refl]
   ·refine SR.run (t:=.mk) ?_
    unfold NH
    simp -dsimp only [aqA,↓seqK,↓blkK,↓loopK,step,stepBin,eqB,Nat.add_assoc nid,↓reduceIte,simprocAttr,LN_succ]
    refine ⟨by unfold inI64; omega,k+1,⟨by omega,by omega⟩,?_⟩
    refine Cov.go [] [] ?_
    simp [cvT,step,res,ColsEq.refl,MEq.refl]
  ·have hkn:k=D.length:=by omega
   subst hkn
   rw [List.take_length]
   refine ⟨(),?_⟩
   unfold NH
   refine Cov.go [] [] ?_
   simp [cvT,step,res,ColsEq.refl,MEq.refl]
 refine SR.run (t:=.mk) ?_
 unfold NH
 simp -dsimp only [aqA,↓seqK,↓blkK,↓loopK,step,stepBin,eqB,Nat.add_assoc nid,↓reduceIte,simprocAttr,LN_succ]
 refine ⟨(),RetOKW.go [] [] (.inl rfl) ?_⟩
 have hnm:=new_maps he f
 have hlen:=portsK_len D f D.length
 have hat:=fun j (hj:j<D.length)=>pGet (portsK_at (f:=f) hj)
 generalize portsK D f D.length=P at *
 unfold RH
 simp [a26,cvT,step,res,ColsEq.refl,-List.getD_eq_getElem?_getD]
 exact ⟨ColEq.s fun j hj=>by rw [hat j hj]; rfl,ColEq.s fun j hj=>by rw [hat j hj]; rfl,fun q _=>⟨(hnm q).1.1,fun hd=>by simp [mVal,(hnm q).1.2 hd]⟩,fun q _=>⟨(hnm q).2.1,fun hd=>by simp [mVal,(hnm q).2.2 hd]⟩⟩
end Go.Proofs.YtahjohieahehjaaGreatDoor
namespace Go.Proofs.YtahjohieahehjaaGreatDoor
open Go.RowKit
theorem lowH_list {H:Heap} {n:Nat}:∀ {l:List Nat},(∀ id∈l,id<n∧lowBlk n (getH H id)=true)→lowH H n l=true
 | [],_=>rfl
 | x::l,h=>by
  have h1:=h x List.mem_cons_self
  simp only [lowH,Bool.and_eq_true,decide_eq_true_eq]
  exact ⟨h1,lowH_list fun id hid=>h id (List.mem_cons_of_mem _ hid)⟩
theorem lowH_frame {b n:Nat} {Hs X:Heap} (hs:Scoped b Hs) (hb:b≤n) (hX:X.all (fun x=>decide (b≤x.1))=true):lowH (X++Hs) n (List.map (fun x=>x.1) Hs)=true:=by
 refine lowH_list fun id hid=>?_
 have hid':id∈keys Hs:=hid
 have hlt:=hs.lt id hid'
 have hno:(keys X).contains id=false:=by
  cases hc:(keys X).contains id
  ·rfl
  ·have:id∈keys X:=by simpa using hc
   simp only [keys,List.mem_map] at this
   obtain ⟨x,hx,rfl⟩:=this
   have:=List.all_eq_true.1 hX x hx
   simp only [decide_eq_true_eq] at this
   omega
 rw [getH_appC,hno]
 simp only [cond_false]
 refine ⟨by omega,?_⟩
 cases hg:getH Hs id with
 | none=>rfl
 | some y=>exact (hs.mono hb).blk id y hg
theorem lowBlk_of {b n:Nat} {Hs:Heap} (hs:Scoped b Hs) (hb:b≤n) (id:Nat):lowBlk n (getH Hs id)=true:=by
 cases hg:getH Hs id with
 | none=>rfl
 | some y=>exact (hs.mono hb).blk id y hg
set_option maxHeartbeats 16000000 in
theorem runOf_c (n0:Bool) (n1 n2:Nat→Bool) (D:List Dev) (t d:Bs) (nid:Nat) (hD0:0<D.length) (hD:D.length≤1000) (hS:∀ x∈D,DevS x) (he:devsE D=0) (hf:runFault t d=0) :
  ACall Tryz.prog 19 [.lit n0 D.length (devP n1 n2 D),.str t,.str d] [] nid (.str (runV ⟨0,portsN D⟩ t d)) []:=by
 obtain ⟨h1,h2,h3,h4⟩:=runFault_ok hf
 refine acall_sr c19 (by simp [a19]) ?_
 unfold a19
 refine SR.seq ?_
 simp -dsimp only [aqA,↓seqK,↓blkK,↓loopK,step,stepBin,eqB,Nat.add_assoc nid,↓reduceIte,simprocAttr,LN_succ]
 refine SR.seqMvCallW (k:=5) (Hs:=[]) (by omega) (fun id b h=>by cases h) (newPort_I n0 n1 n2 D (fun _=>false,fun _=>false) (nid+8) hD hS he) (fun _ _=>?_)
 have hpe:portsK D (fun _=>false,fun _=>false) D.length=portsN D:=rfl
 rw [hpe]
 have hok:ChOk D.length ⟨0,portsN D⟩:=portsK_ok he _
 have hR0:RelR D (portsN D):=portsK_R he hS _
 have hs:=RH_scoped (nid+8) (nid+20) n0 n1 n2 D 0 (portsN D) (by omega)
 simp -dsimp only [aqA,↓seqK,↓blkK,↓loopK,step,stepBin,eqB,Nat.add_assoc nid,↓reduceIte,simprocAttr,LN_succ]
 refine SR.cov (t':=.mk) (st':=⟨[(7,.ptr (nid+8) 0),(1,.str t),(2,.str d)],RH (nid+8) n0 n1 n2 D 0 (portsN D),nid+100,nid⟩) ?_ ?_
 ·generalize RH (nid+8) n0 n1 n2 D 0 (portsN D)=Hs at *
  refine Cov.wholeG (nid+20) (by omega) hs (subH_refl _) (by omega) ?_
  simp [cvT,step,res]
 refine SR.seq ?_
 simp -dsimp only [aqA,↓seqK,↓blkK,↓loopK,step,stepBin,eqB,Nat.add_assoc nid,↓reduceIte,simprocAttr,LN_succ]
 obtain ⟨x,hx⟩:∃ x:ChV,(⟨0,portsN D⟩:ChV)=x:=⟨_,rfl⟩
 have hx1:RH (nid+8) n0 n1 n2 D 0 (portsN D)=RH (nid+8) n0 n1 n2 D x.st x.P:=by rw [← hx]
 have hxR:RelR D x.P:=by rw [← hx]; exact hR0
 rw [hx] at hok ⊢
 rw [hx1] at hs ⊢
 clear hx1
 have hsc:∀ (y:ChV),Scoped (nid+20) (RH (nid+8) n0 n1 n2 D y.st y.P):=fun y=>RH_scoped (nid+8) (nid+20) n0 n1 n2 D y.st y.P (by omega)
 refine SR.seqW (ι:=Unit) (fun _=>⟨[(8,.str (runV x t d))],[],nid+90000,nid⟩) ?_ (fun _=>?_)
 ·refine SR.seqTo ⟨[(15,.int .i64 0),(14,.int .i64 t.length),(8,.str []),(7,.ptr (nid+8) 0),(1,.str t),(2,.str d)],RH (nid+8) n0 n1 n2 D x.st x.P,nid+200,nid⟩ ?_ ?_
  ·generalize RH (nid+8) n0 n1 n2 D x.st x.P=Hs at *
   simp -dsimp only [aqA,↓seqK,↓blkK,↓loopK,step,stepBin,eqB,Nat.add_assoc nid,↓reduceIte,simprocAttr,LN_succ]
   refine Cov.wholeG (nid+20) (by omega) hs (subH_refl _) (by omega) ?_
   simp [cvT,step,res]
  refine SR.block ?_
  refine SR.loopP (fun k:Nat=>k≤t.length) (fun k=>⟨[(15,.int .i64 (k:Nat)),(14,.int .i64 t.length),(8,.str ((List.range k).map (runC x t d))),(7,.ptr (nid+8) 0),(1,.str t),(2,.str d)],RH (nid+8) n0 n1 n2 D (runTo x t d k).st (runTo x t d k).P,nid+300,nid⟩) (fun k=>t.length+1 - k) 0 (by omega) ?_ (fun k hk=>?_)
  ·show Cov _ ⟨_,RH (nid+8) n0 n1 n2 D x.st x.P,_,_⟩
   generalize RH (nid+8) n0 n1 n2 D x.st x.P=Hs at *
   refine Cov.wholeG (nid+20) (by omega) hs (subH_refl _) (by omega) ?_
   simp [cvT,step,res]
  refine SR.run (t:=.mk) ?_
  by_cases h5:((k:Nat):Int)<(t.length:Nat)
  ·have hkl:k<t.length:=by omega
   have hbt:=bits_at h3 hkl
   have hbd:=bits_at h4 (k:=k) (by omega)
   have hkO:=runs_ok hok h3 h4 h2 k (by omega)
   have hkR:=runs_R hok hxR h3 h4 h2 k (by omega)
   have hck:=fun m (hm:nid+13≤m)=>clock_R (nid+8) m n0 n1 n2 D (runTo x t d k).st (runTo x t d k).P (bitM (t.getD k 0)) (d.getD k 0) (by omega) hkR hkO.st (bitM_lt hbt).1 hbd hD
   have hs2:=hsc (runTo x t d (k+1))
   have hs1:=hsc (runTo x t d k)
   have hob:=runC_bit hok h3 h4 h2 hkl
   have e2:RH (nid+8) n0 n1 n2 D (nextN (runTo x t d k).st (bitM (t.getD k 0))) (clockP (runTo x t d k).st (runTo x t d k).P (d.getD k 0)).1=RH (nid+8) n0 n1 n2 D (runTo x t d (k+1)).st (runTo x t d (k+1)).P:=rfl
   have e3:(clockP (runTo x t d k).st (runTo x t d k).P (d.getD k 0)).2=tickO (runTo x t d k) (d.getD k 0):=rfl
   rw [e2,e3] at hck
   have hw1:=bitW8 hbt
   have hw2:=bitW8 hbd
   have hrc:runC x t d k=if shifts (runTo x t d k).st=true then tickO (runTo x t d k) (d.getD k 0) else 122:=rfl
   have hld:=RH0 (nid+8) n0 n1 n2 D (runTo x t d k).st (runTo x t d k).P
   generalize hH2:RH (nid+8) n0 n1 n2 D (runTo x t d (k+1)).st (runTo x t d (k+1)).P=Hs2 at *
   generalize RH (nid+8) n0 n1 n2 D (runTo x t d k).st (runTo x t d k).P=Hs at *
   generalize tickO (runTo x t d k) (d.getD k 0)=bo at *
   generalize (runTo x t d k).st=st at *
   simp -dsimp only [aqA,↓seqK,↓blkK,↓loopK,step,stepBin,eqB,Nat.add_assoc nid,↓reduceIte,simprocAttr,LN_succ]
   refine S2.dec (fun _=>?_) (fun h=>absurd h5 h)
   simp -dsimp only [aqA,↓seqK,↓blkK,↓loopK,step,stepBin,eqB,Nat.add_assoc nid,↓reduceIte,simprocAttr,LN_succ]
   refine ⟨⟨by omega,by omega⟩,⟨by omega,by omega⟩,?_⟩
   rw [hw1,hw2]
   refine CallX.on (hck _ (by omega)) (subH_refl _) ?_
   simp -dsimp only [aqA,↓seqK,↓blkK,↓loopK,step,stepBin,eqB,Nat.add_assoc nid,↓reduceIte,simprocAttr,LN_succ]
   have e5:(List.range (k+1)).map (runC x t d)=(List.range k).map (runC x t d)++[runC x t d k]:=by rw [List.range_succ,List.map_append]; rfl
   have hbit:=bitM_lt hob
   have hbb:UInt8.ofNat (48+bitM bo)=bo:=by
    rw [← hbit.2]
    simp
   refine ⟨?_,?_⟩
   ·rw [hld,Bool.and_eq_true]
    exact ⟨(hs1.mono (by omega)).blk (nid+8) _ hld,lowH_frame (X:=[]) hs1 (by omega) rfl⟩
   cases hsf:shifts st
   ·have ho:outB1 st bo = -1:=by unfold outB1; rw [if_neg (by rw [hsf]; simp)]
    rw [if_neg (by rw [hsf]; simp)] at hrc
    rw [ho]
    refine S2.dec (fun h=>absurd h (by omega)) (fun _=>?_)
    simp -dsimp only [aqA,↓seqK,↓blkK,↓loopK,step,stepBin,eqB,Nat.add_assoc nid,↓reduceIte,simprocAttr,LN_succ]
    refine ⟨by simp; omega,by unfold inI64; omega,k+1,⟨by omega,by omega⟩,?_⟩
    rw [hH2,e5,hrc]
    refine Cov.wholeG (nid+20) (by omega) hs2 (subH_front _ _) (by omega) ?_
    simp [cvT,step,res]
   ·have ho:outB1 st bo=(bitM bo:Nat):=by unfold outB1; rw [if_pos hsf]
    rw [if_pos hsf] at hrc
    rw [ho]
    refine S2.dec (fun _=>?_) (fun h=>absurd (by omega) h)
    simp -dsimp only [aqA,↓seqK,↓blkK,↓loopK,step,stepBin,eqB,Nat.add_assoc nid,↓reduceIte,simprocAttr,LN_succ]
    refine CallO.pure (itoa_cc (bitM bo) _ (by omega)) ?_
    rw [bitS hbit.1,hbb]
    simp -dsimp only [aqA,↓seqK,↓blkK,↓loopK,step,stepBin,eqB,Nat.add_assoc nid,↓reduceIte,simprocAttr,LN_succ]
    refine ⟨by simp; omega,by unfold inI64; omega,k+1,⟨by omega,by omega⟩,?_⟩
    rw [hH2,e5,hrc]
    refine Cov.wholeG (nid+20) (by omega) hs2 (subH_front _ _) (by omega) ?_
    simp [cvT,step,res]
  ·have hkn:k=t.length:=by omega
   subst hkn
   simp -dsimp only [aqA,↓seqK,↓blkK,↓loopK,step,stepBin,eqB,Nat.add_assoc nid,↓reduceIte,simprocAttr,LN_succ]
   refine S2.dec (fun h=>absurd h h5) (fun _=>?_)
   simp -dsimp only [aqA,↓seqK,↓blkK,↓loopK,step,stepBin,eqB,Nat.add_assoc nid,↓reduceIte,simprocAttr,LN_succ]
   refine ⟨(),Cov.go [] [] ?_⟩
   simp [cvT,step,res,runV]
 refine SR.run (t:=.mk) ?_
 simp -dsimp only [aqA,↓seqK,↓blkK,↓loopK,step,stepBin,eqB,Nat.add_assoc nid,↓reduceIte,simprocAttr,LN_succ]
 refine RetOK.go [] [] (.inl rfl) ?_
 simp [a19,cvT,step,res]
end Go.Proofs.YtahjohieahehjaaGreatDoor
namespace Go.Proofs.YtahjohieahehjaaGreatDoor
open Go.RowKit
set_option maxHeartbeats 4000000 in
theorem new_bad (n0:Bool) (n1 n2:Nat→Bool) (D:List Dev) (nid:Nat) (hD:D.length≤1000) (hS:∀ d∈D,DevS d) (he:devsE D≠0) :
  ACall Tryz.prog 25 [.lit n0 D.length (devP n1 n2 D)] [] nid (.tup [.nilp,.int .i64 (devsE D)]) []:=by
 have hck:=fun m=>checkDevices_c n0 n1 n2 D m hD hS
 have hb:(devsE D != 0)=true:=by rw [bne_iff_ne]; exact he
 refine acall_sr c25 (by simp [a25]) ?_
 unfold a25
 refine SR.seq ?_
 simp -dsimp only [aqA,↓seqK,↓blkK,↓loopK,step,stepBin,eqB,Nat.add_assoc nid,↓reduceIte,simprocAttr,LN_succ]
 refine SR.seq ?_
 simp -dsimp only [aqA,↓seqK,↓blkK,↓loopK,step,stepBin,eqB,Nat.add_assoc nid,↓reduceIte,simprocAttr,LN_succ]
 refine CallO.pure (hck _) ?_
 simp -dsimp only [aqA,↓seqK,↓blkK,↓loopK,step,stepBin,eqB,Nat.add_assoc nid,↓reduceIte,simprocAttr,LN_succ,hb]
 refine RetOK.go [] [] (.inl rfl) ?_
 simp [a25,cvT,step,res]
set_option maxHeartbeats 16000000 in
theorem tapRun_bad (n0:Bool) (n1 n2:Nat→Bool) (D:List Dev) (t d:Bs) (nid:Nat) (hD:D.length≤1000) (hS:∀ d∈D,DevS d) (he:devsE D≠0) :
  ACall Tryz.prog 15 [.lit n0 D.length (devP n1 n2 D),.str t,.str d] [] nid (.tup [.str [],.int .i64 (devsE D)]) []:=by
 have hb:(devsE D != 0)=true:=by rw [bne_iff_ne]; exact he
 have hnb:=fun m=>new_bad n0 n1 n2 D m hD hS he
 refine acall_sr c15 (by simp [a15]) ?_
 unfold a15
 refine SR.seq ?_
 simp -dsimp only [aqA,↓seqK,↓blkK,↓loopK,step,stepBin,eqB,Nat.add_assoc nid,↓reduceIte,simprocAttr,LN_succ]
 refine SR.seqTo ⟨[(9,.int .i64 (devsE D))],[],nid+100,nid⟩ ?_ ?_
 ·simp -dsimp only [aqA,↓seqK,↓blkK,↓loopK,step,stepBin,eqB,Nat.add_assoc nid,↓reduceIte,simprocAttr,LN_succ]
  refine CallO.pure (hnb _) ?_
  simp -dsimp only [aqA,↓seqK,↓blkK,↓loopK,step,stepBin,eqB,Nat.add_assoc nid,↓reduceIte,simprocAttr,LN_succ]
  refine Cov.go [] [] ?_
  simp [cvT,step,res]
 refine SR.seq ?_
 simp -dsimp only [aqA,↓seqK,↓blkK,↓loopK,step,stepBin,eqB,Nat.add_assoc nid,↓reduceIte,simprocAttr,LN_succ,hb]
 refine RetOK.go [] [] (.inl rfl) ?_
 simp [a15,cvT,step,res]
set_option maxHeartbeats 16000000 in
theorem tapRun_c (n0:Bool) (n1 n2:Nat→Bool) (D:List Dev) (t d:Bs) (nid:Nat) (hD0:0<D.length) (hD:D.length≤3) (hS:∀ d∈D,DevS d) (he:devsE D=0) (hlt:t.length≤1099511627776) (hld:d.length≤1099511627776) :
  ACall Tryz.prog 15 [.lit n0 D.length (devP n1 n2 D),.str t,.str d] [] nid (.tup [.str (if runFault t d=0 then runV ⟨0,portsN D⟩ t d else []),.int .i64 (runFault t d)]) []:=by
 have hR:=devR_of he
 have hS2:∀ d∈D,DevS d∧∀ r∈d.regs,0≤r.2∧r.2≤1000:=fun d hd=>⟨hS d hd,fun r hr=>by have:=(hR d hd).rs r hr; omega⟩
 refine acall_sr c15 (by simp [a15]) ?_
 unfold a15
 refine SR.seqTo ⟨[(0,.lit n0 D.length (devP n1 n2 D)),(1,.str t),(2,.str d)],[],nid+200,nid⟩ ?_ ?_
 ·simp -dsimp only [aqA,↓seqK,↓blkK,↓loopK,step,stepBin,eqB,Nat.add_assoc nid,↓reduceIte,simprocAttr,LN_succ]
  refine Cov.go [] [] ?_
  simp [cvT,step,res,ColsEq.refl]
 refine SR.seqMvCallW (k:=11) (Hs:=[]) (by omega) (fun id b h=>by cases h) (new_I n0 n1 n2 D (nid+204) hD0 hD hS2 he) (fun f _=>?_)
 have hok:=portsK_ok he f
 rw [← runV_new D f t d]
 have hch:chainH (nid+204) 0 (portsK D f D.length)=chH (nid+204) ⟨0,portsK D f D.length⟩:=rfl
 rw [hch]
 generalize hy:(⟨0,portsK D f D.length⟩:ChV)=x at *
 have hsc:∀ (z:ChV),ChOk D.length z→∀ m,nid+215≤m→Scoped m (chH (nid+204) z):=fun z hz m hm=>chainH_scoped (nid+204) m z.st z.P (by rw [hz.len]; exact hD) hm
 have hs:=hsc x hok (nid+300) (by omega)
 simp -dsimp only [aqA,↓seqK,↓blkK,↓loopK,step,stepBin,eqB,Nat.add_assoc nid,↓reduceIte,simprocAttr,LN_succ]
 refine SR.cov (t':=.mk) (st':=⟨[(8,.ptr (nid+204) 0),(9,.int .i64 0),(1,.str t),(2,.str d)],chH (nid+204) x,nid+400,nid⟩) ?_ ?_
 ·generalize chH (nid+204) x=Hs at *
  refine Cov.wholeG (nid+300) (by omega) hs (subH_refl _) (by omega) ?_
  simp [cvT,step,res,ColsEq.refl]
 refine SR.seqTo ⟨[(8,.ptr (nid+204) 0),(1,.str t),(2,.str d)],chH (nid+204) x,nid+450,nid⟩ ?_ ?_
 ·generalize chH (nid+204) x=Hs at *
  simp -dsimp only [aqA,↓seqK,↓blkK,↓loopK,step,stepBin,eqB,Nat.add_assoc nid,↓reduceIte,simprocAttr,LN_succ]
  refine Cov.wholeG (nid+300) (by omega) hs (subH_refl _) (by omega) ?_
  simp [cvT,step,res,ColsEq.refl]
 have hbt:=fun m=>bits_c t m hlt
 have hbd:=fun m=>bits_c d m hld
 refine SR.seqW (ι:={_x:Unit // runFault t d=0}) (fun _=>⟨[(8,.ptr (nid+204) 0),(1,.str t),(2,.str d)],chH (nid+204) x,nid+550,nid⟩) ?_ (fun ⟨_,hf⟩=>?_)
 ·generalize chH (nid+204) x=Hs at *
  refine SR.block ?_
  refine SR.run (t:=.mk) ?_
  have q1:decide ((20000:Int)<(t.length:Nat))=decide (20000<t.length):=by rw [Bool.eq_iff_iff]; simp; omega
  have q2:decide ((20000:Int)<(d.length:Nat))=decide (20000<d.length):=by rw [Bool.eq_iff_iff]; simp; omega
  have q3:((((t.length:Nat):Int)) != (d.length:Nat))=!decide (t.length=d.length):=by rw [Bool.eq_iff_iff]; simp; omega
  by_cases h1:20000<t.length
  ·have hv:runFault t d=2:=by unfold runFault; rw [if_pos (.inl h1)]
   rw [decide_eq_true h1] at q1
   simp -dsimp only [aqA,↓seqK,↓blkK,↓loopK,step,stepBin,eqB,Nat.add_assoc nid,↓reduceIte,simprocAttr,LN_succ,q1]
   rw [hv,if_neg (by decide)]
   refine RetOK.go [] [] (.inl rfl) ?_
   simp [a15,cvT,step,res]
  rw [decide_eq_false h1] at q1
  by_cases h2:20000<d.length
  ·have hv:runFault t d=2:=by unfold runFault; rw [if_pos (.inr h2)]
   rw [decide_eq_true h2] at q2
   simp -dsimp only [aqA,↓seqK,↓blkK,↓loopK,step,stepBin,eqB,Nat.add_assoc nid,↓reduceIte,simprocAttr,LN_succ,q1,q2]
   rw [hv,if_neg (by decide)]
   refine RetOK.go [] [] (.inl rfl) ?_
   simp [a15,cvT,step,res]
  rw [decide_eq_false h2] at q2
  by_cases h3:t.length=d.length
  ·rw [decide_eq_true h3,Bool.not_true] at q3
   have hv0:runFault t d=if bitsOk t=true∧bitsOk d=true then 0 else 9:=by unfold runFault; rw [if_neg (by omega),if_neg (by omega)]
   simp -dsimp only [aqA,↓seqK,↓blkK,↓loopK,step,stepBin,eqB,Nat.add_assoc nid,↓reduceIte,simprocAttr,LN_succ,q1,q2,q3]
   refine CallO.pure (hbt _) ?_
   cases h4:bitsOk t
   ·have hv:runFault t d=9:=by rw [hv0,if_neg (by rw [h4]; simp)]
    simp -dsimp only [aqA,↓seqK,↓blkK,↓loopK,step,stepBin,eqB,Nat.add_assoc nid,↓reduceIte,simprocAttr,LN_succ]
    rw [hv,if_neg (by decide)]
    refine RetOK.go [] [] (.inl rfl) ?_
    simp [a15,cvT,step,res]
   simp -dsimp only [aqA,↓seqK,↓blkK,↓loopK,step,stepBin,eqB,Nat.add_assoc nid,↓reduceIte,simprocAttr,LN_succ]
   refine CallO.pure (hbd _) ?_
   cases h5:bitsOk d
   ·have hv:runFault t d=9:=by rw [hv0,if_neg (by rw [h5]; simp)]
    simp -dsimp only [aqA,↓seqK,↓blkK,↓loopK,step,stepBin,eqB,Nat.add_assoc nid,↓reduceIte,simprocAttr,LN_succ]
    rw [hv,if_neg (by decide)]
    refine RetOK.go [] [] (.inl rfl) ?_
    simp [a15,cvT,step,res]
   simp -dsimp only [aqA,↓seqK,↓blkK,↓loopK,step,stepBin,eqB,Nat.add_assoc nid,↓reduceIte,simprocAttr,LN_succ]
   refine ⟨⟨(),by rw [hv0,if_pos ⟨h4,h5⟩]⟩,?_⟩
   refine Cov.wholeG (nid+300) (by omega) hs (subH_refl _) (by omega) ?_
   simp [cvT,step,res,ColsEq.refl]
  ·have hv:runFault t d=3:=by unfold runFault; rw [if_neg (by omega),if_pos h3]
   rw [decide_eq_false h3,Bool.not_false] at q3
   simp -dsimp only [aqA,↓seqK,↓blkK,↓loopK,step,stepBin,eqB,Nat.add_assoc nid,↓reduceIte,simprocAttr,LN_succ,q1,q2,q3]
   rw [hv,if_neg (by decide)]
   refine RetOK.go [] [] (.inl rfl) ?_
   simp [a15,cvT,step,res]
 obtain ⟨h1,h2,h3,h4⟩:=runFault_ok hf
 refine SR.seq ?_
 simp -dsimp only [aqA,↓seqK,↓blkK,↓loopK,step,stepBin,eqB,Nat.add_assoc nid,↓reduceIte,simprocAttr,LN_succ]
 refine SR.seqW (ι:=Unit) (fun _=>⟨[(10,.sl (nid+700) 0 t.length)],[(nid+700,some (.arr 5 t.length [.i .u8 fun j=>((runC x t d j).toNat:Nat)]))],nid+90000,nid⟩) ?_ (fun _=>?_)
 ·refine SR.seqTo ⟨[(47,.int .i64 0),(46,.int .i64 t.length),(10,.lit true 0 []),(8,.ptr (nid+204) 0),(1,.str t),(2,.str d)],chH (nid+204) x,nid+650,nid⟩ ?_ ?_
  ·generalize chH (nid+204) x=Hs at *
   simp -dsimp only [aqA,↓seqK,↓blkK,↓loopK,step,stepBin,eqB,Nat.add_assoc nid,↓reduceIte,simprocAttr,LN_succ]
   refine Cov.wholeG (nid+300) (by omega) hs (subH_refl _) (by omega) ?_
   simp [cvT,step,res,ColsEq.refl]
  refine SR.block ?_
  refine SR.loopP (fun k:Nat=>k≤t.length) (fun k=>⟨[(47,.int .i64 (k:Nat)),(46,.int .i64 t.length),(10,.sl (nid+700) 0 k),(8,.ptr (nid+204) 0),(1,.str t),(2,.str d)],[(nid+700,some (.arr 5 k [.i .u8 fun j=>((runC x t d j).toNat:Nat)]))]++chH (nid+204) (runTo x t d k),nid+1000,nid⟩) (fun k=>t.length+1 - k) 0 (by omega) ?_ (fun k hk=>?_)
  ·show Cov _ ⟨_,[(nid+700,_)]++chH (nid+204) x,_,_⟩
   generalize chH (nid+204) x=Hs at *
   refine Cov.goG (nid+300) Hs [] [(nid+700,_)] [] [(nid+700,1)] (by omega) hs (by simp [kOK]) (by simp) ?_
   simp [cvT,step,res,ColsEq.refl]
  have hkO:=runs_ok hok h3 h4 h2 k (by omega)
  have hs1:=hsc _ hkO (nid+300) (by omega)
  refine SR.seq ?_
  simp -dsimp only [aqA,↓seqK,↓blkK,↓loopK,step,stepBin,eqB,Nat.add_assoc nid,↓reduceIte,simprocAttr,LN_succ]
  refine SR.seq ?_
  simp -dsimp only [aqA,↓seqK,↓blkK,↓loopK,step,stepBin,eqB,Nat.add_assoc nid,↓reduceIte,simprocAttr,LN_succ]
  refine S2.dec (fun h5=>?_) (fun h5=>?_) <;> simp -dsimp only [aqA,↓seqK,↓blkK,↓loopK,step,stepBin,eqB,Nat.add_assoc nid,↓reduceIte,simprocAttr,LN_succ]
  ·have hkl:k<t.length:=by omega
   have hbt:=bits_at h3 hkl
   have hbd:=bits_at h4 (k:=k) (by omega)
   have hkO2:=runs_ok hok h3 h4 h2 (k+1) (by omega)
   have hs2:=hsc _ hkO2 (nid+300) (by omega)
   have hck:=fun m (hm:nid+215≤m)=>tick_c (runTo x t d k) (bitM (t.getD k 0)) (d.getD k 0) D.length (nid+204) m (by omega) (bitM_lt hbt).1 hbd hkO hD0 hD
   have hob:=runC_bit hok h3 h4 h2 hkl
   have e2:chH (nid+204) (tickV nextN (runTo x t d k) (bitM (t.getD k 0)) (d.getD k 0))=chH (nid+204) (runTo x t d (k+1)):=rfl
   rw [e2] at hck
   have hw1:=bitW8 hbt
   have hw2:=bitW8 hbd
   have hrc:runC x t d k=if shifts (runTo x t d k).st=true then tickO (runTo x t d k) (d.getD k 0) else 122:=rfl
   generalize hH2:chH (nid+204) (runTo x t d (k+1))=Hs2 at *
   generalize chH (nid+204) (runTo x t d k)=Hs at *
   generalize tickO (runTo x t d k) (d.getD k 0)=bo at *
   generalize (runTo x t d k).st=st at *
   refine SR.seqW (ι:=Unit) (fun _=>⟨[(47,.int .i64 (k:Nat)),(46,.int .i64 t.length),(10,.sl (nid+700) 0 (k+1)),(8,.ptr (nid+204) 0),(1,.str t),(2,.str d)],[(nid+700,some (.arr 5 (k+1) [.i .u8 fun j=>((runC x t d j).toNat:Nat)]))]++Hs2,nid+3000,nid⟩) ?_ (fun _=>?_)
   ·refine SR.block ?_
    refine SR.seq ?_
    simp -dsimp only [aqA,↓seqK,↓blkK,↓loopK,step,stepBin,eqB,Nat.add_assoc nid,↓reduceIte,simprocAttr,LN_succ]
    refine SR.seqTo ⟨[(12,.int .i64 (outB1 st bo)),(47,.int .i64 (k:Nat)),(46,.int .i64 t.length),(10,.sl (nid+700) 0 k),(8,.ptr (nid+204) 0),(1,.str t),(2,.str d)],[(nid+700,some (.arr 5 k [.i .u8 fun j=>((runC x t d j).toNat:Nat)]))]++Hs2,nid+2000,nid⟩ ?_ ?_
    ·simp -dsimp only [aqA,↓seqK,↓blkK,↓loopK,step,stepBin,eqB,Nat.add_assoc nid,↓reduceIte,simprocAttr,LN_succ]
     refine ⟨⟨by omega,by omega⟩,⟨by omega,by omega⟩,?_⟩
     rw [hw1,hw2]
     refine CallX.on (hck _ (by omega)) (subH_frame (X:=[_]) hs1 (by simp [kOK])) ?_
     simp -dsimp only [aqA,↓seqK,↓blkK,↓loopK,step,stepBin,eqB,Nat.add_assoc nid,↓reduceIte,simprocAttr,LN_succ]
     refine ⟨?_,?_⟩
     ·rw [Bool.and_eq_true]
      exact ⟨lowBlk_of hs1 (by omega) _,lowH_frame (X:=[_]) hs1 (by omega) (by simp)⟩
     refine Cov.trans (Cov.heap (subH_mix1 _ hs2 (by omega))) (Cov.goG (nid+300) Hs2 [(nid+700,_)] [(nid+700,_)] [] [] (by omega) hs2 (by simp [kOK]) (by simp) ?_)
     simp [cvT,step,res,ColsEq.refl]
    refine SR.run (t:=.mk) ?_
    have hcol:∀ v:Int,v=((runC x t d k).toNat:Nat)→ColEq (k+1) (.i .u8 fun i=>if i<k then ((runC x t d i).toNat:Nat) else [v].getD (i - k) 0) (.i .u8 fun j=>((runC x t d j).toNat:Nat)):=fun v hv=>ColEq.i fun j hj=>by
     by_cases hjk:j<k
     ·rw [if_pos hjk]
     ·have e:j=k:=by omega
      rw [if_neg hjk,e,Nat.sub_self,← hv]
      rfl
    have hbit:=bitM_lt hob
    cases hsf:shifts st
    ·have ho:outB1 st bo = -1:=by unfold outB1; rw [if_neg (by rw [hsf]; simp)]
     rw [if_neg (by rw [hsf]; simp)] at hrc
     rw [ho]
     simp -dsimp only [aqA,↓seqK,↓blkK,↓loopK,step,stepBin,eqB,Nat.add_assoc nid,↓reduceIte,simprocAttr,LN_succ]
     refine ⟨⟨by omega,by omega⟩,(),Cov.goG (nid+300) Hs2 [_,_,_,_] [_] [(nid+700,nid+2016)] [] (by omega) hs2 (by simp [kOK]) (by simp) ?_⟩
     simp [cvT,step,res,ColsEq.refl]
     exact hcol 122 (by rw [hrc]; rfl)
    ·have ho:outB1 st bo=(bitM bo:Nat):=by unfold outB1; rw [if_pos hsf]
     rw [if_pos hsf] at hrc
     rw [ho]
     simp -dsimp only [aqA,↓seqK,↓blkK,↓loopK,step,stepBin,eqB,Nat.add_assoc nid,↓reduceIte,simprocAttr,LN_succ]
     refine S2.dec (fun h=>absurd h (by omega)) (fun _=>?_)
     simp -dsimp only [aqA,↓seqK,↓blkK,↓loopK,step,stepBin,eqB,Nat.add_assoc nid,↓reduceIte,simprocAttr,LN_succ]
     refine ⟨by unfold inI64; omega,⟨by omega,by omega⟩,(),Cov.goG (nid+300) Hs2 [_,_,_,_] [_] [(nid+700,nid+2028)] [] (by omega) hs2 (by simp [kOK]) (by simp) ?_⟩
     simp [cvT,step,res,ColsEq.refl]
     exact hcol _ (by rw [hrc]; exact outByte hob)
   ·refine SR.run (t:=.mk) ?_
    simp -dsimp only [aqA,↓seqK,↓blkK,↓loopK,step,stepBin,eqB,Nat.add_assoc nid,↓reduceIte,simprocAttr,LN_succ]
    refine ⟨by unfold inI64; omega,k+1,⟨by omega,by omega⟩,?_⟩
    rw [hH2]
    refine Cov.goG (nid+300) Hs2 [(nid+700,_)] [(nid+700,_)] [] [] (by omega) hs2 (by simp [kOK]) (by simp) ?_
    simp [cvT,step,res,ColsEq.refl]
  ·have hkn:k=t.length:=by omega
   rw [hkn]
   refine ⟨(),?_⟩
   generalize chH (nid+204) (runTo x t d t.length)=Hs at *
   refine Cov.go [] [] ?_
   simp [cvT,step,res,ColsEq.refl]
 rw [hf,if_pos rfl]
 refine SR.run (t:=.mk) ?_
 simp -dsimp only [aqA,↓seqK,↓blkK,↓loopK,step,stepBin,eqB,Nat.add_assoc nid,↓reduceIte,simprocAttr,LN_succ]
 refine RetOK.go [] [] (.inl rfl) ?_
 simp [a15,cvT,step,res,runV]
end Go.Proofs.YtahjohieahehjaaGreatDoor
namespace Go.Proofs.YtahjohieahehjaaGreatDoor
open Go.RowKit
theorem idTo_max {l:Bs} (hl:l.all oneBit=true):∀ k,k≤l.length→(idTo l k=2 ^ k - 1↔l.take k=List.replicate k 49)
 | 0,_=>by simp [idTo]
 | k+1,hk=>by
  have ih:=idTo_max hl k (by omega)
  have hlt:=idTo_lt (l:=l) (fun j=>by
   rcases Nat.lt_or_ge j l.length with hj | hj
   ·exact .inl (bitM_lt (bits_at hl hj)).1
   ·exact .inr hj) k (by omega)
  have hb:=bits_at hl (k:=k) (by omega)
  have hp:=Nat.two_pow_pos k
  have htk:l.take (k+1)=l.take k++[l.getD k 0]:=by
   rw [List.take_add_one,List.getElem?_eq_getElem (by omega),List.getD_eq_getElem?_getD,List.getElem?_eq_getElem (by omega)]
   rfl
  have hbm:bitM (l.getD k 0)=1↔l.getD k 0=49:=by
   unfold oneBit at hb
   simp only [Bool.or_eq_true,beq_iff_eq] at hb
   rcases hb with h | h <;> rw [h] <;> decide
  have hb2:=(bitM_lt hb).1
  rw [htk,List.replicate_succ']
  have e:idTo l (k+1)=idTo l k+bitM (l.getD k 0) * 2 ^ k:=rfl
  have hpp:2 ^ (k+1)=2 ^ k+2 ^ k:=by rw [Nat.pow_succ]; omega
  have hkey:idTo l (k+1)=2 ^ (k+1) - 1↔idTo l k=2 ^ k - 1∧bitM (l.getD k 0)=1:=by
   rw [e,hpp]
   rcases (by omega:bitM (l.getD k 0)=0∨bitM (l.getD k 0)=1) with h | h <;> rw [h] <;> omega
  rw [hkey,ih,hbm]
  constructor
  ·rintro ⟨h1,h2⟩
   rw [h1,h2]
  ·intro h
   have:=List.append_inj h (by simp; omega)
   exact ⟨this.1,by simpa using this.2⟩
def preB (s p:Bs):Bool:=decide (p.length≤s.length) && (s.take p.length==p)
theorem pre_c (s p:Bs) (nid:Nat):ACall Tryz.prog 121 [.str s,.str p] [] nid (.bool (preB s p)) []:=by
 refine acall_sr c121 (by simp [a121]) ?_
 unfold a121
 refine SR.run (t:=.mk) ?_
 have q:decide (((p.length:Nat):Int)≤(s.length:Nat))=decide (p.length≤s.length):=by rw [Bool.eq_iff_iff]; simp
 unfold preB
 by_cases h:p.length≤s.length
 ·rw [decide_eq_true h] at q ⊢
  simp -dsimp only [aqA,↓seqK,↓blkK,↓loopK,step,stepBin,eqB,Nat.add_assoc nid,↓reduceIte,simprocAttr,LN_succ,q]
  refine ⟨by omega,?_⟩
  refine RetOK.go [] [] (.inl rfl) ?_
  simp [a121,cvT,step,res]
 ·rw [decide_eq_false h] at q ⊢
  simp -dsimp only [aqA,↓seqK,↓blkK,↓loopK,step,stepBin,eqB,Nat.add_assoc nid,↓reduceIte,simprocAttr,LN_succ,q]
  refine RetOK.go [] [] (.inl rfl) ?_
  simp [a121,cvT,step,res]
theorem hasPrefix_c (s p:Bs) (nid:Nat):ACall Tryz.prog 71 [.str s,.str p] [] nid (.bool (preB s p)) []:=by
 refine acall_sr c71 (by simp [a71]) ?_
 unfold a71
 refine SR.run (t:=.mk) ?_
 simp -dsimp only [aqA,↓seqK,↓blkK,↓loopK,step,stepBin,eqB,Nat.add_assoc nid,↓reduceIte,simprocAttr,LN_succ]
 refine CallO.pure (pre_c s p _) ?_
 simp -dsimp only [aqA,↓seqK,↓blkK,↓loopK,step,stepBin,eqB,Nat.add_assoc nid,↓reduceIte,simprocAttr,LN_succ]
 refine RetOK.go [] [] (.inl rfl) ?_
 simp [a71,cvT,step,res]
def ones32:Bs:=List.replicate 32 49
def identA (s:Bs):List Nat × Nat × Int:=if bitsFaultV s=0 then identV s else ([],0,bitsFaultV s)
theorem pre_ones {s:Bs} (hs:s.all oneBit=true):preB s ones32=true↔32≤s.length∧idTo s 32=4294967295:=by
 unfold preB ones32
 simp only [List.length_replicate,Bool.and_eq_true,decide_eq_true_eq,beq_iff_eq]
 constructor
 ·rintro ⟨h1,h2⟩
  exact ⟨h1,(idTo_max hs 32 h1).2 h2⟩
 ·rintro ⟨h1,h2⟩
  exact ⟨h1,(idTo_max hs 32 h1).1 h2⟩
set_option maxHeartbeats 4000000 in
theorem identifyA_c (s:Bs) (nid:Nat) (hs:s.length≤1099511627776) :
  ACall Tryz.prog 21 [.str s] [] nid (.tup [.sl nid 0 (identA s).1.length,.int .i64 ((identA s).2.1:Nat),.int .i64 (identA s).2.2]) [(nid,some (.arr 3 (identA s).1.length [.i .i64 fun i=>((identA s).1.getD i 0:Nat)]))]:=by
 by_cases hf:bitsFaultV s=0
 ·have e:identA s=identV s:=by unfold identA; rw [if_pos hf]
  rw [e]
  exact identify_c s nid hs hf
 ·have e:identA s=([],0,bitsFaultV s):=by unfold identA; rw [if_neg hf]
  have hb:(bitsFaultV s != 0)=true:=by rw [bne_iff_ne]; exact hf
  rw [e]
  refine acall_sr c21 (by simp [a21]) ?_
  unfold a21
  refine SR.seq ?_
  simp -dsimp only [aqA,↓seqK,↓blkK,↓loopK,step,stepBin,eqB,Nat.add_assoc nid,↓reduceIte,simprocAttr,LN_succ]
  refine SR.seq ?_
  simp -dsimp only [aqA,↓seqK,↓blkK,↓loopK,step,stepBin,eqB,Nat.add_assoc nid,↓reduceIte,simprocAttr,LN_succ]
  refine CallO.pure (bitsFaultT_c s _ hs) ?_
  simp -dsimp only [aqA,↓seqK,↓blkK,↓loopK,step,stepBin,eqB,Nat.add_assoc nid,↓reduceIte,simprocAttr,LN_succ,hb]
  refine RetOK.go [] [(nid,1)] (.inl rfl) ?_
  simp [a21,cvT,step,res]
set_option maxHeartbeats 8000000 in
theorem identifiedBy_c (s:Bs) (nid:Nat) (hs:s.length≤1099511627776) :
  ACall Tryz.prog 22 [.str s] [] nid (.tup [.sl nid 0 (identA s).1.length,.int .i64 ((identA s).2.1:Nat),.int .i64 (identA s).2.2]) [(nid,some (.arr 3 (identA s).1.length [.i .i64 fun i=>((identA s).1.getD i 0:Nat)]))]:=by
 by_cases hf:bitsFaultV s=0
 ·have e:identA s=identV s:=by unfold identA; rw [if_pos hf]
  rw [e]
  obtain ⟨hbits,hsl⟩:=bits_ok hf
  refine acall_sr c22 (by simp [a22]) ?_
  unfold a22
  refine SR.seq ?_
  simp -dsimp only [aqA,↓seqK,↓blkK,↓loopK,step,stepBin,eqB,Nat.add_assoc nid,↓reduceIte,simprocAttr,LN_succ]
  refine SR.seqTo ⟨[(0,.str s)],[],nid+20,nid⟩ ?_ ?_
  ·simp -dsimp only [aqA,↓seqK,↓blkK,↓loopK,step,stepBin,eqB,Nat.add_assoc nid,↓reduceIte,simprocAttr,LN_succ]
   refine CallO.pure (tmsFault_c s _ hs) ?_
   rw [hf]
   simp -dsimp only [aqA,↓seqK,↓blkK,↓loopK,step,stepBin,eqB,Nat.add_assoc nid,↓reduceIte,simprocAttr,LN_succ]
   refine Cov.go [] [] ?_
   simp [cvT,step,res]
  refine SR.seq ?_
  simp -dsimp only [aqA,↓seqK,↓blkK,↓loopK,step,stepBin,eqB,Nat.add_assoc nid,↓reduceIte,simprocAttr,LN_succ]
  refine SR.seq ?_
  simp -dsimp only [aqA,↓seqK,↓blkK,↓loopK,step,stepBin,eqB,Nat.add_assoc nid,↓reduceIte,simprocAttr,LN_succ]
  refine SR.seqW (ι:={z:List Nat × Nat // identV s=(if 20<z.1.length then ([],0,2) else (z.1,z.2,0))∧z.2≤s.length∧z.1.length≤z.2}) (fun z=>⟨[(7,.str (s.drop z.1.2)),(6,.sl (nid+300) 0 z.1.1.length),(0,.str s)],[(nid+300,some (.arr 3 z.1.1.length [.i .i64 fun i=>(z.1.1.getD i 0:Nat)]))],nid+9000,nid⟩) ?_ (fun ⟨⟨out,k⟩,he,hk,ho⟩=>?_)
  ·refine SR.block ?_
   refine SR.loopP (fun z:Nat × List Nat × Nat=>(z.2.1.length≤z.2.2∧z.2.2≤s.length∧s.length<z.2.2+z.1)∧identF s z.1 z.2.1 z.2.2=identV s) (fun z=>⟨[(7,.str (s.drop z.2.2)),(6,.sl (nid+300) 0 z.2.1.length),(0,.str s)],[(nid+300,some (.arr 3 z.2.1.length [.i .i64 fun i=>(z.2.1.getD i 0:Nat)]))],nid+400,nid⟩) (fun z=>z.1) (s.length+1,[],0) ⟨⟨by simp,by simp,by simp⟩,rfl⟩ ?_ (fun ⟨f,out,k⟩ hz=>?_)
   ·refine Cov.go [] [(nid+300,1)] ?_
    simp [cvT,step,res,ColsEq.refl]
   obtain ⟨⟨hz1,hz2,hz3⟩,hz4⟩:=hz
   simp only at hz1 hz2 hz3 hz4 ⊢
   obtain ⟨g,rfl⟩:∃ g,f=g+1:=⟨f - 1,by omega⟩
   unfold identF at hz4
   have hdb:(s.drop k).all oneBit=true:=List.all_eq_true.2 fun b hb=>List.all_eq_true.1 hbits b (List.mem_of_mem_drop hb)
   have hdl:(s.drop k).length=s.length - k:=List.length_drop
   have hpo:=pre_ones hdb
   have hd0:∀ i,(s.drop k).getD i 0=s.getD (k+i) 0:=fun i=>by rw [List.getD_eq_getElem?_getD,List.getD_eq_getElem?_getD,List.getElem?_drop]
   have hdk:∀ m,(s.drop k).drop m=s.drop (k+m):=fun m=>by rw [List.drop_drop]
   refine SR.seqW (ι:={_x:Unit // preB (s.drop k) ones32=false}) (fun _=>⟨[(7,.str (s.drop k)),(6,.sl (nid+300) 0 out.length),(0,.str s)],[(nid+300,some (.arr 3 out.length [.i .i64 fun i=>(out.getD i 0:Nat)]))],nid+500,nid⟩) ?_ (fun ⟨_,hpf⟩=>?_)
   ·refine SR.run (t:=.mk) ?_
    simp -dsimp only [aqA,↓seqK,↓blkK,↓loopK,step,stepBin,eqB,Nat.add_assoc nid,↓reduceIte,simprocAttr,LN_succ]
    refine CallO.pure (repeat_cc [49] 32 _ (by omega) (by simp)) ?_
    have rep49:∀ k,Lib.repeatL [49] k=List.replicate k 49:=fun k=>by
     induction k with
     | zero=>rfl
     | succ k ih=>simp [Lib.repeatL,ih,List.replicate_succ]
    rw [rep49,show List.replicate 32 (49:UInt8)=ones32 from rfl]
    simp -dsimp only [aqA,↓seqK,↓blkK,↓loopK,step,stepBin,eqB,Nat.add_assoc nid,↓reduceIte,simprocAttr,LN_succ]
    refine CallO.pure (hasPrefix_c _ _ _) ?_
    cases hpb:preB (s.drop k) ones32
    ·simp -dsimp only [aqA,↓seqK,↓blkK,↓loopK,step,stepBin,eqB,Nat.add_assoc nid,↓reduceIte,simprocAttr,LN_succ]
     refine ⟨⟨(),by first | rfl | exact hpb | trivial⟩,Cov.go [] [] ?_⟩
     simp [cvT,step,res,ColsEq.refl]
    ·simp -dsimp only [aqA,↓seqK,↓blkK,↓loopK,step,stepBin,eqB,Nat.add_assoc nid,↓reduceIte,simprocAttr,LN_succ]
     obtain ⟨g1,g2⟩:=hpo.1 hpb
     have h49:¬ s.getD k 0=48:=fun h=>by
      have h3:=(idTo_max hdb 32 g1).1 g2
      have h4:(s.drop k).getD 0 0=49:=by
       cases hx:s.drop k with
       | nil=>rw [hx] at g1; simp at g1
       | cons a r=>rw [hx] at h3; simp only [List.take_succ_cons,List.replicate_succ,List.cons.injEq] at h3; simp [h3.1]
      rw [hd0,Nat.add_zero] at h4
      rw [h4] at h
      cases h
     rw [if_neg (by omega),if_neg h49,if_neg (by omega),if_pos g2] at hz4
     refine ⟨⟨(out,k),⟨hz4.symm,hz2,hz1⟩⟩,Cov.go [] [] ?_⟩
     simp [cvT,step,res,ColsEq.refl]
   refine SR.block ?_
   by_cases hend:s.length≤k
   ·rw [if_pos hend] at hz4
    have q1:(s.drop k==[])=true:=by rw [List.drop_eq_nil_of_le hend]; rfl
    refine SR.seq ?_
    simp -dsimp only [aqA,↓seqK,↓blkK,↓loopK,step,stepBin,eqB,Nat.add_assoc nid,↓reduceIte,simprocAttr,LN_succ,q1]
    rw [← hz4]
    refine RetOK.go [] [(nid,1)] (.inl rfl) ?_
    simp [a22,cvT,step,res]
   rw [if_neg hend] at hz4
   have q1:(s.drop k==[])=false:=by
    rw [beq_eq_false_iff_ne]
    intro h
    have:=congrArg List.length h
    rw [hdl] at this
    simp at this
    omega
   have hb0:=bits_at hbits (k:=k) (by omega)
   by_cases h48:s.getD k 0=48
   ·rw [if_pos h48] at hz4
    have q2:((((s.drop k).getD 0 0).toNat:Int)==48)=true:=by rw [hd0,Nat.add_zero,h48]; rfl
    refine SR.run (t:=.mk) ?_
    simp -dsimp only [aqA,↓seqK,↓blkK,↓loopK,step,stepBin,eqB,Nat.add_assoc nid,↓reduceIte,simprocAttr,LN_succ,q1,q2]
    refine ⟨by rw [hdl]; omega,⟨by omega,by omega⟩,by rw [hdl]; omega,(g,out++[0],k+1),⟨⟨⟨by simp only [List.length_append,List.length_singleton]; omega,by simp only; omega,by simp only; omega⟩,hz4⟩,by simp only; omega⟩,Cov.go [(nid+300,nid+536)] [] ?_⟩
    rw [hdk 1]
    simp [cvT,step,res,ColsEq.refl,-List.getD_eq_getElem?_getD]
    exact ColEq.i fun j hj=>snocN out 0 0 rfl j hj
   rw [if_neg h48] at hz4
   have q2:((((s.drop k).getD 0 0).toNat:Int)==48)=false:=by
    rw [hd0,Nat.add_zero]
    unfold oneBit at hb0
    simp only [Bool.or_eq_true,beq_iff_eq] at hb0
    rcases hb0 with h | h
    ·exact absurd h h48
    ·rw [h]; rfl
   refine SR.seqW (ι:={_x:Unit // 32≤s.length - k}) (fun _=>⟨[(7,.str (s.drop k)),(6,.sl (nid+300) 0 out.length),(0,.str s)],[(nid+300,some (.arr 3 out.length [.i .i64 fun i=>(out.getD i 0:Nat)]))],nid+600,nid⟩) ?_ (fun ⟨_,h32⟩=>?_)
   ·refine SR.run (t:=.mk) ?_
    simp -dsimp only [aqA,↓seqK,↓blkK,↓loopK,step,stepBin,eqB,Nat.add_assoc nid,↓reduceIte,simprocAttr,LN_succ,q1,q2]
    refine ⟨by rw [hdl]; omega,?_⟩
    refine S2.dec (fun h4=>?_) (fun h4=>?_) <;> simp -dsimp only [aqA,↓seqK,↓blkK,↓loopK,step,stepBin,eqB,Nat.add_assoc nid,↓reduceIte,simprocAttr,LN_succ]
    ·rw [hdl] at h4
     rw [if_pos (by omega)] at hz4
     rw [← hz4]
     refine RetOK.go [] [(nid,1)] (.inl rfl) ?_
     simp [a22,cvT,step,res]
    ·rw [hdl] at h4
     refine ⟨⟨(),by omega⟩,Cov.go [] [] ?_⟩
     simp [cvT,step,res,ColsEq.refl]
   rw [if_neg (by omega)] at hz4
   have hnm:¬ idTo (s.drop k) 32=4294967295:=fun h=>by
    have:=hpo.2 ⟨by rw [hdl]; exact h32,h⟩
    rw [hpf] at this
    cases this
   rw [if_neg hnm] at hz4
   refine SR.seq ?_
   simp -dsimp only [aqA,↓seqK,↓blkK,↓loopK,step,stepBin,eqB,Nat.add_assoc nid,↓reduceIte,simprocAttr,LN_succ]
   refine SR.seqW (ι:=Unit) (fun _=>⟨[(8,.int .i64 (idTo (s.drop k) 32:Nat)),(7,.str (s.drop k)),(6,.sl (nid+300) 0 out.length),(0,.str s)],[(nid+300,some (.arr 3 out.length [.i .i64 fun i=>(out.getD i 0:Nat)]))],nid+2000,nid⟩) ?_ (fun _=>?_)
   ·refine SR.seq ?_
    simp -dsimp only [aqA,↓seqK,↓blkK,↓loopK,step,stepBin,eqB,Nat.add_assoc nid,↓reduceIte,simprocAttr,LN_succ]
    refine SR.block ?_
    refine SR.loopP (fun i:Nat=>i≤32) (fun i=>⟨[(36,.int .i64 (i:Nat)),(8,.int .i64 (idTo (s.drop k) i:Nat)),(7,.str (s.drop k)),(6,.sl (nid+300) 0 out.length),(0,.str s)],[(nid+300,some (.arr 3 out.length [.i .i64 fun i=>(out.getD i 0:Nat)]))],nid+1000,nid⟩) (fun i=>33 - i) 0 (by omega) ?_ (fun i hi=>?_)
    ·refine Cov.go [] [] ?_
     simp [cvT,step,res,idTo,ColsEq.refl]
    refine SR.run (t:=.mk) ?_
    simp -dsimp only [aqA,↓seqK,↓blkK,↓loopK,step,stepBin,eqB,Nat.add_assoc nid,↓reduceIte,simprocAttr,LN_succ]
    refine S2.dec (fun h4=>?_) (fun h4=>?_) <;> simp -dsimp only [aqA,↓seqK,↓blkK,↓loopK,step,stepBin,eqB,Nat.add_assoc nid,↓reduceIte,simprocAttr,LN_succ]
    ·have hi32:i<32:=by omega
     have hb2:=bits_at hbits (k:=k+i) (by omega)
     have hlt:=idTo_lt (l:=s.drop k) (fun j=>by
      rcases Nat.lt_or_ge j (s.drop k).length with hj | hj
      ·exact .inl (bitM_lt (bits_at hdb hj)).1
      ·exact .inr hj) i (by omega)
     have hw:=bitW8 hb2
     have hbm:=(bitM_lt hb2).1
     have hp31:=Nat.pow_le_pow_right (n:=2) (by omega) (show i≤31 by omega)
     have e0:min i IntKind.i64.bits=i:=Nat.min_eq_left (by show i≤64; omega)
     have hbp:bitM (s.getD (k+i) 0) * 2 ^ i<4611686018427387904:=by
      rcases (by omega:bitM (s.getD (k+i) 0)=0∨bitM (s.getD (k+i) 0)=1) with h | h <;> rw [h] <;> omega
     have e1:IntKind.i64.wrap (((bitM (s.getD (k+i) 0):Nat):Int) * 2 ^ i)=((bitM (s.getD (k+i) 0) * 2 ^ i:Nat):Int):=by
      have:=i64_nat hbp
      push_cast at this ⊢
      exact this
     have e3:idTo (s.drop k) (i+1)=idTo (s.drop k) i+bitM (s.getD (k+i) 0) * 2 ^ i:=by rw [← hd0]; rfl
     rw [hd0,hw,e0,e1]
     refine ⟨⟨by omega,by omega⟩,by omega,by unfold inI64; omega,by unfold inI64; omega,i+1,⟨by omega,by omega⟩,Cov.go [] [] ?_⟩
     rw [e3]
     simp [cvT,step,res,ColsEq.refl,-List.getD_eq_getElem?_getD]
    ·have hi32:i=32:=by omega
     subst hi32
     refine ⟨(),Cov.go [] [] ?_⟩
     simp [cvT,step,res,ColsEq.refl]
   refine SR.run (t:=.mk) ?_
   simp -dsimp only [aqA,↓seqK,↓blkK,↓loopK,step,stepBin,eqB,Nat.add_assoc nid,↓reduceIte,simprocAttr,LN_succ]
   refine ⟨⟨by omega,by omega⟩,by rw [hdl]; omega,(g,out++[idTo (s.drop k) 32],k+32),⟨⟨⟨by simp only [List.length_append,List.length_singleton]; omega,by simp only; omega,by simp only; omega⟩,hz4⟩,by simp only; omega⟩,Cov.go [(nid+300,nid+2012)] [] ?_⟩
   rw [hdk 32]
   simp [cvT,step,res,ColsEq.refl,-List.getD_eq_getElem?_getD]
   exact ColEq.i fun j hj=>snocN out (idTo (s.drop k) 32) _ rfl j hj
  simp only at he hk ho ⊢
  have hdl:(s.drop k).length=s.length - k:=List.length_drop
  refine SR.run (t:=.mk) ?_
  simp -dsimp only [aqA,↓seqK,↓blkK,↓loopK,step,stepBin,eqB,Nat.add_assoc nid,↓reduceIte,simprocAttr,LN_succ]
  refine S2.dec (fun h4=>?_) (fun h4=>?_) <;> simp -dsimp only [aqA,↓seqK,↓blkK,↓loopK,step,stepBin,eqB,Nat.add_assoc nid,↓reduceIte,simprocAttr,LN_succ]
  ·rw [if_pos (by omega)] at he
   rw [he]
   refine RetOK.go [] [(nid,1)] (.inl rfl) ?_
   simp [a22,cvT,step,res]
  ·rw [if_neg (by omega)] at he
   rw [he,hdl]
   have e5:((s.length:Nat):Int) - ((s.length - k:Nat):Int)=(k:Nat):=by omega
   rw [e5]
   refine ⟨by unfold inI64; omega,?_⟩
   refine RetOK.go [(nid,nid+300)] [] (.inl rfl) ?_
   simp [a22,cvT,step,res,ColsEq.refl]
 ·have e:identA s=([],0,bitsFaultV s):=by unfold identA; rw [if_neg hf]
  have hb:(bitsFaultV s != 0)=true:=by rw [bne_iff_ne]; exact hf
  rw [e]
  refine acall_sr c22 (by simp [a22]) ?_
  unfold a22
  refine SR.seq ?_
  simp -dsimp only [aqA,↓seqK,↓blkK,↓loopK,step,stepBin,eqB,Nat.add_assoc nid,↓reduceIte,simprocAttr,LN_succ]
  refine SR.seq ?_
  simp -dsimp only [aqA,↓seqK,↓blkK,↓loopK,step,stepBin,eqB,Nat.add_assoc nid,↓reduceIte,simprocAttr,LN_succ]
  refine CallO.pure (tmsFault_c s _ hs) ?_
  simp -dsimp only [aqA,↓seqK,↓blkK,↓loopK,step,stepBin,eqB,Nat.add_assoc nid,↓reduceIte,simprocAttr,LN_succ,hb]
  refine RetOK.go [] [(nid,1)] (.inl rfl) ?_
  simp [a22,cvT,step,res]
end Go.Proofs.YtahjohieahehjaaGreatDoor
namespace Go.Proofs.YtahjohieahehjaaGreatDoor
open Go.RowKit
set_option maxHeartbeats 2000000 in
theorem tmsX (s nid:Nat) (nl:Bool) (A:List Int) (p most:Nat) (h:s<nid) (hm:most≤1000) (hp:p≤1099500000000) (hA:A.length≤17592186044416) :
  ∃ x:List UInt8 × Nat,(x.1.length≤most+16∧x.2≤p+10000)∧ACall Tryz.prog 12 [.ptr s 0,.int .i64 most] [(s,strmC nl A p)] nid (.str x.1) [(s,strmC nl A x.2)]:=by
 obtain ⟨e1,e2,e3,e4,e5,e6,e7,e8,e9⟩:=id_all h
 refine acall_ex c12 (by simp [a12]) ?_
 simp -dsimp only [aqT0,ROp0,aqA,↓seqK,↓blkK,↓loopK,step,stepBin,eqB,Nat.add_assoc nid,↓reduceIte,simprocAttr,LN_succ,e1,e2,e3,e4,e5,e6,e7,e8,e9,a12,strmC_low]
 refine LP0.mkP (fun x:List UInt8 × Nat=>x.1.length≤most+5∧x.2≤p+5 * x.1.length) (fun x=>⟨[(5,.str x.1),(1,.int .i64 most),(0,.ptr s 0)],[(s,strmC nl A x.2)],nid+100,nid⟩) (fun x=>most+5 - x.1.length) ([],p) (by simp) (Cov.go [] [] ?_) (fun x hx=>?_)
 ·simp [cvT,step,res,e1,e2,e3,e4,e5,e6,e7,e8,e9,strmC]
 obtain ⟨o,q⟩:=x
 obtain ⟨hx1,hx2⟩:=hx
 simp only at hx1 hx2
 have fin:∀ (x:List UInt8) (q:Nat) (st:ST),x.length≤most+16→q≤p+10000→getS st.slots 4=.str x→getH st.heap s=strmC nl A q→EndOK (fun x:List UInt8 × Nat=>x.1.length≤most+16∧x.2≤p+10000) (a12).res [(s,strmC nl A p)] nid (fun x=>.str x.1) (fun x=>[(s,strmC nl A x.2)]) .ret st:=fun x q st hx hq hs hh=>by
  refine EndOK.mk (x,q) ⟨hx,hq⟩ ?_
  refine RetOK.go [] [] (.inl rfl) ?_
  simp [a12,cvT,step,res,e1,e2,e3,e4,e5,e6,e7,e8,e9,hs,hh,strmC]
 simp -dsimp only [aqT0,ROp0,aqA,↓seqK,↓blkK,↓loopK,step,stepBin,eqB,Nat.add_assoc nid,↓reduceIte,simprocAttr,LN_succ,e1,e2,e3,e4,e5,e6,e7,e8,e9,strmC_low]
 refine S2.dec (fun h2=>?_) (fun h2=>?_) <;> simp -dsimp only [aqT0,ROp0,aqA,↓seqK,↓blkK,↓loopK,step,stepBin,eqB,Nat.add_assoc nid,↓reduceIte,simprocAttr,LN_succ,e1,e2,e3,e4,e5,e6,e7,e8,e9,strmC_low]
 ·refine CallX.onE (bitsX s _ nl A q 3 (by omega) (by omega) (by omega) hA) (subH_get (by simp only [aqA,↓seqK,↓blkK,↓loopK,step,stepBin,eqB,Nat.add_assoc nid,↓reduceIte,simprocAttr,e1,e2,e3,e4,e5,e6,e7,e8,e9])) (fun b hb=>?_)
  obtain ⟨hb1,hb2⟩:=hb
  simp -dsimp only [aqT0,ROp0,aqA,↓seqK,↓blkK,↓loopK,step,stepBin,eqB,Nat.add_assoc nid,↓reduceIte,simprocAttr,LN_succ,e1,e2,e3,e4,e5,e6,e7,e8,e9,strmC_low]
  refine CallX.some_go (T:=9) (nl:=nl) (A:=A) (p:=q+3) (g:=fun i=>[[48],[49],[48,48],[48,49,49,48,48],[48,49,48,48],[49,49,49,49,49],[48,48,48,48],b].getD i []) (by simp only [aqA,↓seqK,↓blkK,↓loopK,step,stepBin,eqB,Nat.add_assoc nid,↓reduceIte,simprocAttr,e1,e2,e3,e4,e5,e6,e7,e8,e9]) (by simp only [aqA,↓seqK,↓blkK,↓loopK,step,stepBin,eqB,Nat.add_assoc nid,↓reduceIte,simprocAttr,e1,e2,e3,e4,e5,e6,e7,e8,e9]) (by simp only [aqA,↓seqK,↓blkK,↓loopK,step,stepBin,eqB,Nat.add_assoc nid,↓reduceIte,simprocAttr,e1,e2,e3,e4,e5,e6,e7,e8,e9]) (by omega) (by omega) hA (by omega) (by omega) ?_
  simp -dsimp only [aqT0,ROp0,aqA,↓seqK,↓blkK,↓loopK,step,stepBin,eqB,Nat.add_assoc nid,↓reduceIte,simprocAttr,LN_succ,e1,e2,e3,e4,e5,e6,e7,e8,e9,strmC_low]
  have hg:=getD_all (P:=fun x:List UInt8=>1≤x.length∧x.length≤5) (l:=[[48],[49],[48,48],[48,49,49,48,48],[48,49,48,48],[49,49,49,49,49],[48,48,48,48],b]) (d:=[]) (by simp [hb1]) (pickI_lt A (q+3) (n:=8) (by omega))
  generalize ([[48],[49],[48,48],[48,49,49,48,48],[48,49,48,48],[49,49,49,49,49],[48,48,48,48],b].getD (pickI A (q+3) 8) []:List UInt8)=c at hg ⊢
  have hl:(o++c).length=o.length+c.length:=List.length_append
  refine ⟨by omega,?_⟩
  refine CallX.on (flip_c s _ nl A (q+3+1) _ (by omega) (by omega) hA (by omega)) (subH_get (by simp only [aqA,↓seqK,↓blkK,↓loopK,step,stepBin,eqB,Nat.add_assoc nid,↓reduceIte,simprocAttr,e1,e2,e3,e4,e5,e6,e7,e8,e9])) ?_
  simp -dsimp only [aqT0,ROp0,aqA,↓seqK,↓blkK,↓loopK,step,stepBin,eqB,Nat.add_assoc nid,↓reduceIte,simprocAttr,LN_succ,e1,e2,e3,e4,e5,e6,e7,e8,e9,strmC_low]
  refine S2.intro (fun h3=>?_) (fun h3=>?_) <;> simp -dsimp only [aqT0,ROp0,aqA,↓seqK,↓blkK,↓loopK,step,stepBin,eqB,Nat.add_assoc nid,↓reduceIte,simprocAttr,LN_succ,e1,e2,e3,e4,e5,e6,e7,e8,e9,strmC_low]
  ·refine CallX.on (flip_c s _ nl A (q+3+1+1) _ (by omega) (by omega) hA (by omega)) (subH_get (by simp only [aqA,↓seqK,↓blkK,↓loopK,step,stepBin,eqB,Nat.add_assoc nid,↓reduceIte,simprocAttr,e1,e2,e3,e4,e5,e6,e7,e8,e9])) ?_
   simp -dsimp only [aqT0,ROp0,aqA,↓seqK,↓blkK,↓loopK,step,stepBin,eqB,Nat.add_assoc nid,↓reduceIte,simprocAttr,LN_succ,e1,e2,e3,e4,e5,e6,e7,e8,e9,strmC_low]
   refine S2.intro (fun h4=>?_) (fun h4=>?_) <;> simp -dsimp only [aqT0,ROp0,aqA,↓seqK,↓blkK,↓loopK,step,stepBin,eqB,Nat.add_assoc nid,↓reduceIte,simprocAttr,LN_succ,e1,e2,e3,e4,e5,e6,e7,e8,e9,strmC_low]
   ·refine CallX.onE (changedX s _ nl A (q+3+1+1+1) (o++c) [50] (by omega) (by omega) (by simp) (by omega) hA) (subH_get (by simp only [aqA,↓seqK,↓blkK,↓loopK,step,stepBin,eqB,Nat.add_assoc nid,↓reduceIte,simprocAttr,e1,e2,e3,e4,e5,e6,e7,e8,e9])) (fun x hx=>?_)
    obtain ⟨t,r⟩:=x
    obtain ⟨ht1,ht2⟩:=hx
    simp only [List.length_cons,List.length_nil] at ht1 ht2
    simp -dsimp only [aqT0,ROp0,aqA,↓seqK,↓blkK,↓loopK,step,stepBin,eqB,Nat.add_assoc nid,↓reduceIte,simprocAttr,LN_succ,e1,e2,e3,e4,e5,e6,e7,e8,e9,strmC_low]
    exact fin t r _ (by omega) (by omega) rfl (by simp only [aqA,↓seqK,↓blkK,↓loopK,step,stepBin,eqB,Nat.add_assoc nid,↓reduceIte,simprocAttr,e1,e2,e3,e4,e5,e6,e7,e8,e9])
   ·exact fin (o++c) (q+3+1+1+1) _ (by omega) (by omega) rfl (by simp only [aqA,↓seqK,↓blkK,↓loopK,step,stepBin,eqB,Nat.add_assoc nid,↓reduceIte,simprocAttr,e1,e2,e3,e4,e5,e6,e7,e8,e9])
  ·refine ⟨(o++c,q+3+1+1),⟨⟨by simp only; omega,by simp only; omega⟩,by simp only; omega⟩,Cov.go [] [] ?_⟩
   simp [cvT,step,res,e1,e2,e3,e4,e5,e6,e7,e8,e9,strmC,-List.length_append]
 ·refine CallX.on (flip_c s _ nl A q _ (by omega) (by omega) hA (by omega)) (subH_get (by simp only [aqA,↓seqK,↓blkK,↓loopK,step,stepBin,eqB,Nat.add_assoc nid,↓reduceIte,simprocAttr,e1,e2,e3,e4,e5,e6,e7,e8,e9])) ?_
  simp -dsimp only [aqT0,ROp0,aqA,↓seqK,↓blkK,↓loopK,step,stepBin,eqB,Nat.add_assoc nid,↓reduceIte,simprocAttr,LN_succ,e1,e2,e3,e4,e5,e6,e7,e8,e9,strmC_low]
  refine S2.intro (fun h4=>?_) (fun h4=>?_) <;> simp -dsimp only [aqT0,ROp0,aqA,↓seqK,↓blkK,↓loopK,step,stepBin,eqB,Nat.add_assoc nid,↓reduceIte,simprocAttr,LN_succ,e1,e2,e3,e4,e5,e6,e7,e8,e9,strmC_low]
  ·refine CallX.onE (changedX s _ nl A (q+1) o [50] (by omega) (by omega) (by simp) (by omega) hA) (subH_get (by simp only [aqA,↓seqK,↓blkK,↓loopK,step,stepBin,eqB,Nat.add_assoc nid,↓reduceIte,simprocAttr,e1,e2,e3,e4,e5,e6,e7,e8,e9])) (fun x hx=>?_)
   obtain ⟨t,r⟩:=x
   obtain ⟨ht1,ht2⟩:=hx
   simp only [List.length_cons,List.length_nil] at ht1 ht2
   simp -dsimp only [aqT0,ROp0,aqA,↓seqK,↓blkK,↓loopK,step,stepBin,eqB,Nat.add_assoc nid,↓reduceIte,simprocAttr,LN_succ,e1,e2,e3,e4,e5,e6,e7,e8,e9,strmC_low]
   exact fin t r _ (by omega) (by omega) rfl (by simp only [aqA,↓seqK,↓blkK,↓loopK,step,stepBin,eqB,Nat.add_assoc nid,↓reduceIte,simprocAttr,e1,e2,e3,e4,e5,e6,e7,e8,e9])
  ·exact fin o (q+1) _ (by omega) (by omega) rfl (by simp only [aqA,↓seqK,↓blkK,↓loopK,step,stepBin,eqB,Nat.add_assoc nid,↓reduceIte,simprocAttr,e1,e2,e3,e4,e5,e6,e7,e8,e9])
end Go.Proofs.YtahjohieahehjaaGreatDoor
namespace Go.Proofs.YtahjohieahehjaaGreatDoor
open Go.RowKit
set_option maxHeartbeats 4000000 in
theorem nearlyBitsX (s nid:Nat) (nl:Bool) (A:List Int) (p n:Nat) (h:s<nid) (hp:p≤1099500000000) (hA:A.length≤17592186044416) (hn:n≤1000) :
  ∃ x:List UInt8 × Nat,(x.1.length≤n+4∧x.2≤p+n+4)∧ACall Tryz.prog 13 [.ptr s 0,.int .i64 n] [(s,strmC nl A p)] nid (.str x.1) [(s,strmC nl A x.2)]:=by
 obtain ⟨e1,e2,e3,e4,e5,e6,e7,e8,e9⟩:=id_all h
 refine acall_ex c13 (by simp [a13]) ?_
 simp -dsimp only [aqT0,ROp0,aqA,↓seqK,↓blkK,↓loopK,step,stepBin,eqB,Nat.add_assoc nid,↓reduceIte,simprocAttr,LN_succ,e1,e2,e3,e4,e5,e6,e7,e8,e9,a13,strmC_low]
 refine CallX.onE (bitsX s _ nl A p n (by omega) (by omega) (by omega) hA) (subH_get (by simp only [aqA,↓seqK,↓blkK,↓loopK,step,stepBin,eqB,Nat.add_assoc nid,↓reduceIte,simprocAttr,e1,e2,e3,e4,e5,e6,e7,e8,e9])) (fun t ht=>?_)
 simp -dsimp only [aqT0,ROp0,aqA,↓seqK,↓blkK,↓loopK,step,stepBin,eqB,Nat.add_assoc nid,↓reduceIte,simprocAttr,LN_succ,e1,e2,e3,e4,e5,e6,e7,e8,e9,strmC_low]
 refine CallX.on (flip_c s _ nl A (p+n) 20 (by omega) (by omega) hA (by omega)) (subH_get (by simp only [aqA,↓seqK,↓blkK,↓loopK,step,stepBin,eqB,Nat.add_assoc nid,↓reduceIte,simprocAttr,e1,e2,e3,e4,e5,e6,e7,e8,e9])) ?_
 simp -dsimp only [aqT0,ROp0,aqA,↓seqK,↓blkK,↓loopK,step,stepBin,eqB,Nat.add_assoc nid,↓reduceIte,simprocAttr,LN_succ,e1,e2,e3,e4,e5,e6,e7,e8,e9,strmC_low]
 refine S2.intro (fun h2=>?_) (fun h2=>?_) <;> simp -dsimp only [aqT0,ROp0,aqA,↓seqK,↓blkK,↓loopK,step,stepBin,eqB,Nat.add_assoc nid,↓reduceIte,simprocAttr,LN_succ,e1,e2,e3,e4,e5,e6,e7,e8,e9,strmC_low]
 ·refine CallX.onE (changedX s _ nl A (p+n+1) t [50,120] (by omega) (by omega) (by simp) (by omega) hA) (subH_get (by simp only [aqA,↓seqK,↓blkK,↓loopK,step,stepBin,eqB,Nat.add_assoc nid,↓reduceIte,simprocAttr,e1,e2,e3,e4,e5,e6,e7,e8,e9])) (fun c hc=>?_)
  obtain ⟨c,q3⟩:=c
  obtain ⟨hc1,hc2⟩:=hc
  simp only [List.length_cons,List.length_nil] at hc1 hc2
  simp -dsimp only [aqT0,ROp0,aqA,↓seqK,↓blkK,↓loopK,step,stepBin,eqB,Nat.add_assoc nid,↓reduceIte,simprocAttr,LN_succ,e1,e2,e3,e4,e5,e6,e7,e8,e9,strmC_low]
  refine EndOK.mk (c,q3) ⟨by simp only; omega,by simp only; omega⟩ ?_
  refine RetOK.go [] [] (.inl rfl) ?_
  simp [a13,cvT,step,res,e1,e2,e3,e4,e5,e6,e7,e8,e9,strmC]
 ·refine EndOK.mk (t,p+n+1) ⟨by simp only; omega,by simp only; omega⟩ ?_
  refine RetOK.go [] [] (.inl rfl) ?_
  simp [a13,cvT,step,res,e1,e2,e3,e4,e5,e6,e7,e8,e9,strmC]
set_option maxHeartbeats 8000000 in
theorem shiftedS_I (s nid:Nat) (nl:Bool) (A:List Int) (p:Nat) (h:s<nid) (hp:p≤1099400000000) (hA:A.length≤17592186044416) :
  ACallI Tryz.prog 20 [.ptr s 0] [(s,strmC nl A p)] nid (fun x:List UInt8 × Nat=>x.1.length≤1000∧x.2≤p+500) (fun x=>.str x.1) (fun x=>[(s,strmC nl A x.2)]):=by
 obtain ⟨e1,e2,e3,e4,e5,e6,e7,e8,e9⟩:=id_all h
 refine acallI_sr c20 (by simp [a20]) ?_
 unfold a20
 refine SR.seq ?_
 simp -dsimp only [aqA,↓seqK,↓blkK,↓loopK,step,stepBin,eqB,Nat.add_assoc nid,↓reduceIte,simprocAttr,LN_succ,e1,e2,e3,e4,e5,e6,e7,e8,e9,strmC_low]
 refine SR.seq ?_
 simp -dsimp only [aqA,↓seqK,↓blkK,↓loopK,step,stepBin,eqB,Nat.add_assoc nid,↓reduceIte,simprocAttr,LN_succ,e1,e2,e3,e4,e5,e6,e7,e8,e9,strmC_low]
 have hRb:=rangeV_bd A p (lo:=0) (hi:=4) (by decide)
 obtain ⟨R,hR0⟩:∃ R:Nat,rangeV A p 0 4=R:=⟨_,(Int.toNat_of_nonneg (by omega)).symm⟩
 rw [hR0] at hRb
 refine SR.seqW (ι:={x:List UInt8 × Nat // x.1.length≤128∧x.2≤p+200}) (fun x=>⟨[(3,.str x.1.1),(0,.ptr s 0)],[(s,strmC nl A x.1.2)],nid+5000,nid⟩) ?_ (fun ⟨⟨t,q⟩,ht,hq⟩=>?_)
 ·refine SR.seqTo ⟨[(6,.int .i64 0),(5,.int .i64 (R:Nat)),(3,.str []),(0,.ptr s 0)],[(s,strmC nl A (p+1))],nid+100,nid⟩ ?_ ?_
  ·simp -dsimp only [aqA,↓seqK,↓blkK,↓loopK,step,stepBin,eqB,Nat.add_assoc nid,↓reduceIte,simprocAttr,LN_succ,e1,e2,e3,e4,e5,e6,e7,e8,e9,strmC_low]
   refine CallO.on (range_c s _ nl A p 0 4 (by omega) (by omega) hA (by decide) (by decide) (by decide)) (subH_get (by simp only [aqA,↓seqK,↓blkK,↓loopK,step,stepBin,eqB,Nat.add_assoc nid,↓reduceIte,simprocAttr,LN_succ,e1,e2,e3,e4,e5,e6,e7,e8,e9])) ?_
   rw [hR0]
   simp -dsimp only [aqA,↓seqK,↓blkK,↓loopK,step,stepBin,eqB,Nat.add_assoc nid,↓reduceIte,simprocAttr,LN_succ,e1,e2,e3,e4,e5,e6,e7,e8,e9,strmC_low]
   refine Cov.go [] [] ?_
   simp [cvT,step,res,e1,e2,e3,e4,e5,e6,e7,e8,e9,strmC]
  refine SR.block ?_
  refine SR.loopP (fun x:Nat × List UInt8 × Nat=>x.1≤R∧x.2.1.length≤32 * x.1∧x.2.2≤p+1+33 * x.1) (fun x=>⟨[(6,.int .i64 (x.1:Nat)),(5,.int .i64 (R:Nat)),(3,.str x.2.1),(0,.ptr s 0)],[(s,strmC nl A x.2.2)],nid+200,nid⟩) (fun x=>R+1 - x.1) (0,[],p+1) ⟨by simp,by simp,by simp⟩ ?_ (fun ⟨k,t,q⟩ hz=>?_)
  ·refine Cov.go [] [] ?_
   simp [cvT,step,res,e1,e2,e3,e4,e5,e6,e7,e8,e9,strmC]
  obtain ⟨hz1,hz2,hz3⟩:=hz
  simp only at hz1 hz2 hz3 ⊢
  refine SR.run (t:=.mk) ?_
  simp -dsimp only [aqA,↓seqK,↓blkK,↓loopK,step,stepBin,eqB,Nat.add_assoc nid,↓reduceIte,simprocAttr,LN_succ,e1,e2,e3,e4,e5,e6,e7,e8,e9,strmC_low]
  refine S2.dec (fun h3=>?_) (fun h3=>?_) <;> simp -dsimp only [aqA,↓seqK,↓blkK,↓loopK,step,stepBin,eqB,Nat.add_assoc nid,↓reduceIte,simprocAttr,LN_succ,e1,e2,e3,e4,e5,e6,e7,e8,e9,strmC_low]
  ·have hkl:k<R:=by omega
   refine CallO.on (flip_c s _ nl A q 2 (by omega) (by omega) hA (by omega)) (subH_get (by simp only [aqA,↓seqK,↓blkK,↓loopK,step,stepBin,eqB,Nat.add_assoc nid,↓reduceIte,simprocAttr,LN_succ,e1,e2,e3,e4,e5,e6,e7,e8,e9])) ?_
   simp -dsimp only [aqA,↓seqK,↓blkK,↓loopK,step,stepBin,eqB,Nat.add_assoc nid,↓reduceIte,simprocAttr,LN_succ,e1,e2,e3,e4,e5,e6,e7,e8,e9,strmC_low]
   refine S2.intro (fun h2=>?_) (fun h2=>?_) <;> simp -dsimp only [aqA,↓seqK,↓blkK,↓loopK,step,stepBin,eqB,Nat.add_assoc nid,↓reduceIte,simprocAttr,LN_succ,e1,e2,e3,e4,e5,e6,e7,e8,e9,strmC_low]
   ·refine ⟨by simp; omega,by unfold inI64; omega,(k+1,t++[48],q+1),⟨⟨by simp only; omega,by simp; omega,by simp only; omega⟩,by simp only; omega⟩,Cov.go [] [] ?_⟩
    simp [cvT,step,res,e1,e2,e3,e4,e5,e6,e7,e8,e9,strmC]
   ·refine CallO.onE (bitsX s _ nl A (q+1) 31 (by omega) (by omega) (by omega) hA) (subH_get (by simp only [aqA,↓seqK,↓blkK,↓loopK,step,stepBin,eqB,Nat.add_assoc nid,↓reduceIte,simprocAttr,LN_succ,e1,e2,e3,e4,e5,e6,e7,e8,e9])) (fun b hb=>?_)
    simp -dsimp only [aqA,↓seqK,↓blkK,↓loopK,step,stepBin,eqB,Nat.add_assoc nid,↓reduceIte,simprocAttr,LN_succ,e1,e2,e3,e4,e5,e6,e7,e8,e9,strmC_low]
    refine ⟨by simp; omega,by simp; omega,by unfold inI64; omega,(k+1,t++49::b,q+1+31),⟨⟨by simp only; omega,by simp; omega,by simp only; omega⟩,by simp only; omega⟩,Cov.go [] [] ?_⟩
    simp [cvT,step,res,e1,e2,e3,e4,e5,e6,e7,e8,e9,strmC]
  ·refine ⟨⟨(t,q),by simp only; omega,by simp only; omega⟩,Cov.go [] [] ?_⟩
   simp [cvT,step,res,e1,e2,e3,e4,e5,e6,e7,e8,e9,strmC]
 simp only at ht hq ⊢
 refine SR.seqEx (ι:={x:List UInt8 // x.length≤150}) (fun x=>⟨[(3,.str x.1),(0,.ptr s 0)],[(s,strmC nl A (q+1))],nid+6000,nid⟩) ?_ (fun ⟨t2,ht2⟩=>?_)
 ·simp -dsimp only [aqA,↓seqK,↓blkK,↓loopK,step,stepBin,eqB,Nat.add_assoc nid,↓reduceIte,simprocAttr,LN_succ,e1,e2,e3,e4,e5,e6,e7,e8,e9,strmC_low]
  refine CallO.on (flip_c s _ nl A q 40 (by omega) (by omega) hA (by omega)) (subH_get (by simp only [aqA,↓seqK,↓blkK,↓loopK,step,stepBin,eqB,Nat.add_assoc nid,↓reduceIte,simprocAttr,LN_succ,e1,e2,e3,e4,e5,e6,e7,e8,e9])) ?_
  simp -dsimp only [aqA,↓seqK,↓blkK,↓loopK,step,stepBin,eqB,Nat.add_assoc nid,↓reduceIte,simprocAttr,LN_succ,e1,e2,e3,e4,e5,e6,e7,e8,e9,strmC_low]
  refine S2.intro (fun h2=>?_) (fun h2=>?_) <;> simp -dsimp only [aqA,↓seqK,↓blkK,↓loopK,step,stepBin,eqB,Nat.add_assoc nid,↓reduceIte,simprocAttr,LN_succ,e1,e2,e3,e4,e5,e6,e7,e8,e9,strmC_low]
  ·refine CallO.pure (repeat_cc [48] 21 _ (by omega) (by simp)) ?_
   simp -dsimp only [aqA,↓seqK,↓blkK,↓loopK,step,stepBin,eqB,Nat.add_assoc nid,↓reduceIte,simprocAttr,LN_succ,e1,e2,e3,e4,e5,e6,e7,e8,e9,strmC_low]
   have hl:(Lib.repeatL [48] 21).length=21:=by decide
   refine ⟨by simp; omega,⟨t++Lib.repeatL [48] 21,by rw [List.length_append,hl]; omega⟩,Cov.go [] [] ?_⟩
   simp [cvT,step,res,e1,e2,e3,e4,e5,e6,e7,e8,e9,strmC]
  ·refine ⟨⟨t,by omega⟩,Cov.go [] [] ?_⟩
   simp [cvT,step,res,e1,e2,e3,e4,e5,e6,e7,e8,e9,strmC]
 refine SR.seqEx (ι:={x:List UInt8 // x.length≤200}) (fun x=>⟨[(3,.str x.1),(0,.ptr s 0)],[(s,strmC nl A (q+2))],nid+7000,nid⟩) ?_ (fun ⟨t3,ht3⟩=>?_)
 ·simp -dsimp only [aqA,↓seqK,↓blkK,↓loopK,step,stepBin,eqB,Nat.add_assoc nid,↓reduceIte,simprocAttr,LN_succ,e1,e2,e3,e4,e5,e6,e7,e8,e9,strmC_low]
  have hv:∀ i,0≤([32,32,32,40,31,5]:List Int).getD i 0∧([32,32,32,40,31,5]:List Int).getD i 0≤40:=fun i=>by
   rcases i with _ | _ | _ | _ | _ | _ | i <;> simp
  refine CallO.pick_go (T:=3) (nl:=nl) (A:=A) (p:=q+1) (g:=fun i=>([32,32,32,40,31,5]:List Int).getD i 0) (by simp only [aqA,↓seqK,↓blkK,↓loopK,step,stepBin,eqB,Nat.add_assoc nid,↓reduceIte,simprocAttr,LN_succ,e1,e2,e3,e4,e5,e6,e7,e8,e9]) (by simp only [aqA,↓seqK,↓blkK,↓loopK,step,stepBin,eqB,Nat.add_assoc nid,↓reduceIte,simprocAttr,LN_succ,e1,e2,e3,e4,e5,e6,e7,e8,e9]) (by simp only [aqA,↓seqK,↓blkK,↓loopK,step,stepBin,eqB,Nat.add_assoc nid,↓reduceIte,simprocAttr,LN_succ,e1,e2,e3,e4,e5,e6,e7,e8,e9]) (by omega) (by omega) hA (by omega) (by omega) ?_
  have hv2:=hv (pickI A (q+1) 6)
  obtain ⟨V,hV⟩:∃ V:Nat,([32,32,32,40,31,5]:List Int).getD (pickI A (q+1) 6) 0=V:=⟨_,(Int.toNat_of_nonneg hv2.1).symm⟩
  rw [hV] at hv2
  simp only [hV]
  simp -dsimp only [aqA,↓seqK,↓blkK,↓loopK,step,stepBin,eqB,Nat.add_assoc nid,↓reduceIte,simprocAttr,LN_succ,e1,e2,e3,e4,e5,e6,e7,e8,e9,strmC_low]
  refine CallO.pure (repeat_cc [49] V _ (by omega) (by simp; omega)) ?_
  simp -dsimp only [aqA,↓seqK,↓blkK,↓loopK,step,stepBin,eqB,Nat.add_assoc nid,↓reduceIte,simprocAttr,LN_succ,e1,e2,e3,e4,e5,e6,e7,e8,e9,strmC_low]
  have hl:(Lib.repeatL [49] V).length=V:=by
   have:∀ k,(Lib.repeatL [49] k).length=k:=fun k=>by
    induction k with
    | zero=>rfl
    | succ k ih=>simp [Lib.repeatL,ih]
   exact this V
  refine ⟨by rw [hl]; omega,⟨t2++Lib.repeatL [49] V,by rw [List.length_append,hl]; omega⟩,Cov.go [] [] ?_⟩
  simp [cvT,step,res,e1,e2,e3,e4,e5,e6,e7,e8,e9,strmC]
  omega
 refine SR.seqEx (ι:={x:List UInt8 × Nat // x.1.length≤1000∧x.2≤p+500}) (fun x=>⟨[(3,.str x.1.1),(0,.ptr s 0)],[(s,strmC nl A x.1.2)],nid+8000,nid⟩) ?_ (fun ⟨⟨t4,q4⟩,ht4,hq4⟩=>?_)
 ·simp -dsimp only [aqA,↓seqK,↓blkK,↓loopK,step,stepBin,eqB,Nat.add_assoc nid,↓reduceIte,simprocAttr,LN_succ,e1,e2,e3,e4,e5,e6,e7,e8,e9,strmC_low]
  refine CallO.on (flip_c s _ nl A (q+2) 20 (by omega) (by omega) hA (by omega)) (subH_get (by simp only [aqA,↓seqK,↓blkK,↓loopK,step,stepBin,eqB,Nat.add_assoc nid,↓reduceIte,simprocAttr,LN_succ,e1,e2,e3,e4,e5,e6,e7,e8,e9])) ?_
  simp -dsimp only [aqA,↓seqK,↓blkK,↓loopK,step,stepBin,eqB,Nat.add_assoc nid,↓reduceIte,simprocAttr,LN_succ,e1,e2,e3,e4,e5,e6,e7,e8,e9,strmC_low]
  refine S2.intro (fun h2=>?_) (fun h2=>?_) <;> simp -dsimp only [aqA,↓seqK,↓blkK,↓loopK,step,stepBin,eqB,Nat.add_assoc nid,↓reduceIte,simprocAttr,LN_succ,e1,e2,e3,e4,e5,e6,e7,e8,e9,strmC_low]
  ·refine CallO.onE (changedX s _ nl A (q+2+1) t3 [120,48,49] (by omega) (by omega) (by simp) (by omega) hA) (subH_get (by simp only [aqA,↓seqK,↓blkK,↓loopK,step,stepBin,eqB,Nat.add_assoc nid,↓reduceIte,simprocAttr,LN_succ,e1,e2,e3,e4,e5,e6,e7,e8,e9])) (fun c hc=>?_)
   obtain ⟨c,q3⟩:=c
   obtain ⟨hc1,hc2⟩:=hc
   simp only [List.length_cons,List.length_nil] at hc1 hc2
   simp -dsimp only [aqA,↓seqK,↓blkK,↓loopK,step,stepBin,eqB,Nat.add_assoc nid,↓reduceIte,simprocAttr,LN_succ,e1,e2,e3,e4,e5,e6,e7,e8,e9,strmC_low]
   refine ⟨⟨(c,q3),by simp only; omega,by simp only; omega⟩,Cov.go [] [] ?_⟩
   simp [cvT,step,res,e1,e2,e3,e4,e5,e6,e7,e8,e9,strmC]
  ·refine ⟨⟨(t3,q+2+1),by simp only; omega,by simp only; omega⟩,Cov.go [] [] ?_⟩
   simp [cvT,step,res,e1,e2,e3,e4,e5,e6,e7,e8,e9,strmC]
 simp only at ht4 hq4 ⊢
 refine SR.run (t:=.mk) ?_
 simp -dsimp only [aqA,↓seqK,↓blkK,↓loopK,step,stepBin,eqB,Nat.add_assoc nid,↓reduceIte,simprocAttr,LN_succ,e1,e2,e3,e4,e5,e6,e7,e8,e9,strmC_low]
 refine ⟨(t4,q4),⟨ht4,hq4⟩,?_⟩
 refine RetOK.go [] [] (.inl rfl) ?_
 simp [a20,cvT,step,res,e1,e2,e3,e4,e5,e6,e7,e8,e9,strmC]
end Go.Proofs.YtahjohieahehjaaGreatDoor
namespace Go.Proofs.YtahjohieahehjaaGreatDoor
open Go.RowKit
theorem tappedR_c (nid:Nat):ACall Tryz.prog 24 [] [] nid (.bool true) []:=by
 refine acall_run c24 (by simp [a24]) ?_
 simp -dsimp only [aqA,↓seqK,↓blkK,↓loopK,step,stepBin,eqB,Nat.add_assoc nid,↓reduceIte,simprocAttr,a24]
 refine CallO.pure (path41_c _) ?_
 simp -dsimp only [aqA,↓seqK,↓blkK,↓loopK,step,stepBin,eqB,Nat.add_assoc nid,↓reduceIte,simprocAttr]
 have e:(([49,49,48]:List UInt8)==[49,49,48])=true:=by decide
 refine RetOK.pure (.inl rfl) rfl ?_
 simp [cvT,step,res]
set_option maxHeartbeats 4000000 in
theorem runFaultR_c (t d:Bs) (nid:Nat) (hlt:t.length≤1099511627776) (hld:d.length≤1099511627776):ACall Tryz.prog 18 [.str t,.str d] [] nid (.int .i64 (runFault t d)) []:=by
 have hbt:=fun m=>bitsFaultR_c t m hlt
 have hbd:=fun m=>bitsFaultR_c d m hld
 refine acall_sr c18 (by simp [a18]) ?_
 unfold a18
 refine SR.seq ?_
 simp -dsimp only [aqA,↓seqK,↓blkK,↓loopK,step,stepBin,eqB,Nat.add_assoc nid,↓reduceIte,simprocAttr,LN_succ]
 refine SR.seqW (ι:={_x:Unit // runFault t d=if bitsOk t=true∧bitsOk d=true then 0 else 9}) (fun _=>⟨[(0,.str t),(1,.str d)],[],nid+100,nid⟩) ?_ (fun ⟨_,hv0⟩=>?_)
 ·refine SR.block ?_
  refine SR.run (t:=.mk) ?_
  have q1:decide ((20000:Int)<(t.length:Nat))=decide (20000<t.length):=by rw [Bool.eq_iff_iff]; simp; omega
  have q2:decide ((20000:Int)<(d.length:Nat))=decide (20000<d.length):=by rw [Bool.eq_iff_iff]; simp; omega
  have q3:((((t.length:Nat):Int)) != (d.length:Nat))=!decide (t.length=d.length):=by rw [Bool.eq_iff_iff]; simp; omega
  by_cases h1:20000<t.length
  ·have hv:runFault t d=2:=by unfold runFault; rw [if_pos (.inl h1)]
   rw [decide_eq_true h1] at q1
   simp -dsimp only [aqA,↓seqK,↓blkK,↓loopK,step,stepBin,eqB,Nat.add_assoc nid,↓reduceIte,simprocAttr,LN_succ,q1]
   rw [hv]
   refine RetOK.go [] [] (.inl rfl) ?_
   simp [a18,cvT,step,res]
  rw [decide_eq_false h1] at q1
  by_cases h2:20000<d.length
  ·have hv:runFault t d=2:=by unfold runFault; rw [if_pos (.inr h2)]
   rw [decide_eq_true h2] at q2
   simp -dsimp only [aqA,↓seqK,↓blkK,↓loopK,step,stepBin,eqB,Nat.add_assoc nid,↓reduceIte,simprocAttr,LN_succ,q1,q2]
   rw [hv]
   refine RetOK.go [] [] (.inl rfl) ?_
   simp [a18,cvT,step,res]
  rw [decide_eq_false h2] at q2
  by_cases h3:t.length=d.length
  ·rw [decide_eq_true h3,Bool.not_true] at q3
   have hv0:runFault t d=if bitsOk t=true∧bitsOk d=true then 0 else 9:=by unfold runFault; rw [if_neg (by omega),if_neg (by omega)]
   simp -dsimp only [aqA,↓seqK,↓blkK,↓loopK,step,stepBin,eqB,Nat.add_assoc nid,↓reduceIte,simprocAttr,LN_succ,q1,q2,q3]
   refine ⟨⟨(),hv0⟩,Cov.go [] [] ?_⟩
   simp [cvT,step,res]
  ·have hv:runFault t d=3:=by unfold runFault; rw [if_neg (by omega),if_pos h3]
   rw [decide_eq_false h3,Bool.not_false] at q3
   simp -dsimp only [aqA,↓seqK,↓blkK,↓loopK,step,stepBin,eqB,Nat.add_assoc nid,↓reduceIte,simprocAttr,LN_succ,q1,q2,q3]
   rw [hv]
   refine RetOK.go [] [] (.inl rfl) ?_
   simp [a18,cvT,step,res]
 refine SR.run (t:=.mk) ?_
 simp -dsimp only [aqA,↓seqK,↓blkK,↓loopK,step,stepBin,eqB,Nat.add_assoc nid,↓reduceIte,simprocAttr,LN_succ]
 refine CallO.pure (hbt _) ?_
 simp -dsimp only [aqA,↓seqK,↓blkK,↓loopK,step,stepBin,eqB,Nat.add_assoc nid,↓reduceIte,simprocAttr,LN_succ]
 refine CallO.pure (hbd _) ?_
 simp -dsimp only [aqA,↓seqK,↓blkK,↓loopK,step,stepBin,eqB,Nat.add_assoc nid,↓reduceIte,simprocAttr,LN_succ]
 refine CallO.gave1 (by simp only [aqA,↓seqK,↓blkK,↓loopK,step,stepBin,eqB,Nat.add_assoc nid,↓reduceIte,simprocAttr,LN_succ]; rfl) (fun nl'=>or_c nl' [if bitsOk t=true then 0 else 9,if bitsOk d=true then 0 else 9] _ (by simp)) rfl ?_
 simp -dsimp only [aqA,↓seqK,↓blkK,↓loopK,step,stepBin,eqB,Nat.add_assoc nid,↓reduceIte,simprocAttr,LN_succ]
 have e:firstBad (fun x:Int=>x) [if bitsOk t=true then 0 else 9,if bitsOk d=true then 0 else 9]=runFault t d:=by
  rw [hv0]
  cases bitsOk t <;> cases bitsOk d <;> rfl
 rw [e]
 refine RetOK.go [] [] (.inl rfl) ?_
 simp [a18,cvT,step,res]
def faultA (D:List Dev) (t d:Bs):Int:=if devsE D=0 then runFault t d else devsE D
def outA (D:List Dev) (t d:Bs):Bs:=if faultA D t d=0 then runV ⟨0,portsN D⟩ t d else []
theorem tapRun_all (n0:Bool) (n1 n2:Nat→Bool) (D:List Dev) (t d:Bs) (nid:Nat) (hD:D.length≤3) (hS:∀ d∈D,DevS d) (hlt:t.length≤1099511627776) (hld:d.length≤1099511627776) :
  ACall Tryz.prog 15 [.lit n0 D.length (devP n1 n2 D),.str t,.str d] [] nid (.tup [.str (outA D t d),.int .i64 (faultA D t d)]) []:=by
 by_cases he:devsE D=0
 ·have hlen:0<D.length:=by
   rcases Nat.eq_zero_or_pos D.length with h | h
   ·unfold devsE at he; rw [if_pos h] at he; cases he
   ·exact h
  have e:faultA D t d=runFault t d:=by unfold faultA; rw [if_pos he]
  unfold outA
  rw [e]
  exact tapRun_c n0 n1 n2 D t d nid hlen hD hS he hlt hld
 ·have e:faultA D t d=devsE D:=by unfold faultA; rw [if_neg he]
  unfold outA
  rw [e,if_neg he]
  exact tapRun_bad n0 n1 n2 D t d nid (by omega) hS he
set_option maxHeartbeats 16000000 in
theorem chainsRun_c (nl:Bool) (A:List Int) (nid:Nat) (hA:A.length≤17592186044416):ACall Tryz.prog 3 [litI nl A] [] nid (.bool true) []:=by
 refine acall_sr c3 (by simp [a3]) ?_
 unfold a3 litI
 refine SR.seq ?_
 simp -dsimp only [aqA,↓seqK,↓blkK,↓loopK,step,stepBin,eqB,Nat.add_assoc nid,↓reduceIte,simprocAttr,LN_succ]
 refine SR.seqTo ⟨[(3,.ptr (nid+12) 0)],[(nid+12,strmC nl A 0)],nid+50,nid⟩ ?_ ?_
 ·simp -dsimp only [aqA,↓seqK,↓blkK,↓loopK,step,stepBin,eqB,Nat.add_assoc nid,↓reduceIte,simprocAttr,LN_succ]
  refine Cov.go [] [] ?_
  simp [cvT,step,res,strmC,-List.getD_eq_getElem?_getD]
 refine SR.seqEx (ι:={x:DvX × Bs × Nat // DevB 3 x.1.D∧x.2.1.length≤76∧x.2.2≤10060}) (fun x=>⟨[(5,.str x.1.2.1),(4,.lit x.1.1.n0 x.1.1.D.length (devP x.1.1.n1 x.1.1.n2 x.1.1.D)),(3,.ptr (nid+12) 0)],[(nid+12,strmC nl A x.1.2.2)],nid+200,nid⟩) ?_ (fun ⟨⟨x,t,q⟩,hB,ht,hq⟩=>?_)
 ·simp -dsimp only [aqA,↓seqK,↓blkK,↓loopK,step,stepBin,eqB,Nat.add_assoc nid,↓reduceIte,simprocAttr,LN_succ,strmC_low]
  refine CallO.any (devices_I (nid+12) _ nl A 0 3 (by omega) (by omega) hA (by omega) (by omega)) (subH_get (by simp only [aqA,↓seqK,↓blkK,↓loopK,step,stepBin,eqB,Nat.add_assoc nid,↓reduceIte,simprocAttr,LN_succ])) (fun x hx=>?_)
  simp -dsimp only [aqA,↓seqK,↓blkK,↓loopK,step,stepBin,eqB,Nat.add_assoc nid,↓reduceIte,simprocAttr,LN_succ,strmC_low]
  refine CallO.onE (tmsX (nid+12) _ nl A x.q 60 (by omega) (by omega) (by omega) hA) (subH_get (by simp only [aqA,↓seqK,↓blkK,↓loopK,step,stepBin,eqB,Nat.add_assoc nid,↓reduceIte,simprocAttr,LN_succ])) (fun y hy=>?_)
  simp -dsimp only [aqA,↓seqK,↓blkK,↓loopK,step,stepBin,eqB,Nat.add_assoc nid,↓reduceIte,simprocAttr,LN_succ,strmC_low]
  refine ⟨⟨(x,y.1,y.2),hx.1,by simp only; omega,by simp only; omega⟩,Cov.go [] [] ?_⟩
  simp [cvT,step,res,strmC,ColsEq.refl]
 simp only at hB ht hq ⊢
 have hl3:=hB.len
 have hS:∀ d∈x.D,DevS d:=fun d hd=>(hB.ok d hd).s
 refine SR.seqEx (ι:={y:Bs × Nat // y.1.length≤90∧y.2≤10200}) (fun y=>⟨[(6,.str y.1.1),(5,.str t),(4,.lit x.n0 x.D.length (devP x.n1 x.n2 x.D)),(3,.ptr (nid+12) 0)],[(nid+12,strmC nl A y.1.2)],nid+300,nid⟩) ?_ (fun ⟨⟨d,q2⟩,hd,hq2⟩=>?_)
 ·simp -dsimp only [aqA,↓seqK,↓blkK,↓loopK,step,stepBin,eqB,Nat.add_assoc nid,↓reduceIte,simprocAttr,LN_succ,strmC_low]
  refine CallO.onE (nearlyBitsX (nid+12) _ nl A q t.length (by omega) (by omega) hA (by omega)) (subH_get (by simp only [aqA,↓seqK,↓blkK,↓loopK,step,stepBin,eqB,Nat.add_assoc nid,↓reduceIte,simprocAttr,LN_succ])) (fun y hy=>?_)
  simp -dsimp only [aqA,↓seqK,↓blkK,↓loopK,step,stepBin,eqB,Nat.add_assoc nid,↓reduceIte,simprocAttr,LN_succ,strmC_low]
  refine ⟨⟨(y.1,y.2),by simp only; omega,by simp only; omega⟩,Cov.go [] [] ?_⟩
  simp [cvT,step,res,strmC,ColsEq.refl]
 simp only at hd hq2 ⊢
 refine SR.seqEx (ι:={y:Bs // y.length≤91}) (fun y=>⟨[(6,.str y.1),(5,.str t),(4,.lit x.n0 x.D.length (devP x.n1 x.n2 x.D)),(3,.ptr (nid+12) 0)],[(nid+12,strmC nl A (q2+1))],nid+400,nid⟩) ?_ (fun ⟨d2,hd2⟩=>?_)
 ·simp -dsimp only [aqA,↓seqK,↓blkK,↓loopK,step,stepBin,eqB,Nat.add_assoc nid,↓reduceIte,simprocAttr,LN_succ,strmC_low]
  refine CallO.on (flip_c (nid+12) _ nl A q2 20 (by omega) (by omega) hA (by omega)) (subH_get (by simp only [aqA,↓seqK,↓blkK,↓loopK,step,stepBin,eqB,Nat.add_assoc nid,↓reduceIte,simprocAttr,LN_succ])) ?_
  simp -dsimp only [aqA,↓seqK,↓blkK,↓loopK,step,stepBin,eqB,Nat.add_assoc nid,↓reduceIte,simprocAttr,LN_succ,strmC_low]
  refine S2.intro (fun h2=>?_) (fun h2=>?_) <;> simp -dsimp only [aqA,↓seqK,↓blkK,↓loopK,step,stepBin,eqB,Nat.add_assoc nid,↓reduceIte,simprocAttr,LN_succ,strmC_low]
  ·refine ⟨by simp; omega,⟨d++[48],by simp; omega⟩,Cov.go [] [] ?_⟩
   simp [cvT,step,res,strmC,ColsEq.refl]
  ·refine ⟨⟨d,by omega⟩,Cov.go [] [] ?_⟩
   simp [cvT,step,res,strmC,ColsEq.refl]
 simp only
 have hrun:=fun m=>tapRun_all x.n0 x.n1 x.n2 x.D t d2 m hl3 hS (by omega) (by omega)
 refine SR.seqTo ⟨[(7,.str (outA x.D t d2)),(8,.int .i64 (faultA x.D t d2)),(6,.str d2),(5,.str t),(4,.lit x.n0 x.D.length (devP x.n1 x.n2 x.D)),(3,.ptr (nid+12) 0)],[(nid+12,strmC nl A (q2+1))],nid+500,nid⟩ ?_ ?_
 ·simp -dsimp only [aqA,↓seqK,↓blkK,↓loopK,step,stepBin,eqB,Nat.add_assoc nid,↓reduceIte,simprocAttr,LN_succ,strmC_low]
  refine CallO.pure (hrun _) ?_
  simp -dsimp only [aqA,↓seqK,↓blkK,↓loopK,step,stepBin,eqB,Nat.add_assoc nid,↓reduceIte,simprocAttr,LN_succ,strmC_low]
  refine Cov.go [] [] ?_
  simp [cvT,step,res,strmC,ColsEq.refl]
 refine SR.seqTo ⟨[(9,.int .i64 (faultA x.D t d2)),(7,.str (outA x.D t d2)),(8,.int .i64 (faultA x.D t d2)),(6,.str d2),(5,.str t),(4,.lit x.n0 x.D.length (devP x.n1 x.n2 x.D)),(3,.ptr (nid+12) 0)],[(nid+12,strmC nl A (q2+1))],nid+600,nid⟩ ?_ ?_
 ·simp -dsimp only [aqA,↓seqK,↓blkK,↓loopK,step,stepBin,eqB,Nat.add_assoc nid,↓reduceIte,simprocAttr,LN_succ,strmC_low]
  refine CallO.pure (devsFault_c x.n0 x.n1 x.n2 x.D _ (by omega) hS) ?_
  simp -dsimp only [aqA,↓seqK,↓blkK,↓loopK,step,stepBin,eqB,Nat.add_assoc nid,↓reduceIte,simprocAttr,LN_succ,strmC_low]
  refine CallO.pure (runFaultR_c t d2 _ (by omega) (by omega)) ?_
  simp -dsimp only [aqA,↓seqK,↓blkK,↓loopK,step,stepBin,eqB,Nat.add_assoc nid,↓reduceIte,simprocAttr,LN_succ,strmC_low]
  refine CallO.gave1 (by simp only [aqA,↓seqK,↓blkK,↓loopK,step,stepBin,eqB,Nat.add_assoc nid,↓reduceIte,simprocAttr,LN_succ]; rfl) (fun nl'=>or_c nl' [devsE x.D,runFault t d2] _ (by simp)) rfl ?_
  simp -dsimp only [aqA,↓seqK,↓blkK,↓loopK,step,stepBin,eqB,Nat.add_assoc nid,↓reduceIte,simprocAttr,LN_succ,strmC_low]
  have e:firstBad (fun x:Int=>x) [devsE x.D,runFault t d2]=faultA x.D t d2:=by
   unfold faultA firstBad
   by_cases h:devsE x.D=0
   ·rw [if_pos h,if_pos h]
    unfold firstBad
    by_cases h2:runFault t d2=0
    ·rw [if_pos h2,h2]; rfl
    ·rw [if_neg h2]
   ·rw [if_neg h,if_neg h]
  rw [e]
  refine Cov.go [] [] ?_
  simp [cvT,step,res,strmC,ColsEq.refl]
 refine SR.seqTo ⟨[(3,.ptr (nid+12) 0)],[(nid+12,strmC nl A (q2+1))],nid+700,nid⟩ ?_ ?_
 ·have b0:(faultA x.D t d2 != faultA x.D t d2)=false:=by simp
  by_cases hF:faultA x.D t d2=0
  ·have b1:(faultA x.D t d2==0)=true:=by rw [hF]; rfl
   have b2:(faultA x.D t d2 != 0)=false:=by rw [hF]; rfl
   have he:devsE x.D=0:=by
    unfold faultA at hF
    by_cases h:devsE x.D=0
    ·exact h
    ·rw [if_neg h] at hF; exact hF
   have hf:runFault t d2=0:=by unfold faultA at hF; rw [if_pos he] at hF; exact hF
   have hlen:0<x.D.length:=by
    rcases Nat.eq_zero_or_pos x.D.length with h | h
    ·unfold devsE at he; rw [if_pos h] at he; cases he
    ·exact h
   have ho:outA x.D t d2=runV ⟨0,portsN x.D⟩ t d2:=by unfold outA; rw [if_pos hF]
   have b3:(runV ⟨0,portsN x.D⟩ t d2 != runV ⟨0,portsN x.D⟩ t d2)=false:=by simp
   rw [ho]
   generalize faultA x.D t d2=F at *
   simp -dsimp only [aqA,↓seqK,↓blkK,↓loopK,step,stepBin,eqB,Nat.add_assoc nid,↓reduceIte,simprocAttr,LN_succ,strmC_low,b0,b1,b2]
   refine CallO.pure (runOf_c x.n0 x.n1 x.n2 x.D t d2 _ hlen (by omega) hS he hf) ?_
   simp -dsimp only [aqA,↓seqK,↓blkK,↓loopK,step,stepBin,eqB,Nat.add_assoc nid,↓reduceIte,simprocAttr,LN_succ,strmC_low,b0,b1,b2,b3]
   refine Cov.go [] [] ?_
   simp [cvT,step,res,strmC,ColsEq.refl]
  ·have b1:(faultA x.D t d2==0)=false:=by rw [beq_eq_false_iff_ne]; exact hF
   have b2:(faultA x.D t d2 != 0)=true:=by rw [bne_iff_ne]; exact hF
   have ho:outA x.D t d2=[]:=by unfold outA; rw [if_neg hF]
   have b3:((([]:Bs)) != [])=false:=by simp
   rw [ho]
   generalize faultA x.D t d2=F at *
   simp -dsimp only [aqA,↓seqK,↓blkK,↓loopK,step,stepBin,eqB,Nat.add_assoc nid,↓reduceIte,simprocAttr,LN_succ,strmC_low,b0,b1,b2,b3]
   refine Cov.go [] [] ?_
   simp [cvT,step,res,strmC,ColsEq.refl]
 refine SR.seqEx (ι:={y:Bs // y.length≤1000}) (fun y=>⟨[(10,.str y.1)],[],nid+800,nid⟩) ?_ (fun ⟨s,hs⟩=>?_)
 ·simp -dsimp only [aqA,↓seqK,↓blkK,↓loopK,step,stepBin,eqB,Nat.add_assoc nid,↓reduceIte,simprocAttr,LN_succ,strmC_low]
  refine CallO.any (shiftedS_I (nid+12) _ nl A (q2+1) (by omega) (by omega) hA) (subH_get (by simp only [aqA,↓seqK,↓blkK,↓loopK,step,stepBin,eqB,Nat.add_assoc nid,↓reduceIte,simprocAttr,LN_succ])) (fun y hy=>?_)
  simp -dsimp only [aqA,↓seqK,↓blkK,↓loopK,step,stepBin,eqB,Nat.add_assoc nid,↓reduceIte,simprocAttr,LN_succ,strmC_low]
  refine ⟨⟨y.1,hy.1⟩,Cov.go [] [] ?_⟩
  simp [cvT,step,res]
 simp only
 have hi1:=fun m=>identifyA_c s m (by omega)
 have hi2:=fun m=>identifiedBy_c s m (by omega)
 have hil:(identA s).1.length≤s.length:=by
  unfold identA
  split
  ·exact identF_len s (s.length+1) [] 0 (by simp) (by omega)
  ·simp
 generalize identA s=I at *
 refine SR.seqTo ⟨[(11,.sl (nid+900) 0 I.1.length),(12,.int .i64 (I.2.1:Nat)),(8,.int .i64 I.2.2),(10,.str s)],[(nid+900,some (.arr 3 I.1.length [.i .i64 fun i=>(I.1.getD i 0:Nat)]))],nid+1000,nid⟩ ?_ ?_
 ·simp -dsimp only [aqA,↓seqK,↓blkK,↓loopK,step,stepBin,eqB,Nat.add_assoc nid,↓reduceIte,simprocAttr,LN_succ]
  refine CallO.pure (hi1 _) ?_
  simp -dsimp only [aqA,↓seqK,↓blkK,↓loopK,step,stepBin,eqB,Nat.add_assoc nid,↓reduceIte,simprocAttr,LN_succ]
  refine Cov.go [(nid+900,nid+804)] [] ?_
  simp [cvT,step,res,ColsEq.refl]
 refine SR.seqTo ⟨[(13,.sl (nid+901) 0 I.1.length),(14,.int .i64 (I.2.1:Nat)),(15,.int .i64 I.2.2),(11,.sl (nid+900) 0 I.1.length),(12,.int .i64 (I.2.1:Nat)),(8,.int .i64 I.2.2)],[(nid+900,some (.arr 3 I.1.length [.i .i64 fun i=>(I.1.getD i 0:Nat)])),(nid+901,some (.arr 3 I.1.length [.i .i64 fun i=>(I.1.getD i 0:Nat)]))],nid+1100,nid⟩ ?_ ?_
 ·simp -dsimp only [aqA,↓seqK,↓blkK,↓loopK,step,stepBin,eqB,Nat.add_assoc nid,↓reduceIte,simprocAttr,LN_succ]
  refine CallO.pure (hi2 _) ?_
  simp -dsimp only [aqA,↓seqK,↓blkK,↓loopK,step,stepBin,eqB,Nat.add_assoc nid,↓reduceIte,simprocAttr,LN_succ]
  refine Cov.go [(nid+901,nid+1004)] [] ?_
  simp [cvT,step,res,ColsEq.refl]
 have hcol:(fun i=>((I.1.getD i 0:Nat):Int))=fun i=>(I.1.map Int.ofNat).getD i 0:=by
  funext i
  rw [List.getD_eq_getElem?_getD,List.getD_eq_getElem?_getD,List.getElem?_map]
  cases I.1[i]? <;> rfl
 rw [hcol]
 have b1:(I.2.2==I.2.2)=true:=by simp
 have b2:((((I.2.1:Nat):Int))==(I.2.1:Nat))=true:=by simp
 have b3:(I.1.map Int.ofNat==I.1.map Int.ofNat)=true:=by simp
 refine SR.run (t:=.mk) ?_
 simp -dsimp only [aqA,↓seqK,↓blkK,↓loopK,step,stepBin,eqB,Nat.add_assoc nid,↓reduceIte,simprocAttr,LN_succ,b1,b2]
 have heq:=fun n1 n2 m=>equalI_c n1 n2 (I.1.map Int.ofNat) (I.1.map Int.ofNat) m (by rw [List.length_map]; omega) (by rw [List.length_map]; omega)
 unfold litI at heq
 rw [List.length_map,b3] at heq
 refine CallO.lent [nid+900,nid+901] (fun nl'=>by
  simp only [lends,lend,aqA,↓seqK,↓blkK,↓loopK,step,stepBin,eqB,Nat.add_assoc nid,↓reduceIte,simprocAttr,LN_succ]
  exact heq _ _ _) rfl rfl (by simp [getH,idS1,idS2]) ?_
 simp -dsimp only [aqA,↓seqK,↓blkK,↓loopK,step,stepBin,eqB,Nat.add_assoc nid,↓reduceIte,simprocAttr,LN_succ]
 refine CallO.pure (tappedR_c _) ?_
 simp -dsimp only [aqA,↓seqK,↓blkK,↓loopK,step,stepBin,eqB,Nat.add_assoc nid,↓reduceIte,simprocAttr,LN_succ]
 refine RetOK.go [] [] (.inl rfl) ?_
 simp [a3,cvT,step,res]
end Go.Proofs.YtahjohieahehjaaGreatDoor
namespace Go.Proofs.YtahjohieahehjaaGreatDoor
open Go.RowKit
theorem handed_shaped {H:Type} {enc:TypeId × Value→H} {a:Assume} {C:Checked} {os:Os} {f:FuncId} {fn:Func} {s:ChangeSpec} {conds:List PathCond} {apart fresh handsOn again:Bool} {X:World→Array Value→Prop}
  (hX:∀ (w w':World) (args:Array Value),w.heap=w'.heap→X w args→X w' args)
  (own:ownKnob C.prog.godebug=none) (started:os.Started) (noInit:C.prog.inits.idxOf? f=none) (hfn:C.prog.funcs[f]?=some fn)
  (witness:∃ (w:World) (tape:Tape) (i:Input),w.os=os∧(w.forCall tape i).Shaped C.prog∧i.vars=[]∧Input.okWide C.prog (w.forCall tape i) .any w.heap.size f i ∧
   ((s.pre enc C.prog fn conds apart (w.forCall tape i).memory i.args∧X (w.forCall tape i).memory i.args)∧sizedMet enc C.prog fn (OpenSpec.ofChange s) apart (w.forCall tape i).memory i.args)∧a.holds C.prog (lone (Frame.enter C.prog f i.args .normal) [] (w.forCall tape i)))
  (contract:∀ (W:World) (base:Nat) (args:Array Value) (ds gs:List (DataW H)) (before:List MemPlace),
   (∀ (j:Nat) t v,fn.params[j]?=some t→args[j]?=some v→Value.okWide C.prog W .any base t v) →
   DataW.Whole enc C.prog fn.params.toList s.vars apart W args.toList ds gs before →
   conds.all (PathCond.test C.prog ⟨fn.params.toList,ds,s.plain.varTypes C.prog,gs⟩)=true →
   (DataW.weightsEach C.prog (fn.params.toList++s.plain.varTypes C.prog) (ds++gs)).all (·≤reachBytes)=true→X W args→W.ShapedOpen C.prog →
   Calls C.prog f args W fun e W'=>∃ v,e=.returned v∧s.post enc C.prog fn apart fresh handsOn again W args v W') :
  ReturnsInHanded a C os f .any (fun w args=>(s.pre enc C.prog fn conds apart w args∧X w args)∧sizedMet enc C.prog fn (OpenSpec.ofChange s) apart w args) (s.post enc C.prog fn apart fresh handsOn again):=by
 refine returnsInHanded_of_calls own started noInit witness ?_
 intro w tape i _ hsh _ hok hpre _
 obtain ⟨_,_,_,fn',hfn',_,_,_,_,hval⟩:=hok
 have e:fn'=fn:=Option.some.inj (hfn'.symm.trans hfn)
 subst e
 obtain ⟨⟨⟨ds,gs,before,hw,hc⟩,hx⟩,hz⟩:=hpre
 have hw':=DataW.Whole.of_heap (w':=w.forCall tape i) (by rfl) hw
 refine (contract (w.forCall tape i) w.heap.size i.args ds gs before hval hw' hc (hz.weights hw) (hX _ _ _ (by rfl) hx) hsh).mono fun e W' ⟨v,he,hp⟩=>?_
 subst he
 exact ChangeSpec.post_blind hp
theorem gok_cell {W:World} {g:Nat} {m:Int} (h:W.cell? ⟨g,0,none⟩=some (.int .i64 m)):g<W.heap.size∧∃ o,W.heap[g]?=some o∧cell0 o=some (.int .i64 m):=by
 unfold World.cell? at h
 simp only at h
 split at h
 ·rename_i c t f hc
  refine ⟨?_,_,hc,?_⟩
  ·rcases Nat.lt_or_ge g W.heap.size with hl | hl
   ·exact hl
   ·rw [Array.getElem?_eq_none hl] at hc; cases hc
  ·simpa [cell0] using h
 ·cases h
set_option maxRecDepth 1000000 in
theorem gok0_of {W:World} (h:W.ShapedOpen Tryz.prog):GOK0 (fun b=>W.heap[b]?) W.heap.size:=by
 obtain ⟨m,hm⟩:=cell_of_shapedOpen_int (g:=0) (t:=3) (zero:=#[.int .i64 0]) (k:=.i64) h (of_decide_eq_true (by kernel_rfl)) (by kernel_rfl) rfl (by kernel_rfl) (by kernel_rfl) Tryz.underlying3
 obtain ⟨h1,o,h2,h3⟩:=gok_cell hm
 exact ⟨o,m,h1,h2,h3⟩
theorem blk_of {W:World} {g j:Nat} {v:Value} (h:W.cell? ⟨g,j,none⟩=some v):g<W.heap.size:=World.block_lt_of_cell? W _ h
theorem gok_of {W:World} (h:W.ShapedOpen Tryz.prog) (ht:TabW W):GOK (fun b=>W.heap[b]?) W.heap.size :=
 ⟨gok0_of h,⟨blk_of ht.1,blk_of (ht.2.1 0 (by decide)),blk_of (ht.2.2 0 (by decide)).1⟩,W,fun _ _=>rfl,ht⟩
end Go.Proofs.YtahjohieahehjaaGreatDoor
