/-
 The end of the law of wafers that stay: what the calls return is looked at,then spoilt.
-/
import Derived.Test.YteepabfepfehgaaKWS6
import Derived.Test.YteepabfepfehgaaKWS5
import Derived.Test.YteepabfepfehgaaKWS3
import Derived.Test.YteepabfepfehgaaProg
import Derived.Test.YteepabfepfehgaaChecked
import Derived.Handed
import Derived.HandedShaped
import Derived.Shelf.Vars
import Derived.KernelRfl
set_option linter.unusedVariables false
set_option linter.unusedSimpArgs false
set_option maxRecDepth 100000
namespace Go.Proofs.Yteepabfepfehgaa
open Go.RowKit
theorem routeL_len (P:List Pt):(routeL P).length≤9:=by
 unfold routeL
 split
 ·rename_i hf
  obtain ⟨hne,hok⟩:=routeFault_ok hf
  have hb:=rtGo_ok hok P.length [0] 0 none (by omega) (by have:=hok.len; omega) (fun _ _ h=>by cases h)
  obtain ⟨l,s,hr⟩:=routeV_some hne
  have h2:=(hb l s hr).1
  rw [hr]
  show l.length≤9
  have:=hok.len
  omega
 ·simp
def sbx (n:Nat) (P:List UInt8) (j:Nat):Option ABlk:=some (.box 28 [.sl j 0 n,.str P])
set_option maxHeartbeats 16000000 in
theorem wsTail (n1 n2 n3 n4:Bool) (W:Waf) (P:List Pt) (T Y:List (List UInt8)) (cnt:Nat) (C:List (List Pt)) (o fb b0 nid:Nat) (hb0:b0≤nid) (ho:o<nid) (hfb:fb+C.length≤nid) (hne:∀ i,i<C.length→¬ fb+i=o) (hC:C.length≤60000) (hr:∀ i,(C.getD i []).length≤60000)
  (hW:W.rows.length≤1000) (hT:T.length≤1000) (hY:Y.length≤1000) (hP:P.length≤6) :
  SR Try.prog (navC [1,1,1,1,1,1,1,1] (a4).body) ⟨[(5,.ptr nid 0),(6,.ptr (nid+4) 0),(7,litPl n3 P),(8,litPl n4 P),(9,.ptr (nid+8) 0),(10,.int .i64 0),(11,.ptr (nid+16) 0),(12,.int .i64 (cnt:Nat)),(13,.int .i64 0),(14,.ptr (nid+24) 0),(15,.int .i64 0),(16,.sl o 0 C.length),(17,.int .i64 0)],[(nid,boxW n1 W),(nid+4,boxW n2 W),(nid+8,sbx T.length W.pass (nid+12)),(nid+12,arrS T),(nid+16,sbx Y.length W.pass (nid+20)),(nid+20,arrS Y),(nid+24,sbx W.rows.length W.pass (nid+28)),(nid+28,arrS W.rows)]++famC o fb C,nid+200,b0⟩ (RetOK (a4).res [] b0 (.bool true) []) .mk:=by
 have hs:=famC_scoped (o:=o) (b:=fb) (c:=nid) C (by omega) (by omega)
 obtain ⟨Hs,hHs⟩:∃ Hs,famC o fb C=Hs:=⟨_,rfl⟩
 rw [hHs] at hs ⊢
 simp only [a4,navC]
 have o1:∀ K,o<nid+K:=fun K=>by omega
 have o2:∀ K,¬ o=nid+K:=fun K=>by omega
 have o3:∀ K,¬ nid+K=o:=fun K=>by omega
 have o4:∀ K,¬ nid+K≤o:=fun K=>by omega
 have o8:∀ K,(nid+K==o)=false:=fun K=>by rw [beq_eq_false_iff_ne]; omega
 have o9:(nid==o)=false:=by rw [beq_eq_false_iff_ne]; omega
 have o5:¬ o=nid:=by omega
 have o6:¬ nid=o:=by omega
 have o7:¬ nid≤o:=by omega
 have hsw:=fun nl m=>sameWafer_c nl n2 W W m (by omega) (by omega)
 simp only [BEq.rfl,Bool.and_self] at hsw
 unfold wafP at hsw
 have hcnt:decide ((cnt:Int)<0)=false:=decide_eq_false (by omega)
 refine SR.seqTo ⟨[(5,.ptr nid 0),(6,.ptr (nid+4) 0),(7,litPl n3 P),(8,litPl n4 P),(9,.ptr (nid+8) 0),(11,.ptr (nid+16) 0),(14,.ptr (nid+24) 0),(16,.sl o 0 C.length)],[(nid,boxW n1 W),(nid+4,boxW n2 W),(nid+8,sbx T.length W.pass (nid+12)),(nid+12,arrS T),(nid+16,sbx Y.length W.pass (nid+20)),(nid+20,arrS Y),(nid+24,sbx W.rows.length W.pass (nid+28)),(nid+28,arrS W.rows)]++Hs,nid+500,b0⟩ ?_ ?_
 ·unfold boxW sbx arrS
  simp -dsimp only [aqA,↓seqK,↓blkK,↓loopK,step,stepBin,eqB,Nat.add_assoc nid,simprocAttr,z0,Int.cast_ofNat_Int,Int.reduceBEq,Int.reduceBNe,Int.reduceLT,Int.reduceLE,Int.reduceAdd,Int.reduceSub,Int.reduceMul,Int.reduceToNat,Int.reduceNeg,Int.reduceTMod,Int.reduceEq,not_false_eq_true,Int.reducePow,Int.reduceFDiv,Nat.reducePow,Nat.reduceSub,Nat.reduceMul,Nat.min_eq_left,Nat.reduceEqDiff,BEq.rfl,Int.tdiv_one,LN_succ,hcnt]
  refine CallO.lent [nid+28] (fun nl'=>by
   simp only [lends,lend,noOs,aqA,↓seqK,↓blkK,↓loopK,step,stepBin,eqB,Nat.add_assoc nid,simprocAttr,z0,Int.cast_ofNat_Int,Int.reduceBEq,Int.reduceBNe,Int.reduceLT,Int.reduceLE,Int.reduceAdd,Int.reduceSub,Int.reduceMul,Int.reduceToNat,Int.reduceNeg,Int.reduceTMod,Int.reduceEq,not_false_eq_true,Int.reducePow,Int.reduceFDiv,Nat.reducePow,Nat.reduceSub,Nat.reduceMul,Nat.min_eq_left,Nat.reduceEqDiff,BEq.rfl,Int.tdiv_one,LN_succ]
   exact hsw _ _) rfl rfl (by simp [getH]) ?_
  simp -dsimp only [aqA,↓seqK,↓blkK,↓loopK,step,stepBin,eqB,Nat.add_assoc nid,simprocAttr,z0,Int.cast_ofNat_Int,Int.reduceBEq,Int.reduceBNe,Int.reduceLT,Int.reduceLE,Int.reduceAdd,Int.reduceSub,Int.reduceMul,Int.reduceToNat,Int.reduceNeg,Int.reduceTMod,Int.reduceEq,not_false_eq_true,Int.reducePow,Int.reduceFDiv,Nat.reducePow,Nat.reduceSub,Nat.reduceMul,Nat.min_eq_left,Nat.reduceEqDiff,BEq.rfl,Int.tdiv_one,LN_succ,Bool.not_true]
  refine Cov.goQ (nid) Hs [] [] (by omega) hs (by repeat (first | exact PreQ.nil | apply PreQ.cons)) (by repeat (first | exact PreQ.nil | apply PreQ.cons)) (by simp [kOK]) (by simp) ?_
  simp [cvT,step,res,boxW,sbx,arrS,litPl,ColsEq.refl,o1,o2,o3,o4,o5,o6,o7,o8,o9,ho,-List.getD_eq_getElem?_getD]
 have hro:=fun m=>route_c n3 P m (by omega)
 have hrf:=fun m=>routeFault_c n4 P m (by omega)
 unfold litP at hro hrf
 have hrl:=routeL_len P
 refine SR.seqTo ⟨[(5,.ptr nid 0),(6,.ptr (nid+4) 0),(7,litPl n3 P),(8,litPl n4 P),(9,.ptr (nid+8) 0),(11,.ptr (nid+16) 0),(14,.ptr (nid+24) 0),(16,.sl o 0 C.length),(18,.sl (nid+32) 0 (routeL P).length),(20,.int .i64 (routeFault P))],[(nid,boxW n1 W),(nid+4,boxW n2 W),(nid+8,sbx T.length W.pass (nid+12)),(nid+12,arrS T),(nid+16,sbx Y.length W.pass (nid+20)),(nid+20,arrS Y),(nid+24,sbx W.rows.length W.pass (nid+28)),(nid+28,arrS W.rows),(nid+32,arrI (routeL P))]++Hs,nid+600,b0⟩ ?_ ?_
 ·unfold litPl
  simp -dsimp only [aqA,↓seqK,↓blkK,↓loopK,step,stepBin,eqB,Nat.add_assoc nid,simprocAttr,z0,Int.cast_ofNat_Int,Int.reduceBEq,Int.reduceBNe,Int.reduceLT,Int.reduceLE,Int.reduceAdd,Int.reduceSub,Int.reduceMul,Int.reduceToNat,Int.reduceNeg,Int.reduceTMod,Int.reduceEq,not_false_eq_true,Int.reducePow,Int.reduceFDiv,Nat.reducePow,Nat.reduceSub,Nat.reduceMul,Nat.min_eq_left,Nat.reduceEqDiff,BEq.rfl,Int.tdiv_one,LN_succ]
  refine CallO.pure (hro _) ?_
  unfold arrI
  simp -dsimp only [aqA,↓seqK,↓blkK,↓loopK,step,stepBin,eqB,Nat.add_assoc nid,simprocAttr,z0,Int.cast_ofNat_Int,Int.reduceBEq,Int.reduceBNe,Int.reduceLT,Int.reduceLE,Int.reduceAdd,Int.reduceSub,Int.reduceMul,Int.reduceToNat,Int.reduceNeg,Int.reduceTMod,Int.reduceEq,not_false_eq_true,Int.reducePow,Int.reduceFDiv,Nat.reducePow,Nat.reduceSub,Nat.reduceMul,Nat.min_eq_left,Nat.reduceEqDiff,BEq.rfl,Int.tdiv_one,LN_succ]
  refine Cov.goQ (nid) Hs [(nid+32,nid+504)] [] (by omega) hs (by repeat (first | exact PreQ.nil | apply PreQ.cons)) (by repeat (first | exact PreQ.nil | apply PreQ.cons)) (by simp [kOK]) (by simp) ?_
  simp [cvT,step,res,boxW,sbx,arrS,litPl,ColsEq.refl,o1,o2,o3,o4,o5,o6,o7,o8,o9,ho,-List.getD_eq_getElem?_getD]
 have hff:(routeFault P != routeFault P)=false:=by simp
 refine SR.seqTo ⟨[(5,.ptr nid 0),(6,.ptr (nid+4) 0),(7,litPl n3 P),(8,litPl n4 P),(9,.ptr (nid+8) 0),(11,.ptr (nid+16) 0),(14,.ptr (nid+24) 0),(16,.sl o 0 C.length),(18,.sl (nid+32) 0 (routeL P).length)],[(nid,boxW n1 W),(nid+4,boxW n2 W),(nid+8,sbx T.length W.pass (nid+12)),(nid+12,arrS T),(nid+16,sbx Y.length W.pass (nid+20)),(nid+20,arrS Y),(nid+24,sbx W.rows.length W.pass (nid+28)),(nid+28,arrS W.rows),(nid+32,arrI (routeL P))]++Hs,nid+700,b0⟩ ?_ ?_
 ·unfold litPl
  simp -dsimp only [aqA,↓seqK,↓blkK,↓loopK,step,stepBin,eqB,Nat.add_assoc nid,simprocAttr,z0,Int.cast_ofNat_Int,Int.reduceBEq,Int.reduceBNe,Int.reduceLT,Int.reduceLE,Int.reduceAdd,Int.reduceSub,Int.reduceMul,Int.reduceToNat,Int.reduceNeg,Int.reduceTMod,Int.reduceEq,not_false_eq_true,Int.reducePow,Int.reduceFDiv,Nat.reducePow,Nat.reduceSub,Nat.reduceMul,Nat.min_eq_left,Nat.reduceEqDiff,BEq.rfl,Int.tdiv_one,LN_succ]
  refine CallO.pure (hrf _) ?_
  simp -dsimp only [aqA,↓seqK,↓blkK,↓loopK,step,stepBin,eqB,Nat.add_assoc nid,simprocAttr,z0,Int.cast_ofNat_Int,Int.reduceBEq,Int.reduceBNe,Int.reduceLT,Int.reduceLE,Int.reduceAdd,Int.reduceSub,Int.reduceMul,Int.reduceToNat,Int.reduceNeg,Int.reduceTMod,Int.reduceEq,not_false_eq_true,Int.reducePow,Int.reduceFDiv,Nat.reducePow,Nat.reduceSub,Nat.reduceMul,Nat.min_eq_left,Nat.reduceEqDiff,BEq.rfl,Int.tdiv_one,LN_succ,hff]
  refine Cov.goQ (nid) Hs [] [] (by omega) hs (by repeat (first | exact PreQ.nil | apply PreQ.cons)) (by repeat (first | exact PreQ.nil | apply PreQ.cons)) (by simp [kOK]) (by simp) ?_
  simp [cvT,step,res,boxW,sbx,arrS,arrI,litPl,ColsEq.refl,o1,o2,o3,o4,o5,o6,o7,o8,o9,ho,-List.getD_eq_getElem?_getD]
 refine SR.seqTo ⟨[(5,.ptr nid 0),(6,.ptr (nid+4) 0),(7,litPl n3 P),(8,litPl n4 P),(11,.ptr (nid+16) 0),(14,.ptr (nid+24) 0),(16,.sl o 0 C.length),(18,.sl (nid+32) 0 (routeL P).length)],[(nid,boxW n1 W),(nid+4,boxW n2 W),(nid+16,sbx Y.length W.pass (nid+20)),(nid+20,arrS Y),(nid+24,sbx W.rows.length W.pass (nid+28)),(nid+28,arrS W.rows),(nid+32,arrI (routeL P))]++Hs,nid+750,b0⟩ ?_ ?_
 ·unfold sbx
  simp -dsimp only [aqA,↓seqK,↓blkK,↓loopK,step,stepBin,eqB,Nat.add_assoc nid,simprocAttr,z0,Int.cast_ofNat_Int,Int.reduceBEq,Int.reduceBNe,Int.reduceLT,Int.reduceLE,Int.reduceAdd,Int.reduceSub,Int.reduceMul,Int.reduceToNat,Int.reduceNeg,Int.reduceTMod,Int.reduceEq,not_false_eq_true,Int.reducePow,Int.reduceFDiv,Nat.reducePow,Nat.reduceSub,Nat.reduceMul,Nat.min_eq_left,Nat.reduceEqDiff,BEq.rfl,Int.tdiv_one,LN_succ]
  refine CallO.on (spoilNames_c (nid+12) _ T (by omega) (by omega)) (subH_get (by simp only [aqA,↓seqK,↓blkK,↓loopK,step,stepBin,eqB,Nat.add_assoc nid,simprocAttr,z0,Int.cast_ofNat_Int,Int.reduceBEq,Int.reduceBNe,Int.reduceLT,Int.reduceLE,Int.reduceAdd,Int.reduceSub,Int.reduceMul,Int.reduceToNat,Int.reduceNeg,Int.reduceTMod,Int.reduceEq,not_false_eq_true,Int.reducePow,Int.reduceFDiv,Nat.reducePow,Nat.reduceSub,Nat.reduceMul,Nat.min_eq_left,Nat.reduceEqDiff,BEq.rfl,Int.tdiv_one,LN_succ,arrS])) ?_
  simp -dsimp only [aqA,↓seqK,↓blkK,↓loopK,step,stepBin,eqB,Nat.add_assoc nid,simprocAttr,z0,Int.cast_ofNat_Int,Int.reduceBEq,Int.reduceBNe,Int.reduceLT,Int.reduceLE,Int.reduceAdd,Int.reduceSub,Int.reduceMul,Int.reduceToNat,Int.reduceNeg,Int.reduceTMod,Int.reduceEq,not_false_eq_true,Int.reducePow,Int.reduceFDiv,Nat.reducePow,Nat.reduceSub,Nat.reduceMul,Nat.min_eq_left,Nat.reduceEqDiff,BEq.rfl,Int.tdiv_one,LN_succ]
  refine Cov.goQ (nid) Hs [] [] (by omega) hs (by repeat (first | exact PreQ.nil | apply PreQ.cons)) (by repeat (first | exact PreQ.nil | apply PreQ.cons)) (by simp [kOK]) (by simp) ?_
  simp [cvT,step,res,boxW,sbx,arrS,arrI,litPl,ColsEq.refl,o1,o2,o3,o4,o5,o6,o7,o8,o9,ho,-List.getD_eq_getElem?_getD]
 refine SR.seqTo ⟨[(5,.ptr nid 0),(6,.ptr (nid+4) 0),(7,litPl n3 P),(8,litPl n4 P),(14,.ptr (nid+24) 0),(16,.sl o 0 C.length),(18,.sl (nid+32) 0 (routeL P).length)],[(nid,boxW n1 W),(nid+4,boxW n2 W),(nid+24,sbx W.rows.length W.pass (nid+28)),(nid+28,arrS W.rows),(nid+32,arrI (routeL P))]++Hs,nid+800,b0⟩ ?_ ?_
 ·unfold sbx
  simp -dsimp only [aqA,↓seqK,↓blkK,↓loopK,step,stepBin,eqB,Nat.add_assoc nid,simprocAttr,z0,Int.cast_ofNat_Int,Int.reduceBEq,Int.reduceBNe,Int.reduceLT,Int.reduceLE,Int.reduceAdd,Int.reduceSub,Int.reduceMul,Int.reduceToNat,Int.reduceNeg,Int.reduceTMod,Int.reduceEq,not_false_eq_true,Int.reducePow,Int.reduceFDiv,Nat.reducePow,Nat.reduceSub,Nat.reduceMul,Nat.min_eq_left,Nat.reduceEqDiff,BEq.rfl,Int.tdiv_one,LN_succ]
  refine CallO.on (spoilNames_c (nid+20) _ Y (by omega) (by omega)) (subH_get (by simp only [aqA,↓seqK,↓blkK,↓loopK,step,stepBin,eqB,Nat.add_assoc nid,simprocAttr,z0,Int.cast_ofNat_Int,Int.reduceBEq,Int.reduceBNe,Int.reduceLT,Int.reduceLE,Int.reduceAdd,Int.reduceSub,Int.reduceMul,Int.reduceToNat,Int.reduceNeg,Int.reduceTMod,Int.reduceEq,not_false_eq_true,Int.reducePow,Int.reduceFDiv,Nat.reducePow,Nat.reduceSub,Nat.reduceMul,Nat.min_eq_left,Nat.reduceEqDiff,BEq.rfl,Int.tdiv_one,LN_succ,arrS])) ?_
  simp -dsimp only [aqA,↓seqK,↓blkK,↓loopK,step,stepBin,eqB,Nat.add_assoc nid,simprocAttr,z0,Int.cast_ofNat_Int,Int.reduceBEq,Int.reduceBNe,Int.reduceLT,Int.reduceLE,Int.reduceAdd,Int.reduceSub,Int.reduceMul,Int.reduceToNat,Int.reduceNeg,Int.reduceTMod,Int.reduceEq,not_false_eq_true,Int.reducePow,Int.reduceFDiv,Nat.reducePow,Nat.reduceSub,Nat.reduceMul,Nat.min_eq_left,Nat.reduceEqDiff,BEq.rfl,Int.tdiv_one,LN_succ]
  refine Cov.goQ (nid) Hs [] [] (by omega) hs (by repeat (first | exact PreQ.nil | apply PreQ.cons)) (by repeat (first | exact PreQ.nil | apply PreQ.cons)) (by simp [kOK]) (by simp) ?_
  simp [cvT,step,res,boxW,sbx,arrS,arrI,litPl,ColsEq.refl,o1,o2,o3,o4,o5,o6,o7,o8,o9,ho,-List.getD_eq_getElem?_getD]
 refine SR.seqTo ⟨[(5,.ptr nid 0),(6,.ptr (nid+4) 0),(7,litPl n3 P),(8,litPl n4 P),(16,.sl o 0 C.length),(18,.sl (nid+32) 0 (routeL P).length)],[(nid,boxW n1 W),(nid+4,boxW n2 W),(nid+32,arrI (routeL P))]++Hs,nid+850,b0⟩ ?_ ?_
 ·unfold sbx
  simp -dsimp only [aqA,↓seqK,↓blkK,↓loopK,step,stepBin,eqB,Nat.add_assoc nid,simprocAttr,z0,Int.cast_ofNat_Int,Int.reduceBEq,Int.reduceBNe,Int.reduceLT,Int.reduceLE,Int.reduceAdd,Int.reduceSub,Int.reduceMul,Int.reduceToNat,Int.reduceNeg,Int.reduceTMod,Int.reduceEq,not_false_eq_true,Int.reducePow,Int.reduceFDiv,Nat.reducePow,Nat.reduceSub,Nat.reduceMul,Nat.min_eq_left,Nat.reduceEqDiff,BEq.rfl,Int.tdiv_one,LN_succ]
  refine CallO.on (spoilNames_c (nid+28) _ W.rows (by omega) (by omega)) (subH_get (by simp only [aqA,↓seqK,↓blkK,↓loopK,step,stepBin,eqB,Nat.add_assoc nid,simprocAttr,z0,Int.cast_ofNat_Int,Int.reduceBEq,Int.reduceBNe,Int.reduceLT,Int.reduceLE,Int.reduceAdd,Int.reduceSub,Int.reduceMul,Int.reduceToNat,Int.reduceNeg,Int.reduceTMod,Int.reduceEq,not_false_eq_true,Int.reducePow,Int.reduceFDiv,Nat.reducePow,Nat.reduceSub,Nat.reduceMul,Nat.min_eq_left,Nat.reduceEqDiff,BEq.rfl,Int.tdiv_one,LN_succ,arrS])) ?_
  simp -dsimp only [aqA,↓seqK,↓blkK,↓loopK,step,stepBin,eqB,Nat.add_assoc nid,simprocAttr,z0,Int.cast_ofNat_Int,Int.reduceBEq,Int.reduceBNe,Int.reduceLT,Int.reduceLE,Int.reduceAdd,Int.reduceSub,Int.reduceMul,Int.reduceToNat,Int.reduceNeg,Int.reduceTMod,Int.reduceEq,not_false_eq_true,Int.reducePow,Int.reduceFDiv,Nat.reducePow,Nat.reduceSub,Nat.reduceMul,Nat.min_eq_left,Nat.reduceEqDiff,BEq.rfl,Int.tdiv_one,LN_succ]
  refine Cov.goQ (nid) Hs [] [] (by omega) hs (by repeat (first | exact PreQ.nil | apply PreQ.cons)) (by repeat (first | exact PreQ.nil | apply PreQ.cons)) (by simp [kOK]) (by simp) ?_
  simp [cvT,step,res,boxW,sbx,arrS,arrI,litPl,ColsEq.refl,o1,o2,o3,o4,o5,o6,o7,o8,o9,ho,-List.getD_eq_getElem?_getD]
 refine SR.seqTo ⟨[(5,.ptr nid 0),(6,.ptr (nid+4) 0),(7,litPl n3 P),(8,litPl n4 P),(16,.sl o 0 C.length)],[(nid,boxW n1 W),(nid+4,boxW n2 W)]++Hs,nid+1000,b0⟩ ?_ ?_
 ·simp -dsimp only [aqA,↓seqK,↓blkK,↓loopK,step,stepBin,eqB,Nat.add_assoc nid,simprocAttr,z0,Int.cast_ofNat_Int,Int.reduceBEq,Int.reduceBNe,Int.reduceLT,Int.reduceLE,Int.reduceAdd,Int.reduceSub,Int.reduceMul,Int.reduceToNat,Int.reduceNeg,Int.reduceTMod,Int.reduceEq,not_false_eq_true,Int.reducePow,Int.reduceFDiv,Nat.reducePow,Nat.reduceSub,Nat.reduceMul,Nat.min_eq_left,Nat.reduceEqDiff,BEq.rfl,Int.tdiv_one,LN_succ]
  refine CallO.on (spoilInts_c (nid+32) _ (routeL P) (by omega) (by omega)) (subH_get (by simp only [aqA,↓seqK,↓blkK,↓loopK,step,stepBin,eqB,Nat.add_assoc nid,simprocAttr,z0,Int.cast_ofNat_Int,Int.reduceBEq,Int.reduceBNe,Int.reduceLT,Int.reduceLE,Int.reduceAdd,Int.reduceSub,Int.reduceMul,Int.reduceToNat,Int.reduceNeg,Int.reduceTMod,Int.reduceEq,not_false_eq_true,Int.reducePow,Int.reduceFDiv,Nat.reducePow,Nat.reduceSub,Nat.reduceMul,Nat.min_eq_left,Nat.reduceEqDiff,BEq.rfl,Int.tdiv_one,LN_succ,arrI])) ?_
  simp -dsimp only [aqA,↓seqK,↓blkK,↓loopK,step,stepBin,eqB,Nat.add_assoc nid,simprocAttr,z0,Int.cast_ofNat_Int,Int.reduceBEq,Int.reduceBNe,Int.reduceLT,Int.reduceLE,Int.reduceAdd,Int.reduceSub,Int.reduceMul,Int.reduceToNat,Int.reduceNeg,Int.reduceTMod,Int.reduceEq,not_false_eq_true,Int.reducePow,Int.reduceFDiv,Nat.reducePow,Nat.reduceSub,Nat.reduceMul,Nat.min_eq_left,Nat.reduceEqDiff,BEq.rfl,Int.tdiv_one,LN_succ]
  refine Cov.goQ (nid) Hs [] [] (by omega) hs (by repeat (first | exact PreQ.nil | apply PreQ.cons)) (by repeat (first | exact PreQ.nil | apply PreQ.cons)) (by simp [kOK]) (by simp) ?_
  simp [cvT,step,res,boxW,sbx,arrS,arrI,litPl,ColsEq.refl,o1,o2,o3,o4,o5,o6,o7,o8,o9,ho,-List.getD_eq_getElem?_getD]
 refine SR.seqTo ⟨[(5,.ptr nid 0),(6,.ptr (nid+4) 0),(7,litPl n3 P),(8,litPl n4 P)],[(nid,boxW n1 W),(nid+4,boxW n2 W)],nid+3000,b0⟩ ?_ ?_
 ·rw [← hHs]
  exact spoilF_run n1 n2 n3 n4 W P C o fb b0 nid _ hb0 ho hfb hne hC hr
 have hep:=fun m=>eqPl_c n3 n4 P P m (by omega) (by omega)
 have hsw2:=hsw n1
 simp only [BEq.rfl] at hep
 unfold litPl at hep ⊢
 have hps:=ready_c
 refine SR.run (t:=.mk) ?_
 unfold boxW
 simp -dsimp only [aqA,↓seqK,↓blkK,↓loopK,step,stepBin,eqB,Nat.add_assoc nid,simprocAttr,z0,Int.cast_ofNat_Int,Int.reduceBEq,Int.reduceBNe,Int.reduceLT,Int.reduceLE,Int.reduceAdd,Int.reduceSub,Int.reduceMul,Int.reduceToNat,Int.reduceNeg,Int.reduceTMod,Int.reduceEq,not_false_eq_true,Int.reducePow,Int.reduceFDiv,Nat.reducePow,Nat.reduceSub,Nat.reduceMul,Nat.min_eq_left,Nat.reduceEqDiff,BEq.rfl,Int.tdiv_one,LN_succ]
 refine CallO.pure (hsw2 _) ?_
 simp -dsimp only [aqA,↓seqK,↓blkK,↓loopK,step,stepBin,eqB,Nat.add_assoc nid,simprocAttr,z0,Int.cast_ofNat_Int,Int.reduceBEq,Int.reduceBNe,Int.reduceLT,Int.reduceLE,Int.reduceAdd,Int.reduceSub,Int.reduceMul,Int.reduceToNat,Int.reduceNeg,Int.reduceTMod,Int.reduceEq,not_false_eq_true,Int.reducePow,Int.reduceFDiv,Nat.reducePow,Nat.reduceSub,Nat.reduceMul,Nat.min_eq_left,Nat.reduceEqDiff,BEq.rfl,Int.tdiv_one,LN_succ]
 refine CallO.pure (hep _) ?_
 simp -dsimp only [aqA,↓seqK,↓blkK,↓loopK,step,stepBin,eqB,Nat.add_assoc nid,simprocAttr,z0,Int.cast_ofNat_Int,Int.reduceBEq,Int.reduceBNe,Int.reduceLT,Int.reduceLE,Int.reduceAdd,Int.reduceSub,Int.reduceMul,Int.reduceToNat,Int.reduceNeg,Int.reduceTMod,Int.reduceEq,not_false_eq_true,Int.reducePow,Int.reduceFDiv,Nat.reducePow,Nat.reduceSub,Nat.reduceMul,Nat.min_eq_left,Nat.reduceEqDiff,BEq.rfl,Int.tdiv_one,LN_succ]
 refine CallO.pure (hps _) ?_
 simp -dsimp only [aqA,↓seqK,↓blkK,↓loopK,step,stepBin,eqB,Nat.add_assoc nid,simprocAttr,z0,Int.cast_ofNat_Int,Int.reduceBEq,Int.reduceBNe,Int.reduceLT,Int.reduceLE,Int.reduceAdd,Int.reduceSub,Int.reduceMul,Int.reduceToNat,Int.reduceNeg,Int.reduceTMod,Int.reduceEq,not_false_eq_true,Int.reducePow,Int.reduceFDiv,Nat.reducePow,Nat.reduceSub,Nat.reduceMul,Nat.min_eq_left,Nat.reduceEqDiff,BEq.rfl,Int.tdiv_one,LN_succ]
 refine RetOK.go [] [] (.inl rfl) ?_
 simp [a4,cvT,step,res]
open Go.RowKit
theorem frame_apart2 {b hi:Nat} {ren nils:List (Nat × Nat)} (Hs Y:Heap) (hs:Scoped b Hs) (h1:inRange b hi ren=true) (hr:∀ x∈ren,x.2 ∉ keys Hs) (h:apart ren nils (liveIds Y)=true):apart ren nils (liveIds (Y++Hs))=true:=by
 rw [liveIds_app]
 have hsrc:∀ id,id∈liveIds Hs→id∈keys Hs∧srcOf ren id=id:=fun id hid=>by
  have hlt:=hs.lt id (live_key hid)
  exact ⟨live_key hid,(inRange_src h1 (.inl hlt)).1⟩
 have hmix:∀ id id',id'∈liveIds Hs→id≠id'→srcOf ren id≠srcOf ren id':=fun id id' hid' hne=>by
  obtain ⟨h3,h4⟩:=hsrc id' hid'
  rw [h4]
  rcases srcOf_cases ren id with e | ⟨x,hx,e⟩
  ·rw [e]; exact hne
  ·rw [← e]
   exact fun e2=>hr x hx (by rw [e2]; exact h3)
 refine apart_of fun id id' k1 k2 hne n1 n2=>?_
 rcases List.mem_append.1 k2 with k2 | k2
 ·rcases List.mem_append.1 k1 with k1 | k1
  ·exact apart_spec h id id' k1 k2 hne n1 n2
  ·exact (hmix id' id k1 (Ne.symm hne)).symm
 ·exact hmix id id' k2 hne
theorem Cov.goR (c:Nat) {s1 s2:Slots} {n1 n2 b:Nat} (Hs X Y:Heap) (ren nils:List (Nat × Nat)) (hbc:b≤c) (hs:Scoped c Hs) (hX:kOK c Hs X) (hr:∀ x∈ren,x.2 ∉ keys Hs)
  (h:c≤n2∧inRange c n2 ren=true∧inRange c n2 nils=true∧apart ren nils (liveIds Y)=true∧(liveIds Y).all (fun id=>decide (id<n2))=true∧HeapCov n2 ren nils X Y∧SlotsCov n2 ren nils s1 s2):Cov ⟨s1,X++Hs,n1,b⟩ ⟨s2,Y++Hs,n2,b⟩ :=
 Cov.mk ren nils rfl (Nat.le_trans hbc h.1) (inRange_mono hbc h.2.1) (inRange_mono hbc h.2.2.1) (frame_apart2 Hs Y hs h.2.1 hr h.2.2.2.1) (frame_lt Hs Y hs h.1 h.2.2.2.2.1) (frame_cov (n:=0) Hs X Y hs hX.mem h.2.1 h.2.2.1 h.1 h.2.2.2.2.2.1) h.2.2.2.2.2.2
theorem getH_swap {A B:Heap} (h:∀ id∈keys A,id ∉ keys B) (id:Nat):getH (B++A) id=getH (A++B) id:=by
 rw [getH_appC,getH_appC]
 cases ha:(keys A).contains id
 ·cases hb:(keys B).contains id
  ·simp only [cond_false]
   have g:∀ X:Heap,(keys X).contains id=false→getH X id=none:=fun X hX=>by
    cases hg:getH X id with
    | none=>rfl
    | some x =>
     have h1:=getH_key hg
     have h2:(keys X).contains id=true:=by simpa using h1
     rw [hX] at h2
     cases h2
   rw [g A ha,g B hb]
  ·rfl
 ·cases hb:(keys B).contains id
  ·rfl
  ·exact absurd (by simpa using hb) (h id (by simpa using ha))
section
variable {P:Program}
theorem ACall.wide {f:Nat} {args:List PV} {Hs:Heap} {nid:Nat} {r:PV} {u:Heap} (h:ACall P f args Hs nid r u):ACallIW P 4 f args Hs nid (fun _:Unit=>True) (fun _=>r) (fun _=>u):=fun C vs h1 h2 h3 h4=>(h C vs h1 h2 h3 h4).imp fun v w' ⟨Y,m,a,b,c⟩=>⟨(),trivial,Y,m,a,b,c⟩
theorem SROps.toRun {l:List AIn} {s:Slots} {H:Heap} {n b:Nat} {Q:AEx→ST→Prop} (h:Run P (.ops l) ⟨s,H,n,b⟩ Q .mk):SROps P l s H n b Q:=SROps.run (by
 rw [Run_eq] at h
 exact h)
theorem SR.ofOps {l:List AIn} {s:Slots} {H:Heap} {n b:Nat} {Q:AEx→ST→Prop} {t:Tag Q} (h:SROps P l s H n b Q) (hne:l≠[]):SR P (.ops l) ⟨s,H,n,b⟩ Q t:=SRun.ofOps h hne
end
open Go.RowKit
set_option maxHeartbeats 16000000 in
theorem clustersF_I (nl:Bool) (W:Waf) (least:Nat) (nid:Nat) (h:waferV W=0) (hp:W.pass.length≤1000000) (h1:1≤least) (h2:least≤3600) :
  ACallIW Try.prog 200000 28 [wafP nl W,.int .i64 (least:Nat)] [] nid (fun _:Unit=>True) (fun _=>.tup [.sl (nid+69990) 0 (bigC least (clV W)).length,.int .i64 0]) (fun _=>famC (nid+69990) (nid+100) (bigC least (clV W))):=by
 have hW:=waferV_ok h
 have hpl:=plTo_bd hW (Nat.le_refl _)
 have hplv:(plV W).length≤60000:=hpl
 refine acallIW_sr c28 (by simp [a28]) ?_
 unfold a28 wafP
 refine SR.seq ?_
 simp -dsimp only [aqA,↓seqK,↓blkK,↓loopK,step,stepBin,eqB,Nat.add_assoc nid,simprocAttr,z0,Int.cast_ofNat_Int,Int.reduceBEq,Int.reduceBNe,Int.reduceLT,Int.reduceLE,Int.reduceAdd,Int.reduceSub,Int.reduceMul,Int.reduceToNat,Int.reduceNeg,Int.reduceTMod,Int.reduceEq,not_false_eq_true,Int.reducePow,Int.reduceFDiv,Nat.reducePow,Nat.reduceSub,Nat.reduceMul,Nat.min_eq_left,Nat.reduceEqDiff,BEq.rfl,Int.tdiv_one,LN_succ]
 refine SR.seqTo ⟨[(1,.int .i64 (least:Nat)),(2,.ptr (nid+100000) 0)],[(nid+100000,boxW nl W)],nid+100100,nid⟩ ?_ ?_
 ·simp -dsimp only [aqA,↓seqK,↓blkK,↓loopK,step,stepBin,eqB,Nat.add_assoc nid,simprocAttr,z0,Int.cast_ofNat_Int,Int.reduceBEq,Int.reduceBNe,Int.reduceLT,Int.reduceLE,Int.reduceAdd,Int.reduceSub,Int.reduceMul,Int.reduceToNat,Int.reduceNeg,Int.reduceTMod,Int.reduceEq,not_false_eq_true,Int.reducePow,Int.reduceFDiv,Nat.reducePow,Nat.reduceSub,Nat.reduceMul,Nat.min_eq_left,Nat.reduceEqDiff,BEq.rfl,Int.tdiv_one,LN_succ]
  refine CallO.pure (checkWafer_all nl W _ (hW.bd hp)) ?_
  rw [h]
  simp -dsimp only [aqA,↓seqK,↓blkK,↓loopK,step,stepBin,eqB,Nat.add_assoc nid,simprocAttr,z0,Int.cast_ofNat_Int,Int.reduceBEq,Int.reduceBNe,Int.reduceLT,Int.reduceLE,Int.reduceAdd,Int.reduceSub,Int.reduceMul,Int.reduceToNat,Int.reduceNeg,Int.reduceTMod,Int.reduceEq,not_false_eq_true,Int.reducePow,Int.reduceFDiv,Nat.reducePow,Nat.reduceSub,Nat.reduceMul,Nat.min_eq_left,Nat.reduceEqDiff,BEq.rfl,Int.tdiv_one,LN_succ]
  refine Cov.go [(nid+100000,nid)] [] ?_
  simp [cvT,step,res,boxW]
 refine SR.seqTo ⟨[(1,.int .i64 (least:Nat)),(2,.ptr (nid+100000) 0)],[(nid+100000,boxW nl W)],nid+100200,nid⟩ ?_ ?_
 ·unfold boxW
  simp -dsimp only [aqA,↓seqK,↓blkK,↓loopK,step,stepBin,eqB,Nat.add_assoc nid,simprocAttr,z0,Int.cast_ofNat_Int,Int.reduceBEq,Int.reduceBNe,Int.reduceLT,Int.reduceLE,Int.reduceAdd,Int.reduceSub,Int.reduceMul,Int.reduceToNat,Int.reduceNeg,Int.reduceTMod,Int.reduceEq,not_false_eq_true,Int.reducePow,Int.reduceFDiv,Nat.reducePow,Nat.reduceSub,Nat.reduceMul,Nat.min_eq_left,Nat.reduceEqDiff,BEq.rfl,Int.tdiv_one,LN_succ]
  refine CallO.pure (out_c _ _ _ _) ?_
  have ho:outB (least:Int) 1 3600=false:=by unfold outB; simp; omega
  rw [ho]
  simp -dsimp only [aqA,↓seqK,↓blkK,↓loopK,step,stepBin,eqB,Nat.add_assoc nid,simprocAttr,z0,Int.cast_ofNat_Int,Int.reduceBEq,Int.reduceBNe,Int.reduceLT,Int.reduceLE,Int.reduceAdd,Int.reduceSub,Int.reduceMul,Int.reduceToNat,Int.reduceNeg,Int.reduceTMod,Int.reduceEq,not_false_eq_true,Int.reducePow,Int.reduceFDiv,Nat.reducePow,Nat.reduceSub,Nat.reduceMul,Nat.min_eq_left,Nat.reduceEqDiff,BEq.rfl,Int.tdiv_one,LN_succ]
  refine Cov.go [] [] ?_
  simp [cvT,step,res,boxW]
 refine SR.seq ?_
 unfold boxW
 simp -dsimp only [aqA,↓seqK,↓blkK,↓loopK,step,stepBin,eqB,Nat.add_assoc nid,simprocAttr,z0,Int.cast_ofNat_Int,Int.reduceBEq,Int.reduceBNe,Int.reduceLT,Int.reduceLE,Int.reduceAdd,Int.reduceSub,Int.reduceMul,Int.reduceToNat,Int.reduceNeg,Int.reduceTMod,Int.reduceEq,not_false_eq_true,Int.reducePow,Int.reduceFDiv,Nat.reducePow,Nat.reduceSub,Nat.reduceMul,Nat.min_eq_left,Nat.reduceEqDiff,BEq.rfl,Int.tdiv_one,LN_succ]
 refine SR.seq ?_
 simp -dsimp only [aqA,↓seqK,↓blkK,↓loopK,step,stepBin,eqB,Nat.add_assoc nid,simprocAttr,z0,Int.cast_ofNat_Int,Int.reduceBEq,Int.reduceBNe,Int.reduceLT,Int.reduceLE,Int.reduceAdd,Int.reduceSub,Int.reduceMul,Int.reduceToNat,Int.reduceNeg,Int.reduceTMod,Int.reduceEq,not_false_eq_true,Int.reducePow,Int.reduceFDiv,Nat.reducePow,Nat.reduceSub,Nat.reduceMul,Nat.min_eq_left,Nat.reduceEqDiff,BEq.rfl,Int.tdiv_one,LN_succ]
 refine SR.seqW (ι:=Unit) (fun _=>⟨[(8,.sl (nid+69990) 0 (bigC least (clV W)).length)],famC (nid+69990) (nid+100) (bigC least (clV W)),nid+190000,nid⟩) ?_ (fun _=>?_)
 ·refine SR.seq ?_
  simp -dsimp only [aqA,↓seqK,↓blkK,↓loopK,step,stepBin,eqB,Nat.add_assoc nid,simprocAttr,z0,Int.cast_ofNat_Int,Int.reduceBEq,Int.reduceBNe,Int.reduceLT,Int.reduceLE,Int.reduceAdd,Int.reduceSub,Int.reduceMul,Int.reduceToNat,Int.reduceNeg,Int.reduceTMod,Int.reduceEq,not_false_eq_true,Int.reducePow,Int.reduceFDiv,Nat.reducePow,Nat.reduceSub,Nat.reduceMul,Nat.min_eq_left,Nat.reduceEqDiff,BEq.rfl,Int.tdiv_one,LN_succ]
  refine CallO.pure (places_all nl W _ hW) ?_
  unfold arrPl
  simp -dsimp only [aqA,↓seqK,↓blkK,↓loopK,step,stepBin,eqB,Nat.add_assoc nid,simprocAttr,z0,Int.cast_ofNat_Int,Int.reduceBEq,Int.reduceBNe,Int.reduceLT,Int.reduceLE,Int.reduceAdd,Int.reduceSub,Int.reduceMul,Int.reduceToNat,Int.reduceNeg,Int.reduceTMod,Int.reduceEq,not_false_eq_true,Int.reducePow,Int.reduceFDiv,Nat.reducePow,Nat.reduceSub,Nat.reduceMul,Nat.min_eq_left,Nat.reduceEqDiff,BEq.rfl,Int.tdiv_one,LN_succ]
  refine SR.block ?_
  refine SR.loopP (fun x:Nat × List Pt=>x.1≤(plV W).length∧SeenOk (clTo W x.1) x.2) (fun x:Nat × List Pt=>⟨[(26,.int .i64 x.1),(25,.int .i64 (plV W).length),(24,.sl (nid+100012) 0 (plV W).length),(8,.sl (nid+69990) 0 (bigC least (clTo W x.1)).length),(7,.mp (nid+100008)),(1,.int .i64 (least:Nat)),(2,.ptr (nid+100000) 0)],[(nid+100000,boxW nl W),(nid+100008,mapS x.2),(nid+100012,arrPl (plV W))]++famC (nid+69990) (nid+100) (bigC least (clTo W x.1)),nid+101000,nid⟩) (fun x=>(plV W).length+1 - x.1) (0,[]) ⟨by omega,by intro q; simp [clTo_zero]⟩ ?_ (fun x hx=>?_)
  ·have hb0:bigC least (clTo W 0)=[]:=rfl
   simp only [hb0]
   unfold famC famP arrCo
   refine Cov.go [(nid+100012,nid+100216),(nid+100008,nid+100200)] [(nid+69990,1)] ?_
   simp [cvT,step,res,boxW,arrPl,mapS,← seenD_nil]
  obtain ⟨k,S⟩:=x
  obtain ⟨hk,hS⟩:=hx
  simp only at hk hS ⊢
  have hcl:=clTo_len (W:=W) k hk
  have hbl:=bigC_len least (clTo W k)
  have hs:=famC_scoped (o:=nid+69990) (b:=nid+100) (c:=nid+70000) (bigC least (clTo W k)) (by omega) (by omega)
  obtain ⟨Hs,hHs⟩:∃ Hs,famC (nid+69990) (nid+100) (bigC least (clTo W k))=Hs:=⟨_,rfl⟩
  rw [hHs] at hs ⊢
  refine SR.seq ?_
  unfold arrPl boxW mapS
  simp -dsimp only [aqA,↓seqK,↓blkK,↓loopK,step,stepBin,eqB,Nat.add_assoc nid,simprocAttr,z0,Int.cast_ofNat_Int,Int.reduceBEq,Int.reduceBNe,Int.reduceLT,Int.reduceLE,Int.reduceAdd,Int.reduceSub,Int.reduceMul,Int.reduceToNat,Int.reduceNeg,Int.reduceTMod,Int.reduceEq,not_false_eq_true,Int.reducePow,Int.reduceFDiv,Nat.reducePow,Nat.reduceSub,Nat.reduceMul,Nat.min_eq_left,Nat.reduceEqDiff,BEq.rfl,Int.tdiv_one,LN_succ]
  refine SR.seq ?_
  simp -dsimp only [aqA,↓seqK,↓blkK,↓loopK,step,stepBin,eqB,Nat.add_assoc nid,simprocAttr,z0,Int.cast_ofNat_Int,Int.reduceBEq,Int.reduceBNe,Int.reduceLT,Int.reduceLE,Int.reduceAdd,Int.reduceSub,Int.reduceMul,Int.reduceToNat,Int.reduceNeg,Int.reduceTMod,Int.reduceEq,not_false_eq_true,Int.reducePow,Int.reduceFDiv,Nat.reducePow,Nat.reduceSub,Nat.reduceMul,Nat.min_eq_left,Nat.reduceEqDiff,BEq.rfl,Int.tdiv_one,LN_succ]
  refine S2.dec (fun h3=>?_) (fun h3=>?_) <;> simp -dsimp only [aqA,↓seqK,↓blkK,↓loopK,step,stepBin,eqB,Nat.add_assoc nid,simprocAttr,z0,Int.cast_ofNat_Int,Int.reduceBEq,Int.reduceBNe,Int.reduceLT,Int.reduceLE,Int.reduceAdd,Int.reduceSub,Int.reduceMul,Int.reduceToNat,Int.reduceNeg,Int.reduceTMod,Int.reduceEq,not_false_eq_true,Int.reducePow,Int.reduceFDiv,Nat.reducePow,Nat.reduceSub,Nat.reduceMul,Nat.min_eq_left,Nat.reduceEqDiff,BEq.rfl,Int.tdiv_one,LN_succ]
  ·have hkl:k<(plV W).length:=by omega
   have hcs:=clTo_succ (W:=W) hkl
   have hok:=clTo_ok hW k
   have hpm:=ptMem' hkl
   have hpb:=plV_bd hW hpm
   refine SR.seqW (ι:={T:List Pt // SeenOk (clTo W (k+1)) T}) (fun T=>⟨[(26,.int .i64 k),(25,.int .i64 (plV W).length),(24,.sl (nid+100012) 0 (plV W).length),(8,.sl (nid+69990) 0 (bigC least (clTo W (k+1))).length),(7,.mp (nid+100008)),(1,.int .i64 (least:Nat)),(2,.ptr (nid+100000) 0)],[(nid+100000,boxW nl W),(nid+100008,mapS T.1),(nid+100012,arrPl (plV W))]++famC (nid+69990) (nid+100) (bigC least (clTo W (k+1))),nid+109000,nid⟩) ?_ (fun ⟨T,hT⟩=>?_)
   ·refine SR.block ?_
    refine SR.seq ?_
    simp -dsimp only [aqA,↓seqK,↓blkK,↓loopK,step,stepBin,eqB,Nat.add_assoc nid,simprocAttr,z0,Int.cast_ofNat_Int,Int.reduceBEq,Int.reduceBNe,Int.reduceLT,Int.reduceLE,Int.reduceAdd,Int.reduceSub,Int.reduceMul,Int.reduceToNat,Int.reduceNeg,Int.reduceTMod,Int.reduceEq,not_false_eq_true,Int.reducePow,Int.reduceFDiv,Nat.reducePow,Nat.reduceSub,Nat.reduceMul,Nat.min_eq_left,Nat.reduceEqDiff,BEq.rfl,Int.tdiv_one,LN_succ]
    refine ⟨by omega,?_⟩
    rw [hcs]
    generalize hpd:(plV W).getD k p0=p at *
    have hpi:=pt_in hpb
    refine SR.cov (t':=.mk) (st':=⟨[(10,.ptr (nid+100016) 0),(26,.int .i64 k),(25,.int .i64 (plV W).length),(24,.sl (nid+100012) 0 (plV W).length),(8,.sl (nid+69990) 0 (bigC least (clTo W k)).length),(7,.mp (nid+100008)),(1,.int .i64 (least:Nat)),(2,.ptr (nid+100000) 0)],[(nid+100000,boxW nl W),(nid+100008,mapS S),(nid+100012,arrPl (plV W)),(nid+100016,some (.box 46 [.int .i64 p.1,.int .i64 p.2]))]++Hs,nid+102000,nid⟩) ?_ ?_
    ·refine Cov.goQ (nid+70000) Hs [(nid+100016,nid+101012)] [] (by omega) hs (by repeat (first | exact PreQ.nil | apply PreQ.cons)) (by repeat (first | exact PreQ.nil | apply PreQ.cons)) (by simp [kOK]) (by simp) ?_
     simp [cvT,step,res,boxW,arrPl,mapS,-List.getD_eq_getElem?_getD]
    generalize hCd:bigC least (clTo W k)=C at *
    refine SR.seqEx (ι:=PLift (p ∉ S∧badP W p=true)) (fun _=>⟨[(10,.ptr (nid+100016) 0),(26,.int .i64 k),(25,.int .i64 (plV W).length),(24,.sl (nid+100012) 0 (plV W).length),(8,.sl (nid+69990) 0 C.length),(7,.mp (nid+100008)),(1,.int .i64 (least:Nat)),(2,.ptr (nid+100000) 0)],[(nid+100000,boxW nl W),(nid+100008,mapS (S)),(nid+100012,arrPl (plV W)),(nid+100016,some (.box 46 [.int .i64 p.1,.int .i64 p.2]))]++Hs,nid+103000,nid⟩) ?_ (fun ⟨hpS,hbp⟩=>?_)
    ·unfold arrPl boxW mapS
     simp -dsimp only [aqA,↓seqK,↓blkK,↓loopK,step,stepBin,eqB,Nat.add_assoc nid,simprocAttr,z0,Int.cast_ofNat_Int,Int.reduceBEq,Int.reduceBNe,Int.reduceLT,Int.reduceLE,Int.reduceAdd,Int.reduceSub,Int.reduceMul,Int.reduceToNat,Int.reduceNeg,Int.reduceTMod,Int.reduceEq,not_false_eq_true,Int.reducePow,Int.reduceFDiv,Nat.reducePow,Nat.reduceSub,Nat.reduceMul,Nat.min_eq_left,Nat.reduceEqDiff,BEq.rfl,Int.tdiv_one,LN_succ]
     refine ⟨hpi,?_⟩
     cases hsd:seenD S (MK.p p.1 p.2) <;> simp -dsimp only [aqA,↓seqK,↓blkK,↓loopK,step,stepBin,eqB,Nat.add_assoc nid,simprocAttr,z0,Int.cast_ofNat_Int,Int.reduceBEq,Int.reduceBNe,Int.reduceLT,Int.reduceLE,Int.reduceAdd,Int.reduceSub,Int.reduceMul,Int.reduceToNat,Int.reduceNeg,Int.reduceTMod,Int.reduceEq,not_false_eq_true,Int.reducePow,Int.reduceFDiv,Nat.reducePow,Nat.reduceSub,Nat.reduceMul,Nat.min_eq_left,Nat.reduceEqDiff,BEq.rfl,Int.tdiv_one,LN_succ]
     ·refine CallX.pure (at_all nl W _ _ _ hW hpi.1 hpi.2) ?_
      simp -dsimp only [aqA,↓seqK,↓blkK,↓loopK,step,stepBin,eqB,Nat.add_assoc nid,simprocAttr,z0,Int.cast_ofNat_Int,Int.reduceBEq,Int.reduceBNe,Int.reduceLT,Int.reduceLE,Int.reduceAdd,Int.reduceSub,Int.reduceMul,Int.reduceToNat,Int.reduceNeg,Int.reduceTMod,Int.reduceEq,not_false_eq_true,Int.reducePow,Int.reduceFDiv,Nat.reducePow,Nat.reduceSub,Nat.reduceMul,Nat.min_eq_left,Nat.reduceEqDiff,BEq.rfl,Int.tdiv_one,LN_succ]
      refine CallX.pure (failed_c nl W _ _) ?_
      have g1:failedV W.pass (dieV W p.1 p.2)=badP W p:=rfl
      rw [g1]
      cases hb:badP W p <;> simp -dsimp only [aqA,↓seqK,↓blkK,↓loopK,step,stepBin,eqB,Nat.add_assoc nid,simprocAttr,z0,Int.cast_ofNat_Int,Int.reduceBEq,Int.reduceBNe,Int.reduceLT,Int.reduceLE,Int.reduceAdd,Int.reduceSub,Int.reduceMul,Int.reduceToNat,Int.reduceNeg,Int.reduceTMod,Int.reduceEq,not_false_eq_true,Int.reducePow,Int.reduceFDiv,Nat.reducePow,Nat.reduceSub,Nat.reduceMul,Nat.min_eq_left,Nat.reduceEqDiff,BEq.rfl,Int.tdiv_one,LN_succ]
      ·rw [clNext_old hS (.inr hb)]
       refine ⟨⟨S,hS⟩,?_⟩
       rw [hCd,hHs]
       refine Cov.goQ (nid+70000) Hs [] [] (by omega) hs (by repeat (first | exact PreQ.nil | apply PreQ.cons)) (by repeat (first | exact PreQ.nil | apply PreQ.cons)) (by simp [kOK]) (by simp) ?_
       simp [cvT,step,res,boxW,arrPl,mapS,-List.getD_eq_getElem?_getD]
      ·refine ⟨⟨seenD_not.1 hsd,rfl⟩,?_⟩
       refine Cov.goQ (nid+70000) Hs [] [] (by omega) hs (by repeat (first | exact PreQ.nil | apply PreQ.cons)) (by repeat (first | exact PreQ.nil | apply PreQ.cons)) (by simp [kOK]) (by simp) ?_
       simp [cvT,step,res,boxW,arrPl,mapS,-List.getD_eq_getElem?_getD]
     ·have hps:=seenD_iff.1 hsd
      rw [clNext_old hS (.inl hps)]
      refine ⟨⟨S,hS⟩,?_⟩
      rw [hCd,hHs]
      refine Cov.goQ (nid+70000) Hs [] [] (by omega) hs (by repeat (first | exact PreQ.nil | apply PreQ.cons)) (by repeat (first | exact PreQ.nil | apply PreQ.cons)) (by simp [kOK]) (by simp) ?_
      simp [cvT,step,res,boxW,arrPl,mapS,-List.getD_eq_getElem?_getD]
    have hcn:=clNext_new hS hpS hbp
    have hstart:=BfsOk.start hW hbp hpS
    rw [hcn]
    refine SR.seq ?_
    unfold arrPl boxW mapS
    simp -dsimp only [aqA,↓seqK,↓blkK,↓loopK,step,stepBin,eqB,Nat.add_assoc nid,simprocAttr,z0,Int.cast_ofNat_Int,Int.reduceBEq,Int.reduceBNe,Int.reduceLT,Int.reduceLE,Int.reduceAdd,Int.reduceSub,Int.reduceMul,Int.reduceToNat,Int.reduceNeg,Int.reduceTMod,Int.reduceEq,not_false_eq_true,Int.reducePow,Int.reduceFDiv,Nat.reducePow,Nat.reduceSub,Nat.reduceMul,Nat.min_eq_left,Nat.reduceEqDiff,BEq.rfl,Int.tdiv_one,LN_succ]
    refine ⟨hpi,?_⟩
    rw [seenD_snoc]
    refine SR.seq ?_
    simp -dsimp only [aqA,↓seqK,↓blkK,↓loopK,step,stepBin,eqB,Nat.add_assoc nid,simprocAttr,z0,Int.cast_ofNat_Int,Int.reduceBEq,Int.reduceBNe,Int.reduceLT,Int.reduceLE,Int.reduceAdd,Int.reduceSub,Int.reduceMul,Int.reduceToNat,Int.reduceNeg,Int.reduceTMod,Int.reduceEq,not_false_eq_true,Int.reducePow,Int.reduceFDiv,Nat.reducePow,Nat.reduceSub,Nat.reduceMul,Nat.min_eq_left,Nat.reduceEqDiff,BEq.rfl,Int.tdiv_one,LN_succ]
    refine SR.cov (t':=.mk) (st':=⟨[(11,.sl (nid+100020) 0 1),(26,.int .i64 k),(25,.int .i64 (plV W).length),(24,.sl (nid+100012) 0 (plV W).length),(8,.sl (nid+69990) 0 C.length),(7,.mp (nid+100008)),(1,.int .i64 (least:Nat)),(2,.ptr (nid+100000) 0)],[(nid+100000,boxW nl W),(nid+100008,mapS (S++[p])),(nid+100012,arrPl (plV W)),(nid+100020,arrPl [p])]++Hs,nid+103500,nid⟩) ?_ ?_
    ·refine Cov.goQ (nid+70000) Hs [(nid+100020,nid+103016)] [] (by omega) hs (by repeat (first | exact PreQ.nil | apply PreQ.cons)) (by repeat (first | exact PreQ.nil | apply PreQ.cons)) (by simp [kOK]) (by simp) ?_
     simp [cvT,step,res,boxW,arrPl,mapS,-List.getD_eq_getElem?_getD,-List.length_append]
     refine ⟨ColEq.i fun i hi=>?_,ColEq.i fun i hi=>?_⟩ <;> (have hi0:i=0:=by omega) <;> subst hi0 <;> rfl
    refine SR.seqEx (ι:={L:List Pt // BfsOk W p S L∧ShutTo W S L L.length}) (fun L=>⟨[(11,.sl (nid+100020) 0 L.1.length),(26,.int .i64 k),(25,.int .i64 (plV W).length),(24,.sl (nid+100012) 0 (plV W).length),(8,.sl (nid+69990) 0 C.length),(7,.mp (nid+100008)),(1,.int .i64 (least:Nat)),(2,.ptr (nid+100000) 0)],[(nid+100000,boxW nl W),(nid+100008,mapS (S++L.1)),(nid+100012,arrPl (plV W)),(nid+100020,arrPl L.1)]++Hs,nid+106000,nid⟩) ?_ (fun ⟨L,hL,hLs⟩=>?_)
    ·exact (bfsF_run nl W least k C.length nid (nid+69990) (nid+100000) S p Hs _ hW (by omega) (by omega) (hs.mono (by omega)) hplv hstart)
    have hLc:=bfs_done hW hok hS hL hpS hLs
    have hcomp:sortV L=compL W p:=sorted_eq (sortV_pw hL.nodup) (compL_pw W p) (fun q=>by rw [(sortV_perm L).mem_iff,hLc q,compL_mem hW])
    have hlen:(compL W p).length=L.length:=by rw [← hcomp,sortV_len]
    have hba:=bigC_app least (clTo W k) (compL W p)
    rw [hCd,hlen] at hba
    have hsx:=seen_next hW hS hLc
    have hpos:0<L.length:=List.length_pos_of_mem hL.has
    have hmS:=muV_le hW S
    have hLsum:=hL.sum
    simp only
    refine SR.seq ?_
    unfold arrPl boxW mapS
    simp -dsimp only [aqA,↓seqK,↓blkK,↓loopK,step,stepBin,eqB,Nat.add_assoc nid,simprocAttr,z0,Int.cast_ofNat_Int,Int.reduceBEq,Int.reduceBNe,Int.reduceLT,Int.reduceLE,Int.reduceAdd,Int.reduceSub,Int.reduceMul,Int.reduceToNat,Int.reduceNeg,Int.reduceTMod,Int.reduceEq,not_false_eq_true,Int.reducePow,Int.reduceFDiv,Nat.reducePow,Nat.reduceSub,Nat.reduceMul,Nat.min_eq_left,Nat.reduceEqDiff,BEq.rfl,Int.tdiv_one,LN_succ]
    refine SR.cond (b:=decide ((least:Int)≤(L.length:Int))) (by simp [AX.val,getS]) (fun hb=>?_) (fun hb=>?_)
    ·have hb':=of_decide_eq_true hb
     rw [if_pos (by omega)] at hba
     refine SR.seq ?_
     simp -dsimp only [aqA,↓seqK,↓blkK,↓loopK,step,stepBin,eqB,Nat.add_assoc nid,simprocAttr,z0,Int.cast_ofNat_Int,Int.reduceBEq,Int.reduceBNe,Int.reduceLT,Int.reduceLE,Int.reduceAdd,Int.reduceSub,Int.reduceMul,Int.reduceToNat,Int.reduceNeg,Int.reduceTMod,Int.reduceEq,not_false_eq_true,Int.reducePow,Int.reduceFDiv,Nat.reducePow,Nat.reduceSub,Nat.reduceMul,Nat.min_eq_left,Nat.reduceEqDiff,BEq.rfl,Int.tdiv_one,LN_succ]
     refine CallO.on (sort_cc (nid+100020) L _ hpos (by omega)) (subH_get (by simp only [aqA,↓seqK,↓blkK,↓loopK,step,stepBin,eqB,Nat.add_assoc nid,simprocAttr,z0,Int.cast_ofNat_Int,Int.reduceBEq,Int.reduceBNe,Int.reduceLT,Int.reduceLE,Int.reduceAdd,Int.reduceSub,Int.reduceMul,Int.reduceToNat,Int.reduceNeg,Int.reduceTMod,Int.reduceEq,not_false_eq_true,Int.reducePow,Int.reduceFDiv,Nat.reducePow,Nat.reduceSub,Nat.reduceMul,Nat.min_eq_left,Nat.reduceEqDiff,BEq.rfl,Int.tdiv_one,LN_succ,arrPl])) ?_
     rw [hcomp]
     unfold arrPl
     simp -dsimp only [aqA,↓seqK,↓blkK,↓loopK,step,stepBin,eqB,Nat.add_assoc nid,simprocAttr,z0,Int.cast_ofNat_Int,Int.reduceBEq,Int.reduceBNe,Int.reduceLT,Int.reduceLE,Int.reduceAdd,Int.reduceSub,Int.reduceMul,Int.reduceToNat,Int.reduceNeg,Int.reduceTMod,Int.reduceEq,not_false_eq_true,Int.reducePow,Int.reduceFDiv,Nat.reducePow,Nat.reduceSub,Nat.reduceMul,Nat.min_eq_left,Nat.reduceEqDiff,BEq.rfl,Int.tdiv_one,LN_succ]
     have hC6:C.length≤60000:=by omega
     have hfd:Hs=(nid+69990,arrCo (nid+100) C)::famP (nid+100) C C.length:=hHs.symm
     rw [hfd]
     unfold arrCo
     refine SR.run (t:=.mk) ?_
     simp -dsimp only [aqA,↓seqK,↓blkK,↓loopK,step,stepBin,eqB,Nat.add_assoc nid,simprocAttr,z0,Int.cast_ofNat_Int,Int.reduceBEq,Int.reduceBNe,Int.reduceLT,Int.reduceLE,Int.reduceAdd,Int.reduceSub,Int.reduceMul,Int.reduceToNat,Int.reduceNeg,Int.reduceTMod,Int.reduceEq,not_false_eq_true,Int.reducePow,Int.reduceFDiv,Nat.reducePow,Nat.reduceSub,Nat.reduceMul,Nat.min_eq_left,Nat.reduceEqDiff,BEq.rfl,Int.tdiv_one,LN_succ]
     have hC1:C.length+1=(C++[compL W p]).length:=by simp
     rw [hba,hC1]
     refine ⟨⟨by omega,by omega⟩,⟨S++L,hsx⟩,?_⟩
     rw [famC_snoc]
     refine Cov.goQ (nid+100+C.length) (famP (nid+100) C C.length) [(nid+69990,nid+106036),(nid+100+C.length,nid+100020)] [] (by omega) (famP_scoped C (Nat.le_refl _)) (by repeat (first | exact PreQ.nil | apply PreQ.cons)) (by repeat (first | exact PreQ.nil | apply PreQ.cons)) ?_ ?_ ?_
     ·simp only [kOK]
      repeat' apply And.intro
      all_goals first | trivial | exact .inl (by omega)
     ·simp
      omega
     have hgf:∀ i,i<C.length→(C++[compL W p]).getD i []=C.getD i []:=fun i hi=>by rw [List.getD_eq_getElem?_getD,List.getElem?_append_left hi,← List.getD_eq_getElem?_getD]
     have hgl:(C++[compL W p]).getD C.length []=compL W p:=by rw [List.getD_eq_getElem?_getD,List.getElem?_append_right (Nat.le_refl _),Nat.sub_self]; rfl
     have hgn:(C++[compL W p]).length=C.length+1:=by simp
     generalize hG:C++[compL W p]=G at *
     have hfx:∀ i,nid+(100+i)=nid+100+i:=fun i=>by omega
     have q1:∀ K,60101≤K→(nid+100+C.length==nid+K)=false:=fun K h=>by rw [beq_eq_false_iff_ne]; omega
     have q2:∀ K,60101≤K→(nid+K==nid+100+C.length)=false:=fun K h=>by rw [beq_eq_false_iff_ne]; omega
     have q3:∀ K,60101≤K→¬ nid+100+C.length=nid+K:=fun K h=>by omega
     have q4:∀ K,60101≤K→¬ nid+K=nid+100+C.length:=fun K h=>by omega
     have q5:∀ K,60101≤K→nid+100+C.length≤nid+K:=fun K h=>by omega
     have q6:∀ K,60101≤K→nid+100+C.length<nid+K:=fun K h=>by omega
     have hno:=fun j (hj:j<G.length)=>(show (j<C.length∧nid+100+j≠nid+100+C.length)∨j=C.length by omega)
     generalize hF:nid+100+C.length=F at *
     simp [cvT,step,res,boxW,arrPl,mapS,arrCo,q1,q2,q3,q4,q5,q6,-List.getD_eq_getElem?_getD,-List.length_append]
     intro j hj
     rcases hno j hj with ⟨hjc,hne⟩ | hjc
     ·rw [if_neg (by omega),if_pos hjc,if_pos hjc,hgf j hjc]
      have hb:(F==nid+100+j)=false:=by rw [beq_eq_false_iff_ne]; omega
      rw [hb]
      exact ⟨by show nid+100+j=nid+(100+j); omega,by omega,rfl⟩
     ·subst hjc
      have hb:(F==nid+100+C.length)=true:=by rw [beq_iff_eq]; omega
      rw [if_neg (by omega),if_neg (by omega),if_neg (by omega),hb,hgl,Nat.sub_self]
      exact ⟨rfl,by omega,hlen.symm⟩
    ·have hb':=of_decide_eq_false hb
     rw [if_neg (by omega),List.append_nil] at hba
     refine SR.run (t:=.mk) ?_
     simp -dsimp only [aqA,↓seqK,↓blkK,↓loopK,step,stepBin,eqB,Nat.add_assoc nid,simprocAttr,z0,Int.cast_ofNat_Int,Int.reduceBEq,Int.reduceBNe,Int.reduceLT,Int.reduceLE,Int.reduceAdd,Int.reduceSub,Int.reduceMul,Int.reduceToNat,Int.reduceNeg,Int.reduceTMod,Int.reduceEq,not_false_eq_true,Int.reducePow,Int.reduceFDiv,Nat.reducePow,Nat.reduceSub,Nat.reduceMul,Nat.min_eq_left,Nat.reduceEqDiff,BEq.rfl,Int.tdiv_one,LN_succ]
     rw [hba]
     refine ⟨⟨S++L,hsx⟩,?_⟩
     rw [hHs]
     refine Cov.goQ (nid+70000) Hs [] [] (by omega) hs (by repeat (first | exact PreQ.nil | apply PreQ.cons)) (by repeat (first | exact PreQ.nil | apply PreQ.cons)) (by simp [kOK]) (by simp) ?_
     simp [cvT,step,res,boxW,arrPl,mapS,-List.getD_eq_getElem?_getD,-List.length_append]
   ·have hcl1:=clTo_len (W:=W) (k+1) (by omega)
    have hbl1:=bigC_len least (clTo W (k+1))
    have hs:=famC_scoped (o:=nid+69990) (b:=nid+100) (c:=nid+70000) (bigC least (clTo W (k+1))) (by omega) (by omega)
    obtain ⟨Hs,hHs⟩:∃ Hs,famC (nid+69990) (nid+100) (bigC least (clTo W (k+1)))=Hs:=⟨_,rfl⟩
    rw [hHs] at hs ⊢
    refine SR.run (t:=.mk) ?_
    unfold arrPl boxW mapS
    simp -dsimp only [aqA,↓seqK,↓blkK,↓loopK,step,stepBin,eqB,Nat.add_assoc nid,simprocAttr,z0,Int.cast_ofNat_Int,Int.reduceBEq,Int.reduceBNe,Int.reduceLT,Int.reduceLE,Int.reduceAdd,Int.reduceSub,Int.reduceMul,Int.reduceToNat,Int.reduceNeg,Int.reduceTMod,Int.reduceEq,not_false_eq_true,Int.reducePow,Int.reduceFDiv,Nat.reducePow,Nat.reduceSub,Nat.reduceMul,Nat.min_eq_left,Nat.reduceEqDiff,BEq.rfl,Int.tdiv_one,LN_succ]
    refine ⟨by unfold inI64; omega,(k+1,T),⟨⟨by omega,hT⟩,by simp only; omega⟩,?_⟩
    simp only [hHs]
    refine Cov.goQ (nid+70000) Hs [] [] (by omega) hs (by repeat (first | exact PreQ.nil | apply PreQ.cons)) (by repeat (first | exact PreQ.nil | apply PreQ.cons)) (by simp [kOK]) (by simp) ?_
    simp [cvT,step,res,boxW,arrPl,mapS,-List.getD_eq_getElem?_getD,-List.length_append]
  ·have hkn:k=(plV W).length:=by omega
   subst hkn
   refine ⟨(),?_⟩
   have ecl:clV W=clTo W (plV W).length:=rfl
   rw [ecl,hHs]
   refine Cov.goQ (nid+70000) Hs [] [] (by omega) hs (by repeat (first | exact PreQ.nil | apply PreQ.cons)) (by repeat (first | exact PreQ.nil | apply PreQ.cons)) (by simp [kOK]) (by simp) ?_
   simp [cvT,step,res,boxW,arrPl,mapS,clV,-List.getD_eq_getElem?_getD,-List.length_append]
 ·refine SR.run (t:=.mk) ?_
  simp -dsimp only [aqA,↓seqK,↓blkK,↓loopK,step,stepBin,eqB,Nat.add_assoc nid,simprocAttr,z0,Int.cast_ofNat_Int,Int.reduceBEq,Int.reduceBNe,Int.reduceLT,Int.reduceLE,Int.reduceAdd,Int.reduceSub,Int.reduceMul,Int.reduceToNat,Int.reduceNeg,Int.reduceTMod,Int.reduceEq,not_false_eq_true,Int.reducePow,Int.reduceFDiv,Nat.reducePow,Nat.reduceSub,Nat.reduceMul,Nat.min_eq_left,Nat.reduceEqDiff,BEq.rfl,Int.tdiv_one,LN_succ]
  have hcl1:=clTo_len (W:=W) (plV W).length (Nat.le_refl _)
  have hbl1:=bigC_len least (clV W)
  have ecl:clV W=clTo W (plV W).length:=rfl
  rw [← ecl] at hcl1
  refine ⟨(),?_⟩
  refine RetOKW.all2 (.inl rfl) (famC_scoped (o:=nid+69990) (b:=nid+100) (c:=nid+200000) (bigC least (clV W)) (by omega) (by omega)) (fun _ _ h=>h) ?_
  simp [a28,cvT,step,res,-List.getD_eq_getElem?_getD]
def turnR (W:Waf) (x:Nat):List UInt8:=(W.rows.map fun r=>r.getD x 0).reverse
def turnRs (W:Waf):List (List UInt8):=(List.range (wideOf W)).map (turnR W)
theorem turnRs_len (W:Waf):(turnRs W).length=wideOf W:=by simp [turnRs]
theorem turnR_len (W:Waf) (x:Nat):(turnR W x).length=W.rows.length:=by simp [turnR]
theorem turnR_at (W:Waf) (x:Nat) {y:Nat} (h:y<W.rows.length):(turnR W x).getD y 0=(W.rows.getD (W.rows.length - 1 - y) []).getD x 0:=by
 unfold turnR
 rw [List.getD_eq_getElem?_getD,List.getElem?_reverse (by simpa using h),List.getElem?_map,List.length_map,List.getElem?_eq_getElem (by omega),List.getD_eq_getElem?_getD (l:=W.rows),List.getElem?_eq_getElem (by omega)]
 rfl
open Go.RowKit
theorem turnRs_take (W:Waf) {x:Nat} (h:x<wideOf W):(turnRs W).take (x+1)=(turnRs W).take x++[turnR W x]:=by
 refine take_snoc ?_
 unfold turnRs
 rw [List.getElem?_map,List.getElem?_range h]
 rfl
theorem turnR_take (W:Waf) (x:Nat) {y:Nat} (h:y<W.rows.length):(turnR W x).take (y+1)=(turnR W x).take y++[(W.rows.getD (W.rows.length - 1 - y) []).getD x 0]:=by
 refine take_snoc ?_
 have:=turnR_at W x h
 rw [List.getD_eq_getElem?_getD,List.getElem?_eq_getElem (by rw [turnR_len]; exact h)] at this
 rw [List.getElem?_eq_getElem (by rw [turnR_len]; exact h)]
 simpa using this
def boxS (nm:Nat) (l:List (List UInt8)) (pass:List UInt8):Option ABlk:=some (.box 28 [.sl nm 0 l.length,.str pass])
set_option maxHeartbeats 8000000 in
theorem turnedW_c (nl:Bool) (W:Waf) (nid:Nat) (h:waferV W=0) (hp:W.pass.length≤1000000):ACall Try.prog 26 [wafP nl W] [] nid (.tup [.agg [.sl nid 0 (turnRs W).length,.str W.pass],.int .i64 0]) [(nid,arrS (turnRs W))]:=by
 have hW:=waferV_ok h
 have hl:=hW.len
 have hps:=hW.pos
 have hww:=hW.wide
 have hrl:=turnRs_len W
 refine acall_sr c26 (by simp [a26]) ?_
 unfold a26 wafP
 refine SR.seq ?_
 simp -dsimp only [aqA,↓seqK,↓blkK,↓loopK,step,stepBin,eqB,Nat.add_assoc nid,simprocAttr,z0,Int.cast_ofNat_Int,Int.reduceBEq,Int.reduceBNe,Int.reduceLT,Int.reduceLE,Int.reduceAdd,Int.reduceSub,Int.reduceMul,Int.reduceToNat,Int.reduceNeg,Int.reduceTMod,Int.reduceEq,not_false_eq_true,Int.reducePow,Int.reduceFDiv,Nat.reducePow,Nat.reduceSub,Nat.reduceMul,Nat.min_eq_left,Nat.reduceEqDiff,BEq.rfl,Int.tdiv_one,LN_succ]
 refine SR.seqTo ⟨[(1,.ptr nid 0),(2,.ptr (nid+4) 0),(3,.int .i64 0)],[(nid,boxW nl W),(nid+4,some (.box 28 [.lit true 0 [],.str []]))],nid+100,nid⟩ ?_ ?_
 ·simp -dsimp only [aqA,↓seqK,↓blkK,↓loopK,step,stepBin,eqB,Nat.add_assoc nid,simprocAttr,z0,Int.cast_ofNat_Int,Int.reduceBEq,Int.reduceBNe,Int.reduceLT,Int.reduceLE,Int.reduceAdd,Int.reduceSub,Int.reduceMul,Int.reduceToNat,Int.reduceNeg,Int.reduceTMod,Int.reduceEq,not_false_eq_true,Int.reducePow,Int.reduceFDiv,Nat.reducePow,Nat.reduceSub,Nat.reduceMul,Nat.min_eq_left,Nat.reduceEqDiff,BEq.rfl,Int.tdiv_one,LN_succ]
  refine CallO.pure (checkWafer_all nl W _ (hW.bd hp)) ?_
  rw [h]
  simp -dsimp only [aqA,↓seqK,↓blkK,↓loopK,step,stepBin,eqB,Nat.add_assoc nid,simprocAttr,z0,Int.cast_ofNat_Int,Int.reduceBEq,Int.reduceBNe,Int.reduceLT,Int.reduceLE,Int.reduceAdd,Int.reduceSub,Int.reduceMul,Int.reduceToNat,Int.reduceNeg,Int.reduceTMod,Int.reduceEq,not_false_eq_true,Int.reducePow,Int.reduceFDiv,Nat.reducePow,Nat.reduceSub,Nat.reduceMul,Nat.min_eq_left,Nat.reduceEqDiff,BEq.rfl,Int.tdiv_one,LN_succ]
  refine Cov.go [] [] ?_
  simp [cvT,step,res,boxW]
 refine SR.seq ?_
 unfold boxW
 simp -dsimp only [aqA,↓seqK,↓blkK,↓loopK,step,stepBin,eqB,Nat.add_assoc nid,simprocAttr,z0,Int.cast_ofNat_Int,Int.reduceBEq,Int.reduceBNe,Int.reduceLT,Int.reduceLE,Int.reduceAdd,Int.reduceSub,Int.reduceMul,Int.reduceToNat,Int.reduceNeg,Int.reduceTMod,Int.reduceEq,not_false_eq_true,Int.reducePow,Int.reduceFDiv,Nat.reducePow,Nat.reduceSub,Nat.reduceMul,Nat.min_eq_left,Nat.reduceEqDiff,BEq.rfl,Int.tdiv_one,LN_succ]
 refine SR.seqTo ⟨[(5,.ptr (nid+8) 0),(2,.ptr (nid+4) 0),(3,.int .i64 0)],[(nid+4,some (.box 28 [.lit true 0 [],.str []])),(nid+8,boxS (nid+12) (turnRs W) W.pass),(nid+12,arrS (turnRs W))],nid+9000,nid⟩ ?_ ?_
 ·simp -dsimp only [aqA,↓seqK,↓blkK,↓loopK,step,stepBin,eqB,Nat.add_assoc nid,simprocAttr,z0,Int.cast_ofNat_Int,Int.reduceBEq,Int.reduceBNe,Int.reduceLT,Int.reduceLE,Int.reduceAdd,Int.reduceSub,Int.reduceMul,Int.reduceToNat,Int.reduceNeg,Int.reduceTMod,Int.reduceEq,not_false_eq_true,Int.reducePow,Int.reduceFDiv,Nat.reducePow,Nat.reduceSub,Nat.reduceMul,Nat.min_eq_left,Nat.reduceEqDiff,BEq.rfl,Int.tdiv_one,LN_succ]
  refine ⟨by omega,?_⟩
  have h0:(W.rows.getD 0 []).length=wideOf W:=rfl
  rw [h0]
  refine LP.mkP (fun x:Nat=>x≤wideOf W) (fun x:Nat=>⟨[(23,.int .i64 x),(22,.int .i64 (wideOf W:Nat)),(5,.ptr (nid+8) 0),(1,.ptr nid 0),(2,.ptr (nid+4) 0),(3,.int .i64 0)],[(nid,boxW nl W),(nid+4,some (.box 28 [.lit true 0 [],.str []])),(nid+8,boxS (nid+12) ((turnRs W).take x) W.pass),(nid+12,arrS ((turnRs W).take x))],nid+1000,nid⟩) (fun x=>wideOf W+1 - x) 0 (by omega) (Cov.go [(nid+8,nid+112)] [(nid+12,1)] ?_) (fun x hx=>?_)
  ·simp [cvT,step,res,boxW,boxS,arrS]
  have hxl:((turnRs W).take x).length=x:=by rw [List.length_take]; omega
  unfold boxW boxS arrS
  rw [hxl]
  simp -dsimp only [aqA,↓seqK,↓blkK,↓loopK,step,stepBin,eqB,Nat.add_assoc nid,simprocAttr,z0,Int.cast_ofNat_Int,Int.reduceBEq,Int.reduceBNe,Int.reduceLT,Int.reduceLE,Int.reduceAdd,Int.reduceSub,Int.reduceMul,Int.reduceToNat,Int.reduceNeg,Int.reduceTMod,Int.reduceEq,not_false_eq_true,Int.reducePow,Int.reduceFDiv,Nat.reducePow,Nat.reduceSub,Nat.reduceMul,Nat.min_eq_left,Nat.reduceEqDiff,BEq.rfl,Int.tdiv_one,LN_succ]
  refine S2.dec (fun h1=>?_) (fun h1=>?_) <;> simp -dsimp only [aqA,↓seqK,↓blkK,↓loopK,step,stepBin,eqB,Nat.add_assoc nid,simprocAttr,z0,Int.cast_ofNat_Int,Int.reduceBEq,Int.reduceBNe,Int.reduceLT,Int.reduceLE,Int.reduceAdd,Int.reduceSub,Int.reduceMul,Int.reduceToNat,Int.reduceNeg,Int.reduceTMod,Int.reduceEq,not_false_eq_true,Int.reducePow,Int.reduceFDiv,Nat.reducePow,Nat.reduceSub,Nat.reduceMul,Nat.min_eq_left,Nat.reduceEqDiff,BEq.rfl,Int.tdiv_one,LN_succ]
  ·have hxw:x<wideOf W:=by omega
   have htk:=turnRs_take W hxw
   have hRl:=turnR_len W x
   have hRt:=fun y hy=>turnR_take W x (y:=y) hy
   have hRc:∀ y,y<W.rows.length→(W.rows.getD y []).length=wideOf W:=fun y hy=>(hW.at hy).1
   generalize turnR W x=R at *
   generalize (turnRs W).take x=T at *
   refine ⟨by unfold inI64; omega,?_⟩
   refine LP.mkP (fun y:Nat=>y≤W.rows.length) (fun y:Nat=>⟨[(8,.int .i64 ((W.rows.length:Int) - 1 - y)),(7,.sl (nid+16) 0 (R.take y).length),(6,.int .i64 x),(23,.int .i64 x),(22,.int .i64 (wideOf W:Nat)),(5,.ptr (nid+8) 0),(1,.ptr nid 0),(2,.ptr (nid+4) 0),(3,.int .i64 0)],[(nid,boxW nl W),(nid+4,some (.box 28 [.lit true 0 [],.str []])),(nid+8,boxS (nid+12) T W.pass),(nid+12,arrS T),(nid+16,some (.arr 5 (R.take y).length [.i .u8 fun i=>((((R.take y).getD i 0).toNat:Nat):Int)]))],nid+2000,nid⟩) (fun y=>W.rows.length+1 - y) 0 (by omega) (Cov.go [] [(nid+16,1)] ?_) (fun y hy=>?_)
   ·simp [cvT,step,res,boxW,boxS,arrS,hxl]
   have hyl:(R.take y).length=y:=by rw [List.length_take]; omega
   unfold boxW boxS arrS
   simp -dsimp only [aqA,↓seqK,↓blkK,↓loopK,step,stepBin,eqB,Nat.add_assoc nid,simprocAttr,z0,Int.cast_ofNat_Int,Int.reduceBEq,Int.reduceBNe,Int.reduceLT,Int.reduceLE,Int.reduceAdd,Int.reduceSub,Int.reduceMul,Int.reduceToNat,Int.reduceNeg,Int.reduceTMod,Int.reduceEq,not_false_eq_true,Int.reducePow,Int.reduceFDiv,Nat.reducePow,Nat.reduceSub,Nat.reduceMul,Nat.min_eq_left,Nat.reduceEqDiff,BEq.rfl,Int.tdiv_one,LN_succ]
   refine S2.dec (fun h2=>?_) (fun h2=>?_) <;> simp -dsimp only [aqA,↓seqK,↓blkK,↓loopK,step,stepBin,eqB,Nat.add_assoc nid,simprocAttr,z0,Int.cast_ofNat_Int,Int.reduceBEq,Int.reduceBNe,Int.reduceLT,Int.reduceLE,Int.reduceAdd,Int.reduceSub,Int.reduceMul,Int.reduceToNat,Int.reduceNeg,Int.reduceTMod,Int.reduceEq,not_false_eq_true,Int.reducePow,Int.reduceFDiv,Nat.reducePow,Nat.reduceSub,Nat.reduceMul,Nat.min_eq_left,Nat.reduceEqDiff,BEq.rfl,Int.tdiv_one,LN_succ]
   ·have e1:((W.rows.length:Int) - 1 - y).toNat=W.rows.length - 1 - y:=by omega
    have hrow:=hRc (W.rows.length - 1 - y) (by omega)
    have hst:=hRt y (by omega)
    simp only [e1]
    generalize W.rows.getD (W.rows.length - 1 - y) []=row at *
    rw [getD_appU (R.take y) (row.getD x 0) rfl,← hst]
    have hyl2:(R.take (y+1)).length=y+1:=by rw [List.length_take]; omega
    refine ⟨⟨by omega,by omega⟩,⟨by omega,by omega⟩,⟨by omega,by omega⟩,by unfold inI64; omega,y+1,⟨by omega,by omega⟩,Cov.go [(nid+16,nid+2044)] [] ?_⟩
    simp [cvT,step,res,boxW,boxS,arrS,hxl,hyl,hyl2,-List.getD_eq_getElem?_getD]
    omega
   ·have hyn:y=W.rows.length:=by omega
    subst hyn
    have hR:R.take W.rows.length=R:=List.take_of_length_le (by omega)
    rw [hR,bytes_list rfl,getD_app1 T R rfl]
    refine ⟨⟨by omega,by omega⟩,by unfold inI64; omega,x+1,⟨by omega,by omega⟩,Cov.go [(nid+12,nid+2028)] [] ?_⟩
    simp [cvT,step,res,boxW,boxS,arrS,hxl,htk,-List.getD_eq_getElem?_getD]
  ·have hxn:x=wideOf W:=by omega
   subst hxn
   have hT:(turnRs W).take (wideOf W)=turnRs W:=List.take_of_length_le (by omega)
   rw [hT]
   refine Cov.go [] [] ?_
   simp [cvT,step,res,boxW,boxS,arrS,hrl,-List.getD_eq_getElem?_getD]
 refine SR.run (t:=.mk) ?_
 unfold boxS arrS
 simp -dsimp only [aqA,↓seqK,↓blkK,↓loopK,step,stepBin,eqB,Nat.add_assoc nid,simprocAttr,z0,Int.cast_ofNat_Int,Int.reduceBEq,Int.reduceBNe,Int.reduceLT,Int.reduceLE,Int.reduceAdd,Int.reduceSub,Int.reduceMul,Int.reduceToNat,Int.reduceNeg,Int.reduceTMod,Int.reduceEq,not_false_eq_true,Int.reducePow,Int.reduceFDiv,Nat.reducePow,Nat.reduceSub,Nat.reduceMul,Nat.min_eq_left,Nat.reduceEqDiff,BEq.rfl,Int.tdiv_one,LN_succ]
 refine RetOK.go [(nid,nid+12)] [] (.inl rfl) ?_
 simp [cvT,step,res,arrS,-List.getD_eq_getElem?_getD]
open Go.RowKit
def boxI (n:Int):Option ABlk:=some (.box 3 [.int .i64 n])
def inkP (W:Waf) (m:Nat) (c:Int) (p:Pt):Bool:=passedV W.pass c && decide ((m:Int)≤(cntN (badP W) (arV p):Nat))
def inkB (W:Waf) (m:Nat) (b:UInt8) (p:Pt):UInt8:=if inkP W m (byteI b) p=true then 42 else b
set_option maxHeartbeats 4000000 in
theorem inkF_c (ib im io:Nat) (nl:Bool) (W:Waf) (m n:Nat) (x y:Nat) (a:UInt8) (nid:Nat) (hib:ib<nid) (him:im<nid) (hio:io<nid) (n1:ib≠im) (n2:ib≠io) (n3:im≠io) (hW:WafOk W) (hx:x≤1000) (hy:y≤1000) (hn:n≤1000000) :
  ACall Try.prog 64 [.agg [.int .i64 (x:Nat),.int .i64 (y:Nat)],.int .u8 ((a.toNat:Nat)),.ptr ib 0,.ptr im 0,.ptr io 0] [(ib,boxW nl W),(im,boxI (m:Nat)),(io,boxI (n:Nat))] nid (.int .u8 (((inkB W m a ((x:Int),(y:Int))).toNat:Nat))) [(ib,boxW nl W),(im,boxI (m:Nat)),(io,boxI ((n+(if inkP W m (byteI a) ((x:Int),(y:Int))=true then 1 else 0):Nat)))]:=by
 obtain ⟨a1,a2,a3,a4,a5,a6,a7,a8,a9⟩:=id_all hib
 obtain ⟨b1,b2,b3,b4,b5,b6,b7,b8,b9⟩:=id_all him
 obtain ⟨d1,d2,d3,d4,d5,d6,d7,d8,d9⟩:=id_all hio
 have g1:(ib==im)=false:=by simpa using n1
 have g2:(im==ib)=false:=by simpa using fun h=>n1 h.symm
 have g3:(ib==io)=false:=by simpa using n2
 have g4:(io==ib)=false:=by simpa using fun h=>n2 h.symm
 have g5:(im==io)=false:=by simpa using n3
 have g6:(io==im)=false:=by simpa using fun h=>n3 h.symm
 have m1:¬ im=ib:=fun h=>n1 h.symm
 have m2:¬ io=ib:=fun h=>n2 h.symm
 have m3:¬ io=im:=fun h=>n3 h.symm
 refine acall_run c64 (by simp [a64]) ?_
 unfold boxW boxI
 simp -dsimp only [a64,aqA,↓seqK,↓blkK,↓loopK,step,stepBin,eqB,Nat.add_assoc nid,simprocAttr,z0,Int.cast_ofNat_Int,Int.reduceBEq,Int.reduceBNe,Int.reduceLT,Int.reduceLE,Int.reduceAdd,Int.reduceSub,Int.reduceMul,Int.reduceToNat,Int.reduceNeg,Int.reduceTMod,Int.reduceEq,not_false_eq_true,Int.reducePow,Int.reduceFDiv,Nat.reducePow,Nat.reduceSub,Nat.reduceMul,Nat.min_eq_left,Nat.reduceEqDiff,BEq.rfl,Int.tdiv_one,LN_succ,a1,a2,a3,a4,a5,a6,a7,a8,a9,b1,b2,b3,b4,b5,b6,b7,b8,b9,d1,d2,d3,d4,d5,d6,d7,d8,d9,g1,g2,g3,g4,g5,g6,n1,n2,n3,m1,m2,m3]
 refine CallX.pure (passed_c _ _ _ _ _ _ _ rfl) ?_
 have hp:PtBd ((x:Int),(y:Int)):=by unfold PtBd; simp only; omega
 unfold inkB inkP
 have hb:byteI a=((a.toNat:Nat):Int):=rfl
 rw [hb]
 cases h:passedV W.pass ((a.toNat:Nat):Int) <;> simp -dsimp only [aqA,↓seqK,↓blkK,↓loopK,step,stepBin,eqB,Nat.add_assoc nid,simprocAttr,z0,Int.cast_ofNat_Int,Int.reduceBEq,Int.reduceBNe,Int.reduceLT,Int.reduceLE,Int.reduceAdd,Int.reduceSub,Int.reduceMul,Int.reduceToNat,Int.reduceNeg,Int.reduceTMod,Int.reduceEq,not_false_eq_true,Int.reducePow,Int.reduceFDiv,Nat.reducePow,Nat.reduceSub,Nat.reduceMul,Nat.min_eq_left,Nat.reduceEqDiff,BEq.rfl,Int.tdiv_one,LN_succ,a1,a2,a3,a4,a5,a6,a7,a8,a9,b1,b2,b3,b4,b5,b6,b7,b8,b9,d1,d2,d3,d4,d5,d6,d7,d8,d9,g1,g2,g3,g4,g5,g6,n1,n2,n3,m1,m2,m3]
 ·refine RetOK.go [] [] (.inl rfl) ?_
  simp [a64,cvT,step,res,a1,a2,a3,a4,a5,a6,a7,a8,a9,b1,b2,b3,b4,b5,b6,b7,b8,b9,d1,d2,d3,d4,d5,d6,d7,d8,d9,g1,g2,g3,g4,g5,g6,n1,n2,n3,m1,m2,m3]
 ·refine CallX.pure (badN_all nl W ((x:Int),(y:Int)) _ hW hp) ?_
  have hle:=cntN_le (badP W) (arV ((x:Int),(y:Int)))
  have hl9:=arV_len ((x:Int),(y:Int))
  generalize cntN (badP W) (arV ((x:Int),(y:Int)))=c at *
  simp -dsimp only [aqA,↓seqK,↓blkK,↓loopK,step,stepBin,eqB,Nat.add_assoc nid,simprocAttr,z0,Int.cast_ofNat_Int,Int.reduceBEq,Int.reduceBNe,Int.reduceLT,Int.reduceLE,Int.reduceAdd,Int.reduceSub,Int.reduceMul,Int.reduceToNat,Int.reduceNeg,Int.reduceTMod,Int.reduceEq,not_false_eq_true,Int.reducePow,Int.reduceFDiv,Nat.reducePow,Nat.reduceSub,Nat.reduceMul,Nat.min_eq_left,Nat.reduceEqDiff,BEq.rfl,Int.tdiv_one,LN_succ,a1,a2,a3,a4,a5,a6,a7,a8,a9,b1,b2,b3,b4,b5,b6,b7,b8,b9,d1,d2,d3,d4,d5,d6,d7,d8,d9,g1,g2,g3,g4,g5,g6,n1,n2,n3,m1,m2,m3]
  refine S2.dec (fun h2=>?_) (fun h2=>?_) <;> simp -dsimp only [aqA,↓seqK,↓blkK,↓loopK,step,stepBin,eqB,Nat.add_assoc nid,simprocAttr,z0,Int.cast_ofNat_Int,Int.reduceBEq,Int.reduceBNe,Int.reduceLT,Int.reduceLE,Int.reduceAdd,Int.reduceSub,Int.reduceMul,Int.reduceToNat,Int.reduceNeg,Int.reduceTMod,Int.reduceEq,not_false_eq_true,Int.reducePow,Int.reduceFDiv,Nat.reducePow,Nat.reduceSub,Nat.reduceMul,Nat.min_eq_left,Nat.reduceEqDiff,BEq.rfl,Int.tdiv_one,LN_succ,a1,a2,a3,a4,a5,a6,a7,a8,a9,b1,b2,b3,b4,b5,b6,b7,b8,b9,d1,d2,d3,d4,d5,d6,d7,d8,d9,g1,g2,g3,g4,g5,g6,n1,n2,n3,m1,m2,m3]
  ·refine ⟨by unfold inI64; omega,RetOK.go [] [] (.inl rfl) ?_⟩
   simp [a64,cvT,step,res,a1,a2,a3,a4,a5,a6,a7,a8,a9,b1,b2,b3,b4,b5,b6,b7,b8,b9,d1,d2,d3,d4,d5,d6,d7,d8,d9,g1,g2,g3,g4,g5,g6,n1,n2,n3,m1,m2,m3,h2]
  ·refine RetOK.go [] [] (.inl rfl) ?_
   simp [a64,cvT,step,res,a1,a2,a3,a4,a5,a6,a7,a8,a9,b1,b2,b3,b4,b5,b6,b7,b8,b9,d1,d2,d3,d4,d5,d6,d7,d8,d9,g1,g2,g3,g4,g5,g6,n1,n2,n3,m1,m2,m3,h2]
open Go.RowKit
def inkAt (W:Waf) (m:Nat) (p:Pt):Bool:=inkP W m (dieV W p.1 p.2) p
def inkR (W:Waf) (m y:Nat) (r:List UInt8):List UInt8:=List.zipWith (fun b x=>inkB W m b (((x:Nat):Int),(y:Int))) r (List.range r.length)
def inkRs (W:Waf) (m:Nat):List (List UInt8):=List.zipWith (fun r y=>inkR W m y r) W.rows (List.range W.rows.length)
def inkTo (W:Waf) (m y:Nat) (r:List UInt8) (k:Nat):List UInt8:=(inkR W m y r).take k++r.drop k
theorem inkR_len (W:Waf) (m y:Nat) (r:List UInt8):(inkR W m y r).length=r.length:=by unfold inkR; rw [List.length_zipWith,List.length_range,Nat.min_self]
theorem inkRs_len (W:Waf) (m:Nat):(inkRs W m).length=W.rows.length:=by unfold inkRs; rw [List.length_zipWith,List.length_range,Nat.min_self]
theorem inkTo_len (W:Waf) (m y:Nat) (r:List UInt8) (k:Nat):(inkTo W m y r k).length=r.length:=by
 unfold inkTo; rw [List.length_append,List.length_take,List.length_drop,inkR_len]; omega
theorem inkTo_at (W:Waf) (m y:Nat) {r:List UInt8} {k:Nat} (hk:k<r.length):(inkTo W m y r k).getD k 0=r.getD k 0:=by
 unfold inkTo
 rw [List.getD_eq_getElem?_getD,List.getElem?_append_right (by rw [List.length_take]; omega),List.getElem?_drop,List.length_take,inkR_len,List.getD_eq_getElem?_getD]
 congr 2
 omega
theorem rangeD {n k:Nat} (h:k<n):(List.range n).getD k 0=k:=by rw [List.getD_eq_getElem?_getD,List.getElem?_range h]; rfl
theorem inkTo_set (W:Waf) (m y:Nat) {r:List UInt8} {k:Nat} (hk:k<r.length):(inkTo W m y r k).set k (inkB W m (r.getD k 0) ((k:Int),(y:Int)))=inkTo W m y r (k+1):=by
 unfold inkTo inkR
 rw [zip_take _ 0 0 hk (by rw [List.length_range]; exact hk),rangeD hk,List.set_append_right _ _ (by rw [List.length_take]; omega),List.length_take,List.length_zipWith,List.length_range,Nat.min_self,Nat.min_eq_left (by omega),Nat.sub_self,List.append_assoc,List.drop_eq_getElem_cons hk]
 rfl
theorem inkTo_all (W:Waf) (m y:Nat) (r:List UInt8):inkTo W m y r r.length=inkR W m y r:=by
 unfold inkTo
 rw [List.drop_length,List.append_nil,List.take_of_length_le (by rw [inkR_len]; omega)]
theorem inkRs_take (W:Waf) (m:Nat) {y:Nat} (h:y<W.rows.length):(inkRs W m).take (y+1)=(inkRs W m).take y++[inkR W m y (W.rows.getD y [])]:=by
 have:=zip_take (fun r y=>inkR W m y r) [] 0 h (m:=List.range W.rows.length) (by rw [List.length_range]; exact h)
 rw [rangeD h] at this
 exact this
theorem cntN_app (F:Pt→Bool) (l:List Pt) (p:Pt):cntN F (l++[p])=cntN F l+(if F p=true then 1 else 0):=by
 unfold cntN
 rw [List.countP_append,List.countP_cons,List.countP_nil,Nat.zero_add]
set_option maxHeartbeats 8000000 in
theorem changedInk_c (ib im io : Nat) (nl nlb : Bool) (W : Waf) (m : Nat) (nid : Nat) (hib : ib < nid) (him : im < nid) (hio : io < nid) (n1 : ib ≠ im) (n2 : ib ≠ io) (n3 : im ≠ io) (hW : WafOk W) :
    ACall Try.prog 55 [wafP nl W,.fn 64 [.ptr ib 0,.ptr im 0,.ptr io 0]] [(ib,boxW nlb W),(im,boxI (m : Nat)),(io,boxI 0)] nid (.agg [.sl nid 0 W.rows.length,.str W.pass]) [(ib,boxW nlb W),(im,boxI (m : Nat)),(io,boxI (cntN (inkAt W m) (plV W) : Nat)),(nid,arrS (inkRs W m))] := by
  have hl := hW.len
  have hww := hW.wide.2
  obtain ⟨a1,a2,a3,a4,a5,a6,a7,a8,a9⟩ := id_all hib
  obtain ⟨b1,b2,b3,b4,b5,b6,b7,b8,b9⟩ := id_all him
  obtain ⟨d1,d2,d3,d4,d5,d6,d7,d8,d9⟩ := id_all hio
  have g1 : (ib == im) = false := by simpa using n1
  have g2 : (im == ib) = false := by simpa using fun h => n1 h.symm
  have g3 : (ib == io) = false := by simpa using n2
  have g4 : (io == ib) = false := by simpa using fun h => n2 h.symm
  have g5 : (im == io) = false := by simpa using n3
  have g6 : (io == im) = false := by simpa using fun h => n3 h.symm
  have m1 : ¬ im = ib := fun h => n1 h.symm
  have m2 : ¬ io = ib := fun h => n2 h.symm
  have m3 : ¬ io = im := fun h => n3 h.symm
  have hml := inkRs_len W m
  have hp0 : cntN (inkAt W m) (plTo W 0) = 0 := by simp [cntN,plTo]
  refine acall_run c55 (by simp [a55]) ?_
  unfold wafP boxW boxI
  simp -dsimp only [a55,aqA,↓seqK,↓blkK,↓loopK,step,stepBin,eqB,Nat.add_assoc nid,simprocAttr,z0,Int.cast_ofNat_Int,Int.reduceBEq,Int.reduceBNe,Int.reduceLT,Int.reduceLE,Int.reduceAdd,Int.reduceSub,Int.reduceMul,Int.reduceToNat,Int.reduceNeg,Int.reduceTMod,Int.reduceEq,not_false_eq_true,Int.reducePow,Int.reduceFDiv,Nat.reducePow,Nat.reduceSub,Nat.reduceMul,Nat.min_eq_left,Nat.reduceEqDiff,BEq.rfl,Int.tdiv_one,LN_succ,a1,a2,a3,a4,a5,a6,a7,a8,a9,b1,b2,b3,b4,b5,b6,b7,b8,b9,d1,d2,d3,d4,d5,d6,d7,d8,d9,g1,g2,g3,g4,g5,g6,n1,n2,n3,m1,m2,m3]
  refine LP.mkP (fun y : Nat => y ≤ W.rows.length) (fun y : Nat => ⟨[(16,.int .i64 y),(15,.int .i64 W.rows.length),(14,.lit nl W.rows.length [.s fun i => W.rows.getD i []]),(1,.fn 64 [.ptr ib 0,.ptr im 0,.ptr io 0]),(5,.ptr (nid + 20) 0),(4,.ptr (nid + 4) 0)],
    [(ib,boxW nlb W),(im,boxI (m : Nat)),(io,boxI (cntN (inkAt W m) (plTo W y) : Nat)),(nid + 4,some (.box 28 [.lit true 0 [],.str []])),(nid + 20,some (.box 28 [.sl (nid + 8) 0 y,.str W.pass])),(nid + 8,some (.arr 9 y [.s fun i => ((inkRs W m).take y).getD i []]))],nid + 200,nid⟩) (fun y => W.rows.length + 1 - y) 0 (by omega) (Cov.go [] [(nid + 8,1)] ?_) (fun y hy => ?_)
  · simp [cvT,step,res,a1,a2,a3,a4,a5,a6,a7,a8,a9,b1,b2,b3,b4,b5,b6,b7,b8,b9,d1,d2,d3,d4,d5,d6,d7,d8,d9,g1,g2,g3,g4,g5,g6,n1,n2,n3,m1,m2,m3,boxW,boxI,hp0]
  unfold boxW boxI
  simp -dsimp only [aqA,↓seqK,↓blkK,↓loopK,step,stepBin,eqB,Nat.add_assoc nid,simprocAttr,z0,Int.cast_ofNat_Int,Int.reduceBEq,Int.reduceBNe,Int.reduceLT,Int.reduceLE,Int.reduceAdd,Int.reduceSub,Int.reduceMul,Int.reduceToNat,Int.reduceNeg,Int.reduceTMod,Int.reduceEq,not_false_eq_true,Int.reducePow,Int.reduceFDiv,Nat.reducePow,Nat.reduceSub,Nat.reduceMul,Nat.min_eq_left,Nat.reduceEqDiff,BEq.rfl,Int.tdiv_one,LN_succ,a1,a2,a3,a4,a5,a6,a7,a8,a9,b1,b2,b3,b4,b5,b6,b7,b8,b9,d1,d2,d3,d4,d5,d6,d7,d8,d9,g1,g2,g3,g4,g5,g6,n1,n2,n3,m1,m2,m3]
  refine S2.dec (fun h1 => ?_) (fun h1 => ?_) <;> simp -dsimp only [aqA,↓seqK,↓blkK,↓loopK,step,stepBin,eqB,Nat.add_assoc nid,simprocAttr,z0,Int.cast_ofNat_Int,Int.reduceBEq,Int.reduceBNe,Int.reduceLT,Int.reduceLE,Int.reduceAdd,Int.reduceSub,Int.reduceMul,Int.reduceToNat,Int.reduceNeg,Int.reduceTMod,Int.reduceEq,not_false_eq_true,Int.reducePow,Int.reduceFDiv,Nat.reducePow,Nat.reduceSub,Nat.reduceMul,Nat.min_eq_left,Nat.reduceEqDiff,BEq.rfl,Int.tdiv_one,LN_succ,a1,a2,a3,a4,a5,a6,a7,a8,a9,b1,b2,b3,b4,b5,b6,b7,b8,b9,d1,d2,d3,d4,d5,d6,d7,d8,d9,g1,g2,g3,g4,g5,g6,n1,n2,n3,m1,m2,m3]
  · have hyl : y < W.rows.length := by omega
    have hra := (hW.at hyl).1
    have hmt := inkRs_take W m hyl
    have hmtl : ((inkRs W m).take y).length = y := by rw [List.length_take]; omega
    have hdie : ∀ x : Nat,x < wideOf W → dieV W (x : Int) (y : Int) = byteI ((W.rows.getD y []).getD x 0) := fun x hx => dieV_in hyl hx
    have hts := plTo_succ W y
    have htb := plTo_bd hW (y := y) (by omega)
    generalize hAr : W.rows.getD y [] = r at *
    generalize hTd : plTo W y = T at *
    refine ⟨by omega,by omega,?_⟩
    refine LP.mkP (fun x : Nat => x ≤ r.length) (fun x : Nat => ⟨[(25,.int .i64 x),(24,.int .i64 r.length),(8,.sl (nid + 228) 0 r.length),(6,.int .i64 y),(16,.int .i64 y),(15,.int .i64 W.rows.length),(14,.lit nl W.rows.length [.s fun i => W.rows.getD i []]),(1,.fn 64 [.ptr ib 0,.ptr im 0,.ptr io 0]),(5,.ptr (nid + 20) 0),(4,.ptr (nid + 4) 0)],
      [(ib,boxW nlb W),(im,boxI (m : Nat)),(io,boxI (cntN (inkAt W m) (T ++ rowPl y x) : Nat)),(nid + 4,some (.box 28 [.lit true 0 [],.str []])),(nid + 20,some (.box 28 [.sl (nid + 8) 0 y,.str W.pass])),(nid + 8,some (.arr 9 y [.s fun i => ((inkRs W m).take y).getD i []])),
       (nid + 228,some (.arr 4294967295 r.length [.i .u8 fun i => (((inkTo W m y r x).getD i 0).toNat : Nat)]))],nid + 400,nid⟩) (fun x => r.length + 1 - x) 0 (by omega) (Cov.go [] [] ?_) (fun x hx => ?_)
    · have e0 : T ++ rowPl y 0 = T := by simp [rowPl]
      rw [e0]
      simp [cvT,step,res,a1,a2,a3,a4,a5,a6,a7,a8,a9,b1,b2,b3,b4,b5,b6,b7,b8,b9,d1,d2,d3,d4,d5,d6,d7,d8,d9,g1,g2,g3,g4,g5,g6,n1,n2,n3,m1,m2,m3,boxW,boxI,inkTo,-List.getD_eq_getElem?_getD]
    have hrl := inkTo_len W m y r x
    have hra2 := inkTo_at W m y (r := r) (k := x)
    have hrs := inkTo_set W m y (r := r) (k := x)
    have hTs : T ++ rowPl y (x + 1) = (T ++ rowPl y x) ++ [((x : Int),(y : Int))] := by rw [rowPl_succ,List.append_assoc]
    have hcs := cntN_app (inkAt W m) (T ++ rowPl y x) ((x : Int),(y : Int))
    have hcl := cntN_le (inkAt W m) (T ++ rowPl y x)
    rw [List.length_append,rowPl_len] at hcl
    rw [← hTs] at hcs
    unfold boxW boxI
    generalize hq : inkTo W m y r x = q at *
    generalize hcd : cntN (inkAt W m) (T ++ rowPl y x) = c at *
    simp -dsimp only [aqA,↓seqK,↓blkK,↓loopK,step,stepBin,eqB,Nat.add_assoc nid,simprocAttr,z0,Int.cast_ofNat_Int,Int.reduceBEq,Int.reduceBNe,Int.reduceLT,Int.reduceLE,Int.reduceAdd,Int.reduceSub,Int.reduceMul,Int.reduceToNat,Int.reduceNeg,Int.reduceTMod,Int.reduceEq,not_false_eq_true,Int.reducePow,Int.reduceFDiv,Nat.reducePow,Nat.reduceSub,Nat.reduceMul,Nat.min_eq_left,Nat.reduceEqDiff,BEq.rfl,Int.tdiv_one,LN_succ,a1,a2,a3,a4,a5,a6,a7,a8,a9,b1,b2,b3,b4,b5,b6,b7,b8,b9,d1,d2,d3,d4,d5,d6,d7,d8,d9,g1,g2,g3,g4,g5,g6,n1,n2,n3,m1,m2,m3]
    refine S2.dec (fun h2 => ?_) (fun h2 => ?_) <;> simp -dsimp only [aqA,↓seqK,↓blkK,↓loopK,step,stepBin,eqB,Nat.add_assoc nid,simprocAttr,z0,Int.cast_ofNat_Int,Int.reduceBEq,Int.reduceBNe,Int.reduceLT,Int.reduceLE,Int.reduceAdd,Int.reduceSub,Int.reduceMul,Int.reduceToNat,Int.reduceNeg,Int.reduceTMod,Int.reduceEq,not_false_eq_true,Int.reducePow,Int.reduceFDiv,Nat.reducePow,Nat.reduceSub,Nat.reduceMul,Nat.min_eq_left,Nat.reduceEqDiff,BEq.rfl,Int.tdiv_one,LN_succ,a1,a2,a3,a4,a5,a6,a7,a8,a9,b1,b2,b3,b4,b5,b6,b7,b8,b9,d1,d2,d3,d4,d5,d6,d7,d8,d9,g1,g2,g3,g4,g5,g6,n1,n2,n3,m1,m2,m3]
    · have hxl : x < r.length := by omega
      have hia : inkAt W m ((x : Int),(y : Int)) = inkP W m (byteI (r.getD x 0)) ((x : Int),(y : Int)) := by unfold inkAt; simp only; rw [hdie x (by omega)]
      rw [hra2 hxl]
      refine ⟨by omega,CallO.on (inkF_c ib im io nlb W m c x y (r.getD x 0) _ (by omega) (by omega) (by omega) n1 n2 n3 hW (by omega) (by omega) (by omega)) (subH_cons (by simp only [aqA,↓seqK,↓blkK,↓loopK,step,stepBin,eqB,Nat.add_assoc nid,simprocAttr,z0,Int.cast_ofNat_Int,Int.reduceBEq,Int.reduceBNe,Int.reduceLT,Int.reduceLE,Int.reduceAdd,Int.reduceSub,Int.reduceMul,Int.reduceToNat,Int.reduceNeg,Int.reduceTMod,Int.reduceEq,not_false_eq_true,Int.reducePow,Int.reduceFDiv,Nat.reducePow,Nat.reduceSub,Nat.reduceMul,Nat.min_eq_left,Nat.reduceEqDiff,BEq.rfl,Int.tdiv_one,LN_succ,a1,a2,a3,a4,a5,a6,a7,a8,a9,b1,b2,b3,b4,b5,b6,b7,b8,b9,d1,d2,d3,d4,d5,d6,d7,d8,d9,g1,g2,g3,g4,g5,g6,n1,n2,n3,m1,m2,m3,boxW]) (subH_cons (by simp only [aqA,↓seqK,↓blkK,↓loopK,step,stepBin,eqB,Nat.add_assoc nid,simprocAttr,z0,Int.cast_ofNat_Int,Int.reduceBEq,Int.reduceBNe,Int.reduceLT,Int.reduceLE,Int.reduceAdd,Int.reduceSub,Int.reduceMul,Int.reduceToNat,Int.reduceNeg,Int.reduceTMod,Int.reduceEq,not_false_eq_true,Int.reducePow,Int.reduceFDiv,Nat.reducePow,Nat.reduceSub,Nat.reduceMul,Nat.min_eq_left,Nat.reduceEqDiff,BEq.rfl,Int.tdiv_one,LN_succ,a1,a2,a3,a4,a5,a6,a7,a8,a9,b1,b2,b3,b4,b5,b6,b7,b8,b9,d1,d2,d3,d4,d5,d6,d7,d8,d9,g1,g2,g3,g4,g5,g6,n1,n2,n3,m1,m2,m3,boxI]) (subH_get (by simp only [aqA,↓seqK,↓blkK,↓loopK,step,stepBin,eqB,Nat.add_assoc nid,simprocAttr,z0,Int.cast_ofNat_Int,Int.reduceBEq,Int.reduceBNe,Int.reduceLT,Int.reduceLE,Int.reduceAdd,Int.reduceSub,Int.reduceMul,Int.reduceToNat,Int.reduceNeg,Int.reduceTMod,Int.reduceEq,not_false_eq_true,Int.reducePow,Int.reduceFDiv,Nat.reducePow,Nat.reduceSub,Nat.reduceMul,Nat.min_eq_left,Nat.reduceEqDiff,BEq.rfl,Int.tdiv_one,LN_succ,a1,a2,a3,a4,a5,a6,a7,a8,a9,b1,b2,b3,b4,b5,b6,b7,b8,b9,d1,d2,d3,d4,d5,d6,d7,d8,d9,g1,g2,g3,g4,g5,g6,n1,n2,n3,m1,m2,m3,boxI])))) ?_⟩
      rw [← hia,← hcs]
      unfold boxW boxI
      simp -dsimp only [aqA,↓seqK,↓blkK,↓loopK,step,stepBin,eqB,Nat.add_assoc nid,simprocAttr,z0,Int.cast_ofNat_Int,Int.reduceBEq,Int.reduceBNe,Int.reduceLT,Int.reduceLE,Int.reduceAdd,Int.reduceSub,Int.reduceMul,Int.reduceToNat,Int.reduceNeg,Int.reduceTMod,Int.reduceEq,not_false_eq_true,Int.reducePow,Int.reduceFDiv,Nat.reducePow,Nat.reduceSub,Nat.reduceMul,Nat.min_eq_left,Nat.reduceEqDiff,BEq.rfl,Int.tdiv_one,LN_succ,a1,a2,a3,a4,a5,a6,a7,a8,a9,b1,b2,b3,b4,b5,b6,b7,b8,b9,d1,d2,d3,d4,d5,d6,d7,d8,d9,g1,g2,g3,g4,g5,g6,n1,n2,n3,m1,m2,m3]
      rw [setD_byte (by omega : x < q.length),hrs hxl]
      refine ⟨by omega,by unfold inI64; omega,x + 1,⟨by omega,by omega⟩,Cov.go [] [] ?_⟩
      simp [cvT,step,res,a1,a2,a3,a4,a5,a6,a7,a8,a9,b1,b2,b3,b4,b5,b6,b7,b8,b9,d1,d2,d3,d4,d5,d6,d7,d8,d9,g1,g2,g3,g4,g5,g6,n1,n2,n3,m1,m2,m3,boxW,boxI,-List.getD_eq_getElem?_getD]
    · have hxr : x = r.length := by omega
      subst hxr
      rw [inkTo_all] at hq
      subst hq
      rw [bytes_back2 hrl,getD_app1 _ _ hmtl,← hmt]
      rw [← hts] at hcd
      refine ⟨⟨by omega,by omega⟩,by unfold inI64; omega,y + 1,⟨by omega,by omega⟩,Cov.go [(nid + 8,nid + 424)] [] ?_⟩
      simp [cvT,step,res,a1,a2,a3,a4,a5,a6,a7,a8,a9,b1,b2,b3,b4,b5,b6,b7,b8,b9,d1,d2,d3,d4,d5,d6,d7,d8,d9,g1,g2,g3,g4,g5,g6,n1,n2,n3,m1,m2,m3,boxW,boxI,hcd,-List.getD_eq_getElem?_getD]
  · have hyn : y = W.rows.length := by omega
    subst hyn
    rw [List.take_of_length_le (by omega)]
    refine RetOK.go [(nid,nid + 8)] [] (.inl rfl) ?_
    simp [cvT,step,res,a1,a2,a3,a4,a5,a6,a7,a8,a9,b1,b2,b3,b4,b5,b6,b7,b8,b9,d1,d2,d3,d4,d5,d6,d7,d8,d9,g1,g2,g3,g4,g5,g6,n1,n2,n3,m1,m2,m3,a55,boxW,boxI,arrS,hml,plV,-List.getD_eq_getElem?_getD]
open Go.RowKit
set_option maxHeartbeats 4000000 in
theorem ink_all (nl:Bool) (W:Waf) (m:Nat) (nid:Nat) (h:waferV W=0) (hp:W.pass.length≤1000000) (h1:1≤m) (h8:m≤8):ACall Try.prog 27 [wafP nl W,.int .i64 (m:Nat)] [] nid (.tup [.agg [.sl nid 0 W.rows.length,.str W.pass],.int .i64 (cntN (inkAt W m) (plV W):Nat),.int .i64 0]) [(nid,arrS (inkRs W m))]:=by
 have hW:=waferV_ok h
 have ho:outB (m:Int) 1 8=false:=by unfold outB; simp; omega
 refine acall_run c27 (by simp [a27]) ?_
 unfold wafP
 simp -dsimp only [a27,aqA,↓seqK,↓blkK,↓loopK,step,stepBin,eqB,Nat.add_assoc nid,simprocAttr,z0,Int.cast_ofNat_Int,Int.reduceBEq,Int.reduceBNe,Int.reduceLT,Int.reduceLE,Int.reduceAdd,Int.reduceSub,Int.reduceMul,Int.reduceToNat,Int.reduceNeg,Int.reduceTMod,Int.reduceEq,not_false_eq_true,Int.reducePow,Int.reduceFDiv,Nat.reducePow,Nat.reduceSub,Nat.reduceMul,Nat.min_eq_left,Nat.reduceEqDiff,BEq.rfl,Int.tdiv_one,LN_succ]
 refine CallO.pure (checkWafer_all nl W _ (hW.bd hp)) ?_
 rw [h]
 simp -dsimp only [aqA,↓seqK,↓blkK,↓loopK,step,stepBin,eqB,Nat.add_assoc nid,simprocAttr,z0,Int.cast_ofNat_Int,Int.reduceBEq,Int.reduceBNe,Int.reduceLT,Int.reduceLE,Int.reduceAdd,Int.reduceSub,Int.reduceMul,Int.reduceToNat,Int.reduceNeg,Int.reduceTMod,Int.reduceEq,not_false_eq_true,Int.reducePow,Int.reduceFDiv,Nat.reducePow,Nat.reduceSub,Nat.reduceMul,Nat.min_eq_left,Nat.reduceEqDiff,BEq.rfl,Int.tdiv_one,LN_succ]
 refine CallO.pure (out_c _ _ _ _) ?_
 rw [ho]
 simp -dsimp only [aqA,↓seqK,↓blkK,↓loopK,step,stepBin,eqB,Nat.add_assoc nid,simprocAttr,z0,Int.cast_ofNat_Int,Int.reduceBEq,Int.reduceBNe,Int.reduceLT,Int.reduceLE,Int.reduceAdd,Int.reduceSub,Int.reduceMul,Int.reduceToNat,Int.reduceNeg,Int.reduceTMod,Int.reduceEq,not_false_eq_true,Int.reducePow,Int.reduceFDiv,Nat.reducePow,Nat.reduceSub,Nat.reduceMul,Nat.min_eq_left,Nat.reduceEqDiff,BEq.rfl,Int.tdiv_one,LN_succ]
 refine CallO.on (changedInk_c nid (nid+4) (nid+48) nl nl W m _ (by omega) (by omega) (by omega) (by omega) (by omega) (by omega) hW) (subH_cons (by simp only [aqA,↓seqK,↓blkK,↓loopK,step,stepBin,eqB,Nat.add_assoc nid,simprocAttr,z0,Int.cast_ofNat_Int,Int.reduceBEq,Int.reduceBNe,Int.reduceLT,Int.reduceLE,Int.reduceAdd,Int.reduceSub,Int.reduceMul,Int.reduceToNat,Int.reduceNeg,Int.reduceTMod,Int.reduceEq,not_false_eq_true,Int.reducePow,Int.reduceFDiv,Nat.reducePow,Nat.reduceSub,Nat.reduceMul,Nat.min_eq_left,Nat.reduceEqDiff,BEq.rfl,Int.tdiv_one,LN_succ,boxW]) (subH_cons (by simp only [aqA,↓seqK,↓blkK,↓loopK,step,stepBin,eqB,Nat.add_assoc nid,simprocAttr,z0,Int.cast_ofNat_Int,Int.reduceBEq,Int.reduceBNe,Int.reduceLT,Int.reduceLE,Int.reduceAdd,Int.reduceSub,Int.reduceMul,Int.reduceToNat,Int.reduceNeg,Int.reduceTMod,Int.reduceEq,not_false_eq_true,Int.reducePow,Int.reduceFDiv,Nat.reducePow,Nat.reduceSub,Nat.reduceMul,Nat.min_eq_left,Nat.reduceEqDiff,BEq.rfl,Int.tdiv_one,LN_succ,boxI]) (subH_get (by simp only [aqA,↓seqK,↓blkK,↓loopK,step,stepBin,eqB,Nat.add_assoc nid,simprocAttr,z0,Int.cast_ofNat_Int,Int.reduceBEq,Int.reduceBNe,Int.reduceLT,Int.reduceLE,Int.reduceAdd,Int.reduceSub,Int.reduceMul,Int.reduceToNat,Int.reduceNeg,Int.reduceTMod,Int.reduceEq,not_false_eq_true,Int.reducePow,Int.reduceFDiv,Nat.reducePow,Nat.reduceSub,Nat.reduceMul,Nat.min_eq_left,Nat.reduceEqDiff,BEq.rfl,Int.tdiv_one,LN_succ,boxI])))) ?_
 unfold boxW boxI arrS
 simp -dsimp only [aqA,↓seqK,↓blkK,↓loopK,step,stepBin,eqB,Nat.add_assoc nid,simprocAttr,z0,Int.cast_ofNat_Int,Int.reduceBEq,Int.reduceBNe,Int.reduceLT,Int.reduceLE,Int.reduceAdd,Int.reduceSub,Int.reduceMul,Int.reduceToNat,Int.reduceNeg,Int.reduceTMod,Int.reduceEq,not_false_eq_true,Int.reducePow,Int.reduceFDiv,Nat.reducePow,Nat.reduceSub,Nat.reduceMul,Nat.min_eq_left,Nat.reduceEqDiff,BEq.rfl,Int.tdiv_one,LN_succ]
 refine RetOK.go [(nid,nid+64)] [] (.inl rfl) ?_
 simp [a27,cvT,step,res,arrS,-List.getD_eq_getElem?_getD]
open Go.RowKit
theorem clTo_row {W:Waf}:∀ k,k≤(plV W).length→∀ g∈clTo W k,g.length≤(plV W).length
 | 0,_,g,hg=>by rw [clTo_zero] at hg; cases hg
 | k+1,h,g,hg=>by
  rw [clTo_succ (by omega)] at hg
  unfold clNext at hg
  split at hg
  ·rcases List.mem_append.1 hg with h1 | h1
   ·exact clTo_row k (by omega) g h1
   ·rw [List.mem_singleton.1 h1]
    exact compL_len W _
  ·exact clTo_row k (by omega) g hg
theorem bigC_row {W:Waf} (least i:Nat):((bigC least (clV W)).getD i []).length≤(plV W).length:=by
 rw [List.getD_eq_getElem?_getD]
 cases hg:(bigC least (clV W))[i]? with
 | none=>simp
 | some g =>
  have hm:=List.mem_of_getElem? hg
  unfold bigC at hm
  exact clTo_row _ (Nat.le_refl _) g (List.mem_filter.1 hm).1
set_option maxHeartbeats 16000000 in
theorem wafersStay_c (nl:Bool) (A:List Int) (nid:Nat) (hA:A.length≤17592186044416):ACall Try.prog 4 [litI nl A] [] nid (.bool true) []:=by
 have htl:=wsTail
 refine acall_sr c4 (by simp [a4]) ?_
 simp only [a4,navC] at htl ⊢
 unfold litI
 refine SR.seq ?_
 simp -dsimp only [aqA,↓seqK,↓blkK,↓loopK,step,stepBin,eqB,Nat.add_assoc nid,simprocAttr,z0,Int.cast_ofNat_Int,Int.reduceBEq,Int.reduceBNe,Int.reduceLT,Int.reduceLE,Int.reduceAdd,Int.reduceSub,Int.reduceMul,Int.reduceToNat,Int.reduceNeg,Int.reduceTMod,Int.reduceEq,not_false_eq_true,Int.reducePow,Int.reduceFDiv,Nat.reducePow,Nat.reduceSub,Nat.reduceMul,Nat.min_eq_left,Nat.reduceEqDiff,BEq.rfl,Int.tdiv_one,LN_succ]
 refine SR.seqTo ⟨[(3,.ptr (nid+12) 0),(4,.ptr (nid+16) 0)],[(nid+12,strmC nl A 0),(nid+16,strmC nl A 0)],nid+200,nid⟩ ?_ ?_
 ·simp -dsimp only [aqA,↓seqK,↓blkK,↓loopK,step,stepBin,eqB,Nat.add_assoc nid,simprocAttr,z0,Int.cast_ofNat_Int,Int.reduceBEq,Int.reduceBNe,Int.reduceLT,Int.reduceLE,Int.reduceAdd,Int.reduceSub,Int.reduceMul,Int.reduceToNat,Int.reduceNeg,Int.reduceTMod,Int.reduceEq,not_false_eq_true,Int.reducePow,Int.reduceFDiv,Nat.reducePow,Nat.reduceSub,Nat.reduceMul,Nat.min_eq_left,Nat.reduceEqDiff,BEq.rfl,Int.tdiv_one,LN_succ]
  refine Cov.go [(nid+12,nid+12),(nid+16,nid+24)] [] ?_
  simp [cvT,step,res,strmC]
 obtain ⟨⟨W,q⟩,⟨hv,hsm,hq⟩,hX⟩:=rightWaferX (nid+12) (nid+204) nl A 0 (by omega) (by omega) hA
 simp only at hv hsm hq hX
 refine SR.seqW (ι:=Unit) (fun _=>⟨[(3,.ptr (nid+16) 0),(4,.ptr (nid+12) 0),(5,.ptr (nid+4) 0),(6,.ptr (nid+8) 0)],[(nid+16,strmC nl A q),(nid+12,strmC nl A q),(nid+4,sbx W.rows.length W.pass (nid+24)),(nid+8,sbx W.rows.length W.pass (nid+28)),(nid+24,arrS W.rows),(nid+28,arrS W.rows)],nid+400,nid⟩) ?_ (fun _=>?_)
 ·refine SR.ofOps ?_ (by simp)
  refine SROps.mv ?_
  refine SROps.callW (by omega) (subH_get (by simp only [aqA,↓seqK,↓blkK,↓loopK,step,stepBin,eqB,Nat.add_assoc nid,simprocAttr,z0,Int.cast_ofNat_Int,Int.reduceBEq,Int.reduceBNe,Int.reduceLT,Int.reduceLE,Int.reduceAdd,Int.reduceSub,Int.reduceMul,Int.reduceToNat,Int.reduceNeg,Int.reduceTMod,Int.reduceEq,not_false_eq_true,Int.reducePow,Int.reduceFDiv,Nat.reducePow,Nat.reduceSub,Nat.reduceMul,Nat.min_eq_left,Nat.reduceEqDiff,BEq.rfl,Int.tdiv_one,LN_succ])) hX.wide (fun _ _=>?_)
  refine SROps.cov (s':=[(31,.agg [.sl (nid+24) 0 W.rows.length,.str W.pass]),(3,.ptr (nid+16) 0),(4,.ptr (nid+12) 0)]) (H':=[(nid+12,strmC nl A 0),(nid+16,strmC nl A q),(nid+24,arrS W.rows)]) (n':=nid+200) (Cov.go [(nid+12,nid+16),(nid+16,nid+12),(nid+24,nid+204)] [] ?_) ?_
  ·simp [cvT,step,res,putS,strmC,arrS,-List.getD_eq_getElem?_getD]
  refine SROps.mv ?_
  refine SROps.callW (by omega) (subH_get (by simp only [aqA,↓seqK,↓blkK,↓loopK,step,stepBin,eqB,Nat.add_assoc nid,simprocAttr,z0,Int.cast_ofNat_Int,Int.reduceBEq,Int.reduceBNe,Int.reduceLT,Int.reduceLE,Int.reduceAdd,Int.reduceSub,Int.reduceMul,Int.reduceToNat,Int.reduceNeg,Int.reduceTMod,Int.reduceEq,not_false_eq_true,Int.reducePow,Int.reduceFDiv,Nat.reducePow,Nat.reduceSub,Nat.reduceMul,Nat.min_eq_left,Nat.reduceEqDiff,BEq.rfl,Int.tdiv_one,LN_succ])) hX.wide (fun _ _=>?_)
  refine SROps.cov (s':=[(31,.agg [.sl (nid+24) 0 W.rows.length,.str W.pass]),(33,.agg [.sl (nid+28) 0 W.rows.length,.str W.pass]),(3,.ptr (nid+16) 0),(4,.ptr (nid+12) 0)]) (H':=[(nid+16,strmC nl A q),(nid+12,strmC nl A q),(nid+24,arrS W.rows),(nid+28,arrS W.rows)]) (n':=nid+300) (Cov.go [(nid+28,nid+204)] [] ?_) ?_
  ·simp [cvT,step,res,putS,strmC,arrS,-List.getD_eq_getElem?_getD]
  refine SROps.toRun ?_
  simp -dsimp only [aqA,↓seqK,↓blkK,↓loopK,step,stepBin,eqB,Nat.add_assoc nid,simprocAttr,z0,Int.cast_ofNat_Int,Int.reduceBEq,Int.reduceBNe,Int.reduceLT,Int.reduceLE,Int.reduceAdd,Int.reduceSub,Int.reduceMul,Int.reduceToNat,Int.reduceNeg,Int.reduceTMod,Int.reduceEq,not_false_eq_true,Int.reducePow,Int.reduceFDiv,Nat.reducePow,Nat.reduceSub,Nat.reduceMul,Nat.min_eq_left,Nat.reduceEqDiff,BEq.rfl,Int.tdiv_one,LN_succ]
  refine ⟨(),Cov.go [(nid+4,nid+300),(nid+8,nid+304)] [] ?_⟩
  simp [cvT,step,res,strmC,arrS,sbx,-List.getD_eq_getElem?_getD]
 have hb:=hsm.bd
 have hWl:=hsm.len
 obtain ⟨hPl,hPq⟩:=pointListV_bd A q
 have hpl:=fun s m (h:s<m)=>pointList_c s m nl A q h (by omega) hA
 obtain ⟨P,hP⟩:∃ P,(pointListV A q).1=P:=⟨_,rfl⟩
 rw [hP] at hPl
 simp only [hP] at hpl
 unfold arrP at hpl
 refine SR.seqTo ⟨[(7,.sl (nid+32) 0 P.length),(8,.sl (nid+36) 0 P.length),(5,.ptr (nid+4) 0),(6,.ptr (nid+8) 0)],[(nid+4,sbx W.rows.length W.pass (nid+24)),(nid+8,sbx W.rows.length W.pass (nid+28)),(nid+24,arrS W.rows),(nid+28,arrS W.rows),(nid+32,arrPl P),(nid+36,arrPl P)],nid+600,nid⟩ ?_ ?_
 ·simp -dsimp only [aqA,↓seqK,↓blkK,↓loopK,step,stepBin,eqB,Nat.add_assoc nid,simprocAttr,z0,Int.cast_ofNat_Int,Int.reduceBEq,Int.reduceBNe,Int.reduceLT,Int.reduceLE,Int.reduceAdd,Int.reduceSub,Int.reduceMul,Int.reduceToNat,Int.reduceNeg,Int.reduceTMod,Int.reduceEq,not_false_eq_true,Int.reducePow,Int.reduceFDiv,Nat.reducePow,Nat.reduceSub,Nat.reduceMul,Nat.min_eq_left,Nat.reduceEqDiff,BEq.rfl,Int.tdiv_one,LN_succ]
  refine CallO.on (hpl (nid+16) _ (by omega)) (subH_get (by simp only [aqA,↓seqK,↓blkK,↓loopK,step,stepBin,eqB,Nat.add_assoc nid,simprocAttr,z0,Int.cast_ofNat_Int,Int.reduceBEq,Int.reduceBNe,Int.reduceLT,Int.reduceLE,Int.reduceAdd,Int.reduceSub,Int.reduceMul,Int.reduceToNat,Int.reduceNeg,Int.reduceTMod,Int.reduceEq,not_false_eq_true,Int.reducePow,Int.reduceFDiv,Nat.reducePow,Nat.reduceSub,Nat.reduceMul,Nat.min_eq_left,Nat.reduceEqDiff,BEq.rfl,Int.tdiv_one,LN_succ])) ?_
  simp -dsimp only [aqA,↓seqK,↓blkK,↓loopK,step,stepBin,eqB,Nat.add_assoc nid,simprocAttr,z0,Int.cast_ofNat_Int,Int.reduceBEq,Int.reduceBNe,Int.reduceLT,Int.reduceLE,Int.reduceAdd,Int.reduceSub,Int.reduceMul,Int.reduceToNat,Int.reduceNeg,Int.reduceTMod,Int.reduceEq,not_false_eq_true,Int.reducePow,Int.reduceFDiv,Nat.reducePow,Nat.reduceSub,Nat.reduceMul,Nat.min_eq_left,Nat.reduceEqDiff,BEq.rfl,Int.tdiv_one,LN_succ]
  refine CallO.on (hpl (nid+12) _ (by omega)) (subH_get (by simp only [aqA,↓seqK,↓blkK,↓loopK,step,stepBin,eqB,Nat.add_assoc nid,simprocAttr,z0,Int.cast_ofNat_Int,Int.reduceBEq,Int.reduceBNe,Int.reduceLT,Int.reduceLE,Int.reduceAdd,Int.reduceSub,Int.reduceMul,Int.reduceToNat,Int.reduceNeg,Int.reduceTMod,Int.reduceEq,not_false_eq_true,Int.reducePow,Int.reduceFDiv,Nat.reducePow,Nat.reduceSub,Nat.reduceMul,Nat.min_eq_left,Nat.reduceEqDiff,BEq.rfl,Int.tdiv_one,LN_succ])) ?_
  simp -dsimp only [aqA,↓seqK,↓blkK,↓loopK,step,stepBin,eqB,Nat.add_assoc nid,simprocAttr,z0,Int.cast_ofNat_Int,Int.reduceBEq,Int.reduceBNe,Int.reduceLT,Int.reduceLE,Int.reduceAdd,Int.reduceSub,Int.reduceMul,Int.reduceToNat,Int.reduceNeg,Int.reduceTMod,Int.reduceEq,not_false_eq_true,Int.reducePow,Int.reduceFDiv,Nat.reducePow,Nat.reduceSub,Nat.reduceMul,Nat.min_eq_left,Nat.reduceEqDiff,BEq.rfl,Int.tdiv_one,LN_succ]
  refine Cov.go [(nid+32,nid+404),(nid+36,nid+412)] [] ?_
  simp [cvT,step,res,strmC,arrS,arrPl,sbx,-List.getD_eq_getElem?_getD]
 unfold sbx arrS arrPl
 refine SR.freezeB [nid+24,nid+28,nid+32,nid+36] (fun nl'=>?_)
 simp only [frzS,frzH,frzBlk,lends,lend,kill,noOs,aqA,↓seqK,↓blkK,↓loopK,step,stepBin,eqB,Nat.add_assoc nid,simprocAttr,z0,Int.cast_ofNat_Int,Int.reduceBEq,Int.reduceBNe,Int.reduceLT,Int.reduceLE,Int.reduceAdd,Int.reduceSub,Int.reduceMul,Int.reduceToNat,Int.reduceNeg,Int.reduceTMod,Int.reduceEq,not_false_eq_true,Int.reducePow,Int.reduceFDiv,Nat.reducePow,Nat.reduceSub,Nat.reduceMul,Nat.min_eq_left,Nat.reduceEqDiff,BEq.rfl,Int.tdiv_one,LN_succ]
 generalize nl' (nid+24)=n1
 generalize nl' (nid+28)=n2
 generalize nl' (nid+32)=n3
 generalize nl' (nid+36)=n4
 have hTu:=fun m=>turnedW_c n1 W m hv hb.pass
 have hIn:=fun m=>ink_all n1 W 1 m hv hb.pass (by omega) (by omega)
 have hMe:=fun m=>merge_ok n1 n1 W W m ⟨hv,hv,rfl,rfl,rfl,hb,hb⟩ (okRs_self W.rows)
 rw [mergeRs_self] at hMe
 unfold wafP at hTu hIn hMe
 have hcl:=clTo_len (W:=W) (plV W).length (Nat.le_refl _)
 have hbl:=bigC_len 1 (clV W)
 have ecl:clV W=clTo W (plV W).length:=rfl
 rw [← ecl] at hcl
 have hplv:(plV W).length≤60000:=plTo_bd (waferV_ok hv) (Nat.le_refl _)
 have hrow:=bigC_row (W:=W) 1
 have hTl:(turnRs W).length≤1000:=by
  rw [turnRs_len]
  have:=hsm.row.at 0
  unfold wideOf
  omega
 have hIl:(inkRs W 1).length≤1000:=by
  rw [inkRs_len]
  omega
 refine SR.seqTo ⟨[(7,litPl n3 P),(8,litPl n4 P),(5,.ptr (nid+4) 0),(6,.ptr (nid+8) 0),(9,.ptr (nid+12) 0),(10,.int .i64 0)],[(nid+4,boxW n1 W),(nid+8,boxW n2 W),(nid+12,sbx (turnRs W).length W.pass (nid+16)),(nid+16,arrS (turnRs W))],nid+700,nid⟩ ?_ ?_
 ·simp -dsimp only [aqA,↓seqK,↓blkK,↓loopK,step,stepBin,eqB,Nat.add_assoc nid,simprocAttr,z0,Int.cast_ofNat_Int,Int.reduceBEq,Int.reduceBNe,Int.reduceLT,Int.reduceLE,Int.reduceAdd,Int.reduceSub,Int.reduceMul,Int.reduceToNat,Int.reduceNeg,Int.reduceTMod,Int.reduceEq,not_false_eq_true,Int.reducePow,Int.reduceFDiv,Nat.reducePow,Nat.reduceSub,Nat.reduceMul,Nat.min_eq_left,Nat.reduceEqDiff,BEq.rfl,Int.tdiv_one,LN_succ]
  refine CallO.pure (hTu _) ?_
  unfold arrS
  simp -dsimp only [aqA,↓seqK,↓blkK,↓loopK,step,stepBin,eqB,Nat.add_assoc nid,simprocAttr,z0,Int.cast_ofNat_Int,Int.reduceBEq,Int.reduceBNe,Int.reduceLT,Int.reduceLE,Int.reduceAdd,Int.reduceSub,Int.reduceMul,Int.reduceToNat,Int.reduceNeg,Int.reduceTMod,Int.reduceEq,not_false_eq_true,Int.reducePow,Int.reduceFDiv,Nat.reducePow,Nat.reduceSub,Nat.reduceMul,Nat.min_eq_left,Nat.reduceEqDiff,BEq.rfl,Int.tdiv_one,LN_succ]
  refine Cov.go [(nid+12,nid+620),(nid+16,nid+604)] [] ?_
  simp [cvT,step,res,boxW,sbx,litPl,ColsEq.refl,-List.getD_eq_getElem?_getD]
 refine SR.seqTo ⟨[(7,litPl n3 P),(8,litPl n4 P),(5,.ptr (nid+4) 0),(6,.ptr (nid+8) 0),(9,.ptr (nid+12) 0),(10,.int .i64 0),(11,.ptr (nid+20) 0),(12,.int .i64 (cntN (inkAt W 1) (plV W):Nat)),(13,.int .i64 0)],[(nid+4,boxW n1 W),(nid+8,boxW n2 W),(nid+12,sbx (turnRs W).length W.pass (nid+16)),(nid+16,arrS (turnRs W)),(nid+20,sbx (inkRs W 1).length W.pass (nid+24)),(nid+24,arrS (inkRs W 1))],nid+800,nid⟩ ?_ ?_
 ·unfold boxW
  simp -dsimp only [aqA,↓seqK,↓blkK,↓loopK,step,stepBin,eqB,Nat.add_assoc nid,simprocAttr,z0,Int.cast_ofNat_Int,Int.reduceBEq,Int.reduceBNe,Int.reduceLT,Int.reduceLE,Int.reduceAdd,Int.reduceSub,Int.reduceMul,Int.reduceToNat,Int.reduceNeg,Int.reduceTMod,Int.reduceEq,not_false_eq_true,Int.reducePow,Int.reduceFDiv,Nat.reducePow,Nat.reduceSub,Nat.reduceMul,Nat.min_eq_left,Nat.reduceEqDiff,BEq.rfl,Int.tdiv_one,LN_succ]
  refine CallO.pure (hIn _) ?_
  have hil:(inkRs W 1).length=W.rows.length:=by unfold inkRs; simp
  rw [← hil]
  unfold arrS
  simp -dsimp only [aqA,↓seqK,↓blkK,↓loopK,step,stepBin,eqB,Nat.add_assoc nid,simprocAttr,z0,Int.cast_ofNat_Int,Int.reduceBEq,Int.reduceBNe,Int.reduceLT,Int.reduceLE,Int.reduceAdd,Int.reduceSub,Int.reduceMul,Int.reduceToNat,Int.reduceNeg,Int.reduceTMod,Int.reduceEq,not_false_eq_true,Int.reducePow,Int.reduceFDiv,Nat.reducePow,Nat.reduceSub,Nat.reduceMul,Nat.min_eq_left,Nat.reduceEqDiff,BEq.rfl,Int.tdiv_one,LN_succ]
  refine Cov.go [(nid+20,nid+724),(nid+24,nid+704)] [] ?_
  simp [cvT,step,res,boxW,sbx,arrS,litPl,ColsEq.refl,-List.getD_eq_getElem?_getD]
 refine SR.seqTo ⟨[(7,litPl n3 P),(8,litPl n4 P),(5,.ptr (nid+4) 0),(6,.ptr (nid+8) 0),(9,.ptr (nid+12) 0),(10,.int .i64 0),(11,.ptr (nid+20) 0),(12,.int .i64 (cntN (inkAt W 1) (plV W):Nat)),(13,.int .i64 0),(14,.ptr (nid+28) 0),(15,.int .i64 0)],[(nid+4,boxW n1 W),(nid+8,boxW n2 W),(nid+12,sbx (turnRs W).length W.pass (nid+16)),(nid+16,arrS (turnRs W)),(nid+20,sbx (inkRs W 1).length W.pass (nid+24)),(nid+24,arrS (inkRs W 1)),(nid+28,sbx W.rows.length W.pass (nid+32)),(nid+32,arrS W.rows)],nid+900,nid⟩ ?_ ?_
 ·unfold boxW
  simp -dsimp only [aqA,↓seqK,↓blkK,↓loopK,step,stepBin,eqB,Nat.add_assoc nid,simprocAttr,z0,Int.cast_ofNat_Int,Int.reduceBEq,Int.reduceBNe,Int.reduceLT,Int.reduceLE,Int.reduceAdd,Int.reduceSub,Int.reduceMul,Int.reduceToNat,Int.reduceNeg,Int.reduceTMod,Int.reduceEq,not_false_eq_true,Int.reducePow,Int.reduceFDiv,Nat.reducePow,Nat.reduceSub,Nat.reduceMul,Nat.min_eq_left,Nat.reduceEqDiff,BEq.rfl,Int.tdiv_one,LN_succ]
  refine CallO.pure (hMe _) ?_
  unfold arrS
  simp -dsimp only [aqA,↓seqK,↓blkK,↓loopK,step,stepBin,eqB,Nat.add_assoc nid,simprocAttr,z0,Int.cast_ofNat_Int,Int.reduceBEq,Int.reduceBNe,Int.reduceLT,Int.reduceLE,Int.reduceAdd,Int.reduceSub,Int.reduceMul,Int.reduceToNat,Int.reduceNeg,Int.reduceTMod,Int.reduceEq,not_false_eq_true,Int.reducePow,Int.reduceFDiv,Nat.reducePow,Nat.reduceSub,Nat.reduceMul,Nat.min_eq_left,Nat.reduceEqDiff,BEq.rfl,Int.tdiv_one,LN_succ]
  refine Cov.go [(nid+28,nid+824),(nid+32,nid+808)] [] ?_
  simp [cvT,step,res,boxW,sbx,arrS,litPl,ColsEq.refl,-List.getD_eq_getElem?_getD]
 have hCl:=fun m=>clustersF_I n1 W 1 m hv hb.pass (by omega) (by omega)
 unfold wafP at hCl
 generalize hCd:bigC 1 (clV W)=C at *
 have hCl2:=hCl (nid+904)
 obtain ⟨z,hz⟩:∃ z,nid+904+200000=z:=⟨_,rfl⟩
 obtain ⟨o,ho⟩:∃ o,nid+904+69990=o:=⟨_,rfl⟩
 obtain ⟨fb,hfb⟩:∃ fb,nid+904+100=fb:=⟨_,rfl⟩
 rw [ho,hfb] at hCl2
 clear hCl
 have hzn:nid+904<z:=by omega
 have hs:=famC_scoped (o:=o) (b:=fb) (c:=z) C (by omega) (by omega)
 have hkey:∀ id∈keys (famC o fb C),nid+904≤id:=fun id hid=>by
  rcases famC_key hid with h | h <;> omega
 have g1:o<z:=by omega
 have htl2:=htl n1 n2 n3 n4 W P (turnRs W) (inkRs W 1) (cntN (inkAt W 1) (plV W)) C o fb nid z (by omega) (by omega) (by omega) (fun i hi=>by omega) (by omega) (fun i=>Nat.le_trans (hrow i) hplv) (by omega) hTl hIl hPl
 clear htl hz ho hfb
 generalize famC o fb C=Hs at *
 refine SR.seqW (ι:=Unit) (fun _=>_) ?_ (fun _=>htl2)
 clear htl2
 refine SR.ofOps ?_ (by simp)
 refine SROps.op ?_
 unfold boxW
 simp only [runOp,step,res,bindStep,AX.val,getS,aqA,↓seqK,↓blkK,↓loopK,step,stepBin,eqB,Nat.add_assoc nid,simprocAttr,z0,Int.cast_ofNat_Int,Int.reduceBEq,Int.reduceBNe,Int.reduceLT,Int.reduceLE,Int.reduceAdd,Int.reduceSub,Int.reduceMul,Int.reduceToNat,Int.reduceNeg,Int.reduceTMod,Int.reduceEq,not_false_eq_true,Int.reducePow,Int.reduceFDiv,Nat.reducePow,Nat.reduceSub,Nat.reduceMul,Nat.min_eq_left,Nat.reduceEqDiff,BEq.rfl,Int.tdiv_one,LN_succ]
 refine SROps.callW (k:=200000) (by omega) (Hs:=[]) (fun id x h=>by simp [getH] at h) hCl2 (fun _ _=>?_)
 have hnk:∀ K,K<904→nid+K ∉ keys Hs:=fun K hK h=>by have:=hkey _ h; omega
 have o1:∀ K,o<z+K:=fun K=>by omega
 have o2:∀ K,¬ o=z+K:=fun K=>by omega
 have o3:∀ K,¬ z+K=o:=fun K=>by omega
 have o4:∀ K,¬ z+K≤o:=fun K=>by omega
 have o8:∀ K,(z+K==o)=false:=fun K=>by rw [beq_eq_false_iff_ne]; omega
 have o9:(z==o)=false:=by rw [beq_eq_false_iff_ne]; omega
 have o5:¬ o=z:=by omega
 have o6:¬ z=o:=by omega
 have o7:¬ z≤o:=by omega
 refine SROps.cov (s':=[(57,.tup [.sl o 0 C.length,.int .i64 0]),(7,litPl n3 P),(8,litPl n4 P),(5,.ptr z 0),(6,.ptr (z+4) 0),(9,.ptr (z+8) 0),(10,.int .i64 0),(11,.ptr (z+16) 0),(12,.int .i64 (cntN (inkAt W 1) (plV W):Nat)),(13,.int .i64 0),(14,.ptr (z+24) 0),(15,.int .i64 0)])
  (H':=[(z,boxW n1 W),(z+4,boxW n2 W),(z+8,sbx (turnRs W).length W.pass (z+12)),(z+12,arrS (turnRs W)),(z+16,sbx (inkRs W 1).length W.pass (z+20)),(z+20,arrS (inkRs W 1)),(z+24,sbx W.rows.length W.pass (z+28)),(z+28,arrS W.rows)]++Hs) (n':=z+100)
  (Cov.step (Cov.alike (fun id=>getH_swap (A:=Hs) (fun id hid=>?_) id)) (Cov.goR z Hs _ _ [(z,nid+4),(z+4,nid+8),(z+8,nid+12),(z+12,nid+16),(z+16,nid+20),(z+20,nid+24),(z+24,nid+28),(z+28,nid+32)] [] (by omega) hs ?_ ?_ ?_)) ?_
 ·have:=hkey id hid
  simp [keys]
  omega
 ·simp only [List.nil_append,kOK]
  repeat' apply And.intro
  all_goals first | trivial | exact .inr (hnk _ (by omega))
 ·intro x hx
  simp only [List.mem_cons,List.not_mem_nil,or_false] at hx
  rcases hx with rfl | rfl | rfl | rfl | rfl | rfl | rfl | rfl <;> exact hnk _ (by omega)
 ·simp [cvT,step,res,putS,boxW,sbx,arrS,litPl,ColsEq.refl,o1,o2,o3,o4,o5,o6,o7,o8,o9,g1,-List.getD_eq_getElem?_getD]
 refine SROps.toRun ?_
 simp -dsimp only [aqA,↓seqK,↓blkK,↓loopK,step,stepBin,eqB,Nat.add_assoc nid,simprocAttr,z0,Int.cast_ofNat_Int,Int.reduceBEq,Int.reduceBNe,Int.reduceLT,Int.reduceLE,Int.reduceAdd,Int.reduceSub,Int.reduceMul,Int.reduceToNat,Int.reduceNeg,Int.reduceTMod,Int.reduceEq,not_false_eq_true,Int.reducePow,Int.reduceFDiv,Nat.reducePow,Nat.reduceSub,Nat.reduceMul,Nat.min_eq_left,Nat.reduceEqDiff,BEq.rfl,Int.tdiv_one,LN_succ]
 refine ⟨(),?_⟩
 refine Cov.goQ (z) Hs [] [] (by omega) hs (by repeat (first | exact PreQ.nil | apply PreQ.cons)) (by repeat (first | exact PreQ.nil | apply PreQ.cons)) (by simp [kOK]) (by simp) ?_
 simp [cvT,step,res,putS,boxW,sbx,arrS,litPl,ColsEq.refl,o1,o2,o3,o4,o5,o6,o7,o8,o9,g1,-List.getD_eq_getElem?_getD]
open Go.RowKit
theorem gok_cell {W:World} {g:Nat} {m:Int} (h:W.cell? ⟨g,0,none⟩=some (.int .i64 m)):g<W.heap.size∧∃ o,W.heap[g]?=some o∧cell0 o=some (.int .i64 m):=by
 unfold World.cell? at h
 simp only at h
 split at h
 ·rename_i c t f hc
  refine ⟨?_,_,hc,?_⟩
  ·rcases Nat.lt_or_ge g W.heap.size with hl | hl
   ·exact hl
   ·rw [Array.getElem?_eq_none hl] at hc; cases hc
  ·simpa [cell0] using h
 ·cases h
set_option maxRecDepth 1000000 in
theorem gok0_of {W:World} (h:W.ShapedOpen Try.prog):GOK0 (fun b=>W.heap[b]?) W.heap.size:=by
 obtain ⟨m,hm⟩:=cell_of_shapedOpen_int (g:=0) (t:=3) (zero:=#[.int .i64 0]) (k:=.i64) h (of_decide_eq_true (by kernel_rfl)) (by kernel_rfl) rfl (by kernel_rfl) (by kernel_rfl) Try.underlying3
 obtain ⟨h1,o,h2,h3⟩:=gok_cell hm
 exact ⟨o,m,h1,h2,h3⟩
theorem gok_of {W:World} (h:W.ShapedOpen Try.prog):GOK (fun b=>W.heap[b]?) W.heap.size:=gok0_of h
end Go.Proofs.Yteepabfepfehgaa
