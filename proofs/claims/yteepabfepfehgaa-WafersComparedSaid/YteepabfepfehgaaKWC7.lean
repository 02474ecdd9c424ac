/-
 Where two wafers differ,by the document,and wafers that cannot be merged,by the abstract machine.
-/
import Derived.Test.YteepabfepfehgaaKWC6
import Derived.Test.YteepabfepfehgaaKWC5
import Derived.Test.YteepabfepfehgaaKWC3
import Derived.Test.YteepabfepfehgaaKWC4
import Derived.Test.YteepabfepfehgaaProg
import Derived.Test.YteepabfepfehgaaChecked
import Derived.Handed
import Derived.HandedShaped
import Derived.Shelf.Vars
import Derived.KernelRfl
set_option linter.unusedVariables false
set_option linter.unusedSimpArgs false
set_option maxRecDepth 100000
namespace Go.Proofs.Yteepabfepfehgaa
open Go.RowKit
set_option maxHeartbeats 4000000 in
theorem merge_clash (nla nlb:Bool) (A B:Waf) (nid:Nat) (h:Pair2 A B) (ho:okRs A.rows B.rows=false):ACall Try.prog 17 [wafP nla A,wafP nlb B] [] nid (.tup [.agg [.lit true 0 [],.str []],.int .i64 13]) []:=by
 have hA:=waferV_ok h.a
 have hB:=waferV_ok h.b
 have hml:(mergeRs A.rows B.rows).length=A.rows.length:=zip_len _ h.rows
 refine acall_sr c17 (by simp [a17]) ?_
 unfold a17 wafP
 refine SR.seq ?_
 simp -dsimp only [aqA,↓seqK,↓blkK,↓loopK,step,stepBin,eqB,Nat.add_assoc nid,simprocAttr,z0,Int.cast_ofNat_Int,Int.reduceBEq,Int.reduceBNe,Int.reduceLT,Int.reduceLE,Int.reduceAdd,Int.reduceSub,Int.reduceMul,Int.reduceToNat,Int.reduceNeg,Int.reduceTMod,Int.reduceEq,not_false_eq_true,Int.reducePow,Int.reduceFDiv,Nat.reducePow,Nat.reduceSub,Nat.reduceMul,Nat.min_eq_left,Nat.reduceEqDiff,BEq.rfl,Int.tdiv_one,LN_succ]
 refine SR.seqTo ⟨[(2,.ptr nid 0),(3,.ptr (nid+4) 0),(4,.ptr (nid+8) 0)],[(nid,boxW nla A),(nid+4,boxW nlb B),(nid+8,some (.box 28 [.lit true 0 [],.str []]))],nid+100,nid⟩ ?_ ?_
 ·simp -dsimp only [aqA,↓seqK,↓blkK,↓loopK,step,stepBin,eqB,Nat.add_assoc nid,simprocAttr,z0,Int.cast_ofNat_Int,Int.reduceBEq,Int.reduceBNe,Int.reduceLT,Int.reduceLE,Int.reduceAdd,Int.reduceSub,Int.reduceMul,Int.reduceToNat,Int.reduceNeg,Int.reduceTMod,Int.reduceEq,not_false_eq_true,Int.reducePow,Int.reduceFDiv,Nat.reducePow,Nat.reduceSub,Nat.reduceMul,Nat.min_eq_left,Nat.reduceEqDiff,BEq.rfl,Int.tdiv_one,LN_succ]
  refine CallO.pure (bothFault_ok nla nlb A B _ h) ?_
  simp -dsimp only [aqA,↓seqK,↓blkK,↓loopK,step,stepBin,eqB,Nat.add_assoc nid,simprocAttr,z0,Int.cast_ofNat_Int,Int.reduceBEq,Int.reduceBNe,Int.reduceLT,Int.reduceLE,Int.reduceAdd,Int.reduceSub,Int.reduceMul,Int.reduceToNat,Int.reduceNeg,Int.reduceTMod,Int.reduceEq,not_false_eq_true,Int.reducePow,Int.reduceFDiv,Nat.reducePow,Nat.reduceSub,Nat.reduceMul,Nat.min_eq_left,Nat.reduceEqDiff,BEq.rfl,Int.tdiv_one,LN_succ]
  refine Cov.go [] [] ?_
  simp [cvT,step,res,boxW]
 refine SR.seq ?_
 unfold boxW
 simp -dsimp only [aqA,↓seqK,↓blkK,↓loopK,step,stepBin,eqB,Nat.add_assoc nid,simprocAttr,z0,Int.cast_ofNat_Int,Int.reduceBEq,Int.reduceBNe,Int.reduceLT,Int.reduceLE,Int.reduceAdd,Int.reduceSub,Int.reduceMul,Int.reduceToNat,Int.reduceNeg,Int.reduceTMod,Int.reduceEq,not_false_eq_true,Int.reducePow,Int.reduceFDiv,Nat.reducePow,Nat.reduceSub,Nat.reduceMul,Nat.min_eq_left,Nat.reduceEqDiff,BEq.rfl,Int.tdiv_one,LN_succ]
 refine SR.seq ?_
 simp -dsimp only [aqA,↓seqK,↓blkK,↓loopK,step,stepBin,eqB,Nat.add_assoc nid,simprocAttr,z0,Int.cast_ofNat_Int,Int.reduceBEq,Int.reduceBNe,Int.reduceLT,Int.reduceLE,Int.reduceAdd,Int.reduceSub,Int.reduceMul,Int.reduceToNat,Int.reduceNeg,Int.reduceTMod,Int.reduceEq,not_false_eq_true,Int.reducePow,Int.reduceFDiv,Nat.reducePow,Nat.reduceSub,Nat.reduceMul,Nat.min_eq_left,Nat.reduceEqDiff,BEq.rfl,Int.tdiv_one,LN_succ]
 refine CallO.on (changedMerge_c (nid+4) (nid+100) nla nlb A B _ (by omega) (by omega) (by omega) hA hB h.rows h.wide) (subH_cons (by simp only [aqA,↓seqK,↓blkK,↓loopK,step,stepBin,eqB,Nat.add_assoc nid,simprocAttr,z0,Int.cast_ofNat_Int,Int.reduceBEq,Int.reduceBNe,Int.reduceLT,Int.reduceLE,Int.reduceAdd,Int.reduceSub,Int.reduceMul,Int.reduceToNat,Int.reduceNeg,Int.reduceTMod,Int.reduceEq,not_false_eq_true,Int.reducePow,Int.reduceFDiv,Nat.reducePow,Nat.reduceSub,Nat.reduceMul,Nat.min_eq_left,Nat.reduceEqDiff,BEq.rfl,Int.tdiv_one,LN_succ,boxW]) (subH_get (by simp only [aqA,↓seqK,↓blkK,↓loopK,step,stepBin,eqB,Nat.add_assoc nid,simprocAttr,z0,Int.cast_ofNat_Int,Int.reduceBEq,Int.reduceBNe,Int.reduceLT,Int.reduceLE,Int.reduceAdd,Int.reduceSub,Int.reduceMul,Int.reduceToNat,Int.reduceNeg,Int.reduceTMod,Int.reduceEq,not_false_eq_true,Int.reducePow,Int.reduceFDiv,Nat.reducePow,Nat.reduceSub,Nat.reduceMul,Nat.min_eq_left,Nat.reduceEqDiff,BEq.rfl,Int.tdiv_one,LN_succ,boxB]))) ?_
 rw [ho]
 unfold boxW boxB arrS
 simp -dsimp only [aqA,↓seqK,↓blkK,↓loopK,step,stepBin,eqB,Nat.add_assoc nid,simprocAttr,z0,Int.cast_ofNat_Int,Int.reduceBEq,Int.reduceBNe,Int.reduceLT,Int.reduceLE,Int.reduceAdd,Int.reduceSub,Int.reduceMul,Int.reduceToNat,Int.reduceNeg,Int.reduceTMod,Int.reduceEq,not_false_eq_true,Int.reducePow,Int.reduceFDiv,Nat.reducePow,Nat.reduceSub,Nat.reduceMul,Nat.min_eq_left,Nat.reduceEqDiff,BEq.rfl,Int.tdiv_one,LN_succ]
 refine SR.run (t:=.mk) ?_
 simp -dsimp only [aqA,↓seqK,↓blkK,↓loopK,step,stepBin,eqB,Nat.add_assoc nid,simprocAttr,z0,Int.cast_ofNat_Int,Int.reduceBEq,Int.reduceBNe,Int.reduceLT,Int.reduceLE,Int.reduceAdd,Int.reduceSub,Int.reduceMul,Int.reduceToNat,Int.reduceNeg,Int.reduceTMod,Int.reduceEq,not_false_eq_true,Int.reducePow,Int.reduceFDiv,Nat.reducePow,Nat.reduceSub,Nat.reduceMul,Nat.min_eq_left,Nat.reduceEqDiff,BEq.rfl,Int.tdiv_one,LN_succ]
 refine RetOK.go [] [] (.inl rfl) ?_
 simp [a17,cvT,step,res]
theorem changesRF_c (ia ib:Nat) (nla nlb:Bool) (A B:Waf) (p:Pt) (nid:Nat) (hia:ia<nid) (hib:ib<nid) (hne:ia≠ib) (hA:WafOk A) (hB:WafOk B) (hx:inI64 p.1) (hy:inI64 p.2) :
  ACall Try.prog 63 [.agg [.int .i64 p.1,.int .i64 p.2],.ptr ia 0,.ptr ib 0] [(ia,boxW nla A),(ib,boxW nlb B)] nid (.bool (!sameDie A B p)) []:=by
 obtain ⟨a1,a2,a3,a4,a5,a6,a7,a8,a9⟩:=id_all hia
 obtain ⟨b1,b2,b3,b4,b5,b6,b7,b8,b9⟩:=id_all hib
 have c1:(ia==ib)=false:=by simpa using hne
 have c2:(ib==ia)=false:=by simpa using fun h=>hne h.symm
 have c3:¬ ib=ia:=fun h=>hne h.symm
 have d1:(dieV A p.1 p.2 != dieV B p.1 p.2)=!sameDie A B p:=rfl
 have hd1:=fun m=>dieR_all nla A p.1 p.2 m hA hx hy
 have hd2:=fun m=>dieR_all nlb B p.1 p.2 m hB hx hy
 unfold wafP at hd1 hd2
 refine acall_run c63 (by simp [a63]) ?_
 unfold boxW
 simp -dsimp only [a63,aqA,↓seqK,↓blkK,↓loopK,step,stepBin,eqB,Nat.add_assoc nid,simprocAttr,z0,Int.cast_ofNat_Int,Int.reduceBEq,Int.reduceBNe,Int.reduceLT,Int.reduceLE,Int.reduceAdd,Int.reduceSub,Int.reduceMul,Int.reduceToNat,Int.reduceNeg,Int.reduceTMod,Int.reduceEq,not_false_eq_true,Int.reducePow,Int.reduceFDiv,Nat.reducePow,Nat.reduceSub,Nat.reduceMul,Nat.min_eq_left,Nat.reduceEqDiff,BEq.rfl,Int.tdiv_one,LN_succ,a1,a2,a3,a4,a5,a6,a7,a8,a9,b1,b2,b3,b4,b5,b6,b7,b8,b9,c1,c2,c3,hne]
 refine CallX.pure (hd1 _) ?_
 simp -dsimp only [aqA,↓seqK,↓blkK,↓loopK,step,stepBin,eqB,Nat.add_assoc nid,simprocAttr,z0,Int.cast_ofNat_Int,Int.reduceBEq,Int.reduceBNe,Int.reduceLT,Int.reduceLE,Int.reduceAdd,Int.reduceSub,Int.reduceMul,Int.reduceToNat,Int.reduceNeg,Int.reduceTMod,Int.reduceEq,not_false_eq_true,Int.reducePow,Int.reduceFDiv,Nat.reducePow,Nat.reduceSub,Nat.reduceMul,Nat.min_eq_left,Nat.reduceEqDiff,BEq.rfl,Int.tdiv_one,LN_succ,a1,a2,a3,a4,a5,a6,a7,a8,a9,b1,b2,b3,b4,b5,b6,b7,b8,b9,c1,c2,c3,hne]
 refine CallX.pure (hd2 _) ?_
 simp -dsimp only [aqA,↓seqK,↓blkK,↓loopK,step,stepBin,eqB,Nat.add_assoc nid,simprocAttr,z0,Int.cast_ofNat_Int,Int.reduceBEq,Int.reduceBNe,Int.reduceLT,Int.reduceLE,Int.reduceAdd,Int.reduceSub,Int.reduceMul,Int.reduceToNat,Int.reduceNeg,Int.reduceTMod,Int.reduceEq,not_false_eq_true,Int.reducePow,Int.reduceFDiv,Nat.reducePow,Nat.reduceSub,Nat.reduceMul,Nat.min_eq_left,Nat.reduceEqDiff,BEq.rfl,Int.tdiv_one,LN_succ,a1,a2,a3,a4,a5,a6,a7,a8,a9,b1,b2,b3,b4,b5,b6,b7,b8,b9,c1,c2,c3,hne]
 refine RetOK.go [] [] (.inl rfl) ?_
 simp [a63,cvT,step,res,a1,a2,a3,a4,a5,a6,a7,a8,a9,b1,b2,b3,b4,b5,b6,b7,b8,b9,c1,c2,c3,hne,d1]
set_option maxHeartbeats 4000000 in
theorem changesOf_ok (nla nlb:Bool) (A B:Waf) (nid:Nat) (hA:WafOk A) (hB:WafOk B):ACall Try.prog 23 [wafP nla A,wafP nlb B] [] nid (.sl nid 0 (chV A B).length) [(nid,arrPl (chV A B))]:=by
 have hF:chV A B=(plV A).filter fun p=>!sameDie A B p:=rfl
 have hpl:∀ m,nid+5≤m→ACall Try.prog 49 [wafP nla A,.fn 63 [.ptr nid 0,.ptr (nid+4) 0]] [(nid,boxW nla A),(nid+4,boxW nlb B)] m (.sl m 0 (chV A B).length) [(m,arrPl (chV A B))]:=fun m hm=>by
  rw [hF]
  exact placesR_h 63 _ _ (fun p=>!sameDie A B p) nla A m hA (scoped_list fun z hz=>by
   simp only [List.mem_cons,List.not_mem_nil,or_false] at hz
   rcases hz with rfl | rfl <;> exact ⟨by simp only; omega,rfl⟩) (by simp [lowAll,idsOfs,idsOf]; omega) (fun p hp nid' hn=>changesRF_c nid (nid+4) nla nlb A B p nid' (by omega) (by omega) (by omega) hA hB (plV_in hA hp).1 (plV_in hA hp).2)
 have hcl:(chV A B).length≤60000:=by have h1:=plTo_bd hA (Nat.le_refl _); have h2:=keepP_len (sameDie A B) (plV A); unfold chV; unfold plV at h2 ⊢; omega
 generalize chV A B=L at *
 refine acall_sr c23 (by simp [a23]) ?_
 unfold a23 wafP
 unfold wafP boxW arrPl at hpl
 refine SR.seq ?_
 simp -dsimp only [aqA,↓seqK,↓blkK,↓loopK,step,stepBin,eqB,Nat.add_assoc nid,simprocAttr,z0,Int.cast_ofNat_Int,Int.reduceBEq,Int.reduceBNe,Int.reduceLT,Int.reduceLE,Int.reduceAdd,Int.reduceSub,Int.reduceMul,Int.reduceToNat,Int.reduceNeg,Int.reduceTMod,Int.reduceEq,not_false_eq_true,Int.reducePow,Int.reduceFDiv,Nat.reducePow,Nat.reduceSub,Nat.reduceMul,Nat.min_eq_left,Nat.reduceEqDiff,BEq.rfl,Int.tdiv_one,LN_succ]
 refine SR.run (t:=.mk) ?_
 simp -dsimp only [aqA,↓seqK,↓blkK,↓loopK,step,stepBin,eqB,Nat.add_assoc nid,simprocAttr,z0,Int.cast_ofNat_Int,Int.reduceBEq,Int.reduceBNe,Int.reduceLT,Int.reduceLE,Int.reduceAdd,Int.reduceSub,Int.reduceMul,Int.reduceToNat,Int.reduceNeg,Int.reduceTMod,Int.reduceEq,not_false_eq_true,Int.reducePow,Int.reduceFDiv,Nat.reducePow,Nat.reduceSub,Nat.reduceMul,Nat.min_eq_left,Nat.reduceEqDiff,BEq.rfl,Int.tdiv_one,LN_succ]
 refine CallO.on (hpl _ (by omega)) (subH_cons (by simp only [aqA,↓seqK,↓blkK,↓loopK,step,stepBin,eqB,Nat.add_assoc nid,simprocAttr,z0,Int.cast_ofNat_Int,Int.reduceBEq,Int.reduceBNe,Int.reduceLT,Int.reduceLE,Int.reduceAdd,Int.reduceSub,Int.reduceMul,Int.reduceToNat,Int.reduceNeg,Int.reduceTMod,Int.reduceEq,not_false_eq_true,Int.reducePow,Int.reduceFDiv,Nat.reducePow,Nat.reduceSub,Nat.reduceMul,Nat.min_eq_left,Nat.reduceEqDiff,BEq.rfl,Int.tdiv_one,LN_succ]) (subH_get (by simp only [aqA,↓seqK,↓blkK,↓loopK,step,stepBin,eqB,Nat.add_assoc nid,simprocAttr,z0,Int.cast_ofNat_Int,Int.reduceBEq,Int.reduceBNe,Int.reduceLT,Int.reduceLE,Int.reduceAdd,Int.reduceSub,Int.reduceMul,Int.reduceToNat,Int.reduceNeg,Int.reduceTMod,Int.reduceEq,not_false_eq_true,Int.reducePow,Int.reduceFDiv,Nat.reducePow,Nat.reduceSub,Nat.reduceMul,Nat.min_eq_left,Nat.reduceEqDiff,BEq.rfl,Int.tdiv_one,LN_succ]))) ?_
 simp -dsimp only [aqA,↓seqK,↓blkK,↓loopK,step,stepBin,eqB,Nat.add_assoc nid,simprocAttr,z0,Int.cast_ofNat_Int,Int.reduceBEq,Int.reduceBNe,Int.reduceLT,Int.reduceLE,Int.reduceAdd,Int.reduceSub,Int.reduceMul,Int.reduceToNat,Int.reduceNeg,Int.reduceTMod,Int.reduceEq,not_false_eq_true,Int.reducePow,Int.reduceFDiv,Nat.reducePow,Nat.reduceSub,Nat.reduceMul,Nat.min_eq_left,Nat.reduceEqDiff,BEq.rfl,Int.tdiv_one,LN_succ]
 refine RetOK.go [(nid,nid+20)] [] (.inl rfl) ?_
 simp [a23,cvT,step,res,arrPl,-List.getD_eq_getElem?_getD]
theorem zip_at {α β γ:Type} (f:α→β→γ) (da:α) (db:β) (dc:γ) {l:List α} {m:List β} {k:Nat} (hl:k<l.length) (hm:k<m.length):(List.zipWith f l m).getD k dc=f (l.getD k da) (m.getD k db):=by
 rw [List.getD_eq_getElem?_getD,List.getElem?_zipWith,List.getElem?_eq_getElem hl,List.getElem?_eq_getElem hm,List.getD_eq_getElem?_getD,List.getD_eq_getElem?_getD,List.getElem?_eq_getElem hl,List.getElem?_eq_getElem hm]
 rfl
theorem all_zipW {α β:Type} (f:α→β→Bool) (da:α) (db:β) {l:List α} {m:List β} (hlm:l.length=m.length) (h:∀ i,i<l.length→f (l.getD i da) (m.getD i db)=true):(List.zipWith f l m).all id=true:=by
 rw [List.all_eq_true]
 intro b hb
 obtain ⟨i,hi,rfl⟩:=List.getElem_of_mem hb
 rw [List.length_zipWith] at hi
 have:=h i (by omega)
 rw [← zip_at f da db false (by omega) (by omega)] at this
 rw [List.getD_eq_getElem?_getD,List.getElem?_eq_getElem (by rw [List.length_zipWith]; exact hi)] at this
 simpa using this
def mStep (A B:Waf) (R:List (List UInt8)) (p:Pt):List (List UInt8):=if dieB A p.1.toNat p.2.toNat=63 then setPt R (dieB B p.1.toNat p.2.toNat) p else R
def mTo (A B:Waf) (L:List Pt) (k:Nat):List (List UInt8):=(L.take k).foldl (mStep A B) A.rows
theorem mTo_succ (A B:Waf) {L:List Pt} {k:Nat} (h:k<L.length):mTo A B L (k+1)=mStep A B (mTo A B L k) (L.getD k p0):=by
 unfold mTo
 rw [take_snoc (x:=L.getD k p0) (by rw [List.getD_eq_getElem?_getD,List.getElem?_eq_getElem h]; rfl),List.foldl_append]
 rfl
theorem mTo_len (A B:Waf) (L:List Pt):∀ k,k≤L.length→(mTo A B L k).length=A.rows.length
 | 0,_=>by simp [mTo]
 | k+1,h=>by
  rw [mTo_succ A B (by omega)]
  unfold mStep
  split
  ·rw [setPt_len,mTo_len A B L k (by omega)]
  ·exact mTo_len A B L k (by omega)
theorem mTo_row (A B:Waf) (L:List Pt) (y:Nat):∀ k,k≤L.length→((mTo A B L k).getD y []).length=(A.rows.getD y []).length
 | 0,_=>by simp [mTo]
 | k+1,h=>by
  rw [mTo_succ A B (by omega)]
  unfold mStep
  split
  ·rw [setPt_row,mTo_row A B L y k (by omega)]
  ·exact mTo_row A B L y k (by omega)
theorem mTo_at (A B:Waf) (L:List Pt) (hL:∀ p∈L,0≤p.1∧0≤p.2) {x y:Nat} (hy:y<A.rows.length) (hx:x<(A.rows.getD y []).length):∀ k,k≤L.length →
  ((mTo A B L k).getD y []).getD x 0=if ((x:Int),(y:Int))∈L.take k∧dieB A x y=63 then dieB B x y else dieB A x y
 | 0,_=>by simp [mTo,dieB]
 | k+1,h=>by
  have hk:k<L.length:=by omega
  have ih:=mTo_at A B L hL hy hx k (by omega)
  have htk:L.take (k+1)=L.take k++[L.getD k p0]:=take_snoc (x:=L.getD k p0) (by rw [List.getD_eq_getElem?_getD,List.getElem?_eq_getElem hk]; rfl)
  have hp:=hL _ (ptMem hk)
  have hl:=mTo_len A B L k (by omega)
  have hr:=mTo_row A B L y k (by omega)
  rw [mTo_succ A B hk,htk]
  generalize L.getD k p0=p at *
  have hpp:p.1.toNat=x∧p.2.toNat=y↔((x:Int),(y:Int))=p:=by
   constructor
   ·rintro ⟨h1,h2⟩
    exact Prod.ext (by simp only; omega) (by simp only; omega)
   ·rintro rfl
    simp
  unfold mStep
  by_cases hq:((x:Int),(y:Int))=p
  ·obtain ⟨h1,h2⟩:=hpp.2 hq
   rw [h1,h2]
   have hmem:((x:Int),(y:Int))∈L.take k++[p]:=List.mem_append.2 (.inr (by rw [hq]; exact List.mem_singleton.2 rfl))
   by_cases h63:dieB A x y=63
   ·rw [if_pos h63,setPt_at _ _ _ (by omega) (by omega),if_pos ⟨h1,h2⟩,if_pos ⟨hmem,h63⟩]
   ·rw [if_neg h63,ih,if_neg (fun e=>h63 e.2),if_neg (fun e=>h63 e.2)]
  ·have hm:((x:Int),(y:Int))∈L.take k++[p]↔((x:Int),(y:Int))∈L.take k:=by
    rw [List.mem_append,List.mem_singleton]
    exact ⟨fun h=>h.resolve_right hq,.inl⟩
   have hne:¬ (p.1.toNat=x∧p.2.toNat=y):=fun e=>hq (hpp.1 e)
   split
   ·rw [setPt_at _ _ _ (by omega) (by omega),if_neg hne,ih]
    simp only [hm]
   ·rw [ih]
    simp only [hm]
theorem all_at {α:Type} {f:α→Bool}:∀ {l:List Bool},l.all id=true→∀ i,i<l.length→l.getD i false=true
 | [],_,i,hi=>by simp at hi
 | b::l,h,0,_=>by simp only [List.all_cons,Bool.and_eq_true] at h; simpa using h.1
 | b::l,h,i+1,hi=>by
  simp only [List.all_cons,Bool.and_eq_true] at h
  simpa using all_at (α:=α) (f:=f) h.2 i (by simpa using hi)
theorem okRs_iff {A B:Waf} (h:Pair2 A B):okRs A.rows B.rows=true↔∀ x y:Nat,y<A.rows.length→x<wideOf A→mergeO (dieB A x y) (dieB B x y)=true:=by
 have hA:=waferV_ok h.a
 have hB:=waferV_ok h.b
 constructor
 ·intro ho x y hy hx
  have h1:=all_at (α:=Unit) (f:=fun _=>true) ho y (by rw [zip_len _ h.rows]; exact hy)
  rw [zip_at okR [] [] false hy (by rw [← h.rows]; exact hy)] at h1
  have hra:=(hA.at hy).1
  have hrb:=(hB.at (y:=y) (by rw [← h.rows]; exact hy)).1
  have h2:=all_at (α:=Unit) (f:=fun _=>true) h1 x (by rw [zip_len _ (by rw [hra,hrb,h.wide])]; rw [hra]; exact hx)
  rw [zip_at mergeO 0 0 false (by rw [hra]; exact hx) (by rw [hrb,← h.wide]; exact hx)] at h2
  exact h2
 ·intro hall
  refine all_zipW okR [] [] h.rows fun y hy=>?_
  have hra:=(hA.at hy).1
  have hrb:=(hB.at (y:=y) (by rw [← h.rows]; exact hy)).1
  refine all_zipW mergeO 0 0 (by rw [hra,hrb,h.wide]) fun x hx=>?_
  exact hall x y hy (by rw [hra] at hx; exact hx)
theorem plW_iff {W:Waf} (hW:WafOk W) {p:Pt}:p∈plV W↔0≤p.1∧p.1<wideOf W∧0≤p.2∧p.2<W.rows.length:=by
 obtain ⟨a,b⟩:=p
 constructor
 ·intro h
  obtain ⟨x,y,e,hy,hx⟩:=plV_mem h
  have:=(hW.at hy).1
  injection e with e1 e2
  simp only
  omega
 ·rintro ⟨h1,h2,h3,h4⟩
  simp only at h1 h2 h3 h4
  have hr:=(hW.at (y:=b.toNat) (by omega)).1
  unfold plV plTo rowPl
  rw [List.mem_flatMap]
  refine ⟨b.toNat,List.mem_range.2 (by omega),?_⟩
  rw [List.mem_map]
  refine ⟨a.toNat,List.mem_range.2 (by omega),?_⟩
  ext <;> simp <;> omega
theorem list_extW {α:Type} {d:α} {l m:List α} (hl:l.length=m.length) (h:∀ i,i<m.length→l.getD i d=m.getD i d):l=m:=by
 refine List.ext_getElem hl fun i h1 h2=>?_
 have:=h i h2
 rw [List.getD_eq_getElem?_getD,List.getD_eq_getElem?_getD,List.getElem?_eq_getElem h1,List.getElem?_eq_getElem h2] at this
 simpa using this
def clB (A B:Waf) (p:Pt):Bool:=decide (dieB A p.1.toNat p.2.toNat≠63∧dieB B p.1.toNat p.2.toNat≠63)
theorem same_die {A B:Waf} (h:Pair2 A B) {x y:Nat} (hy:y<A.rows.length) (hx:x<wideOf A):sameDie A B ((x:Int),(y:Int))=decide (dieB A x y=dieB B x y):=by
 unfold sameDie
 simp only
 rw [dieV_in hy hx,dieV_in (W:=B) (by rw [← h.rows]; exact hy) (by rw [← h.wide]; exact hx),Bool.eq_iff_iff,beq_iff_eq,byteI_inj,decide_eq_true_eq]
 rfl
theorem ch_mem {A B:Waf} (h:Pair2 A B) {x y:Nat} (hy:y<A.rows.length) (hx:x<wideOf A):((x:Int),(y:Int))∈chV A B↔dieB A x y≠dieB B x y:=by
 unfold chV keepP
 rw [List.mem_filter,same_die h hy hx]
 have hp:((x:Int),(y:Int))∈plV A:=(plW_iff (waferV_ok h.a)).2 (by simp only; omega)
 simp [hp]
theorem ch_in {A B:Waf} (h:Pair2 A B) {p:Pt} (hp:p∈chV A B):∃ x y:Nat,p=((x:Int),(y:Int))∧y<A.rows.length∧x<wideOf A:=by
 have h1:p∈plV A:=(List.mem_filter.1 hp).1
 obtain ⟨x,y,e,hy,hx⟩:=plV_mem h1
 exact ⟨x,y,e,hy,by rw [((waferV_ok h.a).at hy).1] at hx; exact hx⟩
theorem ok_of {A B:Waf} (h:Pair2 A B) (hc:∀ p∈chV A B,clB A B p=false):okRs A.rows B.rows=true:=by
 rw [okRs_iff h]
 intro x y hy hx
 unfold mergeO
 rw [decide_eq_true_eq]
 by_cases e:dieB A x y=dieB B x y
 ·exact .inl e
 ·have:=hc _ ((ch_mem h hy hx).2 e)
  unfold clB at this
  simp at this
  by_cases e2:dieB A x y=63
  ·exact .inr (.inr e2)
  ·exact .inr (.inl (this e2))
theorem clash_of {A B:Waf} (h:Pair2 A B) {p:Pt} (hp:p∈chV A B) (hc:clB A B p=true):okRs A.rows B.rows=false:=by
 cases ho:okRs A.rows B.rows
 ·rfl
 ·obtain ⟨x,y,rfl,hy,hx⟩:=ch_in h hp
  have h1:=(okRs_iff h).1 ho x y hy hx
  have h2:=(ch_mem h hy hx).1 hp
  unfold mergeO at h1
  unfold clB at hc
  simp at h1 hc
  rcases h1 with e | e | e
  ·exact absurd e h2
  ·exact absurd e hc.2
  ·exact absurd e hc.1
theorem merged_all {A B:Waf} (h:Pair2 A B) (ho:okRs A.rows B.rows=true):mTo A B (chV A B) (chV A B).length=mergeRs A.rows B.rows:=by
 have hA:=waferV_ok h.a
 have hB:=waferV_ok h.b
 have hml:(mergeRs A.rows B.rows).length=A.rows.length:=zip_len _ h.rows
 refine list_extW (d:=[]) (by rw [mTo_len A B _ _ (Nat.le_refl _),hml]) fun y hy=>?_
 rw [hml] at hy
 have hyB:y<B.rows.length:=by rw [← h.rows]; exact hy
 have hra:=(hA.at hy).1
 have hrb:=(hB.at hyB).1
 have hrow:(mergeRs A.rows B.rows).getD y []=mergeR (A.rows.getD y []) (B.rows.getD y []):=zip_at mergeR [] [] [] hy hyB
 have hrl:(mergeR (A.rows.getD y []) (B.rows.getD y [])).length=wideOf A:=by
  unfold mergeR
  rw [zip_len _ (by rw [hra,hrb,h.wide]),hra]
 rw [hrow]
 refine list_extW (d:=0) (by rw [mTo_row A B _ y _ (Nat.le_refl _),hrl,hra]) fun x hx=>?_
 rw [hrl] at hx
 rw [mTo_at A B _ (fun p hp=>by obtain ⟨x,y,rfl,_,_⟩:=ch_in h hp; simp) hy (by rw [hra]; exact hx) _ (Nat.le_refl _),List.take_length]
 have hz:(mergeR (A.rows.getD y []) (B.rows.getD y [])).getD x 0=mergeB (dieB A x y) (dieB B x y):=zip_at mergeB 0 0 0 (by rw [hra]; exact hx) (by rw [hrb,← h.wide]; exact hx)
 rw [hz]
 have hm:=(okRs_iff h).1 ho x y hy hx
 unfold mergeO at hm
 rw [decide_eq_true_eq] at hm
 unfold mergeB
 by_cases e:dieB A x y=dieB B x y
 ·rw [if_neg (fun hh=>(ch_mem h hy hx).1 hh.1 e),if_pos (.inl e)]
 ·have hmem:=(ch_mem h hy hx).2 e
  by_cases e2:dieB A x y=63
  ·have e3:¬ (dieB A x y=dieB B x y∨dieB B x y=63):=by
    rintro (e4 | e4)
    ·exact e e4
    ·exact e (by rw [e2,e4])
   rw [if_pos ⟨hmem,e2⟩,if_neg e3]
  ·have e3:dieB B x y=63:=by
    rcases hm with e4 | e4 | e4
    ·exact absurd e4 e
    ·exact e4
    ·exact absurd e4 e2
   rw [if_neg (fun hh=>e2 hh.2),if_pos (.inr e3)]
open Go.RowKit
theorem place_at {W:Waf} (hW:WafOk W) {x y:Nat} (hy:y<W.rows.length) (hx:x<wideOf W):placeB (byteI (dieB W x y))=true:=by
 have hm:W.rows.getD y []∈W.rows:=by rw [List.getD_eq_getElem?_getD,List.getElem?_eq_getElem hy]; exact List.getElem_mem _
 have ho:=(hW.row _ hm).2.2.2
 have hl:=(hW.at hy).1
 have hb:dieB W x y∈W.rows.getD y []:=by
  unfold dieB
  rw [List.getD_eq_getElem?_getD (i:=x),List.getElem?_eq_getElem (by omega)]
  exact List.getElem_mem _
 unfold oddB at ho
 have:=List.any_eq_false.1 ho _ hb
 simpa using this
theorem setPt_ok {W:Waf} (hW:WafOk W) {c:UInt8} {x y:Nat} (hy:y<W.rows.length) (hx:x<wideOf W) (hc:placeB (byteI c)=true):WafOk ⟨setPt W.rows c ((x:Int),(y:Int)),W.pass⟩:=by
 have hm:W.rows.getD y []∈W.rows:=by rw [List.getD_eq_getElem?_getD,List.getElem?_eq_getElem hy]; exact List.getElem_mem _
 have h0:wideOf ⟨setPt W.rows c ((x:Int),(y:Int)),W.pass⟩=wideOf W:=setPt_row W.rows c _ 0
 refine ⟨by rw [setPt_len]; exact hW.pos,by rw [setPt_len]; exact hW.len,fun r hr=>?_,hW.bins⟩
 rw [h0]
 unfold setPt at hr
 simp only [Int.toNat_natCast] at hr
 rcases List.mem_or_eq_of_mem_set hr with h | rfl
 ·exact hW.row r h
 ·obtain ⟨g1,g2,g3,g4⟩:=hW.row _ hm
  refine ⟨fun e=>g1 ?_,by rw [List.length_set]; exact g2,by rw [List.length_set]; exact g3,?_⟩
  ·have:=congrArg List.length e
   rw [List.length_set] at this
   exact List.length_eq_zero_iff.1 this
  ·unfold oddB at g4 ⊢
   rw [List.any_eq_false] at g4 ⊢
   intro b hb
   rcases List.mem_or_eq_of_mem_set hb with h | rfl
   ·exact g4 b h
   ·simpa using hc
theorem mTo_ok {A B:Waf} (h:Pair2 A B):∀ k,k≤(chV A B).length→WafOk ⟨mTo A B (chV A B) k,A.pass⟩
 | 0,_=>by
  have:=waferV_ok h.a
  simpa [mTo] using this
 | k+1,hk=>by
  have hkl:k<(chV A B).length:=by omega
  have ih:=mTo_ok h k (by omega)
  obtain ⟨x,y,e,hy,hx⟩:=ch_in h (ptMem hkl)
  have hl:=mTo_len A B (chV A B) k (by omega)
  have hw:wideOf ⟨mTo A B (chV A B) k,A.pass⟩=wideOf A:=mTo_row A B (chV A B) 0 k (by omega)
  rw [mTo_succ A B hkl,e]
  unfold mStep
  simp only [Int.toNat_natCast]
  split
  ·exact setPt_ok ih (by simp only; omega) (by rw [hw]; exact hx) (place_at (waferV_ok h.b) (by rw [← h.rows]; exact hy) (by rw [← h.wide]; exact hx))
  ·exact ih
def outH (i j:Nat) (fr nl:Bool) (W:Waf):Heap:=bif fr then [(i,boxW nl W)] else [(i,some (.box 28 [.sl j 0 W.rows.length,.str W.pass])),(j,arrS W.rows)]
set_option maxHeartbeats 16000000 in
theorem mergedOf_c (nla nlb:Bool) (A B:Waf) (nid:Nat) (h:Pair2 A B) (r:PV) (u:Heap)
  (h1:okRs A.rows B.rows=true→r=.tup [.agg [.sl nid 0 A.rows.length,.str A.pass],.int .i64 0]∧u=[(nid,arrS (mergeRs A.rows B.rows))])
  (h2:okRs A.rows B.rows=false→r=.tup [.agg [.lit true 0 [],.str []],.int .i64 13]∧u=[]) :
  ACall Try.prog 22 [wafP nla A,wafP nlb B] [] nid r u:=by
 have hA:=waferV_ok h.a
 have hB:=waferV_ok h.b
 have hcl:(chV A B).length≤60000:=by have h1:=plTo_bd hA (Nat.le_refl _); have h2:=keepP_len (sameDie A B) (plV A); unfold chV; unfold plV at h2 ⊢; omega
 have hch:=fun m=>changesOf_ok nla nlb A B m hA hB
 refine acall_sr c22 (by simp [a22]) ?_
 unfold a22 wafP
 unfold wafP at hch
 refine SR.seq ?_
 simp -dsimp only [aqA,↓seqK,↓blkK,↓loopK,step,stepBin,eqB,Nat.add_assoc nid,simprocAttr,z0,Int.cast_ofNat_Int,Int.reduceBEq,Int.reduceBNe,Int.reduceLT,Int.reduceLE,Int.reduceAdd,Int.reduceSub,Int.reduceMul,Int.reduceToNat,Int.reduceNeg,Int.reduceTMod,Int.reduceEq,not_false_eq_true,Int.reducePow,Int.reduceFDiv,Nat.reducePow,Nat.reduceSub,Nat.reduceMul,Nat.min_eq_left,Nat.reduceEqDiff,BEq.rfl,Int.tdiv_one,LN_succ]
 refine SR.seqTo ⟨[(2,.ptr nid 0),(3,.ptr (nid+4) 0),(4,.ptr (nid+8) 0),(6,.ptr (nid+20) 0)],[(nid,boxW nla A),(nid+4,boxW nlb B),(nid+8,some (.box 28 [.lit true 0 [],.str []]))]++outH (nid+20) (nid+24) true nla A,nid+100,nid⟩ ?_ ?_
 ·simp -dsimp only [aqA,↓seqK,↓blkK,↓loopK,step,stepBin,eqB,Nat.add_assoc nid,simprocAttr,z0,Int.cast_ofNat_Int,Int.reduceBEq,Int.reduceBNe,Int.reduceLT,Int.reduceLE,Int.reduceAdd,Int.reduceSub,Int.reduceMul,Int.reduceToNat,Int.reduceNeg,Int.reduceTMod,Int.reduceEq,not_false_eq_true,Int.reducePow,Int.reduceFDiv,Nat.reducePow,Nat.reduceSub,Nat.reduceMul,Nat.min_eq_left,Nat.reduceEqDiff,BEq.rfl,Int.tdiv_one,LN_succ]
  refine Cov.go [(nid+20,nid+20)] [] ?_
  simp [cvT,step,res,boxW,outH]
 refine SR.seqW (ι:={x:Bool // okRs A.rows B.rows=true}) (fun x=>⟨[(2,.ptr nid 0),(3,.ptr (nid+4) 0),(4,.ptr (nid+8) 0),(6,.ptr (nid+20) 0)],[(nid,boxW nla A),(nid+4,boxW nlb B),(nid+8,some (.box 28 [.lit true 0 [],.str []]))]++outH (nid+20) (nid+24) x.1 nla ⟨mergeRs A.rows B.rows,A.pass⟩,nid+9000,nid⟩) ?_ (fun ⟨fr,ho⟩=>?_)
 ·refine SR.seqTo ⟨[(14,.int .i64 (0:Nat)),(13,.int .i64 (chV A B).length),(12,.sl (nid+300) 0 (chV A B).length),(2,.ptr nid 0),(3,.ptr (nid+4) 0),(4,.ptr (nid+8) 0),(6,.ptr (nid+20) 0)],[(nid,boxW nla A),(nid+4,boxW nlb B),(nid+8,some (.box 28 [.lit true 0 [],.str []])),(nid+300,arrPl (chV A B))]++outH (nid+20) (nid+24) true nla A,nid+400,nid⟩ ?_ ?_
  ·unfold outH boxW
   simp -dsimp only [aqA,↓seqK,↓blkK,↓loopK,step,stepBin,eqB,Nat.add_assoc nid,simprocAttr,z0,Int.cast_ofNat_Int,Int.reduceBEq,Int.reduceBNe,Int.reduceLT,Int.reduceLE,Int.reduceAdd,Int.reduceSub,Int.reduceMul,Int.reduceToNat,Int.reduceNeg,Int.reduceTMod,Int.reduceEq,not_false_eq_true,Int.reducePow,Int.reduceFDiv,Nat.reducePow,Nat.reduceSub,Nat.reduceMul,Nat.min_eq_left,Nat.reduceEqDiff,BEq.rfl,Int.tdiv_one,LN_succ]
   refine CallO.pure (hch _) ?_
   unfold arrPl
   simp -dsimp only [aqA,↓seqK,↓blkK,↓loopK,step,stepBin,eqB,Nat.add_assoc nid,simprocAttr,z0,Int.cast_ofNat_Int,Int.reduceBEq,Int.reduceBNe,Int.reduceLT,Int.reduceLE,Int.reduceAdd,Int.reduceSub,Int.reduceMul,Int.reduceToNat,Int.reduceNeg,Int.reduceTMod,Int.reduceEq,not_false_eq_true,Int.reducePow,Int.reduceFDiv,Nat.reducePow,Nat.reduceSub,Nat.reduceMul,Nat.min_eq_left,Nat.reduceEqDiff,BEq.rfl,Int.tdiv_one,LN_succ]
   refine Cov.go [(nid+300,nid+108)] [] ?_
   simp [cvT,step,res,boxW,outH,arrPl,-List.getD_eq_getElem?_getD]
  obtain ⟨D,hD⟩:∃ D,chV A B=D:=⟨_,rfl⟩
  have hokD:(∀ p∈D,clB A B p=false)→okRs A.rows B.rows=true:=fun hc=>ok_of h (by rw [hD]; exact hc)
  have hclD:∀ p∈D,clB A B p=true→okRs A.rows B.rows=false:=fun p hp=>clash_of h (by rw [hD]; exact hp)
  have hinD:∀ p∈D,∃ x y:Nat,p=((x:Int),(y:Int))∧y<A.rows.length∧x<wideOf A:=fun p hp=>ch_in h (by rw [hD]; exact hp)
  have hmg:=merged_all h
  have hmok:=mTo_ok h
  rw [hD] at hcl hmg hmok ⊢
  refine SR.block ?_
  refine SR.loopP (fun z:Nat × Bool=>z.1≤D.length∧(z.2=true→mTo A B D z.1=A.rows)∧∀ j,j<z.1→clB A B (D.getD j p0)=false) (fun z=>⟨[(14,.int .i64 (z.1:Nat)),(13,.int .i64 D.length),(12,.sl (nid+300) 0 D.length),(2,.ptr nid 0),(3,.ptr (nid+4) 0),(4,.ptr (nid+8) 0),(6,.ptr (nid+20) 0)],[(nid,boxW nla A),(nid+4,boxW nlb B),(nid+8,some (.box 28 [.lit true 0 [],.str []])),(nid+300,arrPl D)]++outH (nid+20) (nid+24) z.2 nla ⟨mTo A B D z.1,A.pass⟩,nid+500,nid⟩) (fun z=>D.length+1 - z.1) (0,true) ⟨by simp,fun _=>rfl,fun j hj=>by simp at hj⟩ (Cov.go [] [] ?_) (fun ⟨k,fr⟩ hz=>?_)
  ·simp [cvT,step,res,boxW,outH,arrPl,mTo,-List.getD_eq_getElem?_getD]
  obtain ⟨hk,hfr,hcl2⟩:=hz
  simp only at hk hfr hcl2 ⊢
  refine SR.seq ?_
  simp -dsimp only [aqA,↓seqK,↓blkK,↓loopK,step,stepBin,eqB,Nat.add_assoc nid,simprocAttr,z0,Int.cast_ofNat_Int,Int.reduceBEq,Int.reduceBNe,Int.reduceLT,Int.reduceLE,Int.reduceAdd,Int.reduceSub,Int.reduceMul,Int.reduceToNat,Int.reduceNeg,Int.reduceTMod,Int.reduceEq,not_false_eq_true,Int.reducePow,Int.reduceFDiv,Nat.reducePow,Nat.reduceSub,Nat.reduceMul,Nat.min_eq_left,Nat.reduceEqDiff,BEq.rfl,Int.tdiv_one,LN_succ]
  refine SR.seq ?_
  simp -dsimp only [aqA,↓seqK,↓blkK,↓loopK,step,stepBin,eqB,Nat.add_assoc nid,simprocAttr,z0,Int.cast_ofNat_Int,Int.reduceBEq,Int.reduceBNe,Int.reduceLT,Int.reduceLE,Int.reduceAdd,Int.reduceSub,Int.reduceMul,Int.reduceToNat,Int.reduceNeg,Int.reduceTMod,Int.reduceEq,not_false_eq_true,Int.reducePow,Int.reduceFDiv,Nat.reducePow,Nat.reduceSub,Nat.reduceMul,Nat.min_eq_left,Nat.reduceEqDiff,BEq.rfl,Int.tdiv_one,LN_succ]
  refine S2.dec (fun h3=>?_) (fun h3=>?_) <;> simp -dsimp only [aqA,↓seqK,↓blkK,↓loopK,step,stepBin,eqB,Nat.add_assoc nid,simprocAttr,z0,Int.cast_ofNat_Int,Int.reduceBEq,Int.reduceBNe,Int.reduceLT,Int.reduceLE,Int.reduceAdd,Int.reduceSub,Int.reduceMul,Int.reduceToNat,Int.reduceNeg,Int.reduceTMod,Int.reduceEq,not_false_eq_true,Int.reducePow,Int.reduceFDiv,Nat.reducePow,Nat.reduceSub,Nat.reduceMul,Nat.min_eq_left,Nat.reduceEqDiff,BEq.rfl,Int.tdiv_one,LN_succ]
  rotate_left
  ·have e:k=D.length:=by omega
   have ho:okRs A.rows B.rows=true:=hokD fun p hp=>by
    obtain ⟨j,hj,rfl⟩:=List.getElem_of_mem hp
    have:=hcl2 j (by omega)
    rw [List.getD_eq_getElem?_getD,List.getElem?_eq_getElem hj] at this
    exact this
   refine ⟨⟨fr,ho⟩,?_⟩
   rw [e,hmg ho]
   unfold outH boxW arrS arrPl
   cases fr <;> simp only [cond_true,cond_false]
   ·refine Cov.go [] [] ?_
    simp [cvT,step,res,boxW,outH,arrS,-List.getD_eq_getElem?_getD]
   ·refine Cov.go [] [] ?_
    simp [cvT,step,res,boxW,outH,arrS,-List.getD_eq_getElem?_getD]
  have hkl:k<D.length:=by omega
  obtain ⟨x,y,hxy,hy,hx⟩:=hinD _ (ptMem hkl)
  have hWk:=hmok k (by omega)
  have hsu:=mTo_succ A B hkl
  have hlk:=mTo_len A B D k (by omega)
  have hwk:wideOf ⟨mTo A B D k,A.pass⟩=wideOf A:=mTo_row A B D 0 k (by omega)
  rw [hxy] at hsu
  unfold mStep at hsu
  simp only [Int.toNat_natCast] at hsu
  have hi1:inI64 ((x:Nat):Int)∧inI64 ((y:Nat):Int):=by have:=hA.len; have:=hA.wide; unfold inI64; omega
  have hdA:=fun m=>dieR_all nla A (x:Nat) (y:Nat) m hA hi1.1 hi1.2
  have hdB:=fun m=>dieR_all nlb B (x:Nat) (y:Nat) m hB hi1.1 hi1.2
  rw [dieV_in hy hx] at hdA
  rw [dieV_in (W:=B) (by rw [← h.rows]; exact hy) (by rw [← h.wide]; exact hx)] at hdB
  have eA:(A.rows.getD y []).getD x 0=dieB A x y:=rfl
  have eB:(B.rows.getD y []).getD x 0=dieB B x y:=rfl
  rw [eA] at hdA
  rw [eB] at hdB
  have b63:∀ b:UInt8,(byteI b==63)=decide (b=63):=fun b=>by
   rw [Bool.eq_iff_iff,beq_iff_eq,decide_eq_true_eq]
   exact byteI_inj (b:=63)
  have hwi:∀ (nl nlp:Bool) m,ACall Try.prog 62 [wafP nl ⟨mTo A B D k,A.pass⟩,.lit nlp 1 [.i .i64 fun i=>([((x:Nat):Int)].getD i 0),.i .i64 fun i=>([((y:Nat):Int)].getD i 0)],.int .u8 ((dieB B x y).toNat:Nat)] [] m (.agg [.sl m 0 (mTo A B D k).length,.str A.pass]) [(m,arrS (setPt (mTo A B D k) (dieB B x y) ((x:Int),(y:Int))))]:=fun nl nlp m=>by
   have h0:=with_all nl nlp ⟨mTo A B D k,A.pass⟩ [((x:Int),(y:Int))] (dieB B x y) m hWk (by simp) (fun p hp=>by
    rw [List.mem_singleton] at hp
    subst hp
    exact (plW_iff hWk).2 (by simp only; rw [hwk]; omega))
   have hc1:(fun i=>([((x:Int),(y:Int))].getD i p0).1)=fun i=>([((x:Nat):Int)].getD i 0):=by
    funext i; rcases i with _ | i <;> rfl
   have hc2:(fun i=>([((x:Int),(y:Int))].getD i p0).2)=fun i=>([((y:Nat):Int)].getD i 0):=by
    funext i; rcases i with _ | i <;> rfl
   unfold litPl at h0
   rw [hc1,hc2] at h0
   exact h0
  have hsl:(setPt (mTo A B D k) (dieB B x y) ((x:Int),(y:Int))).length=(mTo A B D k).length:=setPt_len _ _ _
  unfold wafP at hdA hdB hwi
  refine SR.seqW (ι:={f:Bool // (f=true→mTo A B D (k+1)=A.rows)∧clB A B (D.getD k p0)=false}) (fun f=>⟨[(14,.int .i64 (k:Nat)),(13,.int .i64 D.length),(12,.sl (nid+300) 0 D.length),(2,.ptr nid 0),(3,.ptr (nid+4) 0),(4,.ptr (nid+8) 0),(6,.ptr (nid+20) 0)],[(nid,boxW nla A),(nid+4,boxW nlb B),(nid+8,some (.box 28 [.lit true 0 [],.str []])),(nid+300,arrPl D)]++outH (nid+20) (nid+24) f.1 nla ⟨mTo A B D (k+1),A.pass⟩,nid+5000,nid⟩) ?_ (fun ⟨f,hf,hcf⟩=>?_)
  rotate_left
  ·have hlk1:=mTo_len A B D (k+1) (by omega)
   refine SR.run (t:=.mk) ?_
   unfold outH boxW arrS arrPl
   cases f <;> simp only [cond_true,cond_false]
   ·simp -dsimp only [aqA,↓seqK,↓blkK,↓loopK,step,stepBin,eqB,Nat.add_assoc nid,simprocAttr,z0,Int.cast_ofNat_Int,Int.reduceBEq,Int.reduceBNe,Int.reduceLT,Int.reduceLE,Int.reduceAdd,Int.reduceSub,Int.reduceMul,Int.reduceToNat,Int.reduceNeg,Int.reduceTMod,Int.reduceEq,not_false_eq_true,Int.reducePow,Int.reduceFDiv,Nat.reducePow,Nat.reduceSub,Nat.reduceMul,Nat.min_eq_left,Nat.reduceEqDiff,BEq.rfl,Int.tdiv_one,LN_succ]
    refine ⟨by unfold inI64; omega,(k+1,false),⟨⟨by simp only; omega,(fun e=>by cases e),fun j hj=>?_⟩,by simp only; omega⟩,?_⟩
    ·rcases (by simp only at hj; omega:j<k∨j=k) with hj | hj
     ·exact hcl2 j hj
     ·rw [hj]; exact hcf
    ·refine Cov.go [] [] ?_
     simp [cvT,step,res,boxW,outH,arrS,arrPl,boxPn,-List.getD_eq_getElem?_getD]
   ·simp -dsimp only [aqA,↓seqK,↓blkK,↓loopK,step,stepBin,eqB,Nat.add_assoc nid,simprocAttr,z0,Int.cast_ofNat_Int,Int.reduceBEq,Int.reduceBNe,Int.reduceLT,Int.reduceLE,Int.reduceAdd,Int.reduceSub,Int.reduceMul,Int.reduceToNat,Int.reduceNeg,Int.reduceTMod,Int.reduceEq,not_false_eq_true,Int.reducePow,Int.reduceFDiv,Nat.reducePow,Nat.reduceSub,Nat.reduceMul,Nat.min_eq_left,Nat.reduceEqDiff,BEq.rfl,Int.tdiv_one,LN_succ]
    refine ⟨by unfold inI64; omega,(k+1,true),⟨⟨by simp only; omega,(fun _=>hf rfl),fun j hj=>?_⟩,by simp only; omega⟩,?_⟩
    ·rcases (by simp only at hj; omega:j<k∨j=k) with hj | hj
     ·exact hcl2 j hj
     ·rw [hj]; exact hcf
    ·refine Cov.go [] [] ?_
     simp [cvT,step,res,boxW,outH,arrS,arrPl,boxPn,-List.getD_eq_getElem?_getD]
  refine SR.block ?_
  refine SR.seqTo ⟨[(8,.ptr (nid+600) 0),(14,.int .i64 (k:Nat)),(13,.int .i64 D.length),(12,.sl (nid+300) 0 D.length),(2,.ptr nid 0),(3,.ptr (nid+4) 0),(4,.ptr (nid+8) 0),(6,.ptr (nid+20) 0)],[(nid,boxW nla A),(nid+4,boxW nlb B),(nid+8,some (.box 28 [.lit true 0 [],.str []])),(nid+300,arrPl D),(nid+600,boxPn (x:Nat) (y:Nat))]++outH (nid+20) (nid+24) fr nla ⟨mTo A B D k,A.pass⟩,nid+700,nid⟩ ?_ ?_
  ·unfold outH boxW arrS arrPl
   cases fr <;> simp only [cond_true,cond_false] <;> simp -dsimp only [aqA,↓seqK,↓blkK,↓loopK,step,stepBin,eqB,Nat.add_assoc nid,simprocAttr,z0,Int.cast_ofNat_Int,Int.reduceBEq,Int.reduceBNe,Int.reduceLT,Int.reduceLE,Int.reduceAdd,Int.reduceSub,Int.reduceMul,Int.reduceToNat,Int.reduceNeg,Int.reduceTMod,Int.reduceEq,not_false_eq_true,Int.reducePow,Int.reduceFDiv,Nat.reducePow,Nat.reduceSub,Nat.reduceMul,Nat.min_eq_left,Nat.reduceEqDiff,BEq.rfl,Int.tdiv_one,LN_succ]
   ·refine ⟨⟨by omega,by omega⟩,?_⟩
    rw [hxy]
    refine Cov.go [(nid+600,nid+512)] [] ?_
    simp [cvT,step,res,boxW,outH,arrS,arrPl,boxPn,-List.getD_eq_getElem?_getD]
   ·refine ⟨⟨by omega,by omega⟩,?_⟩
    rw [hxy]
    refine Cov.go [(nid+600,nid+512)] [] ?_
    simp [cvT,step,res,boxW,outH,arrS,arrPl,boxPn,-List.getD_eq_getElem?_getD]
  refine SR.block ?_
  refine SR.seqTo ⟨[(18,.bool (decide (dieB A x y=63))),(8,.ptr (nid+600) 0),(14,.int .i64 (k:Nat)),(13,.int .i64 D.length),(12,.sl (nid+300) 0 D.length),(2,.ptr nid 0),(3,.ptr (nid+4) 0),(4,.ptr (nid+8) 0),(6,.ptr (nid+20) 0)],[(nid,boxW nla A),(nid+4,boxW nlb B),(nid+8,some (.box 28 [.lit true 0 [],.str []])),(nid+300,arrPl D),(nid+600,boxPn (x:Nat) (y:Nat))]++outH (nid+20) (nid+24) fr nla ⟨mTo A B D k,A.pass⟩,nid+800,nid⟩ ?_ ?_
  ·have bA:=b63 (dieB A x y)
   unfold byteI at hdA bA
   unfold outH boxW arrS arrPl boxPn
   cases fr <;> simp only [cond_true,cond_false] <;> simp -dsimp only [aqA,↓seqK,↓blkK,↓loopK,step,stepBin,eqB,Nat.add_assoc nid,simprocAttr,z0,Int.cast_ofNat_Int,Int.reduceBEq,Int.reduceBNe,Int.reduceLT,Int.reduceLE,Int.reduceAdd,Int.reduceSub,Int.reduceMul,Int.reduceToNat,Int.reduceNeg,Int.reduceTMod,Int.reduceEq,not_false_eq_true,Int.reducePow,Int.reduceFDiv,Nat.reducePow,Nat.reduceSub,Nat.reduceMul,Nat.min_eq_left,Nat.reduceEqDiff,BEq.rfl,Int.tdiv_one,LN_succ]
   ·refine CallO.pure (hdA _) ?_
    simp -dsimp only [aqA,↓seqK,↓blkK,↓loopK,step,stepBin,eqB,Nat.add_assoc nid,simprocAttr,z0,Int.cast_ofNat_Int,Int.reduceBEq,Int.reduceBNe,Int.reduceLT,Int.reduceLE,Int.reduceAdd,Int.reduceSub,Int.reduceMul,Int.reduceToNat,Int.reduceNeg,Int.reduceTMod,Int.reduceEq,not_false_eq_true,Int.reducePow,Int.reduceFDiv,Nat.reducePow,Nat.reduceSub,Nat.reduceMul,Nat.min_eq_left,Nat.reduceEqDiff,BEq.rfl,Int.tdiv_one,LN_succ,bA]
    refine Cov.go [] [] ?_
    simp [cvT,step,res,boxW,outH,arrS,arrPl,boxPn,-List.getD_eq_getElem?_getD]
   ·refine CallO.pure (hdA _) ?_
    simp -dsimp only [aqA,↓seqK,↓blkK,↓loopK,step,stepBin,eqB,Nat.add_assoc nid,simprocAttr,z0,Int.cast_ofNat_Int,Int.reduceBEq,Int.reduceBNe,Int.reduceLT,Int.reduceLE,Int.reduceAdd,Int.reduceSub,Int.reduceMul,Int.reduceToNat,Int.reduceNeg,Int.reduceTMod,Int.reduceEq,not_false_eq_true,Int.reducePow,Int.reduceFDiv,Nat.reducePow,Nat.reduceSub,Nat.reduceMul,Nat.min_eq_left,Nat.reduceEqDiff,BEq.rfl,Int.tdiv_one,LN_succ,bA]
    refine Cov.go [] [] ?_
    simp [cvT,step,res,boxW,outH,arrS,arrPl,boxPn,-List.getD_eq_getElem?_getD]
  refine SR.cond (b:=decide (dieB A x y=63)) rfl (fun h63=>?_) (fun h63=>?_)
  ·have h63':dieB A x y=63:=of_decide_eq_true h63
   rw [if_pos h63'] at hsu
   have hno:clB A B (D.getD k p0)=false:=by
    rw [hxy]
    unfold clB
    simp [h63']
   refine SR.run (t:=.mk) ?_
   unfold byteI at hdB
   unfold outH boxW arrS arrPl boxPn
   cases fr <;> simp only [cond_true,cond_false]
   ·simp -dsimp only [aqA,↓seqK,↓blkK,↓loopK,step,stepBin,eqB,Nat.add_assoc nid,simprocAttr,z0,Int.cast_ofNat_Int,Int.reduceBEq,Int.reduceBNe,Int.reduceLT,Int.reduceLE,Int.reduceAdd,Int.reduceSub,Int.reduceMul,Int.reduceToNat,Int.reduceNeg,Int.reduceTMod,Int.reduceEq,not_false_eq_true,Int.reducePow,Int.reduceFDiv,Nat.reducePow,Nat.reduceSub,Nat.reduceMul,Nat.min_eq_left,Nat.reduceEqDiff,BEq.rfl,Int.tdiv_one,LN_succ]
    refine CallX.pure (hdB _) ?_
    simp -dsimp only [aqA,↓seqK,↓blkK,↓loopK,step,stepBin,eqB,Nat.add_assoc nid,simprocAttr,z0,Int.cast_ofNat_Int,Int.reduceBEq,Int.reduceBNe,Int.reduceLT,Int.reduceLE,Int.reduceAdd,Int.reduceSub,Int.reduceMul,Int.reduceToNat,Int.reduceNeg,Int.reduceTMod,Int.reduceEq,not_false_eq_true,Int.reducePow,Int.reduceFDiv,Nat.reducePow,Nat.reduceSub,Nat.reduceMul,Nat.min_eq_left,Nat.reduceEqDiff,BEq.rfl,Int.tdiv_one,LN_succ]
    refine CallX.gave [nid+24,nid+808] (fun nl'=>by
     simp only [lends,lend,aqA,↓seqK,↓blkK,↓loopK,step,stepBin,eqB,Nat.add_assoc nid,simprocAttr,z0]
     exact hwi _ _ _) (by simp [getH,idS1,idS2]) ?_
    unfold arrS
    simp -dsimp only [aqA,↓seqK,↓blkK,↓loopK,step,stepBin,eqB,Nat.add_assoc nid,simprocAttr,z0,Int.cast_ofNat_Int,Int.reduceBEq,Int.reduceBNe,Int.reduceLT,Int.reduceLE,Int.reduceAdd,Int.reduceSub,Int.reduceMul,Int.reduceToNat,Int.reduceNeg,Int.reduceTMod,Int.reduceEq,not_false_eq_true,Int.reducePow,Int.reduceFDiv,Nat.reducePow,Nat.reduceSub,Nat.reduceMul,Nat.min_eq_left,Nat.reduceEqDiff,BEq.rfl,Int.tdiv_one,LN_succ,kill]
    refine ⟨⟨false,(fun e=>by cases e),hno⟩,?_⟩
    rw [hsu]
    refine Cov.go [(nid+24,nid+824)] [] ?_
    simp [cvT,step,res,boxW,outH,arrS,arrPl,boxPn,hsl,-List.getD_eq_getElem?_getD]
   ·simp -dsimp only [aqA,↓seqK,↓blkK,↓loopK,step,stepBin,eqB,Nat.add_assoc nid,simprocAttr,z0,Int.cast_ofNat_Int,Int.reduceBEq,Int.reduceBNe,Int.reduceLT,Int.reduceLE,Int.reduceAdd,Int.reduceSub,Int.reduceMul,Int.reduceToNat,Int.reduceNeg,Int.reduceTMod,Int.reduceEq,not_false_eq_true,Int.reducePow,Int.reduceFDiv,Nat.reducePow,Nat.reduceSub,Nat.reduceMul,Nat.min_eq_left,Nat.reduceEqDiff,BEq.rfl,Int.tdiv_one,LN_succ]
    refine CallX.pure (hdB _) ?_
    simp -dsimp only [aqA,↓seqK,↓blkK,↓loopK,step,stepBin,eqB,Nat.add_assoc nid,simprocAttr,z0,Int.cast_ofNat_Int,Int.reduceBEq,Int.reduceBNe,Int.reduceLT,Int.reduceLE,Int.reduceAdd,Int.reduceSub,Int.reduceMul,Int.reduceToNat,Int.reduceNeg,Int.reduceTMod,Int.reduceEq,not_false_eq_true,Int.reducePow,Int.reduceFDiv,Nat.reducePow,Nat.reduceSub,Nat.reduceMul,Nat.min_eq_left,Nat.reduceEqDiff,BEq.rfl,Int.tdiv_one,LN_succ]
    refine CallX.gave [nid+808] (fun nl'=>by
     simp only [lends,lend,aqA,↓seqK,↓blkK,↓loopK,step,stepBin,eqB,Nat.add_assoc nid,simprocAttr,z0]
     exact hwi _ _ _) (by simp [getH,idS1,idS2]) ?_
    unfold arrS
    simp -dsimp only [aqA,↓seqK,↓blkK,↓loopK,step,stepBin,eqB,Nat.add_assoc nid,simprocAttr,z0,Int.cast_ofNat_Int,Int.reduceBEq,Int.reduceBNe,Int.reduceLT,Int.reduceLE,Int.reduceAdd,Int.reduceSub,Int.reduceMul,Int.reduceToNat,Int.reduceNeg,Int.reduceTMod,Int.reduceEq,not_false_eq_true,Int.reducePow,Int.reduceFDiv,Nat.reducePow,Nat.reduceSub,Nat.reduceMul,Nat.min_eq_left,Nat.reduceEqDiff,BEq.rfl,Int.tdiv_one,LN_succ,kill]
    refine ⟨⟨false,(fun e=>by cases e),hno⟩,?_⟩
    rw [hsu]
    refine Cov.go [(nid+24,nid+824)] [] ?_
    simp [cvT,step,res,boxW,outH,arrS,arrPl,boxPn,hsl,-List.getD_eq_getElem?_getD]
  ·have h63':¬ dieB A x y=63:=of_decide_eq_false h63
   rw [if_neg h63'] at hsu
   have bB:(byteI (dieB B x y) != 63)=decide (dieB B x y≠63):=by
    have e:=b63 (dieB B x y)
    rw [Bool.eq_iff_iff] at e ⊢
    simp only [bne_iff_ne,decide_eq_true_eq,beq_iff_eq] at e ⊢
    exact not_congr e
   refine SR.run (t:=.mk) ?_
   unfold byteI at hdB bB
   by_cases hb:dieB B x y=63
   ·rw [decide_eq_false (by simp [hb])] at bB
    have hno:clB A B (D.getD k p0)=false:=by
     rw [hxy]
     unfold clB
     simp [hb]
    unfold outH boxW arrS arrPl boxPn
    cases fr <;> simp only [cond_true,cond_false] <;> simp -dsimp only [aqA,↓seqK,↓blkK,↓loopK,step,stepBin,eqB,Nat.add_assoc nid,simprocAttr,z0,Int.cast_ofNat_Int,Int.reduceBEq,Int.reduceBNe,Int.reduceLT,Int.reduceLE,Int.reduceAdd,Int.reduceSub,Int.reduceMul,Int.reduceToNat,Int.reduceNeg,Int.reduceTMod,Int.reduceEq,not_false_eq_true,Int.reducePow,Int.reduceFDiv,Nat.reducePow,Nat.reduceSub,Nat.reduceMul,Nat.min_eq_left,Nat.reduceEqDiff,BEq.rfl,Int.tdiv_one,LN_succ]
    ·refine CallO.pure (hdB _) ?_
     simp -dsimp only [aqA,↓seqK,↓blkK,↓loopK,step,stepBin,eqB,Nat.add_assoc nid,simprocAttr,z0,Int.cast_ofNat_Int,Int.reduceBEq,Int.reduceBNe,Int.reduceLT,Int.reduceLE,Int.reduceAdd,Int.reduceSub,Int.reduceMul,Int.reduceToNat,Int.reduceNeg,Int.reduceTMod,Int.reduceEq,not_false_eq_true,Int.reducePow,Int.reduceFDiv,Nat.reducePow,Nat.reduceSub,Nat.reduceMul,Nat.min_eq_left,Nat.reduceEqDiff,BEq.rfl,Int.tdiv_one,LN_succ,bB]
     refine ⟨⟨false,(fun e=>by cases e),hno⟩,?_⟩
     rw [hsu]
     refine Cov.go [] [] ?_
     simp [cvT,step,res,boxW,outH,arrS,arrPl,boxPn,-List.getD_eq_getElem?_getD]
    ·refine CallO.pure (hdB _) ?_
     simp -dsimp only [aqA,↓seqK,↓blkK,↓loopK,step,stepBin,eqB,Nat.add_assoc nid,simprocAttr,z0,Int.cast_ofNat_Int,Int.reduceBEq,Int.reduceBNe,Int.reduceLT,Int.reduceLE,Int.reduceAdd,Int.reduceSub,Int.reduceMul,Int.reduceToNat,Int.reduceNeg,Int.reduceTMod,Int.reduceEq,not_false_eq_true,Int.reducePow,Int.reduceFDiv,Nat.reducePow,Nat.reduceSub,Nat.reduceMul,Nat.min_eq_left,Nat.reduceEqDiff,BEq.rfl,Int.tdiv_one,LN_succ,bB]
     have hf1:mTo A B D (k+1)=A.rows:=by rw [hsu]; exact hfr rfl
     refine ⟨⟨true,(fun _=>hf1),hno⟩,?_⟩
     simp only [cond_true]
     rw [hsu]
     refine Cov.go [] [] ?_
     simp [cvT,step,res,boxW,outH,arrS,arrPl,boxPn,-List.getD_eq_getElem?_getD]
   ·rw [decide_eq_true hb] at bB
    have hyes:clB A B (D.getD k p0)=true:=by
     rw [hxy]
     unfold clB
     simp [hb,h63']
    obtain ⟨hr,hu⟩:=h2 (hclD _ (ptMem hkl) hyes)
    rw [hr,hu]
    unfold outH boxW arrS arrPl boxPn
    cases fr <;> simp only [cond_true,cond_false] <;> simp -dsimp only [aqA,↓seqK,↓blkK,↓loopK,step,stepBin,eqB,Nat.add_assoc nid,simprocAttr,z0,Int.cast_ofNat_Int,Int.reduceBEq,Int.reduceBNe,Int.reduceLT,Int.reduceLE,Int.reduceAdd,Int.reduceSub,Int.reduceMul,Int.reduceToNat,Int.reduceNeg,Int.reduceTMod,Int.reduceEq,not_false_eq_true,Int.reducePow,Int.reduceFDiv,Nat.reducePow,Nat.reduceSub,Nat.reduceMul,Nat.min_eq_left,Nat.reduceEqDiff,BEq.rfl,Int.tdiv_one,LN_succ]
    ·refine CallO.pure (hdB _) ?_
     simp -dsimp only [aqA,↓seqK,↓blkK,↓loopK,step,stepBin,eqB,Nat.add_assoc nid,simprocAttr,z0,Int.cast_ofNat_Int,Int.reduceBEq,Int.reduceBNe,Int.reduceLT,Int.reduceLE,Int.reduceAdd,Int.reduceSub,Int.reduceMul,Int.reduceToNat,Int.reduceNeg,Int.reduceTMod,Int.reduceEq,not_false_eq_true,Int.reducePow,Int.reduceFDiv,Nat.reducePow,Nat.reduceSub,Nat.reduceMul,Nat.min_eq_left,Nat.reduceEqDiff,BEq.rfl,Int.tdiv_one,LN_succ,bB]
     refine RetOK.go [] [] (.inl rfl) ?_
     simp [a22,cvT,step,res]
    ·refine CallO.pure (hdB _) ?_
     simp -dsimp only [aqA,↓seqK,↓blkK,↓loopK,step,stepBin,eqB,Nat.add_assoc nid,simprocAttr,z0,Int.cast_ofNat_Int,Int.reduceBEq,Int.reduceBNe,Int.reduceLT,Int.reduceLE,Int.reduceAdd,Int.reduceSub,Int.reduceMul,Int.reduceToNat,Int.reduceNeg,Int.reduceTMod,Int.reduceEq,not_false_eq_true,Int.reducePow,Int.reduceFDiv,Nat.reducePow,Nat.reduceSub,Nat.reduceMul,Nat.min_eq_left,Nat.reduceEqDiff,BEq.rfl,Int.tdiv_one,LN_succ,bB]
     refine RetOK.go [] [] (.inl rfl) ?_
     simp [a22,cvT,step,res]
 obtain ⟨hr,hu⟩:=h1 ho
 rw [hr,hu]
 have hml:(mergeRs A.rows B.rows).length=A.rows.length:=zip_len _ h.rows
 have hWm:WafOk ⟨mergeRs A.rows B.rows,A.pass⟩:=by
  have:=mTo_ok h (chV A B).length (Nat.le_refl _)
  rw [merged_all h ho] at this
  exact this
 have hwn:∀ (nl:Bool) m,ACall Try.prog 62 [wafP nl ⟨mergeRs A.rows B.rows,A.pass⟩,.lit true 0 [],.int .u8 0] [] m (.agg [.sl m 0 (mergeRs A.rows B.rows).length,.str A.pass]) [(m,arrS (mergeRs A.rows B.rows))]:=fun nl m =>
  ACall.nilArg (az:=[wafP nl ⟨mergeRs A.rows B.rows,A.pass⟩,.lit true 0 [],.int .u8 0]) 1 (c:=[]) (c':=[.i .i64 fun i=>(([]:List Pt).getD i p0).1,.i .i64 fun i=>(([]:List Pt).getD i p0).2]) rfl (with_all nl true ⟨mergeRs A.rows B.rows,A.pass⟩ [] 0 m hWm (by simp) (by simp))
 unfold wafP at hwn
 refine SR.run (t:=.mk) ?_
 unfold outH boxW arrS
 cases fr <;> simp only [cond_true,cond_false] <;> simp -dsimp only [aqA,↓seqK,↓blkK,↓loopK,step,stepBin,eqB,Nat.add_assoc nid,simprocAttr,z0,Int.cast_ofNat_Int,Int.reduceBEq,Int.reduceBNe,Int.reduceLT,Int.reduceLE,Int.reduceAdd,Int.reduceSub,Int.reduceMul,Int.reduceToNat,Int.reduceNeg,Int.reduceTMod,Int.reduceEq,not_false_eq_true,Int.reducePow,Int.reduceFDiv,Nat.reducePow,Nat.reduceSub,Nat.reduceMul,Nat.min_eq_left,Nat.reduceEqDiff,BEq.rfl,Int.tdiv_one,LN_succ]
 ·refine CallO.gave [nid+24] (fun nl'=>by
   simp only [lends,lend,aqA,↓seqK,↓blkK,↓loopK,step,stepBin,eqB,Nat.add_assoc nid,simprocAttr,z0]
   exact hwn _ _) (by simp [getH,idS1,idS2]) ?_
  unfold arrS
  simp -dsimp only [aqA,↓seqK,↓blkK,↓loopK,step,stepBin,eqB,Nat.add_assoc nid,simprocAttr,z0,Int.cast_ofNat_Int,Int.reduceBEq,Int.reduceBNe,Int.reduceLT,Int.reduceLE,Int.reduceAdd,Int.reduceSub,Int.reduceMul,Int.reduceToNat,Int.reduceNeg,Int.reduceTMod,Int.reduceEq,not_false_eq_true,Int.reducePow,Int.reduceFDiv,Nat.reducePow,Nat.reduceSub,Nat.reduceMul,Nat.min_eq_left,Nat.reduceEqDiff,BEq.rfl,Int.tdiv_one,LN_succ,kill]
  refine RetOK.go [(nid,nid+9004)] [] (.inl rfl) ?_
  simp [a22,cvT,step,res,arrS,hml,-List.getD_eq_getElem?_getD]
 ·refine CallO.pure (hwn _ _) ?_
  unfold arrS
  simp -dsimp only [aqA,↓seqK,↓blkK,↓loopK,step,stepBin,eqB,Nat.add_assoc nid,simprocAttr,z0,Int.cast_ofNat_Int,Int.reduceBEq,Int.reduceBNe,Int.reduceLT,Int.reduceLE,Int.reduceAdd,Int.reduceSub,Int.reduceMul,Int.reduceToNat,Int.reduceNeg,Int.reduceTMod,Int.reduceEq,not_false_eq_true,Int.reducePow,Int.reduceFDiv,Nat.reducePow,Nat.reduceSub,Nat.reduceMul,Nat.min_eq_left,Nat.reduceEqDiff,BEq.rfl,Int.tdiv_one,LN_succ]
  refine RetOK.go [(nid,nid+9004)] [] (.inl rfl) ?_
  simp [a22,cvT,step,res,arrS,hml,-List.getD_eq_getElem?_getD]
open Go.RowKit Go.Lib
theorem take_eqPp {l m:List Pt} {k:Nat} (hl:k<l.length) (hm:k<m.length) (h:l.take k=m.take k) (hx:l.getD k p0=m.getD k p0):l.take (k+1)=m.take (k+1):=by
 rw [take_snoc (x:=l.getD k p0) (by rw [List.getD_eq_getElem?_getD,List.getElem?_eq_getElem hl]; rfl),take_snoc (x:=m.getD k p0) (by rw [List.getD_eq_getElem?_getD,List.getElem?_eq_getElem hm]; rfl),h,hx]
theorem eqPl_c (nl nl' : Bool) (l m : List Pt) (nid : Nat) (hl : l.length ≤ 1000000) (hm : m.length ≤ 1000000) : ACall Try.prog 15 [litPl nl l,litPl nl' m] [] nid (.bool (l == m)) [] := by
  refine acall_run c15 (by simp [a15]) ?_
  unfold litPl
  simp -dsimp only [aqA,↓seqK,↓blkK,↓loopK,step,stepBin,eqB,Nat.add_assoc nid,simprocAttr,z0,Int.cast_ofNat_Int,Int.reduceBEq,Int.reduceBNe,Int.reduceLT,Int.reduceLE,Int.reduceAdd,Int.reduceSub,Int.reduceMul,Int.reduceToNat,Int.reduceNeg,Int.reduceTMod,Int.reduceEq,not_false_eq_true,Int.reducePow,Int.reduceFDiv,Nat.reducePow,Nat.reduceSub,Nat.reduceMul,Nat.min_eq_left,Nat.reduceEqDiff,BEq.rfl,Int.tdiv_one,LN_succ,a15]
  refine S2.intro (fun h => ?_) (fun h => ?_) <;> simp -dsimp only [aqA,↓seqK,↓blkK,↓loopK,step,stepBin,eqB,Nat.add_assoc nid,simprocAttr,z0,Int.cast_ofNat_Int,Int.reduceBEq,Int.reduceBNe,Int.reduceLT,Int.reduceLE,Int.reduceAdd,Int.reduceSub,Int.reduceMul,Int.reduceToNat,Int.reduceNeg,Int.reduceTMod,Int.reduceEq,not_false_eq_true,Int.reducePow,Int.reduceFDiv,Nat.reducePow,Nat.reduceSub,Nat.reduceMul,Nat.min_eq_left,Nat.reduceEqDiff,BEq.rfl,Int.tdiv_one,LN_succ]
  · refine RetOK.pure (.inl rfl) rfl ?_
    have h1 : l ≠ m := fun e => by subst e; simp at h
    have h2 : (l == m) = false := by simpa using h1
    simp [cvT,step,res,h1]
  have hlm : l.length = m.length := by have : (l.length : Int) = m.length := by simpa using h
                                       omega
  refine LP.mkP (fun k : Nat => k ≤ l.length ∧ l.take k = m.take k) (fun k : Nat => ⟨[(13,.int .i64 k),(12,.int .i64 l.length),(0,litPl nl l),(1,litPl nl' m)],[],nid + 100,nid⟩) (fun k => l.length + 1 - k) 0 ⟨by omega,rfl⟩ (Cov.go [] [] ?_) (fun k hk => ?_)
  · simp [cvT,step,res,litPl]
  unfold litPl
  obtain ⟨hk,ht⟩ := hk
  simp -dsimp only [aqA,↓seqK,↓blkK,↓loopK,step,stepBin,eqB,Nat.add_assoc nid,simprocAttr,z0,Int.cast_ofNat_Int,Int.reduceBEq,Int.reduceBNe,Int.reduceLT,Int.reduceLE,Int.reduceAdd,Int.reduceSub,Int.reduceMul,Int.reduceToNat,Int.reduceNeg,Int.reduceTMod,Int.reduceEq,not_false_eq_true,Int.reducePow,Int.reduceFDiv,Nat.reducePow,Nat.reduceSub,Nat.reduceMul,Nat.min_eq_left,Nat.reduceEqDiff,BEq.rfl,Int.tdiv_one,LN_succ]
  refine S2.dec (fun h3 => ?_) (fun h3 => ?_) <;> simp -dsimp only [aqA,↓seqK,↓blkK,↓loopK,step,stepBin,eqB,Nat.add_assoc nid,simprocAttr,z0,Int.cast_ofNat_Int,Int.reduceBEq,Int.reduceBNe,Int.reduceLT,Int.reduceLE,Int.reduceAdd,Int.reduceSub,Int.reduceMul,Int.reduceToNat,Int.reduceNeg,Int.reduceTMod,Int.reduceEq,not_false_eq_true,Int.reducePow,Int.reduceFDiv,Nat.reducePow,Nat.reduceSub,Nat.reduceMul,Nat.min_eq_left,Nat.reduceEqDiff,BEq.rfl,Int.tdiv_one,LN_succ]
  · have hkl : k < l.length := by omega
    have hstep := fun hx => take_eqPp (l := l) (m := m) hkl (by omega) ht hx
    have hne : l.getD k p0 ≠ m.getD k p0 → l ≠ m := fun hd e => hd (by rw [e])
    generalize l.getD k p0 = a at *
    generalize m.getD k p0 = b at *
    refine ⟨by omega,by omega,S2.intro (fun h4 => ?_) (fun h4 => ?_)⟩ <;> simp -dsimp only [aqA,↓seqK,↓blkK,↓loopK,step,stepBin,eqB,Nat.add_assoc nid,simprocAttr,z0,Int.cast_ofNat_Int,Int.reduceBEq,Int.reduceBNe,Int.reduceLT,Int.reduceLE,Int.reduceAdd,Int.reduceSub,Int.reduceMul,Int.reduceToNat,Int.reduceNeg,Int.reduceTMod,Int.reduceEq,not_false_eq_true,Int.reducePow,Int.reduceFDiv,Nat.reducePow,Nat.reduceSub,Nat.reduceMul,Nat.min_eq_left,Nat.reduceEqDiff,BEq.rfl,Int.tdiv_one,LN_succ]
    · have h1 : l ≠ m := hne (fun e => by subst e; simp at h4)
      refine RetOK.pure (.inl rfl) rfl ?_
      simp [cvT,step,res,h1]
    · have h5 : a = b := by
        simp at h4; exact Prod.ext h4.1 h4.2
      refine ⟨by unfold inI64; omega,k + 1,⟨⟨by omega,hstep h5⟩,by omega⟩,Cov.go [] [] ?_⟩
      simp [cvT,step,res,litPl,-List.getD_eq_getElem?_getD]
  · obtain rfl : k = l.length := by omega
    have h1 : l = m := by
      rw [List.take_of_length_le (Nat.le_refl _),List.take_of_length_le (by omega)] at ht
      exact ht
    refine RetOK.pure (.inl rfl) rfl ?_
    simp [cvT,step,res,h1]
theorem sameNo_c (nl:Bool) (V:Waf) (nid:Nat) (hV:V.rows.length≤1000000):ACall Try.prog 20 [wafP nl V,.agg [.lit true 0 [],.str []]] [] nid (.bool (V.rows==[] && V.pass==[])) []:=by
 have he:=fun k=>ACall.nilArg (az:=[litS nl V.rows,.lit true 0 []]) 1 (c:=[]) (c':=[.s fun i=>([]:List (List UInt8)).getD i []]) rfl (equalS_c nl true V.rows [] k (by omega) (by simp))
 refine acall_run c20 (by simp [a20]) ?_
 unfold wafP
 unfold litS at he
 simp -dsimp only [aqA,↓seqK,↓blkK,↓loopK,step,stepBin,eqB,Nat.add_assoc nid,simprocAttr,z0,Int.cast_ofNat_Int,Int.reduceBEq,Int.reduceBNe,Int.reduceLT,Int.reduceLE,Int.reduceAdd,Int.reduceSub,Int.reduceMul,Int.reduceToNat,Int.reduceNeg,Int.reduceTMod,Int.reduceEq,not_false_eq_true,Int.reducePow,Int.reduceFDiv,Nat.reducePow,Nat.reduceSub,Nat.reduceMul,Nat.min_eq_left,Nat.reduceEqDiff,BEq.rfl,Int.tdiv_one,LN_succ,a20]
 refine CallO.pure (he _) ?_
 simp -dsimp only [aqA,↓seqK,↓blkK,↓loopK,step,stepBin,eqB,Nat.add_assoc nid,simprocAttr,z0,Int.cast_ofNat_Int,Int.reduceBEq,Int.reduceBNe,Int.reduceLT,Int.reduceLE,Int.reduceAdd,Int.reduceSub,Int.reduceMul,Int.reduceToNat,Int.reduceNeg,Int.reduceTMod,Int.reduceEq,not_false_eq_true,Int.reducePow,Int.reduceFDiv,Nat.reducePow,Nat.reduceSub,Nat.reduceMul,Nat.min_eq_left,Nat.reduceEqDiff,BEq.rfl,Int.tdiv_one,LN_succ]
 refine S2.intro (fun h=>?_) (fun h=>?_) <;> simp -dsimp only [aqA,↓seqK,↓blkK,↓loopK,step,stepBin,eqB,Nat.add_assoc nid,simprocAttr,z0,Int.cast_ofNat_Int,Int.reduceBEq,Int.reduceBNe,Int.reduceLT,Int.reduceLE,Int.reduceAdd,Int.reduceSub,Int.reduceMul,Int.reduceToNat,Int.reduceNeg,Int.reduceTMod,Int.reduceEq,not_false_eq_true,Int.reducePow,Int.reduceFDiv,Nat.reducePow,Nat.reduceSub,Nat.reduceMul,Nat.min_eq_left,Nat.reduceEqDiff,BEq.rfl,Int.tdiv_one,LN_succ]
 ·refine RetOK.pure (.inl rfl) rfl ?_
  simp [cvT,step,res,h]
 ·refine RetOK.pure (.inl rfl) rfl ?_
  simp [cvT,step,res,h]
theorem orW_c (nl:Bool) (l:List Int) (nid:Nat) (hl:l.length≤1000000000):ACall Try.prog 12 [litI nl l] [] nid (.int .i64 (firstBad (fun x:Int=>x) l)) []:=by
 refine acall_run c12 (by simp [a12]) ?_
 unfold litI
 simp -dsimp only [aqA,↓seqK,↓blkK,↓loopK,step,stepBin,eqB,Nat.add_assoc nid,simprocAttr,z0,a12]
 refine LP.mkP (fun k:Nat=>k≤l.length∧firstBad (fun x:Int=>x) (l.take k)=0) (fun k:Nat=>⟨[(8,.int .i64 k),(7,.int .i64 l.length),(6,litI nl l),(3,.int .i64 0)],[],nid+100,nid⟩) (fun k=>l.length+1 - k) 0 ⟨by omega,rfl⟩ (Cov.go [] [] ?_) (fun k hk=>?_)
 ·simp [cvT,step,res,litI]
 unfold litI
 obtain ⟨hk,hb⟩:=hk
 simp -dsimp only [aqA,↓seqK,↓blkK,↓loopK,step,stepBin,eqB,Nat.add_assoc nid,simprocAttr,z0,Int.cast_ofNat_Int,Int.reduceBEq,Int.reduceBNe,Int.reduceLT,Int.reduceLE,Int.reduceAdd,Int.reduceSub,Int.reduceMul,Int.reduceToNat,Int.reduceNeg,Int.reduceTMod,Int.reduceEq,not_false_eq_true,Int.reducePow,Int.reduceFDiv,Nat.reducePow,Nat.reduceSub,Nat.reduceMul,Nat.min_eq_left,Nat.reduceEqDiff,BEq.rfl,Int.tdiv_one,LN_succ]
 refine S2.dec (fun h3=>?_) (fun h3=>?_) <;> simp -dsimp only [aqA,↓seqK,↓blkK,↓loopK,step,stepBin,eqB,Nat.add_assoc nid,simprocAttr,z0,Int.cast_ofNat_Int,Int.reduceBEq,Int.reduceBNe,Int.reduceLT,Int.reduceLE,Int.reduceAdd,Int.reduceSub,Int.reduceMul,Int.reduceToNat,Int.reduceNeg,Int.reduceTMod,Int.reduceEq,not_false_eq_true,Int.reducePow,Int.reduceFDiv,Nat.reducePow,Nat.reduceSub,Nat.reduceMul,Nat.min_eq_left,Nat.reduceEqDiff,BEq.rfl,Int.tdiv_one,LN_succ]
 ·have hkl:k<l.length:=by omega
  have bad:l.getD k 0≠0→firstBad (fun x:Int=>x) l=l.getD k 0:=fun h=>firstBad_hit (x:=l.getD k 0) (by rw [List.getD_eq_getElem?_getD,List.getElem?_eq_getElem hkl]; rfl) hb h
  have good:l.getD k 0=0→firstBad (fun x:Int=>x) (l.take (k+1))=0:=fun h=>firstBad_step (x:=l.getD k 0) (by rw [List.getD_eq_getElem?_getD,List.getElem?_eq_getElem hkl]; rfl) hb h
  refine ⟨by omega,S2.intro (fun h4=>?_) (fun h4=>?_)⟩ <;> simp -dsimp only [aqA,↓seqK,↓blkK,↓loopK,step,stepBin,eqB,Nat.add_assoc nid,simprocAttr,z0,Int.cast_ofNat_Int,Int.reduceBEq,Int.reduceBNe,Int.reduceLT,Int.reduceLE,Int.reduceAdd,Int.reduceSub,Int.reduceMul,Int.reduceToNat,Int.reduceNeg,Int.reduceTMod,Int.reduceEq,not_false_eq_true,Int.reducePow,Int.reduceFDiv,Nat.reducePow,Nat.reduceSub,Nat.reduceMul,Nat.min_eq_left,Nat.reduceEqDiff,BEq.rfl,Int.tdiv_one,LN_succ]
  ·rw [bad (by simpa using h4)]
   refine RetOK.pure (.inl rfl) rfl ?_
   simp [cvT,step,res]
  ·refine ⟨by unfold inI64; omega,k+1,⟨⟨by omega,good (by simpa using h4)⟩,by omega⟩,Cov.go [] [] ?_⟩
   simp [cvT,step,res,litI]
 ·have hkn:k=l.length:=by omega
  subst hkn
  rw [List.take_length] at hb
  rw [hb]
  refine RetOK.pure (.inl rfl) rfl ?_
  simp [cvT,step,res]
open Go.RowKit
def w1x (nl:Bool):PV:=.lit nl 1 [.s fun i=>[[49,120]].getD i []]
theorem out_00:outB 0 0 0=false:=by decide
theorem out_01:outB 0 0 1=false:=by decide
theorem out_11:outB 1 0 1=false:=by decide
theorem t49:(isBinV 49 || (49:Int)==42)=true:=by decide
theorem t120:(isBinV 120 || (120:Int)==42)=true:=by decide
theorem p49:passedV [49] 49=true:=by decide
theorem p120:passedV [49] 120=false:=by decide
theorem s1x:(([49,120]:List UInt8)==[])=false:=by decide
theorem at_1x (nl:Bool) (x:Int) (c:Int) (hx:(x=0∧c=49)∨(x=1∧c=120)) (nid:Nat):ACall Try.prog 44 [.agg [w1x nl,.str [49]],.agg [.int .i64 x,.int .i64 0]] [] nid (.int .u8 c) []:=by
 refine acall_run c44 (by simp [a44]) ?_
 unfold w1x
 rcases hx with ⟨rfl,rfl⟩ | ⟨rfl,rfl⟩
 ·simp -dsimp only [a44,aqT,aqU,aqN,aqP,aqM,↓seqK,↓blkK,↓loopK,step,stepBin,eqB,Nat.reduceBEq,Nat.reduceBeqDiff,Nat.add_assoc nid,Nat.reduceAdd,reduceCtorEq,↓reduceIte,Nat.reduceLeDiff,Nat.reduceBneDiff,Option.toList,← Int.ofNat_tmod,← Int.ofNat_tdiv,Nat.reduceLT,z0,Int.cast_ofNat_Int,Int.reduceBEq,Int.reduceBNe,Int.reduceLT,Int.reduceLE,Int.reduceAdd,Int.reduceSub,Int.reduceMul,Int.reduceToNat,Int.reduceNeg,Int.reduceTMod,Int.reduceEq,not_false_eq_true,Int.reducePow,Int.reduceFDiv,Nat.reducePow,Nat.reduceSub,Nat.reduceMul,Nat.min_eq_left,Nat.reduceEqDiff,BEq.rfl,Int.tdiv_one,LN_succ]
  refine ⟨by unfold inI64; omega,CallX.pure (out_c _ _ _ _) ?_⟩
  simp -dsimp only [aqT,aqU,aqN,aqP,aqM,↓seqK,↓blkK,↓loopK,step,stepBin,eqB,Nat.reduceBEq,Nat.reduceBeqDiff,Nat.add_assoc nid,Nat.reduceAdd,reduceCtorEq,↓reduceIte,Nat.reduceLeDiff,Nat.reduceBneDiff,Option.toList,← Int.ofNat_tmod,← Int.ofNat_tdiv,Nat.reduceLT,z0,Int.cast_ofNat_Int,Int.reduceBEq,Int.reduceBNe,Int.reduceLT,Int.reduceLE,Int.reduceAdd,Int.reduceSub,Int.reduceMul,Int.reduceToNat,Int.reduceNeg,Int.reduceTMod,Int.reduceEq,not_false_eq_true,Int.reducePow,Int.reduceFDiv,Nat.reducePow,Nat.reduceSub,Nat.reduceMul,Nat.min_eq_left,Nat.reduceEqDiff,BEq.rfl,Int.tdiv_one,LN_succ,out_00,List.getD_cons_zero]
  refine ⟨by unfold inI64; omega,CallX.pure (out_c _ _ _ _) ?_⟩
  simp -dsimp only [aqT,aqU,aqN,aqP,aqM,↓seqK,↓blkK,↓loopK,step,stepBin,eqB,Nat.reduceBEq,Nat.reduceBeqDiff,Nat.add_assoc nid,Nat.reduceAdd,reduceCtorEq,↓reduceIte,Nat.reduceLeDiff,Nat.reduceBneDiff,Option.toList,← Int.ofNat_tmod,← Int.ofNat_tdiv,Nat.reduceLT,z0,Int.cast_ofNat_Int,Int.reduceBEq,Int.reduceBNe,Int.reduceLT,Int.reduceLE,Int.reduceAdd,Int.reduceSub,Int.reduceMul,Int.reduceToNat,Int.reduceNeg,Int.reduceTMod,Int.reduceEq,not_false_eq_true,Int.reducePow,Int.reduceFDiv,Nat.reducePow,Nat.reduceSub,Nat.reduceMul,Nat.min_eq_left,Nat.reduceEqDiff,BEq.rfl,Int.tdiv_one,LN_succ,out_01,List.getD_cons_zero]
  refine RetOK.pure (.inl rfl) rfl ?_
  simp [retPV,over,keys,List.map_nil,List.map_cons,List.contains_cons,List.contains_nil,Bool.or_false,Bool.or_true,Bool.true_or,Bool.false_or,beq_self_eq_true,cond_true,cond_false,HeapCov,orNil,nilSz,onBlk,srcOf,getH_hit,getH_miss,getH.eq_1,getS_hit,getS_miss,getS.eq_1,BlkCov,MEq,PVCovs,PVCov,ColsEq,AColsEq,ACEq,ColEq.refl,liveIds,SlotsCov,List.all_nil,List.all_cons,List.any_nil,List.any_cons,List.nil_append,List.cons_append,inRange,apart,nilBlk,idS1,idS2,readAll,readRes,onAll,step,res,AX.val,List.drop_zero,List.drop_succ_cons,List.take_succ_cons,List.take_zero]
 ·simp -dsimp only [a44,aqT,aqU,aqN,aqP,aqM,↓seqK,↓blkK,↓loopK,step,stepBin,eqB,Nat.reduceBEq,Nat.reduceBeqDiff,Nat.add_assoc nid,Nat.reduceAdd,reduceCtorEq,↓reduceIte,Nat.reduceLeDiff,Nat.reduceBneDiff,Option.toList,← Int.ofNat_tmod,← Int.ofNat_tdiv,Nat.reduceLT,z0,Int.cast_ofNat_Int,Int.reduceBEq,Int.reduceBNe,Int.reduceLT,Int.reduceLE,Int.reduceAdd,Int.reduceSub,Int.reduceMul,Int.reduceToNat,Int.reduceNeg,Int.reduceTMod,Int.reduceEq,not_false_eq_true,Int.reducePow,Int.reduceFDiv,Nat.reducePow,Nat.reduceSub,Nat.reduceMul,Nat.min_eq_left,Nat.reduceEqDiff,BEq.rfl,Int.tdiv_one,LN_succ]
  refine ⟨by unfold inI64; omega,CallX.pure (out_c _ _ _ _) ?_⟩
  simp -dsimp only [aqT,aqU,aqN,aqP,aqM,↓seqK,↓blkK,↓loopK,step,stepBin,eqB,Nat.reduceBEq,Nat.reduceBeqDiff,Nat.add_assoc nid,Nat.reduceAdd,reduceCtorEq,↓reduceIte,Nat.reduceLeDiff,Nat.reduceBneDiff,Option.toList,← Int.ofNat_tmod,← Int.ofNat_tdiv,Nat.reduceLT,z0,Int.cast_ofNat_Int,Int.reduceBEq,Int.reduceBNe,Int.reduceLT,Int.reduceLE,Int.reduceAdd,Int.reduceSub,Int.reduceMul,Int.reduceToNat,Int.reduceNeg,Int.reduceTMod,Int.reduceEq,not_false_eq_true,Int.reducePow,Int.reduceFDiv,Nat.reducePow,Nat.reduceSub,Nat.reduceMul,Nat.min_eq_left,Nat.reduceEqDiff,BEq.rfl,Int.tdiv_one,LN_succ,out_00,List.getD_cons_zero]
  refine ⟨by unfold inI64; omega,CallX.pure (out_c _ _ _ _) ?_⟩
  simp -dsimp only [aqT,aqU,aqN,aqP,aqM,↓seqK,↓blkK,↓loopK,step,stepBin,eqB,Nat.reduceBEq,Nat.reduceBeqDiff,Nat.add_assoc nid,Nat.reduceAdd,reduceCtorEq,↓reduceIte,Nat.reduceLeDiff,Nat.reduceBneDiff,Option.toList,← Int.ofNat_tmod,← Int.ofNat_tdiv,Nat.reduceLT,z0,Int.cast_ofNat_Int,Int.reduceBEq,Int.reduceBNe,Int.reduceLT,Int.reduceLE,Int.reduceAdd,Int.reduceSub,Int.reduceMul,Int.reduceToNat,Int.reduceNeg,Int.reduceTMod,Int.reduceEq,not_false_eq_true,Int.reducePow,Int.reduceFDiv,Nat.reducePow,Nat.reduceSub,Nat.reduceMul,Nat.min_eq_left,Nat.reduceEqDiff,BEq.rfl,Int.tdiv_one,LN_succ,out_11,List.getD_cons_zero]
  refine RetOK.pure (.inl rfl) rfl ?_
  simp [retPV,over,keys,List.map_nil,List.map_cons,List.contains_cons,List.contains_nil,Bool.or_false,Bool.or_true,Bool.true_or,Bool.false_or,beq_self_eq_true,cond_true,cond_false,HeapCov,orNil,nilSz,onBlk,srcOf,getH_hit,getH_miss,getH.eq_1,getS_hit,getS_miss,getS.eq_1,BlkCov,MEq,PVCovs,PVCov,ColsEq,AColsEq,ACEq,ColEq.refl,liveIds,SlotsCov,List.all_nil,List.all_cons,List.any_nil,List.any_cons,List.nil_append,List.cons_append,inRange,apart,nilBlk,idS1,idS2,readAll,readRes,onAll,step,res,AX.val,List.drop_zero,List.drop_succ_cons,List.take_succ_cons,List.take_zero]
theorem places_c (nl:Bool) (nid:Nat):ACall Try.prog 43 [.agg [w1x nl,.str [49]]] [] nid (.sl nid 0 2) [(nid,some (.arr 46 2 [.i .i64 fun i=>[0,1].getD i 0,.i .i64 fun i=>[0,0].getD i 0]))]:=by
 refine acall_run c43 (by simp [a43]) ?_
 unfold w1x
 simp -dsimp only [a43,aqT,aqU,aqN,aqP,aqM,↓seqK,↓blkK,↓loopK,step,stepBin,eqB,Nat.reduceBEq,Nat.reduceBeqDiff,Nat.add_assoc nid,Nat.reduceAdd,reduceCtorEq,↓reduceIte,Nat.reduceLeDiff,Nat.reduceBneDiff,Option.toList,← Int.ofNat_tmod,← Int.ofNat_tdiv,Nat.reduceLT,z0,Int.cast_ofNat_Int,Int.reduceBEq,Int.reduceBNe,Int.reduceLT,Int.reduceLE,Int.reduceAdd,Int.reduceSub,Int.reduceMul,Int.reduceToNat,Int.reduceNeg,Int.reduceTMod,Int.reduceEq,not_false_eq_true,Int.reducePow,Int.reduceFDiv,Nat.reducePow,Nat.reduceSub,Nat.reduceMul,Nat.min_eq_left,Nat.reduceEqDiff,BEq.rfl,Int.tdiv_one,LN_succ]
 refine LP.rounds 3 ?_
 simp -dsimp only [aqT,aqU,aqN,aqP,aqM,↓seqK,↓blkK,↓loopK,step,stepBin,eqB,Nat.reduceBEq,Nat.reduceBeqDiff,Nat.add_assoc nid,Nat.reduceAdd,reduceCtorEq,↓reduceIte,Nat.reduceLeDiff,Nat.reduceBneDiff,Option.toList,← Int.ofNat_tmod,← Int.ofNat_tdiv,Nat.reduceLT,z0,Int.cast_ofNat_Int,Int.reduceBEq,Int.reduceBNe,Int.reduceLT,Int.reduceLE,Int.reduceAdd,Int.reduceSub,Int.reduceMul,Int.reduceToNat,Int.reduceNeg,Int.reduceTMod,Int.reduceEq,not_false_eq_true,Int.reducePow,Int.reduceFDiv,Nat.reducePow,Nat.reduceSub,Nat.reduceMul,Nat.min_eq_left,Nat.reduceEqDiff,BEq.rfl,Int.tdiv_one,LN_succ,List.getD_cons_zero]
 refine LP.rounds 4 ?_
 simp -dsimp only [aqT,aqU,aqN,aqP,aqM,↓seqK,↓blkK,↓loopK,step,stepBin,eqB,Nat.reduceBEq,Nat.reduceBeqDiff,Nat.add_assoc nid,Nat.reduceAdd,reduceCtorEq,↓reduceIte,Nat.reduceLeDiff,Nat.reduceBneDiff,Option.toList,← Int.ofNat_tmod,← Int.ofNat_tdiv,Nat.reduceLT,z0,Int.cast_ofNat_Int,Int.reduceBEq,Int.reduceBNe,Int.reduceLT,Int.reduceLE,Int.reduceAdd,Int.reduceSub,Int.reduceMul,Int.reduceToNat,Int.reduceNeg,Int.reduceTMod,Int.reduceEq,not_false_eq_true,Int.reducePow,Int.reduceFDiv,Nat.reducePow,Nat.reduceSub,Nat.reduceMul,Nat.min_eq_left,Nat.reduceEqDiff,BEq.rfl,Int.tdiv_one,LN_succ,List.getD_cons_zero]
 refine ⟨by unfold inI64; omega,by unfold inI64; omega,by unfold inI64; omega,RetOK.go [(nid,nid+144)] [] (.inl rfl) ?_⟩
 simp [a43,retPV,over,keys,List.map_nil,List.map_cons,List.contains_cons,List.contains_nil,Bool.or_false,Bool.or_true,Bool.true_or,Bool.false_or,beq_self_eq_true,cond_true,cond_false,HeapCov,orNil,nilSz,onBlk,srcOf,getH_hit,getH_miss,getH.eq_1,getS_hit,getS_miss,getS.eq_1,BlkCov,MEq,PVCovs,PVCov,ColsEq,AColsEq,ACEq,ColEq.refl,liveIds,SlotsCov,List.all_nil,List.all_cons,List.any_nil,List.any_cons,List.nil_append,List.cons_append,inRange,apart,nilBlk,idS1,idS2,readAll,readRes,onAll,step,res,AX.val,List.drop_zero,List.drop_succ_cons,List.take_succ_cons,List.take_zero]
 constructor <;> refine ColEq.i fun i hi=>?_ <;> (have:i=0∨i=1:=by omega) <;> rcases this with rfl | rfl <;> simp
theorem share_c (nl nlp:Bool) (nid:Nat):ACall Try.prog 81 [.agg [w1x nl,.str [49]],.lit nlp 2 [.i .i64 fun i=>[0,1].getD i 0,.i .i64 fun i=>[0,0].getD i 0]] [] nid (.tup [.int .i64 1,.int .i64 2]) []:=by
 refine acall_run c81 (by simp [a81]) ?_
 unfold w1x
 simp -dsimp only [a81,aqT,aqU,aqN,aqP,aqM,↓seqK,↓blkK,↓loopK,step,stepBin,eqB,Nat.reduceBEq,Nat.reduceBeqDiff,Nat.add_assoc nid,Nat.reduceAdd,reduceCtorEq,↓reduceIte,Nat.reduceLeDiff,Nat.reduceBneDiff,Option.toList,← Int.ofNat_tmod,← Int.ofNat_tdiv,Nat.reduceLT,z0,Int.cast_ofNat_Int,Int.reduceBEq,Int.reduceBNe,Int.reduceLT,Int.reduceLE,Int.reduceAdd,Int.reduceSub,Int.reduceMul,Int.reduceToNat,Int.reduceNeg,Int.reduceTMod,Int.reduceEq,not_false_eq_true,Int.reducePow,Int.reduceFDiv,Nat.reducePow,Nat.reduceSub,Nat.reduceMul,Nat.min_eq_left,Nat.reduceEqDiff,BEq.rfl,Int.tdiv_one,LN_succ]
 refine LP.rounds 4 ?_
 simp -dsimp only [aqT,aqU,aqN,aqP,aqM,↓seqK,↓blkK,↓loopK,step,stepBin,eqB,Nat.reduceBEq,Nat.reduceBeqDiff,Nat.add_assoc nid,Nat.reduceAdd,reduceCtorEq,↓reduceIte,Nat.reduceLeDiff,Nat.reduceBneDiff,Option.toList,← Int.ofNat_tmod,← Int.ofNat_tdiv,Nat.reduceLT,z0,Int.cast_ofNat_Int,Int.reduceBEq,Int.reduceBNe,Int.reduceLT,Int.reduceLE,Int.reduceAdd,Int.reduceSub,Int.reduceMul,Int.reduceToNat,Int.reduceNeg,Int.reduceTMod,Int.reduceEq,not_false_eq_true,Int.reducePow,Int.reduceFDiv,Nat.reducePow,Nat.reduceSub,Nat.reduceMul,Nat.min_eq_left,Nat.reduceEqDiff,BEq.rfl,Int.tdiv_one,LN_succ,List.getD_cons_zero,List.getD_cons_succ]
 refine CallO.pure (at_1x nl 0 49 (.inl ⟨rfl,rfl⟩) _) ?_
 simp -dsimp only [aqT,aqU,aqN,aqP,aqM,↓seqK,↓blkK,↓loopK,step,stepBin,eqB,Nat.reduceBEq,Nat.reduceBeqDiff,Nat.add_assoc nid,Nat.reduceAdd,reduceCtorEq,↓reduceIte,Nat.reduceLeDiff,Nat.reduceBneDiff,Option.toList,← Int.ofNat_tmod,← Int.ofNat_tdiv,Nat.reduceLT,z0,Int.cast_ofNat_Int,Int.reduceBEq,Int.reduceBNe,Int.reduceLT,Int.reduceLE,Int.reduceAdd,Int.reduceSub,Int.reduceMul,Int.reduceToNat,Int.reduceNeg,Int.reduceTMod,Int.reduceEq,not_false_eq_true,Int.reducePow,Int.reduceFDiv,Nat.reducePow,Nat.reduceSub,Nat.reduceMul,Nat.min_eq_left,Nat.reduceEqDiff,BEq.rfl,Int.tdiv_one,LN_succ]
 refine CallO.pure (tested_c _ _) ?_
 rw [t49]
 simp -dsimp only [aqT,aqU,aqN,aqP,aqM,↓seqK,↓blkK,↓loopK,step,stepBin,eqB,Nat.reduceBEq,Nat.reduceBeqDiff,Nat.add_assoc nid,Nat.reduceAdd,reduceCtorEq,↓reduceIte,Nat.reduceLeDiff,Nat.reduceBneDiff,Option.toList,← Int.ofNat_tmod,← Int.ofNat_tdiv,Nat.reduceLT,z0,Int.cast_ofNat_Int,Int.reduceBEq,Int.reduceBNe,Int.reduceLT,Int.reduceLE,Int.reduceAdd,Int.reduceSub,Int.reduceMul,Int.reduceToNat,Int.reduceNeg,Int.reduceTMod,Int.reduceEq,not_false_eq_true,Int.reducePow,Int.reduceFDiv,Nat.reducePow,Nat.reduceSub,Nat.reduceMul,Nat.min_eq_left,Nat.reduceEqDiff,BEq.rfl,Int.tdiv_one,LN_succ]
 refine ⟨by unfold inI64; omega,CallO.pure (passed_c _ _ _ _ _ _ _ rfl) ?_⟩
 rw [p49]
 simp -dsimp only [aqT,aqU,aqN,aqP,aqM,↓seqK,↓blkK,↓loopK,step,stepBin,eqB,Nat.reduceBEq,Nat.reduceBeqDiff,Nat.add_assoc nid,Nat.reduceAdd,reduceCtorEq,↓reduceIte,Nat.reduceLeDiff,Nat.reduceBneDiff,Option.toList,← Int.ofNat_tmod,← Int.ofNat_tdiv,Nat.reduceLT,z0,Int.cast_ofNat_Int,Int.reduceBEq,Int.reduceBNe,Int.reduceLT,Int.reduceLE,Int.reduceAdd,Int.reduceSub,Int.reduceMul,Int.reduceToNat,Int.reduceNeg,Int.reduceTMod,Int.reduceEq,not_false_eq_true,Int.reducePow,Int.reduceFDiv,Nat.reducePow,Nat.reduceSub,Nat.reduceMul,Nat.min_eq_left,Nat.reduceEqDiff,BEq.rfl,Int.tdiv_one,LN_succ,List.getD_cons_zero,List.getD_cons_succ]
 refine ⟨by unfold inI64; omega,by unfold inI64; omega,CallO.pure (at_1x nl 1 120 (.inr ⟨rfl,rfl⟩) _) ?_⟩
 simp -dsimp only [aqT,aqU,aqN,aqP,aqM,↓seqK,↓blkK,↓loopK,step,stepBin,eqB,Nat.reduceBEq,Nat.reduceBeqDiff,Nat.add_assoc nid,Nat.reduceAdd,reduceCtorEq,↓reduceIte,Nat.reduceLeDiff,Nat.reduceBneDiff,Option.toList,← Int.ofNat_tmod,← Int.ofNat_tdiv,Nat.reduceLT,z0,Int.cast_ofNat_Int,Int.reduceBEq,Int.reduceBNe,Int.reduceLT,Int.reduceLE,Int.reduceAdd,Int.reduceSub,Int.reduceMul,Int.reduceToNat,Int.reduceNeg,Int.reduceTMod,Int.reduceEq,not_false_eq_true,Int.reducePow,Int.reduceFDiv,Nat.reducePow,Nat.reduceSub,Nat.reduceMul,Nat.min_eq_left,Nat.reduceEqDiff,BEq.rfl,Int.tdiv_one,LN_succ]
 refine CallO.pure (tested_c _ _) ?_
 rw [t120]
 simp -dsimp only [aqT,aqU,aqN,aqP,aqM,↓seqK,↓blkK,↓loopK,step,stepBin,eqB,Nat.reduceBEq,Nat.reduceBeqDiff,Nat.add_assoc nid,Nat.reduceAdd,reduceCtorEq,↓reduceIte,Nat.reduceLeDiff,Nat.reduceBneDiff,Option.toList,← Int.ofNat_tmod,← Int.ofNat_tdiv,Nat.reduceLT,z0,Int.cast_ofNat_Int,Int.reduceBEq,Int.reduceBNe,Int.reduceLT,Int.reduceLE,Int.reduceAdd,Int.reduceSub,Int.reduceMul,Int.reduceToNat,Int.reduceNeg,Int.reduceTMod,Int.reduceEq,not_false_eq_true,Int.reducePow,Int.reduceFDiv,Nat.reducePow,Nat.reduceSub,Nat.reduceMul,Nat.min_eq_left,Nat.reduceEqDiff,BEq.rfl,Int.tdiv_one,LN_succ]
 refine ⟨by unfold inI64; omega,CallO.pure (passed_c _ _ _ _ _ _ _ rfl) ?_⟩
 rw [p120]
 simp -dsimp only [aqT,aqU,aqN,aqP,aqM,↓seqK,↓blkK,↓loopK,step,stepBin,eqB,Nat.reduceBEq,Nat.reduceBeqDiff,Nat.add_assoc nid,Nat.reduceAdd,reduceCtorEq,↓reduceIte,Nat.reduceLeDiff,Nat.reduceBneDiff,Option.toList,← Int.ofNat_tmod,← Int.ofNat_tdiv,Nat.reduceLT,z0,Int.cast_ofNat_Int,Int.reduceBEq,Int.reduceBNe,Int.reduceLT,Int.reduceLE,Int.reduceAdd,Int.reduceSub,Int.reduceMul,Int.reduceToNat,Int.reduceNeg,Int.reduceTMod,Int.reduceEq,not_false_eq_true,Int.reducePow,Int.reduceFDiv,Nat.reducePow,Nat.reduceSub,Nat.reduceMul,Nat.min_eq_left,Nat.reduceEqDiff,BEq.rfl,Int.tdiv_one,LN_succ,List.getD_cons_zero,List.getD_cons_succ]
 refine ⟨by unfold inI64; omega,RetOK.pure (.inl rfl) rfl ?_⟩
 simp [retPV,over,keys,List.map_nil,List.map_cons,List.contains_cons,List.contains_nil,Bool.or_false,Bool.or_true,Bool.true_or,Bool.false_or,beq_self_eq_true,cond_true,cond_false,HeapCov,orNil,nilSz,onBlk,srcOf,getH_hit,getH_miss,getH.eq_1,getS_hit,getS_miss,getS.eq_1,BlkCov,MEq,PVCovs,PVCov,ColsEq,AColsEq,ACEq,ColEq.refl,liveIds,SlotsCov,List.all_nil,List.all_cons,List.any_nil,List.any_cons,List.nil_append,List.cons_append,inRange,apart,nilBlk,idS1,idS2,readAll,readRes,onAll,step,res,AX.val,List.drop_zero,List.drop_succ_cons,List.take_succ_cons,List.take_zero]
theorem checkWafer_c (nl:Bool) (nid:Nat):ACall Try.prog 40 [.agg [w1x nl,.str [49]]] [] nid (.int .i64 0) []:=by
 refine acall_run c40 (by simp [a40]) ?_
 unfold w1x
 simp -dsimp only [a40,aqT,aqU,aqN,aqP,aqM,↓seqK,↓blkK,↓loopK,step,stepBin,eqB,Nat.reduceBEq,Nat.reduceBeqDiff,Nat.add_assoc nid,Nat.reduceAdd,reduceCtorEq,↓reduceIte,Nat.reduceLeDiff,Nat.reduceBneDiff,Option.toList,← Int.ofNat_tmod,← Int.ofNat_tdiv,Nat.reduceLT,z0,Int.cast_ofNat_Int,Int.reduceBEq,Int.reduceBNe,Int.reduceLT,Int.reduceLE,Int.reduceAdd,Int.reduceSub,Int.reduceMul,Int.reduceToNat,Int.reduceNeg,Int.reduceTMod,Int.reduceEq,not_false_eq_true,Int.reducePow,Int.reduceFDiv,Nat.reducePow,Nat.reduceSub,Nat.reduceMul,Nat.min_eq_left,Nat.reduceEqDiff,BEq.rfl,Int.tdiv_one,LN_succ]
 refine LP.rounds 3 ?_
 simp -dsimp only [aqT,aqU,aqN,aqP,aqM,↓seqK,↓blkK,↓loopK,step,stepBin,eqB,Nat.reduceBEq,Nat.reduceBeqDiff,Nat.add_assoc nid,Nat.reduceAdd,reduceCtorEq,↓reduceIte,Nat.reduceLeDiff,Nat.reduceBneDiff,Option.toList,← Int.ofNat_tmod,← Int.ofNat_tdiv,Nat.reduceLT,z0,Int.cast_ofNat_Int,Int.reduceBEq,Int.reduceBNe,Int.reduceLT,Int.reduceLE,Int.reduceAdd,Int.reduceSub,Int.reduceMul,Int.reduceToNat,Int.reduceNeg,Int.reduceTMod,Int.reduceEq,not_false_eq_true,Int.reducePow,Int.reduceFDiv,Nat.reducePow,Nat.reduceSub,Nat.reduceMul,Nat.min_eq_left,Nat.reduceEqDiff,BEq.rfl,Int.tdiv_one,LN_succ,List.getD_cons_zero,List.getD_cons_succ,s1x]
 refine CallO.pure (odd_c' [49,120] _ (by simp) (fun i hi=>by
  have:i=0∨i=1:=by simp at hi; omega
  rcases this with rfl | rfl <;> decide)) ?_
 simp -dsimp only [aqT,aqU,aqN,aqP,aqM,↓seqK,↓blkK,↓loopK,step,stepBin,eqB,Nat.reduceBEq,Nat.reduceBeqDiff,Nat.add_assoc nid,Nat.reduceAdd,reduceCtorEq,↓reduceIte,Nat.reduceLeDiff,Nat.reduceBneDiff,Option.toList,← Int.ofNat_tmod,← Int.ofNat_tdiv,Nat.reduceLT,z0,Int.cast_ofNat_Int,Int.reduceBEq,Int.reduceBNe,Int.reduceLT,Int.reduceLE,Int.reduceAdd,Int.reduceSub,Int.reduceMul,Int.reduceToNat,Int.reduceNeg,Int.reduceTMod,Int.reduceEq,not_false_eq_true,Int.reducePow,Int.reduceFDiv,Nat.reducePow,Nat.reduceSub,Nat.reduceMul,Nat.min_eq_left,Nat.reduceEqDiff,BEq.rfl,Int.tdiv_one,LN_succ,List.getD_cons_zero,List.getD_cons_succ,s1x]
 refine ⟨by unfold inI64; omega,LP.rounds 3 ?_⟩
 simp -dsimp only [aqT,aqU,aqN,aqP,aqM,↓seqK,↓blkK,↓loopK,step,stepBin,eqB,Nat.reduceBEq,Nat.reduceBeqDiff,Nat.add_assoc nid,Nat.reduceAdd,reduceCtorEq,↓reduceIte,Nat.reduceLeDiff,Nat.reduceBneDiff,Option.toList,← Int.ofNat_tmod,← Int.ofNat_tdiv,Nat.reduceLT,z0,Int.cast_ofNat_Int,Int.reduceBEq,Int.reduceBNe,Int.reduceLT,Int.reduceLE,Int.reduceAdd,Int.reduceSub,Int.reduceMul,Int.reduceToNat,Int.reduceNeg,Int.reduceTMod,Int.reduceEq,not_false_eq_true,Int.reducePow,Int.reduceFDiv,Nat.reducePow,Nat.reduceSub,Nat.reduceMul,Nat.min_eq_left,Nat.reduceEqDiff,BEq.rfl,Int.tdiv_one,LN_succ,List.getD_cons_zero,List.getD_cons_succ,s1x]
 refine CallO.pure (isBin_c _ _) ?_
 have b49:isBinV ((UInt8.toNat 49:Nat):Int)=true:=by decide
 rw [b49]
 simp -dsimp only [aqT,aqU,aqN,aqP,aqM,↓seqK,↓blkK,↓loopK,step,stepBin,eqB,Nat.reduceBEq,Nat.reduceBeqDiff,Nat.add_assoc nid,Nat.reduceAdd,reduceCtorEq,↓reduceIte,Nat.reduceLeDiff,Nat.reduceBneDiff,Option.toList,← Int.ofNat_tmod,← Int.ofNat_tdiv,Nat.reduceLT,z0,Int.cast_ofNat_Int,Int.reduceBEq,Int.reduceBNe,Int.reduceLT,Int.reduceLE,Int.reduceAdd,Int.reduceSub,Int.reduceMul,Int.reduceToNat,Int.reduceNeg,Int.reduceTMod,Int.reduceEq,not_false_eq_true,Int.reducePow,Int.reduceFDiv,Nat.reducePow,Nat.reduceSub,Nat.reduceMul,Nat.min_eq_left,Nat.reduceEqDiff,BEq.rfl,Int.tdiv_one,LN_succ,List.getD_cons_zero,List.getD_cons_succ,s1x]
 refine ⟨by unfold inI64; omega,RetOK.pure (.inl rfl) rfl ?_⟩
 simp [retPV,over,keys,List.map_nil,List.map_cons,List.contains_cons,List.contains_nil,Bool.or_false,Bool.or_true,Bool.true_or,Bool.false_or,beq_self_eq_true,cond_true,cond_false,HeapCov,orNil,nilSz,onBlk,srcOf,getH_hit,getH_miss,getH.eq_1,getS_hit,getS_miss,getS.eq_1,BlkCov,MEq,PVCovs,PVCov,ColsEq,AColsEq,ACEq,ColEq.refl,liveIds,SlotsCov,List.all_nil,List.all_cons,List.any_nil,List.any_cons,List.nil_append,List.cons_append,inRange,apart,nilBlk,idS1,idS2,readAll,readRes,onAll,step,res,AX.val,List.drop_zero,List.drop_succ_cons,List.take_succ_cons,List.take_zero]
theorem yield_c (nl:Bool) (nid:Nat):ACall Try.prog 60 [.agg [w1x nl,.str [49]]] [] nid (.tup [.agg [.int .i64 1,.int .i64 2],.bool true,.int .i64 0]) []:=by
 refine acall_run c60 (by simp [a60]) ?_
 unfold w1x
 simp -dsimp only [a60,aqT,aqU,aqN,aqP,aqM,↓seqK,↓blkK,↓loopK,step,stepBin,eqB,Nat.reduceBEq,Nat.reduceBeqDiff,Nat.add_assoc nid,Nat.reduceAdd,reduceCtorEq,↓reduceIte,Nat.reduceLeDiff,Nat.reduceBneDiff,Option.toList,← Int.ofNat_tmod,← Int.ofNat_tdiv,Nat.reduceLT,z0,Int.cast_ofNat_Int,Int.reduceBEq,Int.reduceBNe,Int.reduceLT,Int.reduceLE,Int.reduceAdd,Int.reduceSub,Int.reduceMul,Int.reduceToNat,Int.reduceNeg,Int.reduceTMod,Int.reduceEq,not_false_eq_true,Int.reducePow,Int.reduceFDiv,Nat.reducePow,Nat.reduceSub,Nat.reduceMul,Nat.min_eq_left,Nat.reduceEqDiff,BEq.rfl,Int.tdiv_one,LN_succ]
 refine CallO.pure (checkWafer_c nl _) ?_
 simp -dsimp only [aqT,aqU,aqN,aqP,aqM,↓seqK,↓blkK,↓loopK,step,stepBin,eqB,Nat.reduceBEq,Nat.reduceBeqDiff,Nat.add_assoc nid,Nat.reduceAdd,reduceCtorEq,↓reduceIte,Nat.reduceLeDiff,Nat.reduceBneDiff,Option.toList,← Int.ofNat_tmod,← Int.ofNat_tdiv,Nat.reduceLT,z0,Int.cast_ofNat_Int,Int.reduceBEq,Int.reduceBNe,Int.reduceLT,Int.reduceLE,Int.reduceAdd,Int.reduceSub,Int.reduceMul,Int.reduceToNat,Int.reduceNeg,Int.reduceTMod,Int.reduceEq,not_false_eq_true,Int.reducePow,Int.reduceFDiv,Nat.reducePow,Nat.reduceSub,Nat.reduceMul,Nat.min_eq_left,Nat.reduceEqDiff,BEq.rfl,Int.tdiv_one,LN_succ]
 refine CallX.pure (places_c nl _) ?_
 simp -dsimp only [aqT,aqU,aqN,aqP,aqM,↓seqK,↓blkK,↓loopK,step,stepBin,eqB,Nat.reduceBEq,Nat.reduceBeqDiff,Nat.add_assoc nid,Nat.reduceAdd,reduceCtorEq,↓reduceIte,Nat.reduceLeDiff,Nat.reduceBneDiff,Option.toList,← Int.ofNat_tmod,← Int.ofNat_tdiv,Nat.reduceLT,z0,Int.cast_ofNat_Int,Int.reduceBEq,Int.reduceBNe,Int.reduceLT,Int.reduceLE,Int.reduceAdd,Int.reduceSub,Int.reduceMul,Int.reduceToNat,Int.reduceNeg,Int.reduceTMod,Int.reduceEq,not_false_eq_true,Int.reducePow,Int.reduceFDiv,Nat.reducePow,Nat.reduceSub,Nat.reduceMul,Nat.min_eq_left,Nat.reduceEqDiff,BEq.rfl,Int.tdiv_one,LN_succ]
 refine CallX.gave [nid+44] (fun nl'=>by
  simp only [lends,lend,aqT,aqU,aqN,aqP,aqM,↓seqK,↓blkK,↓loopK,step,stepBin,eqB,Nat.reduceBEq,Nat.reduceBeqDiff,Nat.add_assoc nid,Nat.reduceAdd,reduceCtorEq,↓reduceIte,Nat.reduceLeDiff,Nat.reduceBneDiff,Option.toList,← Int.ofNat_tmod,← Int.ofNat_tdiv,Nat.reduceLT,z0]
  exact share_c nl (nl' _) _) (by simp [getH]) ?_
 simp -dsimp only [aqT,aqU,aqN,aqP,aqM,↓seqK,↓blkK,↓loopK,step,stepBin,eqB,Nat.reduceBEq,Nat.reduceBeqDiff,Nat.add_assoc nid,Nat.reduceAdd,reduceCtorEq,↓reduceIte,Nat.reduceLeDiff,Nat.reduceBneDiff,Option.toList,← Int.ofNat_tmod,← Int.ofNat_tdiv,Nat.reduceLT,z0,Int.cast_ofNat_Int,Int.reduceBEq,Int.reduceBNe,Int.reduceLT,Int.reduceLE,Int.reduceAdd,Int.reduceSub,Int.reduceMul,Int.reduceToNat,Int.reduceNeg,Int.reduceTMod,Int.reduceEq,not_false_eq_true,Int.reducePow,Int.reduceFDiv,Nat.reducePow,Nat.reduceSub,Nat.reduceMul,Nat.min_eq_left,Nat.reduceEqDiff,BEq.rfl,Int.tdiv_one,LN_succ,kill]
 refine CallO.pure (frac12_c _) ?_
 simp -dsimp only [aqT,aqU,aqN,aqP,aqM,↓seqK,↓blkK,↓loopK,step,stepBin,eqB,Nat.reduceBEq,Nat.reduceBeqDiff,Nat.add_assoc nid,Nat.reduceAdd,reduceCtorEq,↓reduceIte,Nat.reduceLeDiff,Nat.reduceBneDiff,Option.toList,← Int.ofNat_tmod,← Int.ofNat_tdiv,Nat.reduceLT,z0,Int.cast_ofNat_Int,Int.reduceBEq,Int.reduceBNe,Int.reduceLT,Int.reduceLE,Int.reduceAdd,Int.reduceSub,Int.reduceMul,Int.reduceToNat,Int.reduceNeg,Int.reduceTMod,Int.reduceEq,not_false_eq_true,Int.reducePow,Int.reduceFDiv,Nat.reducePow,Nat.reduceSub,Nat.reduceMul,Nat.min_eq_left,Nat.reduceEqDiff,BEq.rfl,Int.tdiv_one,LN_succ]
 refine RetOK.go [] [] (.inl rfl) ?_
 simp [a60,retPV,over,keys,List.map_nil,List.map_cons,List.contains_cons,List.contains_nil,Bool.or_false,Bool.or_true,Bool.true_or,Bool.false_or,beq_self_eq_true,cond_true,cond_false,HeapCov,orNil,nilSz,onBlk,srcOf,getH_hit,getH_miss,getH.eq_1,getS_hit,getS_miss,getS.eq_1,BlkCov,MEq,PVCovs,PVCov,ColsEq,AColsEq,ACEq,ColEq.refl,liveIds,SlotsCov,List.all_nil,List.all_cons,List.any_nil,List.any_cons,List.nil_append,List.cons_append,inRange,apart,nilBlk,idS1,idS2,readAll,readRes,onAll,step,res,AX.val,List.drop_zero,List.drop_succ_cons,List.take_succ_cons,List.take_zero]
open Go.RowKit
theorem probed_c (nid:Nat):ACall Try.prog 21 [] [] nid (.bool true) []:=by
 refine acall_run c21 (by simp [a21]) ?_
 simp -dsimp only [aqA,↓seqK,↓blkK,↓loopK,step,stepBin,eqB,Nat.add_assoc nid,simprocAttr,z0,a21]
 refine CallO.gave [nid+4] (fun nl'=>by
  simp only [lends,lend,aqA,↓seqK,↓blkK,↓loopK,step,stepBin,eqB,Nat.add_assoc nid,simprocAttr,z0]
  exact yield_c (nl' _) _) (by simp [getH]) ?_
 simp -dsimp only [aqA,↓seqK,↓blkK,↓loopK,step,stepBin,eqB,Nat.add_assoc nid,simprocAttr,z0,Int.cast_ofNat_Int,Int.reduceBEq,Int.reduceBNe,Int.reduceLT,Int.reduceLE,Int.reduceAdd,Int.reduceSub,Int.reduceMul,Int.reduceToNat,Int.reduceNeg,Int.reduceTMod,Int.reduceEq,not_false_eq_true,Int.reducePow,Int.reduceFDiv,Nat.reducePow,Nat.reduceSub,Nat.reduceMul,Nat.min_eq_left,Nat.reduceEqDiff,BEq.rfl,Int.tdiv_one,LN_succ,kill]
 refine RetOK.pure (.inl rfl) rfl ?_
 simp [cvT,step,res]
open Go.RowKit
structure RowsB (n:Nat) (R:List (List UInt8)):Prop where
 len:R.length=n
 row:ShortRows 7 R
 asc:AscR R
theorem RowsB.set {n:Nat} {R:List (List UInt8)} (h:RowsB n R) (i:Nat) {x:List UInt8} (hx:AscS x) (hl:x.length≤7):RowsB n (R.set i x):=by
 refine ⟨by rw [List.length_set]; exact h.len,fun r hr=>?_,h.asc.set i hx⟩
 rcases List.mem_or_eq_of_mem_set hr with h1 | h1
 ·exact h.row r h1
 ·rw [h1]; exact hl
theorem getD_setR (R:List (List UInt8)) {i n:Nat} (hi:i<n) (hn:R.length=n) (x:List UInt8):(fun j=>if j=i then x else R.getD j [])=fun j=>(R.set i x).getD j []:=by
 funext j
 rw [List.getD_eq_getElem?_getD,List.getD_eq_getElem?_getD,List.getElem?_set]
 by_cases h:i=j
 ·subst h
  rw [if_pos rfl,if_pos rfl,if_pos (by omega)]
  rfl
 ·rw [if_neg (fun e=>h e.symm),if_neg h]
theorem some_ok (i:Nat):AscS ([[63],[63],[49],[46]].getD i []:List UInt8)∧([[63],[63],[49],[46]].getD i []:List UInt8).length≤1:=by
 rcases i with _ | _ | _ | _ | i <;> refine ⟨AscS.of (by simp),by simp⟩
theorem cut_ok {s g:List UInt8} {k:Nat} (hs:AscS s) (hl:s.length≤7) (hg:AscS g) (hgl:g.length≤1) (hk:k<s.length):AscS (s.take k++g++s.drop (k+1))∧(s.take k++g++s.drop (k+1)).length≤7:=by
 refine ⟨((AscS.app (fun c hc=>hs c (List.mem_of_mem_take hc)) hg)).app (fun c hc=>hs c (List.mem_of_mem_drop hc)),?_⟩
 simp only [List.length_append,List.length_take,List.length_drop]
 omega
def sbox (n:Nat) (P:List UInt8) (j:Nat):Option ABlk:=some (.box 28 [.sl j 0 n,.str P])
def arrN (n:Nat) (R:List (List UInt8)):Option ABlk:=some (.arr 9 n [.s fun i=>R.getD i []])
theorem pair_of {A B:Waf} (bA:WafBd A) (bB:WafBd B) (h:bothV A B=0):Pair2 A B:=by
 unfold bothV at h
 by_cases h1:waferV A=0
 ·rw [if_neg (by simp [h1])] at h
  by_cases h2:waferV B=0
  ·rw [if_neg (by simp [h2])] at h
   unfold pairV at h
   split at h
   ·cases h
   ·rename_i h3
    simp only [not_or,Decidable.not_not] at h3
    exact ⟨h1,h2,h3.1,h3.2.1,h3.2.2,bA,bB⟩
  ·rw [if_pos h2] at h; exact absurd h h2
 ·rw [if_pos h1] at h; exact absurd h h1
set_option maxHeartbeats 16000000 in
theorem wafersCompared_c (nl : Bool) (A : List Int) (nid : Nat) (hA : A.length ≤ 17592186044416) : ACall Try.prog 3 [litI nl A] [] nid (.bool true) [] := by
  refine acall_sr c3 (by simp [a3]) ?_
  unfold a3 litI
  refine SR.seq ?_
  simp -dsimp only [aqA,↓seqK,↓blkK,↓loopK,step,stepBin,eqB,Nat.add_assoc nid,simprocAttr,z0,Int.cast_ofNat_Int,Int.reduceBEq,Int.reduceBNe,Int.reduceLT,Int.reduceLE,Int.reduceAdd,Int.reduceSub,Int.reduceMul,Int.reduceToNat,Int.reduceNeg,Int.reduceTMod,Int.reduceEq,not_false_eq_true,Int.reducePow,Int.reduceFDiv,Nat.reducePow,Nat.reduceSub,Nat.reduceMul,Nat.min_eq_left,Nat.reduceEqDiff,BEq.rfl,Int.tdiv_one,LN_succ]
  refine SR.seq ?_
  simp -dsimp only [aqA,↓seqK,↓blkK,↓loopK,step,stepBin,eqB,Nat.add_assoc nid,simprocAttr,z0,Int.cast_ofNat_Int,Int.reduceBEq,Int.reduceBNe,Int.reduceLT,Int.reduceLE,Int.reduceAdd,Int.reduceSub,Int.reduceMul,Int.reduceToNat,Int.reduceNeg,Int.reduceTMod,Int.reduceEq,not_false_eq_true,Int.reducePow,Int.reduceFDiv,Nat.reducePow,Nat.reduceSub,Nat.reduceMul,Nat.min_eq_left,Nat.reduceEqDiff,BEq.rfl,Int.tdiv_one,LN_succ]
  refine SR.seqEx (ι := {x : Waf × Nat // (WafSmall x.1 ∧ AscR x.1.rows) ∧ x.2 ≤ 60}) (fun x => ⟨[(3,.ptr (nid + 12) 0),(4,.ptr (nid + 4) 0)],[(nid + 12,strmC nl A x.1.2),(nid + 4,some (.box 28 [.sl (nid + 8) 0 x.1.1.rows.length,.str x.1.1.pass])),(nid + 8,arrS x.1.1.rows)],nid + 200,nid⟩) ?_ (fun ⟨⟨W,q⟩,⟨hWs,hWa⟩,hq⟩ => ?_)
  · simp -dsimp only [aqA,↓seqK,↓blkK,↓loopK,step,stepBin,eqB,Nat.add_assoc nid,simprocAttr,z0,Int.cast_ofNat_Int,Int.reduceBEq,Int.reduceBNe,Int.reduceLT,Int.reduceLE,Int.reduceAdd,Int.reduceSub,Int.reduceMul,Int.reduceToNat,Int.reduceNeg,Int.reduceTMod,Int.reduceEq,not_false_eq_true,Int.reducePow,Int.reduceFDiv,Nat.reducePow,Nat.reduceSub,Nat.reduceMul,Nat.min_eq_left,Nat.reduceEqDiff,BEq.rfl,Int.tdiv_one,LN_succ]
    refine CallO.onE (waferOfA (nid + 12) _ nl A 0 (by omega) (by omega) hA) (subH_get (by simp only [aqA,↓seqK,↓blkK,↓loopK,step,stepBin,eqB,Nat.add_assoc nid,simprocAttr,z0,Int.cast_ofNat_Int,Int.reduceBEq,Int.reduceBNe,Int.reduceLT,Int.reduceLE,Int.reduceAdd,Int.reduceSub,Int.reduceMul,Int.reduceToNat,Int.reduceNeg,Int.reduceTMod,Int.reduceEq,not_false_eq_true,Int.reducePow,Int.reduceFDiv,Nat.reducePow,Nat.reduceSub,Nat.reduceMul,Nat.min_eq_left,Nat.reduceEqDiff,BEq.rfl,Int.tdiv_one,LN_succ,strmC])) (fun x hx => ?_)
    obtain ⟨hx1,hx2⟩ := hx
    unfold arrS
    simp -dsimp only [aqA,↓seqK,↓blkK,↓loopK,step,stepBin,eqB,Nat.add_assoc nid,simprocAttr,z0,Int.cast_ofNat_Int,Int.reduceBEq,Int.reduceBNe,Int.reduceLT,Int.reduceLE,Int.reduceAdd,Int.reduceSub,Int.reduceMul,Int.reduceToNat,Int.reduceNeg,Int.reduceTMod,Int.reduceEq,not_false_eq_true,Int.reducePow,Int.reduceFDiv,Nat.reducePow,Nat.reduceSub,Nat.reduceMul,Nat.min_eq_left,Nat.reduceEqDiff,BEq.rfl,Int.tdiv_one,LN_succ]
    refine ⟨⟨x,hx1,by omega⟩,Cov.go [(nid + 4,nid + 28),(nid + 8,nid + 24)] [] ?_⟩
    simp [cvT,step,res,arrS,strmC]
  simp only at hWs hWa hq ⊢
  have hwl := hWs.len
  have hwp := hWs.pass
  unfold arrS strmC
  refine SR.freezeB [nid + 8] (fun nl' => ?_)
  simp only [frzS,frzH,frzBlk,lends,lend,kill,noOs,aqA,↓seqK,↓blkK,↓loopK,step,stepBin,eqB,Nat.add_assoc nid,simprocAttr,z0,Int.cast_ofNat_Int,Int.reduceBEq,Int.reduceBNe,Int.reduceLT,Int.reduceLE,Int.reduceAdd,Int.reduceSub,Int.reduceMul,Int.reduceToNat,Int.reduceNeg,Int.reduceTMod,Int.reduceEq,not_false_eq_true,Int.reducePow,Int.reduceFDiv,Nat.reducePow,Nat.reduceSub,Nat.reduceMul,Nat.min_eq_left,Nat.reduceEqDiff,BEq.rfl,Int.tdiv_one,LN_succ]
  generalize nl' (nid + 8) = nw
  have hcl := fun m => ACall.nonnil (i := 0) (nl := nw) (n := W.rows.length) (cols := [.s fun i => W.rows.getD i []]) rfl (fun h => cloneS_c nw W.rows m (by omega) (fun e => List.length_eq_zero_iff.1 (h e)))
  refine SR.seqTo ⟨[(3,.ptr (nid + 12) 0),(4,.ptr (nid + 4) 0),(5,.ptr (nid + 16) 0)],[(nid + 12,strmC nl A q),(nid + 4,boxW nw W),(nid + 16,sbox W.rows.length W.pass (nid + 20)),(nid + 20,arrN W.rows.length W.rows)],nid + 400,nid⟩ ?_ ?_
  · unfold arrS at hcl
    simp -dsimp only [aqA,↓seqK,↓blkK,↓loopK,step,stepBin,eqB,Nat.add_assoc nid,simprocAttr,z0,Int.cast_ofNat_Int,Int.reduceBEq,Int.reduceBNe,Int.reduceLT,Int.reduceLE,Int.reduceAdd,Int.reduceSub,Int.reduceMul,Int.reduceToNat,Int.reduceNeg,Int.reduceTMod,Int.reduceEq,not_false_eq_true,Int.reducePow,Int.reduceFDiv,Nat.reducePow,Nat.reduceSub,Nat.reduceMul,Nat.min_eq_left,Nat.reduceEqDiff,BEq.rfl,Int.tdiv_one,LN_succ]
    refine CallX.pure (hcl _) ?_
    simp -dsimp only [aqA,↓seqK,↓blkK,↓loopK,step,stepBin,eqB,Nat.add_assoc nid,simprocAttr,z0,Int.cast_ofNat_Int,Int.reduceBEq,Int.reduceBNe,Int.reduceLT,Int.reduceLE,Int.reduceAdd,Int.reduceSub,Int.reduceMul,Int.reduceToNat,Int.reduceNeg,Int.reduceTMod,Int.reduceEq,not_false_eq_true,Int.reducePow,Int.reduceFDiv,Nat.reducePow,Nat.reduceSub,Nat.reduceMul,Nat.min_eq_left,Nat.reduceEqDiff,BEq.rfl,Int.tdiv_one,LN_succ]
    refine Cov.go [(nid + 16,nid + 224),(nid + 20,nid + 208)] [] ?_
    simp [cvT,step,res,boxW,sbox,arrN,strmC,-List.getD_eq_getElem?_getD]
  have hR0 : RowsB W.rows.length W.rows := ⟨rfl,hWs.row,hWa⟩
  generalize hn : W.rows.length = n at *
  generalize hP : W.pass = P at *
  refine SR.seqW (ι := {x : List (List UInt8) × Nat // RowsB n x.1 ∧ x.2 ≤ 1000}) (fun x => ⟨[(3,.ptr (nid + 12) 0),(4,.ptr (nid + 4) 0),(5,.ptr (nid + 16) 0)],[(nid + 12,strmC nl A x.1.2),(nid + 4,boxW nw W),(nid + 16,sbox n P (nid + 20)),(nid + 20,arrN n x.1.1)],nid + 9000,nid⟩) ?_ (fun ⟨⟨R,q2⟩,hR,hq2⟩ => ?_)
  · refine SR.seqTo ⟨[(36,.int .i64 (0 : Nat)),(35,.int .i64 (n : Nat)),(3,.ptr (nid + 12) 0),(4,.ptr (nid + 4) 0),(5,.ptr (nid + 16) 0)],[(nid + 12,strmC nl A q),(nid + 4,boxW nw W),(nid + 16,sbox n P (nid + 20)),(nid + 20,arrN n W.rows)],nid + 500,nid⟩ ?_ ?_
    · unfold boxW sbox arrN strmC
      simp -dsimp only [aqA,↓seqK,↓blkK,↓loopK,step,stepBin,eqB,Nat.add_assoc nid,simprocAttr,z0,Int.cast_ofNat_Int,Int.reduceBEq,Int.reduceBNe,Int.reduceLT,Int.reduceLE,Int.reduceAdd,Int.reduceSub,Int.reduceMul,Int.reduceToNat,Int.reduceNeg,Int.reduceTMod,Int.reduceEq,not_false_eq_true,Int.reducePow,Int.reduceFDiv,Nat.reducePow,Nat.reduceSub,Nat.reduceMul,Nat.min_eq_left,Nat.reduceEqDiff,BEq.rfl,Int.tdiv_one,LN_succ]
      refine Cov.go [] [] ?_
      simp [cvT,step,res,boxW,sbox,arrN,strmC,-List.getD_eq_getElem?_getD]
    refine SR.block ?_
    refine SR.loopP (fun x : Nat × List (List UInt8) × Nat => x.1 ≤ n ∧ RowsB n x.2.1 ∧ x.2.2 ≤ 60 + 20 * x.1) (fun x => ⟨[(36,.int .i64 (x.1 : Nat)),(35,.int .i64 (n : Nat)),(3,.ptr (nid + 12) 0),(4,.ptr (nid + 4) 0),(5,.ptr (nid + 16) 0)],[(nid + 12,strmC nl A x.2.2),(nid + 4,boxW nw W),(nid + 16,sbox n P (nid + 20)),(nid + 20,arrN n x.2.1)],nid + 600,nid⟩) (fun x => n + 1 - x.1) (0,W.rows,q) ⟨by simp,hR0,by simp only; omega⟩ (Cov.go [] [] ?_) (fun x hx => ?_)
    · simp [cvT,step,res,boxW,sbox,arrN,strmC,-List.getD_eq_getElem?_getD]
    obtain ⟨i,R,q1⟩ := x
    obtain ⟨hi,hR,hq1⟩ := hx
    simp only at hi hR hq1 ⊢
    unfold boxW sbox arrN strmC
    refine SR.seq ?_
    simp -dsimp only [aqA,↓seqK,↓blkK,↓loopK,step,stepBin,eqB,Nat.add_assoc nid,simprocAttr,z0,Int.cast_ofNat_Int,Int.reduceBEq,Int.reduceBNe,Int.reduceLT,Int.reduceLE,Int.reduceAdd,Int.reduceSub,Int.reduceMul,Int.reduceToNat,Int.reduceNeg,Int.reduceTMod,Int.reduceEq,not_false_eq_true,Int.reducePow,Int.reduceFDiv,Nat.reducePow,Nat.reduceSub,Nat.reduceMul,Nat.min_eq_left,Nat.reduceEqDiff,BEq.rfl,Int.tdiv_one,LN_succ]
    refine SR.seq ?_
    simp -dsimp only [aqA,↓seqK,↓blkK,↓loopK,step,stepBin,eqB,Nat.add_assoc nid,simprocAttr,z0,Int.cast_ofNat_Int,Int.reduceBEq,Int.reduceBNe,Int.reduceLT,Int.reduceLE,Int.reduceAdd,Int.reduceSub,Int.reduceMul,Int.reduceToNat,Int.reduceNeg,Int.reduceTMod,Int.reduceEq,not_false_eq_true,Int.reducePow,Int.reduceFDiv,Nat.reducePow,Nat.reduceSub,Nat.reduceMul,Nat.min_eq_left,Nat.reduceEqDiff,BEq.rfl,Int.tdiv_one,LN_succ]
    refine S2.dec (fun h3 => ?_) (fun h3 => ?_) <;> simp -dsimp only [aqA,↓seqK,↓blkK,↓loopK,step,stepBin,eqB,Nat.add_assoc nid,simprocAttr,z0,Int.cast_ofNat_Int,Int.reduceBEq,Int.reduceBNe,Int.reduceLT,Int.reduceLE,Int.reduceAdd,Int.reduceSub,Int.reduceMul,Int.reduceToNat,Int.reduceNeg,Int.reduceTMod,Int.reduceEq,not_false_eq_true,Int.reducePow,Int.reduceFDiv,Nat.reducePow,Nat.reduceSub,Nat.reduceMul,Nat.min_eq_left,Nat.reduceEqDiff,BEq.rfl,Int.tdiv_one,LN_succ]
    rotate_left
    · refine ⟨⟨(R,q1),hR,by simp only; omega⟩,Cov.go [] [] ?_⟩
      simp [cvT,step,res,boxW,sbox,arrN,strmC,-List.getD_eq_getElem?_getD]
    have hin : i < n := by omega
    refine SR.seqW (ι := {x : List (List UInt8) × Nat // RowsB n x.1 ∧ x.2 ≤ 60 + 20 * (i + 1)}) (fun x => ⟨[(36,.int .i64 (i : Nat)),(35,.int .i64 (n : Nat)),(3,.ptr (nid + 12) 0),(4,.ptr (nid + 4) 0),(5,.ptr (nid + 16) 0)],[(nid + 12,strmC nl A x.1.2),(nid + 4,boxW nw W),(nid + 16,sbox n P (nid + 20)),(nid + 20,arrN n x.1.1)],nid + 6000,nid⟩) ?_ (fun ⟨⟨R2,q2⟩,hR2,hq2⟩ => ?_)
    rotate_left
    · refine SR.run (t := .mk) ?_
      unfold boxW sbox arrN strmC
      simp -dsimp only [aqA,↓seqK,↓blkK,↓loopK,step,stepBin,eqB,Nat.add_assoc nid,simprocAttr,z0,Int.cast_ofNat_Int,Int.reduceBEq,Int.reduceBNe,Int.reduceLT,Int.reduceLE,Int.reduceAdd,Int.reduceSub,Int.reduceMul,Int.reduceToNat,Int.reduceNeg,Int.reduceTMod,Int.reduceEq,not_false_eq_true,Int.reducePow,Int.reduceFDiv,Nat.reducePow,Nat.reduceSub,Nat.reduceMul,Nat.min_eq_left,Nat.reduceEqDiff,BEq.rfl,Int.tdiv_one,LN_succ]
      refine ⟨by unfold inI64; omega,(i + 1,R2,q2),⟨⟨by simp only; omega,hR2,hq2⟩,by simp only; omega⟩,Cov.go [] [] ?_⟩
      simp [cvT,step,res,boxW,sbox,arrN,strmC,-List.getD_eq_getElem?_getD]
    refine SR.block ?_
    refine SR.seq ?_
    simp -dsimp only [aqA,↓seqK,↓blkK,↓loopK,step,stepBin,eqB,Nat.add_assoc nid,simprocAttr,z0,Int.cast_ofNat_Int,Int.reduceBEq,Int.reduceBNe,Int.reduceLT,Int.reduceLE,Int.reduceAdd,Int.reduceSub,Int.reduceMul,Int.reduceToNat,Int.reduceNeg,Int.reduceTMod,Int.reduceEq,not_false_eq_true,Int.reducePow,Int.reduceFDiv,Nat.reducePow,Nat.reduceSub,Nat.reduceMul,Nat.min_eq_left,Nat.reduceEqDiff,BEq.rfl,Int.tdiv_one,LN_succ]
    have hSa := hR.asc.at i
    have hSl := hR.row.at i
    have hRl := hR.len
    obtain ⟨S,hS⟩ : ∃ S,R.getD i [] = S := ⟨_,rfl⟩
    rw [hS] at hSa hSl
    refine SR.seqTo ⟨[(44,.ptr (nid + 700) 0),(6,.int .i64 (i : Nat)),(36,.int .i64 (i : Nat)),(35,.int .i64 (n : Nat)),(3,.ptr (nid + 12) 0),(4,.ptr (nid + 4) 0),(5,.ptr (nid + 16) 0)],[(nid + 12,strmC nl A q1),(nid + 4,boxW nw W),(nid + 16,sbox n P (nid + 20)),(nid + 20,arrN n R),(nid + 700,some (.sit S 0))],nid + 800,nid⟩ ?_ ?_
    · simp -dsimp only [aqA,↓seqK,↓blkK,↓loopK,step,stepBin,eqB,Nat.add_assoc nid,simprocAttr,z0,Int.cast_ofNat_Int,Int.reduceBEq,Int.reduceBNe,Int.reduceLT,Int.reduceLE,Int.reduceAdd,Int.reduceSub,Int.reduceMul,Int.reduceToNat,Int.reduceNeg,Int.reduceTMod,Int.reduceEq,not_false_eq_true,Int.reducePow,Int.reduceFDiv,Nat.reducePow,Nat.reduceSub,Nat.reduceMul,Nat.min_eq_left,Nat.reduceEqDiff,BEq.rfl,Int.tdiv_one,LN_succ]
      refine ⟨⟨by omega,by omega⟩,Cov.go [(nid + 700,nid + 632)] [] ?_⟩
      simp [cvT,step,res,boxW,sbox,arrN,strmC,hS,-List.getD_eq_getElem?_getD]
    have hRS : RowsB n R := hR
    refine SR.block ?_
    refine SR.loopP (fun x : Nat × List (List UInt8) × Nat => x.1 ≤ S.length ∧ RowsB n x.2.1 ∧ x.2.2 ≤ 60 + 20 * i + 2 * x.1) (fun x => ⟨[(44,.ptr (nid + 700) 0),(6,.int .i64 (i : Nat)),(36,.int .i64 (i : Nat)),(35,.int .i64 (n : Nat)),(3,.ptr (nid + 12) 0),(4,.ptr (nid + 4) 0),(5,.ptr (nid + 16) 0)],[(nid + 12,strmC nl A x.2.2),(nid + 4,boxW nw W),(nid + 16,sbox n P (nid + 20)),(nid + 20,arrN n x.2.1),(nid + 700,some (.sit S x.1))],nid + 800,nid⟩) (fun x => S.length + 1 - x.1) (0,R,q1) ⟨by simp,hR,by simp only; omega⟩ (Cov.go [] [] ?_) (fun x hx => ?_)
    · simp [cvT,step,res,boxW,sbox,arrN,strmC,-List.getD_eq_getElem?_getD]
    clear hR hRl
    obtain ⟨k,R1,q3⟩ := x
    obtain ⟨hk,hR,hq3⟩ := hx
    simp only at hk hR hq3 ⊢
    have hRl := hR.len
    unfold boxW sbox arrN strmC
    by_cases hkl : k < S.length
    rotate_left
    · have d1 : decide (k < S.length) = false := decide_eq_false hkl
      refine SR.run (t := .mk) ?_
      simp -dsimp only [aqA,↓seqK,↓blkK,↓loopK,step,stepBin,eqB,Nat.add_assoc nid,simprocAttr,z0,Int.cast_ofNat_Int,Int.reduceBEq,Int.reduceBNe,Int.reduceLT,Int.reduceLE,Int.reduceAdd,Int.reduceSub,Int.reduceMul,Int.reduceToNat,Int.reduceNeg,Int.reduceTMod,Int.reduceEq,not_false_eq_true,Int.reducePow,Int.reduceFDiv,Nat.reducePow,Nat.reduceSub,Nat.reduceMul,Nat.min_eq_left,Nat.reduceEqDiff,BEq.rfl,Int.tdiv_one,LN_succ,d1]
      refine ⟨⟨(R1,q3),hR,by simp only; omega⟩,Cov.go [] [] ?_⟩
      simp [cvT,step,res,boxW,sbox,arrN,strmC,-List.getD_eq_getElem?_getD]
    have d1 : decide (k < S.length) = true := decide_eq_true hkl
    refine SR.seq ?_
    simp -dsimp only [aqA,↓seqK,↓blkK,↓loopK,step,stepBin,eqB,Nat.add_assoc nid,simprocAttr,z0,Int.cast_ofNat_Int,Int.reduceBEq,Int.reduceBNe,Int.reduceLT,Int.reduceLE,Int.reduceAdd,Int.reduceSub,Int.reduceMul,Int.reduceToNat,Int.reduceNeg,Int.reduceTMod,Int.reduceEq,not_false_eq_true,Int.reducePow,Int.reduceFDiv,Nat.reducePow,Nat.reduceSub,Nat.reduceMul,Nat.min_eq_left,Nat.reduceEqDiff,BEq.rfl,Int.tdiv_one,LN_succ,d1]
    refine ⟨hSa.at k,?_⟩
    refine SR.seq ?_
    simp -dsimp only [aqA,↓seqK,↓blkK,↓loopK,step,stepBin,eqB,Nat.add_assoc nid,simprocAttr,z0,Int.cast_ofNat_Int,Int.reduceBEq,Int.reduceBNe,Int.reduceLT,Int.reduceLE,Int.reduceAdd,Int.reduceSub,Int.reduceMul,Int.reduceToNat,Int.reduceNeg,Int.reduceTMod,Int.reduceEq,not_false_eq_true,Int.reducePow,Int.reduceFDiv,Nat.reducePow,Nat.reduceSub,Nat.reduceMul,Nat.min_eq_left,Nat.reduceEqDiff,BEq.rfl,Int.tdiv_one,LN_succ,d1]
    refine SR.block ?_
    refine SR.seq ?_
    simp -dsimp only [aqA,↓seqK,↓blkK,↓loopK,step,stepBin,eqB,Nat.add_assoc nid,simprocAttr,z0,Int.cast_ofNat_Int,Int.reduceBEq,Int.reduceBNe,Int.reduceLT,Int.reduceLE,Int.reduceAdd,Int.reduceSub,Int.reduceMul,Int.reduceToNat,Int.reduceNeg,Int.reduceTMod,Int.reduceEq,not_false_eq_true,Int.reducePow,Int.reduceFDiv,Nat.reducePow,Nat.reduceSub,Nat.reduceMul,Nat.min_eq_left,Nat.reduceEqDiff,BEq.rfl,Int.tdiv_one,LN_succ]
    have hTa := hR.asc.at i
    have hTl := hR.row.at i
    obtain ⟨T,hT⟩ : ∃ T,R1.getD i [] = T := ⟨_,rfl⟩
    rw [hT] at hTa hTl
    refine SR.seqEx (ι := {b : Bool // b = true → k < T.length}) (fun b => ⟨[(59,.bool b.1),(7,.int .i64 (k : Nat)),(44,.ptr (nid + 700) 0),(6,.int .i64 (i : Nat)),(36,.int .i64 (i : Nat)),(35,.int .i64 (n : Nat)),(3,.ptr (nid + 12) 0),(4,.ptr (nid + 4) 0),(5,.ptr (nid + 16) 0)],[(nid + 12,strmC nl A (q3 + 1)),(nid + 4,boxW nw W),(nid + 16,sbox n P (nid + 20)),(nid + 20,arrN n R1),(nid + 700,some (.sit S (k + 1)))],nid + 1000,nid⟩) ?_ (fun ⟨b,hb⟩ => ?_)
    · simp -dsimp only [aqA,↓seqK,↓blkK,↓loopK,step,stepBin,eqB,Nat.add_assoc nid,simprocAttr,z0,Int.cast_ofNat_Int,Int.reduceBEq,Int.reduceBNe,Int.reduceLT,Int.reduceLE,Int.reduceAdd,Int.reduceSub,Int.reduceMul,Int.reduceToNat,Int.reduceNeg,Int.reduceTMod,Int.reduceEq,not_false_eq_true,Int.reducePow,Int.reduceFDiv,Nat.reducePow,Nat.reduceSub,Nat.reduceMul,Nat.min_eq_left,Nat.reduceEqDiff,BEq.rfl,Int.tdiv_one,LN_succ]
      refine CallO.on (flip_c (nid + 12) _ nl A q3 6 (by omega) (by omega) hA (by omega)) (subH_get (by simp only [aqA,↓seqK,↓blkK,↓loopK,step,stepBin,eqB,Nat.add_assoc nid,simprocAttr,z0,Int.cast_ofNat_Int,Int.reduceBEq,Int.reduceBNe,Int.reduceLT,Int.reduceLE,Int.reduceAdd,Int.reduceSub,Int.reduceMul,Int.reduceToNat,Int.reduceNeg,Int.reduceTMod,Int.reduceEq,not_false_eq_true,Int.reducePow,Int.reduceFDiv,Nat.reducePow,Nat.reduceSub,Nat.reduceMul,Nat.min_eq_left,Nat.reduceEqDiff,BEq.rfl,Int.tdiv_one,LN_succ,strmC])) ?_
      unfold strmC
      simp -dsimp only [aqA,↓seqK,↓blkK,↓loopK,step,stepBin,eqB,Nat.add_assoc nid,simprocAttr,z0,Int.cast_ofNat_Int,Int.reduceBEq,Int.reduceBNe,Int.reduceLT,Int.reduceLE,Int.reduceAdd,Int.reduceSub,Int.reduceMul,Int.reduceToNat,Int.reduceNeg,Int.reduceTMod,Int.reduceEq,not_false_eq_true,Int.reducePow,Int.reduceFDiv,Nat.reducePow,Nat.reduceSub,Nat.reduceMul,Nat.min_eq_left,Nat.reduceEqDiff,BEq.rfl,Int.tdiv_one,LN_succ]
      refine S2.intro (fun h4 => ?_) (fun h4 => ?_) <;> simp -dsimp only [aqA,↓seqK,↓blkK,↓loopK,step,stepBin,eqB,Nat.add_assoc nid,simprocAttr,z0,Int.cast_ofNat_Int,Int.reduceBEq,Int.reduceBNe,Int.reduceLT,Int.reduceLE,Int.reduceAdd,Int.reduceSub,Int.reduceMul,Int.reduceToNat,Int.reduceNeg,Int.reduceTMod,Int.reduceEq,not_false_eq_true,Int.reducePow,Int.reduceFDiv,Nat.reducePow,Nat.reduceSub,Nat.reduceMul,Nat.min_eq_left,Nat.reduceEqDiff,BEq.rfl,Int.tdiv_one,LN_succ]
      · rw [hT]
        by_cases h5 : k < T.length
        · have d2 : decide ((k : Int) < (T.length : Nat)) = true := decide_eq_true (by omega)
          simp -dsimp only [aqA,↓seqK,↓blkK,↓loopK,step,stepBin,eqB,Nat.add_assoc nid,simprocAttr,z0,Int.cast_ofNat_Int,Int.reduceBEq,Int.reduceBNe,Int.reduceLT,Int.reduceLE,Int.reduceAdd,Int.reduceSub,Int.reduceMul,Int.reduceToNat,Int.reduceNeg,Int.reduceTMod,Int.reduceEq,not_false_eq_true,Int.reducePow,Int.reduceFDiv,Nat.reducePow,Nat.reduceSub,Nat.reduceMul,Nat.min_eq_left,Nat.reduceEqDiff,BEq.rfl,Int.tdiv_one,LN_succ,d2]
          refine ⟨⟨by omega,by omega⟩,⟨true,fun _ => h5⟩,Cov.go [] [] ?_⟩
          simp [cvT,step,res,boxW,sbox,arrN,strmC,-List.getD_eq_getElem?_getD]
        · have d2 : decide ((k : Int) < (T.length : Nat)) = false := decide_eq_false (by omega)
          simp -dsimp only [aqA,↓seqK,↓blkK,↓loopK,step,stepBin,eqB,Nat.add_assoc nid,simprocAttr,z0,Int.cast_ofNat_Int,Int.reduceBEq,Int.reduceBNe,Int.reduceLT,Int.reduceLE,Int.reduceAdd,Int.reduceSub,Int.reduceMul,Int.reduceToNat,Int.reduceNeg,Int.reduceTMod,Int.reduceEq,not_false_eq_true,Int.reducePow,Int.reduceFDiv,Nat.reducePow,Nat.reduceSub,Nat.reduceMul,Nat.min_eq_left,Nat.reduceEqDiff,BEq.rfl,Int.tdiv_one,LN_succ,d2]
          refine ⟨⟨by omega,by omega⟩,⟨false,fun h => by cases h⟩,Cov.go [] [] ?_⟩
          simp [cvT,step,res,boxW,sbox,arrN,strmC,-List.getD_eq_getElem?_getD]
      · refine ⟨⟨false,fun h => by cases h⟩,Cov.go [] [] ?_⟩
        simp [cvT,step,res,boxW,sbox,arrN,strmC,-List.getD_eq_getElem?_getD]
    refine SR.cond (b := b) (by simp [aqA,↓seqK,↓blkK,↓loopK,step,stepBin,eqB,Nat.add_assoc nid,simprocAttr,z0]) (fun hbt => ?_) (fun hbf => ?_)
    · have hkT := hb hbt
      refine SR.run (t := .mk) ?_
      unfold boxW sbox arrN strmC
      simp -dsimp only [aqA,↓seqK,↓blkK,↓loopK,step,stepBin,eqB,Nat.add_assoc nid,simprocAttr,z0,Int.cast_ofNat_Int,Int.reduceBEq,Int.reduceBNe,Int.reduceLT,Int.reduceLE,Int.reduceAdd,Int.reduceSub,Int.reduceMul,Int.reduceToNat,Int.reduceNeg,Int.reduceTMod,Int.reduceEq,not_false_eq_true,Int.reducePow,Int.reduceFDiv,Nat.reducePow,Nat.reduceSub,Nat.reduceMul,Nat.min_eq_left,Nat.reduceEqDiff,BEq.rfl,Int.tdiv_one,LN_succ]
      rw [hT]
      refine ⟨⟨by omega,by omega⟩,⟨by omega,by omega⟩,?_⟩
      refine CallX.some_go (T := 9) (nl := nl) (A := A) (p := q3 + 1) (g := fun i => [[63],[63],[49],[46]].getD i []) (by simp only [aqA,↓seqK,↓blkK,↓loopK,step,stepBin,eqB,Nat.add_assoc nid,simprocAttr,z0,Int.cast_ofNat_Int,Int.reduceBEq,Int.reduceBNe,Int.reduceLT,Int.reduceLE,Int.reduceAdd,Int.reduceSub,Int.reduceMul,Int.reduceToNat,Int.reduceNeg,Int.reduceTMod,Int.reduceEq,not_false_eq_true,Int.reducePow,Int.reduceFDiv,Nat.reducePow,Nat.reduceSub,Nat.reduceMul,Nat.min_eq_left,Nat.reduceEqDiff,BEq.rfl,Int.tdiv_one,LN_succ,strmC]) (by simp only [aqA,↓seqK,↓blkK,↓loopK,step,stepBin,eqB,Nat.add_assoc nid,simprocAttr,z0,Int.cast_ofNat_Int,Int.reduceBEq,Int.reduceBNe,Int.reduceLT,Int.reduceLE,Int.reduceAdd,Int.reduceSub,Int.reduceMul,Int.reduceToNat,Int.reduceNeg,Int.reduceTMod,Int.reduceEq,not_false_eq_true,Int.reducePow,Int.reduceFDiv,Nat.reducePow,Nat.reduceSub,Nat.reduceMul,Nat.min_eq_left,Nat.reduceEqDiff,BEq.rfl,Int.tdiv_one,LN_succ]) (by simp only [aqA,↓seqK,↓blkK,↓loopK,step,stepBin,eqB,Nat.add_assoc nid,simprocAttr,z0,Int.cast_ofNat_Int,Int.reduceBEq,Int.reduceBNe,Int.reduceLT,Int.reduceLE,Int.reduceAdd,Int.reduceSub,Int.reduceMul,Int.reduceToNat,Int.reduceNeg,Int.reduceTMod,Int.reduceEq,not_false_eq_true,Int.reducePow,Int.reduceFDiv,Nat.reducePow,Nat.reduceSub,Nat.reduceMul,Nat.min_eq_left,Nat.reduceEqDiff,BEq.rfl,Int.tdiv_one,LN_succ]) (by omega) (by omega) hA (by omega) (by omega) ?_
      obtain ⟨g1,g2⟩ := some_ok (pickI A (q3 + 1) 4)
      generalize ([[63],[63],[49],[46]].getD (pickI A (q3 + 1) 4) [] : List UInt8) = g at *
      obtain ⟨c1,c2⟩ := cut_ok hTa hTl g1 g2 hkT
      unfold strmC
      simp -dsimp only [aqA,↓seqK,↓blkK,↓loopK,step,stepBin,eqB,Nat.add_assoc nid,simprocAttr,z0,Int.cast_ofNat_Int,Int.reduceBEq,Int.reduceBNe,Int.reduceLT,Int.reduceLE,Int.reduceAdd,Int.reduceSub,Int.reduceMul,Int.reduceToNat,Int.reduceNeg,Int.reduceTMod,Int.reduceEq,not_false_eq_true,Int.reducePow,Int.reduceFDiv,Nat.reducePow,Nat.reduceSub,Nat.reduceMul,Nat.min_eq_left,Nat.reduceEqDiff,BEq.rfl,Int.tdiv_one,LN_succ]
      rw [hT]
      have ek : ((k : Int) + 1).toNat = k + 1 := by omega
      have hgT := getD_setR R1 hin hRl (T.take k ++ g ++ T.drop (k + 1))
      have l1 : (T.take k ++ g).length ≤ 10 := by simp only [List.length_append,List.length_take]; omega
      have l2 : (T.drop (k + 1)).length ≤ 10 := by rw [List.length_drop]; omega
      rw [ek,hgT]
      refine ⟨by rw [← List.length_append]; omega,⟨by omega,by omega⟩,by unfold inI64; omega,⟨by omega,by omega⟩,by omega,⟨by omega,by omega⟩,(k + 1,R1.set i (T.take k ++ g ++ T.drop (k + 1)),q3 + 1 + 1),⟨⟨by simp only; omega,hR.set i c1 c2,by simp only; omega⟩,by simp only; omega⟩,Cov.go [] [] ?_⟩
      simp [cvT,step,res,-List.getD_eq_getElem?_getD]
    · refine SR.run (t := .mk) ?_
      unfold boxW sbox arrN strmC
      simp -dsimp only [aqA,↓seqK,↓blkK,↓loopK,step,stepBin,eqB,Nat.add_assoc nid,simprocAttr,z0,Int.cast_ofNat_Int,Int.reduceBEq,Int.reduceBNe,Int.reduceLT,Int.reduceLE,Int.reduceAdd,Int.reduceSub,Int.reduceMul,Int.reduceToNat,Int.reduceNeg,Int.reduceTMod,Int.reduceEq,not_false_eq_true,Int.reducePow,Int.reduceFDiv,Nat.reducePow,Nat.reduceSub,Nat.reduceMul,Nat.min_eq_left,Nat.reduceEqDiff,BEq.rfl,Int.tdiv_one,LN_succ]
      refine ⟨(k + 1,R1,q3 + 1),⟨⟨by simp only; omega,hR,by simp only; omega⟩,by simp only; omega⟩,Cov.go [] [] ?_⟩
      simp [cvT,step,res,boxW,sbox,arrN,strmC,-List.getD_eq_getElem?_getD]
  simp only at hR hq2 ⊢
  have hRl := hR.len
  have hRr := hR.row
  refine SR.seqW (ι := {x : Waf × Nat // WafSmall x.1 ∧ x.2 ≤ 3000}) (fun x => ⟨[(3,.ptr (nid + 12) 0),(4,.ptr (nid + 4) 0),(5,.ptr (nid + 16) 0)],[(nid + 12,strmC nl A x.1.2),(nid + 4,boxW nw W),(nid + 16,sbox x.1.1.rows.length x.1.1.pass (nid + 20)),(nid + 20,arrS x.1.1.rows)],nid + 9500,nid⟩) ?_ (fun ⟨⟨B,q4⟩,hBs,hq4⟩ => ?_)
  · refine SR.seqEx (ι := Bool) (fun b => ⟨[(86,.bool b),(3,.ptr (nid + 12) 0),(4,.ptr (nid + 4) 0),(5,.ptr (nid + 16) 0)],[(nid + 12,strmC nl A (q2 + 1)),(nid + 4,boxW nw W),(nid + 16,sbox n P (nid + 20)),(nid + 20,arrN n R)],nid + 9100,nid⟩) ?_ (fun b => ?_)
    · unfold boxW sbox arrN strmC
      simp -dsimp only [aqA,↓seqK,↓blkK,↓loopK,step,stepBin,eqB,Nat.add_assoc nid,simprocAttr,z0,Int.cast_ofNat_Int,Int.reduceBEq,Int.reduceBNe,Int.reduceLT,Int.reduceLE,Int.reduceAdd,Int.reduceSub,Int.reduceMul,Int.reduceToNat,Int.reduceNeg,Int.reduceTMod,Int.reduceEq,not_false_eq_true,Int.reducePow,Int.reduceFDiv,Nat.reducePow,Nat.reduceSub,Nat.reduceMul,Nat.min_eq_left,Nat.reduceEqDiff,BEq.rfl,Int.tdiv_one,LN_succ]
      refine CallO.on (flip_c (nid + 12) _ nl A q2 8 (by omega) (by omega) hA (by omega)) (subH_get (by simp only [aqA,↓seqK,↓blkK,↓loopK,step,stepBin,eqB,Nat.add_assoc nid,simprocAttr,z0,Int.cast_ofNat_Int,Int.reduceBEq,Int.reduceBNe,Int.reduceLT,Int.reduceLE,Int.reduceAdd,Int.reduceSub,Int.reduceMul,Int.reduceToNat,Int.reduceNeg,Int.reduceTMod,Int.reduceEq,not_false_eq_true,Int.reducePow,Int.reduceFDiv,Nat.reducePow,Nat.reduceSub,Nat.reduceMul,Nat.min_eq_left,Nat.reduceEqDiff,BEq.rfl,Int.tdiv_one,LN_succ,strmC])) ?_
      unfold strmC
      simp -dsimp only [aqA,↓seqK,↓blkK,↓loopK,step,stepBin,eqB,Nat.add_assoc nid,simprocAttr,z0,Int.cast_ofNat_Int,Int.reduceBEq,Int.reduceBNe,Int.reduceLT,Int.reduceLE,Int.reduceAdd,Int.reduceSub,Int.reduceMul,Int.reduceToNat,Int.reduceNeg,Int.reduceTMod,Int.reduceEq,not_false_eq_true,Int.reducePow,Int.reduceFDiv,Nat.reducePow,Nat.reduceSub,Nat.reduceMul,Nat.min_eq_left,Nat.reduceEqDiff,BEq.rfl,Int.tdiv_one,LN_succ]
      refine ⟨flipV A q2 8,Cov.go [] [] ?_⟩
      simp [cvT,step,res,boxW,sbox,arrN,strmC,-List.getD_eq_getElem?_getD]
    refine SR.cond (b := b) (by simp [aqA,↓seqK,↓blkK,↓loopK,step,stepBin,eqB,Nat.add_assoc nid,simprocAttr,z0]) (fun hbt => ?_) (fun hbf => ?_)
    · refine SR.run (t := .mk) ?_
      unfold boxW sbox arrN strmC
      simp -dsimp only [aqA,↓seqK,↓blkK,↓loopK,step,stepBin,eqB,Nat.add_assoc nid,simprocAttr,z0,Int.cast_ofNat_Int,Int.reduceBEq,Int.reduceBNe,Int.reduceLT,Int.reduceLE,Int.reduceAdd,Int.reduceSub,Int.reduceMul,Int.reduceToNat,Int.reduceNeg,Int.reduceTMod,Int.reduceEq,not_false_eq_true,Int.reducePow,Int.reduceFDiv,Nat.reducePow,Nat.reduceSub,Nat.reduceMul,Nat.min_eq_left,Nat.reduceEqDiff,BEq.rfl,Int.tdiv_one,LN_succ]
      refine CallO.onE (waferOfA (nid + 12) _ nl A (q2 + 1) (by omega) (by omega) hA) (subH_get (by simp only [aqA,↓seqK,↓blkK,↓loopK,step,stepBin,eqB,Nat.add_assoc nid,simprocAttr,z0,Int.cast_ofNat_Int,Int.reduceBEq,Int.reduceBNe,Int.reduceLT,Int.reduceLE,Int.reduceAdd,Int.reduceSub,Int.reduceMul,Int.reduceToNat,Int.reduceNeg,Int.reduceTMod,Int.reduceEq,not_false_eq_true,Int.reducePow,Int.reduceFDiv,Nat.reducePow,Nat.reduceSub,Nat.reduceMul,Nat.min_eq_left,Nat.reduceEqDiff,BEq.rfl,Int.tdiv_one,LN_succ,strmC])) (fun x hx => ?_)
      obtain ⟨⟨hx1,hx2⟩,hx3⟩ := hx
      unfold arrS strmC
      simp -dsimp only [aqA,↓seqK,↓blkK,↓loopK,step,stepBin,eqB,Nat.add_assoc nid,simprocAttr,z0,Int.cast_ofNat_Int,Int.reduceBEq,Int.reduceBNe,Int.reduceLT,Int.reduceLE,Int.reduceAdd,Int.reduceSub,Int.reduceMul,Int.reduceToNat,Int.reduceNeg,Int.reduceTMod,Int.reduceEq,not_false_eq_true,Int.reducePow,Int.reduceFDiv,Nat.reducePow,Nat.reduceSub,Nat.reduceMul,Nat.min_eq_left,Nat.reduceEqDiff,BEq.rfl,Int.tdiv_one,LN_succ]
      refine ⟨⟨x,hx1,by omega⟩,Cov.go [(nid + 20,nid + 9104)] [] ?_⟩
      simp [cvT,step,res,boxW,sbox,arrS,strmC,-List.getD_eq_getElem?_getD]
    · refine SR.run (t := .mk) ?_
      simp -dsimp only [aqA,↓seqK,↓blkK,↓loopK,step,stepBin,eqB,Nat.add_assoc nid,simprocAttr,z0,Int.cast_ofNat_Int,Int.reduceBEq,Int.reduceBNe,Int.reduceLT,Int.reduceLE,Int.reduceAdd,Int.reduceSub,Int.reduceMul,Int.reduceToNat,Int.reduceNeg,Int.reduceTMod,Int.reduceEq,not_false_eq_true,Int.reducePow,Int.reduceFDiv,Nat.reducePow,Nat.reduceSub,Nat.reduceMul,Nat.min_eq_left,Nat.reduceEqDiff,BEq.rfl,Int.tdiv_one,LN_succ]
      refine ⟨⟨(⟨R,P⟩,q2 + 1),⟨by simp only; omega,hRr,hwp⟩,by simp only; omega⟩,Cov.go [] [] ?_⟩
      simp [cvT,step,res,boxW,sbox,arrN,arrS,strmC,hRl,-List.getD_eq_getElem?_getD]
  simp only at hBs hq4 ⊢
  have hBl := hBs.len
  have hBp := hBs.pass
  clear hR hRl hRr
  unfold arrS sbox boxW strmC
  refine SR.freezeB [nid + 20] (fun nl' => ?_)
  simp only [frzS,frzH,frzBlk,lends,lend,kill,noOs,aqA,↓seqK,↓blkK,↓loopK,step,stepBin,eqB,Nat.add_assoc nid,simprocAttr,z0,Int.cast_ofNat_Int,Int.reduceBEq,Int.reduceBNe,Int.reduceLT,Int.reduceLE,Int.reduceAdd,Int.reduceSub,Int.reduceMul,Int.reduceToNat,Int.reduceNeg,Int.reduceTMod,Int.reduceEq,not_false_eq_true,Int.reducePow,Int.reduceFDiv,Nat.reducePow,Nat.reduceSub,Nat.reduceMul,Nat.min_eq_left,Nat.reduceEqDiff,BEq.rfl,Int.tdiv_one,LN_succ]
  generalize nl' (nid + 20) = nb
  refine SR.seqEx (ι := {x : (Int × Int) × (Int × Int) // inI64 x.2.1 ∧ inI64 x.2.2}) (fun x => ⟨[(8,.int .i64 x.1.1.1),(9,.int .i64 x.1.1.2),(10,.ptr (nid + 24) 0),(4,.ptr (nid + 4) 0),(5,.ptr (nid + 16) 0)],[(nid + 4,boxW nw W),(nid + 16,boxW nb B),(nid + 24,boxF x.1.2.1 x.1.2.2)],nid + 10000,nid⟩) ?_ (fun ⟨⟨⟨w,h⟩,a,b⟩,ha,hb⟩ => ?_)
  · simp -dsimp only [aqA,↓seqK,↓blkK,↓loopK,step,stepBin,eqB,Nat.add_assoc nid,simprocAttr,z0,Int.cast_ofNat_Int,Int.reduceBEq,Int.reduceBNe,Int.reduceLT,Int.reduceLE,Int.reduceAdd,Int.reduceSub,Int.reduceMul,Int.reduceToNat,Int.reduceNeg,Int.reduceTMod,Int.reduceEq,not_false_eq_true,Int.reducePow,Int.reduceFDiv,Nat.reducePow,Nat.reduceSub,Nat.reduceMul,Nat.min_eq_left,Nat.reduceEqDiff,BEq.rfl,Int.tdiv_one,LN_succ]
    refine CallO.pick_go (T := 3) (nl := nl) (A := A) (p := q4) (g := fun i => [1,2,3,60,0,61].getD i 0) (by simp only [aqA,↓seqK,↓blkK,↓loopK,step,stepBin,eqB,Nat.add_assoc nid,simprocAttr,z0,Int.cast_ofNat_Int,Int.reduceBEq,Int.reduceBNe,Int.reduceLT,Int.reduceLE,Int.reduceAdd,Int.reduceSub,Int.reduceMul,Int.reduceToNat,Int.reduceNeg,Int.reduceTMod,Int.reduceEq,not_false_eq_true,Int.reducePow,Int.reduceFDiv,Nat.reducePow,Nat.reduceSub,Nat.reduceMul,Nat.min_eq_left,Nat.reduceEqDiff,BEq.rfl,Int.tdiv_one,LN_succ,strmC]) (by simp only [aqA,↓seqK,↓blkK,↓loopK,step,stepBin,eqB,Nat.add_assoc nid,simprocAttr,z0,Int.cast_ofNat_Int,Int.reduceBEq,Int.reduceBNe,Int.reduceLT,Int.reduceLE,Int.reduceAdd,Int.reduceSub,Int.reduceMul,Int.reduceToNat,Int.reduceNeg,Int.reduceTMod,Int.reduceEq,not_false_eq_true,Int.reducePow,Int.reduceFDiv,Nat.reducePow,Nat.reduceSub,Nat.reduceMul,Nat.min_eq_left,Nat.reduceEqDiff,BEq.rfl,Int.tdiv_one,LN_succ]) (by simp only [aqA,↓seqK,↓blkK,↓loopK,step,stepBin,eqB,Nat.add_assoc nid,simprocAttr,z0,Int.cast_ofNat_Int,Int.reduceBEq,Int.reduceBNe,Int.reduceLT,Int.reduceLE,Int.reduceAdd,Int.reduceSub,Int.reduceMul,Int.reduceToNat,Int.reduceNeg,Int.reduceTMod,Int.reduceEq,not_false_eq_true,Int.reducePow,Int.reduceFDiv,Nat.reducePow,Nat.reduceSub,Nat.reduceMul,Nat.min_eq_left,Nat.reduceEqDiff,BEq.rfl,Int.tdiv_one,LN_succ]) (by omega) (by omega) hA (by omega) (by omega) ?_
    generalize ([1,2,3,60,0,61].getD (pickI A q4 6) (0 : Int)) = w at *
    unfold strmC
    simp -dsimp only [aqA,↓seqK,↓blkK,↓loopK,step,stepBin,eqB,Nat.add_assoc nid,simprocAttr,z0,Int.cast_ofNat_Int,Int.reduceBEq,Int.reduceBNe,Int.reduceLT,Int.reduceLE,Int.reduceAdd,Int.reduceSub,Int.reduceMul,Int.reduceToNat,Int.reduceNeg,Int.reduceTMod,Int.reduceEq,not_false_eq_true,Int.reducePow,Int.reduceFDiv,Nat.reducePow,Nat.reduceSub,Nat.reduceMul,Nat.min_eq_left,Nat.reduceEqDiff,BEq.rfl,Int.tdiv_one,LN_succ]
    refine CallO.pick_go (T := 3) (nl := nl) (A := A) (p := q4 + 1) (g := fun i => [1,2,3,0].getD i 0) (by simp only [aqA,↓seqK,↓blkK,↓loopK,step,stepBin,eqB,Nat.add_assoc nid,simprocAttr,z0,Int.cast_ofNat_Int,Int.reduceBEq,Int.reduceBNe,Int.reduceLT,Int.reduceLE,Int.reduceAdd,Int.reduceSub,Int.reduceMul,Int.reduceToNat,Int.reduceNeg,Int.reduceTMod,Int.reduceEq,not_false_eq_true,Int.reducePow,Int.reduceFDiv,Nat.reducePow,Nat.reduceSub,Nat.reduceMul,Nat.min_eq_left,Nat.reduceEqDiff,BEq.rfl,Int.tdiv_one,LN_succ,strmC]) (by simp only [aqA,↓seqK,↓blkK,↓loopK,step,stepBin,eqB,Nat.add_assoc nid,simprocAttr,z0,Int.cast_ofNat_Int,Int.reduceBEq,Int.reduceBNe,Int.reduceLT,Int.reduceLE,Int.reduceAdd,Int.reduceSub,Int.reduceMul,Int.reduceToNat,Int.reduceNeg,Int.reduceTMod,Int.reduceEq,not_false_eq_true,Int.reducePow,Int.reduceFDiv,Nat.reducePow,Nat.reduceSub,Nat.reduceMul,Nat.min_eq_left,Nat.reduceEqDiff,BEq.rfl,Int.tdiv_one,LN_succ]) (by simp only [aqA,↓seqK,↓blkK,↓loopK,step,stepBin,eqB,Nat.add_assoc nid,simprocAttr,z0,Int.cast_ofNat_Int,Int.reduceBEq,Int.reduceBNe,Int.reduceLT,Int.reduceLE,Int.reduceAdd,Int.reduceSub,Int.reduceMul,Int.reduceToNat,Int.reduceNeg,Int.reduceTMod,Int.reduceEq,not_false_eq_true,Int.reducePow,Int.reduceFDiv,Nat.reducePow,Nat.reduceSub,Nat.reduceMul,Nat.min_eq_left,Nat.reduceEqDiff,BEq.rfl,Int.tdiv_one,LN_succ]) (by omega) (by omega) hA (by omega) (by omega) ?_
    generalize ([1,2,3,0].getD (pickI A (q4 + 1) 4) (0 : Int)) = h at *
    unfold strmC
    simp -dsimp only [aqA,↓seqK,↓blkK,↓loopK,step,stepBin,eqB,Nat.add_assoc nid,simprocAttr,z0,Int.cast_ofNat_Int,Int.reduceBEq,Int.reduceBNe,Int.reduceLT,Int.reduceLE,Int.reduceAdd,Int.reduceSub,Int.reduceMul,Int.reduceToNat,Int.reduceNeg,Int.reduceTMod,Int.reduceEq,not_false_eq_true,Int.reducePow,Int.reduceFDiv,Nat.reducePow,Nat.reduceSub,Nat.reduceMul,Nat.min_eq_left,Nat.reduceEqDiff,BEq.rfl,Int.tdiv_one,LN_succ]
    refine CallO.any (portion_I (nid + 12) _ nl A (q4 + 1 + 1) (by omega) (by omega) hA) (subH_get (by simp only [aqA,↓seqK,↓blkK,↓loopK,step,stepBin,eqB,Nat.add_assoc nid,simprocAttr,z0,Int.cast_ofNat_Int,Int.reduceBEq,Int.reduceBNe,Int.reduceLT,Int.reduceLE,Int.reduceAdd,Int.reduceSub,Int.reduceMul,Int.reduceToNat,Int.reduceNeg,Int.reduceTMod,Int.reduceEq,not_false_eq_true,Int.reducePow,Int.reduceFDiv,Nat.reducePow,Nat.reduceSub,Nat.reduceMul,Nat.min_eq_left,Nat.reduceEqDiff,BEq.rfl,Int.tdiv_one,LN_succ,strmC])) (fun x hx => ?_)
    obtain ⟨hx1,hx2⟩ := hx
    unfold strmC
    simp -dsimp only [aqA,↓seqK,↓blkK,↓loopK,step,stepBin,eqB,Nat.add_assoc nid,simprocAttr,z0,Int.cast_ofNat_Int,Int.reduceBEq,Int.reduceBNe,Int.reduceLT,Int.reduceLE,Int.reduceAdd,Int.reduceSub,Int.reduceMul,Int.reduceToNat,Int.reduceNeg,Int.reduceTMod,Int.reduceEq,not_false_eq_true,Int.reducePow,Int.reduceFDiv,Nat.reducePow,Nat.reduceSub,Nat.reduceMul,Nat.min_eq_left,Nat.reduceEqDiff,BEq.rfl,Int.tdiv_one,LN_succ]
    refine ⟨⟨((w,h),x.1),hx1⟩,Cov.go [(nid + 24,nid + 9532)] [] ?_⟩
    simp [cvT,step,res,boxW,boxF,-List.getD_eq_getElem?_getD]
  simp only at ha hb ⊢
  clear hcl hR0
  subst hn
  subst hP
  have hAb := hWs.bd
  have hBb := hBs.bd
  have hwa := fun m => waferFault_all nw W m hAb
  have hwb := fun m => waferFault_all nb B m hBb
  have hor := fun x y nl' m => orW_c nl' [x,y] m (by simp)
  simp only [firstBad2] at hor
  unfold wafP at hwa hwb
  unfold litI at hor
  refine SR.seqTo ⟨[(11,.int .i64 (waferV W)),(12,.int .i64 (if waferV W = 0 then waferV B else waferV W)),(8,.int .i64 w),(9,.int .i64 h),(10,.ptr (nid + 24) 0),(4,.ptr (nid + 4) 0),(5,.ptr (nid + 16) 0)],[(nid + 4,boxW nw W),(nid + 16,boxW nb B),(nid + 24,boxF a b)],nid + 10100,nid⟩ ?_ ?_
  · unfold boxW boxF
    simp -dsimp only [aqA,↓seqK,↓blkK,↓loopK,step,stepBin,eqB,Nat.add_assoc nid,simprocAttr,z0,Int.cast_ofNat_Int,Int.reduceBEq,Int.reduceBNe,Int.reduceLT,Int.reduceLE,Int.reduceAdd,Int.reduceSub,Int.reduceMul,Int.reduceToNat,Int.reduceNeg,Int.reduceTMod,Int.reduceEq,not_false_eq_true,Int.reducePow,Int.reduceFDiv,Nat.reducePow,Nat.reduceSub,Nat.reduceMul,Nat.min_eq_left,Nat.reduceEqDiff,BEq.rfl,Int.tdiv_one,LN_succ]
    refine CallX.pure (hwa _) ?_
    simp -dsimp only [aqA,↓seqK,↓blkK,↓loopK,step,stepBin,eqB,Nat.add_assoc nid,simprocAttr,z0,Int.cast_ofNat_Int,Int.reduceBEq,Int.reduceBNe,Int.reduceLT,Int.reduceLE,Int.reduceAdd,Int.reduceSub,Int.reduceMul,Int.reduceToNat,Int.reduceNeg,Int.reduceTMod,Int.reduceEq,not_false_eq_true,Int.reducePow,Int.reduceFDiv,Nat.reducePow,Nat.reduceSub,Nat.reduceMul,Nat.min_eq_left,Nat.reduceEqDiff,BEq.rfl,Int.tdiv_one,LN_succ]
    refine CallX.pure (hwa _) ?_
    simp -dsimp only [aqA,↓seqK,↓blkK,↓loopK,step,stepBin,eqB,Nat.add_assoc nid,simprocAttr,z0,Int.cast_ofNat_Int,Int.reduceBEq,Int.reduceBNe,Int.reduceLT,Int.reduceLE,Int.reduceAdd,Int.reduceSub,Int.reduceMul,Int.reduceToNat,Int.reduceNeg,Int.reduceTMod,Int.reduceEq,not_false_eq_true,Int.reducePow,Int.reduceFDiv,Nat.reducePow,Nat.reduceSub,Nat.reduceMul,Nat.min_eq_left,Nat.reduceEqDiff,BEq.rfl,Int.tdiv_one,LN_succ]
    refine CallX.pure (hwb _) ?_
    simp -dsimp only [aqA,↓seqK,↓blkK,↓loopK,step,stepBin,eqB,Nat.add_assoc nid,simprocAttr,z0,Int.cast_ofNat_Int,Int.reduceBEq,Int.reduceBNe,Int.reduceLT,Int.reduceLE,Int.reduceAdd,Int.reduceSub,Int.reduceMul,Int.reduceToNat,Int.reduceNeg,Int.reduceTMod,Int.reduceEq,not_false_eq_true,Int.reducePow,Int.reduceFDiv,Nat.reducePow,Nat.reduceSub,Nat.reduceMul,Nat.min_eq_left,Nat.reduceEqDiff,BEq.rfl,Int.tdiv_one,LN_succ]
    refine CallX.lent [nid + 10024] (fun nl' => by
      simp only [lends,lend,noOs,aqA,↓seqK,↓blkK,↓loopK,step,stepBin,eqB,Nat.add_assoc nid,simprocAttr,z0,Int.cast_ofNat_Int,Int.reduceBEq,Int.reduceBNe,Int.reduceLT,Int.reduceLE,Int.reduceAdd,Int.reduceSub,Int.reduceMul,Int.reduceToNat,Int.reduceNeg,Int.reduceTMod,Int.reduceEq,not_false_eq_true,Int.reducePow,Int.reduceFDiv,Nat.reducePow,Nat.reduceSub,Nat.reduceMul,Nat.min_eq_left,Nat.reduceEqDiff,BEq.rfl,Int.tdiv_one,LN_succ]
      exact hor _ _ _ _) rfl rfl (by simp [getH]) ?_
    simp -dsimp only [aqA,↓seqK,↓blkK,↓loopK,step,stepBin,eqB,Nat.add_assoc nid,simprocAttr,z0,Int.cast_ofNat_Int,Int.reduceBEq,Int.reduceBNe,Int.reduceLT,Int.reduceLE,Int.reduceAdd,Int.reduceSub,Int.reduceMul,Int.reduceToNat,Int.reduceNeg,Int.reduceTMod,Int.reduceEq,not_false_eq_true,Int.reducePow,Int.reduceFDiv,Nat.reducePow,Nat.reduceSub,Nat.reduceMul,Nat.min_eq_left,Nat.reduceEqDiff,BEq.rfl,Int.tdiv_one,LN_succ]
    refine Cov.go [] [] ?_
    simp [cvT,step,res,boxW,boxF,-List.getD_eq_getElem?_getD]
  -- what repeats
  have hrp : ∃ L : List Pt,L.length ≤ 5000 ∧ ((repV W w h a b = 0 ∧ (∀ k,ACall Try.prog 13 [wafP nw W,.int .i64 w,.int .i64 h,.agg [.int .i64 a,.int .i64 b]] [] k (.tup [.sl k 0 L.length,.int .i64 0]) [(k,arrPl L)]) ∧ ∀ k,ACall Try.prog 16 [wafP nw W,.int .i64 w,.int .i64 h,.agg [.int .i64 a,.int .i64 b]] [] k (.sl k 0 L.length) [(k,arrPl L)]) ∨
      (repV W w h a b ≠ 0 ∧ L = [] ∧ ∀ k,ACall Try.prog 13 [wafP nw W,.int .i64 w,.int .i64 h,.agg [.int .i64 a,.int .i64 b]] [] k (.tup [.lit true 0 [],.int .i64 (repV W w h a b)]) [])) := by
    by_cases h0 : repV W w h a b = 0
    · have hv : waferV W = 0 := by
        unfold repV at h0
        by_cases hv : waferV W = 0
        · exact hv
        · rw [if_pos hv] at h0; exact h0
      have hf : repF w h a b = 0 := by unfold repV at h0; rw [if_neg (by simp [hv])] at h0; exact h0
      obtain ⟨o1,o2,o3,o4,o5⟩ := repF_ok hf
      obtain ⟨w',rfl⟩ : ∃ w' : Nat,w = (w' : Nat) := ⟨w.toNat,by omega⟩
      obtain ⟨h',rfl⟩ : ∃ h' : Nat,h = (h' : Nat) := ⟨h.toNat,by omega⟩
      refine ⟨_,?_,.inl ⟨h0,fun k => repeats_ok nw W w' h' a b k (waferV_ok hv) hv hAb hf _ rfl,fun k => repeatsOf_ok nw W w' h' a b k (waferV_ok hv) hf _ rfl⟩⟩
      have h1 := repTo_len (gC (cntC (allP W) w' h' (plV W)) (cntC (badP W) w' h' (plV W)) a b) w' h'
      have h2 : h' * w' ≤ 60 * 60 := Nat.mul_le_mul (by omega) (by omega)
      omega
    · exact ⟨[],by simp,.inr ⟨h0,rfl,fun k => repeats_bad nw W w h a b k hAb ha hb _ rfl h0⟩⟩
  obtain ⟨L,hL,hrp⟩ := hrp
  have hrf := fun m => repFault_c w h a b m ha.1 ha.2 hb.1 hb.2
  have hro : (if waferV W = 0 then repF w h a b else waferV W) = repV W w h a b := by
    unfold repV
    by_cases hv : waferV W = 0 <;> simp [hv]
  unfold wafP at hrp
  refine SR.seqTo ⟨[(13,.sl (nid + 28) 0 L.length),(14,.int .i64 (repV W w h a b)),(11,.int .i64 (waferV W)),(12,.int .i64 (if waferV W = 0 then waferV B else waferV W)),(8,.int .i64 w),(9,.int .i64 h),(10,.ptr (nid + 24) 0),(4,.ptr (nid + 4) 0),(5,.ptr (nid + 16) 0)],[(nid + 4,boxW nw W),(nid + 16,boxW nb B),(nid + 24,boxF a b),(nid + 28,arrPl L)],nid + 10200,nid⟩ ?_ ?_
  · unfold boxW boxF
    simp -dsimp only [aqA,↓seqK,↓blkK,↓loopK,step,stepBin,eqB,Nat.add_assoc nid,simprocAttr,z0,Int.cast_ofNat_Int,Int.reduceBEq,Int.reduceBNe,Int.reduceLT,Int.reduceLE,Int.reduceAdd,Int.reduceSub,Int.reduceMul,Int.reduceToNat,Int.reduceNeg,Int.reduceTMod,Int.reduceEq,not_false_eq_true,Int.reducePow,Int.reduceFDiv,Nat.reducePow,Nat.reduceSub,Nat.reduceMul,Nat.min_eq_left,Nat.reduceEqDiff,BEq.rfl,Int.tdiv_one,LN_succ]
    rcases hrp with ⟨g1,g2,g3⟩ | ⟨g1,g2,g3⟩
    · refine CallO.pure (g2 _) ?_
      unfold arrPl
      simp -dsimp only [aqA,↓seqK,↓blkK,↓loopK,step,stepBin,eqB,Nat.add_assoc nid,simprocAttr,z0,Int.cast_ofNat_Int,Int.reduceBEq,Int.reduceBNe,Int.reduceLT,Int.reduceLE,Int.reduceAdd,Int.reduceSub,Int.reduceMul,Int.reduceToNat,Int.reduceNeg,Int.reduceTMod,Int.reduceEq,not_false_eq_true,Int.reducePow,Int.reduceFDiv,Nat.reducePow,Nat.reduceSub,Nat.reduceMul,Nat.min_eq_left,Nat.reduceEqDiff,BEq.rfl,Int.tdiv_one,LN_succ]
      refine Cov.go [(nid + 28,nid + 10116)] [] ?_
      simp [cvT,step,res,boxW,boxF,g1,-List.getD_eq_getElem?_getD]
    · refine CallO.pure (g3 _) ?_
      simp -dsimp only [aqA,↓seqK,↓blkK,↓loopK,step,stepBin,eqB,Nat.add_assoc nid,simprocAttr,z0,Int.cast_ofNat_Int,Int.reduceBEq,Int.reduceBNe,Int.reduceLT,Int.reduceLE,Int.reduceAdd,Int.reduceSub,Int.reduceMul,Int.reduceToNat,Int.reduceNeg,Int.reduceTMod,Int.reduceEq,not_false_eq_true,Int.reducePow,Int.reduceFDiv,Nat.reducePow,Nat.reduceSub,Nat.reduceMul,Nat.min_eq_left,Nat.reduceEqDiff,BEq.rfl,Int.tdiv_one,LN_succ]
      refine Cov.go [] [(nid + 28,2)] ?_
      simp [cvT,step,res,boxW,boxF,arrPl,g2,-List.getD_eq_getElem?_getD]
  unfold boxW boxF arrPl
  refine SR.freezeB [nid + 28] (fun nl' => ?_)
  simp only [frzS,frzH,frzBlk,lends,lend,kill,noOs,aqA,↓seqK,↓blkK,↓loopK,step,stepBin,eqB,Nat.add_assoc nid,simprocAttr,z0,Int.cast_ofNat_Int,Int.reduceBEq,Int.reduceBNe,Int.reduceLT,Int.reduceLE,Int.reduceAdd,Int.reduceSub,Int.reduceMul,Int.reduceToNat,Int.reduceNeg,Int.reduceTMod,Int.reduceEq,not_false_eq_true,Int.reducePow,Int.reduceFDiv,Nat.reducePow,Nat.reduceSub,Nat.reduceMul,Nat.min_eq_left,Nat.reduceEqDiff,BEq.rfl,Int.tdiv_one,LN_succ]
  generalize nl' (nid + 28) = n1
  refine SR.seqTo ⟨[(15,.int .i64 (repV W w h a b)),(13,litPl n1 L),(14,.int .i64 (repV W w h a b)),(12,.int .i64 (if waferV W = 0 then waferV B else waferV W)),(8,.int .i64 w),(9,.int .i64 h),(10,.ptr (nid + 24) 0),(4,.ptr (nid + 4) 0),(5,.ptr (nid + 16) 0)],[(nid + 4,boxW nw W),(nid + 16,boxW nb B),(nid + 24,boxF a b)],nid + 10300,nid⟩ ?_ ?_
  · simp -dsimp only [aqA,↓seqK,↓blkK,↓loopK,step,stepBin,eqB,Nat.add_assoc nid,simprocAttr,z0,Int.cast_ofNat_Int,Int.reduceBEq,Int.reduceBNe,Int.reduceLT,Int.reduceLE,Int.reduceAdd,Int.reduceSub,Int.reduceMul,Int.reduceToNat,Int.reduceNeg,Int.reduceTMod,Int.reduceEq,not_false_eq_true,Int.reducePow,Int.reduceFDiv,Nat.reducePow,Nat.reduceSub,Nat.reduceMul,Nat.min_eq_left,Nat.reduceEqDiff,BEq.rfl,Int.tdiv_one,LN_succ]
    refine CallO.pure (hrf _) ?_
    simp -dsimp only [aqA,↓seqK,↓blkK,↓loopK,step,stepBin,eqB,Nat.add_assoc nid,simprocAttr,z0,Int.cast_ofNat_Int,Int.reduceBEq,Int.reduceBNe,Int.reduceLT,Int.reduceLE,Int.reduceAdd,Int.reduceSub,Int.reduceMul,Int.reduceToNat,Int.reduceNeg,Int.reduceTMod,Int.reduceEq,not_false_eq_true,Int.reducePow,Int.reduceFDiv,Nat.reducePow,Nat.reduceSub,Nat.reduceMul,Nat.min_eq_left,Nat.reduceEqDiff,BEq.rfl,Int.tdiv_one,LN_succ]
    refine CallO.lent [nid + 10220] (fun nl' => by
      simp only [lends,lend,noOs,aqA,↓seqK,↓blkK,↓loopK,step,stepBin,eqB,Nat.add_assoc nid,simprocAttr,z0,Int.cast_ofNat_Int,Int.reduceBEq,Int.reduceBNe,Int.reduceLT,Int.reduceLE,Int.reduceAdd,Int.reduceSub,Int.reduceMul,Int.reduceToNat,Int.reduceNeg,Int.reduceTMod,Int.reduceEq,not_false_eq_true,Int.reducePow,Int.reduceFDiv,Nat.reducePow,Nat.reduceSub,Nat.reduceMul,Nat.min_eq_left,Nat.reduceEqDiff,BEq.rfl,Int.tdiv_one,LN_succ]
      exact hor _ _ _ _) rfl rfl (by simp [getH]) ?_
    rw [hro]
    simp -dsimp only [aqA,↓seqK,↓blkK,↓loopK,step,stepBin,eqB,Nat.add_assoc nid,simprocAttr,z0,Int.cast_ofNat_Int,Int.reduceBEq,Int.reduceBNe,Int.reduceLT,Int.reduceLE,Int.reduceAdd,Int.reduceSub,Int.reduceMul,Int.reduceToNat,Int.reduceNeg,Int.reduceTMod,Int.reduceEq,not_false_eq_true,Int.reducePow,Int.reduceFDiv,Nat.reducePow,Nat.reduceSub,Nat.reduceMul,Nat.min_eq_left,Nat.reduceEqDiff,BEq.rfl,Int.tdiv_one,LN_succ]
    refine Cov.go [] [] ?_
    simp [cvT,step,res,boxW,boxF,litPl,ColsEq.refl,-List.getD_eq_getElem?_getD]
  refine SR.seqTo ⟨[(12,.int .i64 (if waferV W = 0 then waferV B else waferV W)),(4,.ptr (nid + 4) 0),(5,.ptr (nid + 16) 0)],[(nid + 4,boxW nw W),(nid + 16,boxW nb B)],nid + 10500,nid⟩ ?_ ?_
  · have hep := fun nl' m => eqPl_c n1 nl' L L m (by omega) (by omega)
    simp only [BEq.rfl] at hep
    unfold litPl at hep ⊢
    unfold boxW boxF
    have e0 : (repV W w h a b != repV W w h a b) = false := by simp
    rcases hrp with ⟨g1,g2,g3⟩ | ⟨g1,g2,g3⟩
    · rw [g1]
      unfold arrPl at g3
      simp -dsimp only [aqA,↓seqK,↓blkK,↓loopK,step,stepBin,eqB,Nat.add_assoc nid,simprocAttr,z0,Int.cast_ofNat_Int,Int.reduceBEq,Int.reduceBNe,Int.reduceLT,Int.reduceLE,Int.reduceAdd,Int.reduceSub,Int.reduceMul,Int.reduceToNat,Int.reduceNeg,Int.reduceTMod,Int.reduceEq,not_false_eq_true,Int.reducePow,Int.reduceFDiv,Nat.reducePow,Nat.reduceSub,Nat.reduceMul,Nat.min_eq_left,Nat.reduceEqDiff,BEq.rfl,Int.tdiv_one,LN_succ]
      refine CallO.pure (g3 _) ?_
      simp -dsimp only [aqA,↓seqK,↓blkK,↓loopK,step,stepBin,eqB,Nat.add_assoc nid,simprocAttr,z0,Int.cast_ofNat_Int,Int.reduceBEq,Int.reduceBNe,Int.reduceLT,Int.reduceLE,Int.reduceAdd,Int.reduceSub,Int.reduceMul,Int.reduceToNat,Int.reduceNeg,Int.reduceTMod,Int.reduceEq,not_false_eq_true,Int.reducePow,Int.reduceFDiv,Nat.reducePow,Nat.reduceSub,Nat.reduceMul,Nat.min_eq_left,Nat.reduceEqDiff,BEq.rfl,Int.tdiv_one,LN_succ]
      refine CallO.lent [nid + 10348] (fun nl' => by
        simp only [lends,lend,noOs,aqA,↓seqK,↓blkK,↓loopK,step,stepBin,eqB,Nat.add_assoc nid,simprocAttr,z0,Int.cast_ofNat_Int,Int.reduceBEq,Int.reduceBNe,Int.reduceLT,Int.reduceLE,Int.reduceAdd,Int.reduceSub,Int.reduceMul,Int.reduceToNat,Int.reduceNeg,Int.reduceTMod,Int.reduceEq,not_false_eq_true,Int.reducePow,Int.reduceFDiv,Nat.reducePow,Nat.reduceSub,Nat.reduceMul,Nat.min_eq_left,Nat.reduceEqDiff,BEq.rfl,Int.tdiv_one,LN_succ]
        exact hep _ _) rfl rfl (by simp [getH]) ?_
      simp -dsimp only [aqA,↓seqK,↓blkK,↓loopK,step,stepBin,eqB,Nat.add_assoc nid,simprocAttr,z0,Int.cast_ofNat_Int,Int.reduceBEq,Int.reduceBNe,Int.reduceLT,Int.reduceLE,Int.reduceAdd,Int.reduceSub,Int.reduceMul,Int.reduceToNat,Int.reduceNeg,Int.reduceTMod,Int.reduceEq,not_false_eq_true,Int.reducePow,Int.reduceFDiv,Nat.reducePow,Nat.reduceSub,Nat.reduceMul,Nat.min_eq_left,Nat.reduceEqDiff,BEq.rfl,Int.tdiv_one,LN_succ,Bool.not_true]
      refine Cov.go [] [] ?_
      simp [cvT,step,res,boxW,-List.getD_eq_getElem?_getD]
    · have d1 : (repV W w h a b == 0) = false := by simpa using g1
      have d2 : (repV W w h a b != 0) = true := by simpa using g1
      subst g2
      simp -dsimp only [aqA,↓seqK,↓blkK,↓loopK,step,stepBin,eqB,Nat.add_assoc nid,simprocAttr,z0,Int.cast_ofNat_Int,Int.reduceBEq,Int.reduceBNe,Int.reduceLT,Int.reduceLE,Int.reduceAdd,Int.reduceSub,Int.reduceMul,Int.reduceToNat,Int.reduceNeg,Int.reduceTMod,Int.reduceEq,not_false_eq_true,Int.reducePow,Int.reduceFDiv,Nat.reducePow,Nat.reduceSub,Nat.reduceMul,Nat.min_eq_left,Nat.reduceEqDiff,BEq.rfl,Int.tdiv_one,LN_succ,e0,d1,d2]
      refine Cov.go [] [] ?_
      simp [cvT,step,res,boxW,-List.getD_eq_getElem?_getD]
  clear hrp hro hrf hor
  -- what is merged
  have hmg : ∃ (R : List (List UInt8)) (Q : List UInt8) (f : Int),R.length ≤ 60 ∧
      ((bothV W B = 0 ∧ f = 0 ∧ (∀ k,ACall Try.prog 17 [wafP nw W,wafP nb B] [] k (.tup [.agg [.sl k 0 R.length,.str Q],.int .i64 f]) [(k,arrS R)]) ∧ ∀ k,ACall Try.prog 22 [wafP nw W,wafP nb B] [] k (.tup [.agg [.sl k 0 R.length,.str Q],.int .i64 f]) [(k,arrS R)]) ∨
       (R = [] ∧ Q = [] ∧ (bothV W B ≠ 0 → f = bothV W B) ∧ (∀ k,ACall Try.prog 17 [wafP nw W,wafP nb B] [] k (.tup [.agg [.lit true 0 [],.str []],.int .i64 f]) []) ∧ (bothV W B = 0 → ∀ k,ACall Try.prog 22 [wafP nw W,wafP nb B] [] k (.tup [.agg [.lit true 0 [],.str []],.int .i64 f]) []))) := by
    by_cases h0 : bothV W B = 0
    · have h2 : Pair2 W B := pair_of hAb hBb h0
      by_cases ho : okRs W.rows B.rows = true
      · have hlen : (mergeRs W.rows B.rows).length = W.rows.length := by
          have h3 := h2.rows
          unfold mergeRs
          rw [List.length_zipWith]
          omega
        refine ⟨mergeRs W.rows B.rows,W.pass,0,by omega,.inl ⟨h0,rfl,fun k => ?_,fun k => ?_⟩⟩
        · rw [hlen]
          exact merge_ok nw nb W B k h2 ho
        · rw [hlen]
          exact mergedOf_c nw nb W B k h2 _ _ (fun _ => ⟨rfl,rfl⟩) (fun h => absurd ho (by rw [h]; simp))
      · rw [Bool.not_eq_true] at ho
        exact ⟨[],[],13,by simp,.inr ⟨rfl,rfl,fun h => absurd h0 h,fun k => merge_clash nw nb W B k h2 ho,fun _ k => mergedOf_c nw nb W B k h2 _ _ (fun h => absurd h (by rw [ho]; simp)) (fun _ => ⟨rfl,rfl⟩)⟩⟩
    · exact ⟨[],[],bothV W B,by simp,.inr ⟨rfl,rfl,fun _ => rfl,fun k => merge_bad nw nb W B k hAb hBb h0,fun h => absurd h h0⟩⟩
  obtain ⟨R,Q,f,hRl,hmg⟩ := hmg
  have hch : ∃ (C D : List Pt),C.length ≤ 60000 ∧ C.length ≤ D.length ∧ D.take C.length = C ∧
      ((bothV W B = 0 ∧ (∀ k,ACall Try.prog 18 [wafP nw W,wafP nb B] [] k (.tup [.sl k 0 C.length,.int .i64 (bothV W B)]) [(k,arrPl D)]) ∧ ∀ k,ACall Try.prog 23 [wafP nw W,wafP nb B] [] k (.sl k 0 C.length) [(k,arrPl C)]) ∨
       (bothV W B ≠ 0 ∧ C = [] ∧ D = [] ∧ ∀ k,ACall Try.prog 18 [wafP nw W,wafP nb B] [] k (.tup [.lit true 0 [],.int .i64 (bothV W B)]) [])) := by
    by_cases h0 : bothV W B = 0
    · have h2 : Pair2 W B := pair_of hAb hBb h0
      have hWo := waferV_ok h2.a
      have hp : (plV W).length ≤ 60000 := plTo_bd hWo (Nat.le_refl _)
      have hk := keepP_len (sameDie W B) (plV W)
      refine ⟨chV W B,doneP (sameDie W B) (plV W),by unfold chV; omega,by rw [doneP_len]; exact hk,?_,.inl ⟨h0,fun k => ?_,fun k => changesOf_ok nw nb W B k hWo (waferV_ok h2.b)⟩⟩
      · unfold doneP chV
        rw [List.take_append_of_le_length (Nat.le_refl _),List.take_length]
      · rw [h0]
        exact changes_ok nw nb W B k h2
    · exact ⟨[],[],by simp,by simp,rfl,.inr ⟨h0,rfl,rfl,fun k => changes_bad nw nb W B k hAb hBb h0⟩⟩
  obtain ⟨C,D,hCl,hCD,hDt,hch⟩ := hch
  have hps := probed_c
  have hbv : bothV W B = if (if waferV W = 0 then waferV B else waferV W) = 0 then pairV W B else (if waferV W = 0 then waferV B else waferV W) := by
    unfold bothV
    by_cases h1 : waferV W = 0
    · by_cases h2 : waferV B = 0 <;> simp [h1,h2]
    · simp [h1]
  have hpf : (if waferV W = 0 then waferV B else waferV W) = 0 → ∀ k,ACall Try.prog 19 [wafP nw W,wafP nb B] [] k (.int .i64 (pairV W B)) [] := fun h k => by
    have h1 : waferV W = 0 := by
      by_cases h1 : waferV W = 0
      · exact h1
      · rw [if_neg h1] at h; exact h
    rw [if_pos h1] at h
    exact pairFault_c nw nb W B k (waferV_pos h1) (waferV_pos h)
  generalize (if waferV W = 0 then waferV B else waferV W) = V at *
  unfold wafP at hmg hch hpf
  refine SR.seqTo ⟨[(16,.ptr (nid + 28) 0),(17,.int .i64 f),(12,.int .i64 V),(4,.ptr (nid + 4) 0),(5,.ptr (nid + 16) 0)],[(nid + 4,boxW nw W),(nid + 16,boxW nb B),(nid + 28,sbox R.length Q (nid + 32)),(nid + 32,arrS R)],nid + 10600,nid⟩ ?_ ?_
  · unfold boxW
    simp -dsimp only [aqA,↓seqK,↓blkK,↓loopK,step,stepBin,eqB,Nat.add_assoc nid,simprocAttr,z0,Int.cast_ofNat_Int,Int.reduceBEq,Int.reduceBNe,Int.reduceLT,Int.reduceLE,Int.reduceAdd,Int.reduceSub,Int.reduceMul,Int.reduceToNat,Int.reduceNeg,Int.reduceTMod,Int.reduceEq,not_false_eq_true,Int.reducePow,Int.reduceFDiv,Nat.reducePow,Nat.reduceSub,Nat.reduceMul,Nat.min_eq_left,Nat.reduceEqDiff,BEq.rfl,Int.tdiv_one,LN_succ]
    rcases hmg with ⟨g0,g1,g2,g3⟩ | ⟨g0,g1,g2,g3,g4⟩
    · refine CallO.pure (g2 _) ?_
      unfold arrS
      simp -dsimp only [aqA,↓seqK,↓blkK,↓loopK,step,stepBin,eqB,Nat.add_assoc nid,simprocAttr,z0,Int.cast_ofNat_Int,Int.reduceBEq,Int.reduceBNe,Int.reduceLT,Int.reduceLE,Int.reduceAdd,Int.reduceSub,Int.reduceMul,Int.reduceToNat,Int.reduceNeg,Int.reduceTMod,Int.reduceEq,not_false_eq_true,Int.reducePow,Int.reduceFDiv,Nat.reducePow,Nat.reduceSub,Nat.reduceMul,Nat.min_eq_left,Nat.reduceEqDiff,BEq.rfl,Int.tdiv_one,LN_succ]
      refine Cov.go [(nid + 28,nid + 10524),(nid + 32,nid + 10508)] [] ?_
      simp [cvT,step,res,boxW,sbox,-List.getD_eq_getElem?_getD]
    · refine CallO.pure (g3 _) ?_
      simp -dsimp only [aqA,↓seqK,↓blkK,↓loopK,step,stepBin,eqB,Nat.add_assoc nid,simprocAttr,z0,Int.cast_ofNat_Int,Int.reduceBEq,Int.reduceBNe,Int.reduceLT,Int.reduceLE,Int.reduceAdd,Int.reduceSub,Int.reduceMul,Int.reduceToNat,Int.reduceNeg,Int.reduceTMod,Int.reduceEq,not_false_eq_true,Int.reducePow,Int.reduceFDiv,Nat.reducePow,Nat.reduceSub,Nat.reduceMul,Nat.min_eq_left,Nat.reduceEqDiff,BEq.rfl,Int.tdiv_one,LN_succ]
      refine Cov.go [(nid + 28,nid + 10524)] [(nid + 32,1)] ?_
      simp [cvT,step,res,boxW,sbox,arrS,g0,g1,-List.getD_eq_getElem?_getD]
  unfold sbox arrS boxW
  refine SR.freezeB [nid + 32] (fun nl' => ?_)
  simp only [frzS,frzH,frzBlk,lends,lend,kill,noOs,aqA,↓seqK,↓blkK,↓loopK,step,stepBin,eqB,Nat.add_assoc nid,simprocAttr,z0,Int.cast_ofNat_Int,Int.reduceBEq,Int.reduceBNe,Int.reduceLT,Int.reduceLE,Int.reduceAdd,Int.reduceSub,Int.reduceMul,Int.reduceToNat,Int.reduceNeg,Int.reduceTMod,Int.reduceEq,not_false_eq_true,Int.reducePow,Int.reduceFDiv,Nat.reducePow,Nat.reduceSub,Nat.reduceMul,Nat.min_eq_left,Nat.reduceEqDiff,BEq.rfl,Int.tdiv_one,LN_succ]
  generalize nl' (nid + 32) = n2
  refine SR.seqTo ⟨[(18,.sl (nid + 36) 0 C.length),(19,.int .i64 (bothV W B)),(16,.ptr (nid + 28) 0),(17,.int .i64 f),(12,.int .i64 V),(4,.ptr (nid + 4) 0),(5,.ptr (nid + 16) 0)],[(nid + 4,boxW nw W),(nid + 16,boxW nb B),(nid + 28,boxW n2 ⟨R,Q⟩),(nid + 36,arrPl D)],nid + 10700,nid⟩ ?_ ?_
  · simp -dsimp only [aqA,↓seqK,↓blkK,↓loopK,step,stepBin,eqB,Nat.add_assoc nid,simprocAttr,z0,Int.cast_ofNat_Int,Int.reduceBEq,Int.reduceBNe,Int.reduceLT,Int.reduceLE,Int.reduceAdd,Int.reduceSub,Int.reduceMul,Int.reduceToNat,Int.reduceNeg,Int.reduceTMod,Int.reduceEq,not_false_eq_true,Int.reducePow,Int.reduceFDiv,Nat.reducePow,Nat.reduceSub,Nat.reduceMul,Nat.min_eq_left,Nat.reduceEqDiff,BEq.rfl,Int.tdiv_one,LN_succ]
    rcases hch with ⟨g0,g1,g2⟩ | ⟨g0,g1,g2,g3⟩
    · refine CallO.pure (g1 _) ?_
      unfold arrPl
      simp -dsimp only [aqA,↓seqK,↓blkK,↓loopK,step,stepBin,eqB,Nat.add_assoc nid,simprocAttr,z0,Int.cast_ofNat_Int,Int.reduceBEq,Int.reduceBNe,Int.reduceLT,Int.reduceLE,Int.reduceAdd,Int.reduceSub,Int.reduceMul,Int.reduceToNat,Int.reduceNeg,Int.reduceTMod,Int.reduceEq,not_false_eq_true,Int.reducePow,Int.reduceFDiv,Nat.reducePow,Nat.reduceSub,Nat.reduceMul,Nat.min_eq_left,Nat.reduceEqDiff,BEq.rfl,Int.tdiv_one,LN_succ]
      refine Cov.go [(nid + 36,nid + 10608)] [] ?_
      simp [cvT,step,res,boxW,hCD,-List.getD_eq_getElem?_getD]
    · refine CallO.pure (g3 _) ?_
      simp -dsimp only [aqA,↓seqK,↓blkK,↓loopK,step,stepBin,eqB,Nat.add_assoc nid,simprocAttr,z0,Int.cast_ofNat_Int,Int.reduceBEq,Int.reduceBNe,Int.reduceLT,Int.reduceLE,Int.reduceAdd,Int.reduceSub,Int.reduceMul,Int.reduceToNat,Int.reduceNeg,Int.reduceTMod,Int.reduceEq,not_false_eq_true,Int.reducePow,Int.reduceFDiv,Nat.reducePow,Nat.reduceSub,Nat.reduceMul,Nat.min_eq_left,Nat.reduceEqDiff,BEq.rfl,Int.tdiv_one,LN_succ]
      refine Cov.go [] [(nid + 36,2)] ?_
      simp [cvT,step,res,boxW,arrPl,g1,g2,-List.getD_eq_getElem?_getD]
  unfold arrPl boxW
  refine SR.freezeB [nid + 36] (fun nl' => ?_)
  simp only [frzS,frzH,frzBlk,lends,lend,kill,noOs,aqA,↓seqK,↓blkK,↓loopK,step,stepBin,eqB,Nat.add_assoc nid,simprocAttr,z0,Int.cast_ofNat_Int,Int.reduceBEq,Int.reduceBNe,Int.reduceLT,Int.reduceLE,Int.reduceAdd,Int.reduceSub,Int.reduceMul,Int.reduceToNat,Int.reduceNeg,Int.reduceTMod,Int.reduceEq,not_false_eq_true,Int.reducePow,Int.reduceFDiv,Nat.reducePow,Nat.reduceSub,Nat.reduceMul,Nat.min_eq_left,Nat.reduceEqDiff,BEq.rfl,Int.tdiv_one,LN_succ]
  generalize nl' (nid + 36) = n3
  refine SR.seqTo ⟨[(18,litPl n3 C),(19,.int .i64 (bothV W B)),(16,.ptr (nid + 28) 0),(17,.int .i64 f),(12,.int .i64 (bothV W B)),(4,.ptr (nid + 4) 0),(5,.ptr (nid + 16) 0)],[(nid + 4,boxW nw W),(nid + 16,boxW nb B),(nid + 28,boxW n2 ⟨R,Q⟩)],nid + 10800,nid⟩ ?_ ?_
  · have hDE : ∀ i,i < C.length → D.getD i p0 = C.getD i p0 := fun i hi => by
      have h : (D.take C.length).getD i p0 = C.getD i p0 := by rw [hDt]
      rw [← h,List.getD_eq_getElem?_getD,List.getD_eq_getElem?_getD,List.getElem?_take,if_pos hi]
    by_cases h0 : V = 0
    · have hp := hpf h0
      rw [if_pos h0] at hbv
      subst h0
      rw [hbv]
      simp -dsimp only [aqA,↓seqK,↓blkK,↓loopK,step,stepBin,eqB,Nat.add_assoc nid,simprocAttr,z0,Int.cast_ofNat_Int,Int.reduceBEq,Int.reduceBNe,Int.reduceLT,Int.reduceLE,Int.reduceAdd,Int.reduceSub,Int.reduceMul,Int.reduceToNat,Int.reduceNeg,Int.reduceTMod,Int.reduceEq,not_false_eq_true,Int.reducePow,Int.reduceFDiv,Nat.reducePow,Nat.reduceSub,Nat.reduceMul,Nat.min_eq_left,Nat.reduceEqDiff,BEq.rfl,Int.tdiv_one,LN_succ]
      refine CallO.pure (hp _) ?_
      simp -dsimp only [aqA,↓seqK,↓blkK,↓loopK,step,stepBin,eqB,Nat.add_assoc nid,simprocAttr,z0,Int.cast_ofNat_Int,Int.reduceBEq,Int.reduceBNe,Int.reduceLT,Int.reduceLE,Int.reduceAdd,Int.reduceSub,Int.reduceMul,Int.reduceToNat,Int.reduceNeg,Int.reduceTMod,Int.reduceEq,not_false_eq_true,Int.reducePow,Int.reduceFDiv,Nat.reducePow,Nat.reduceSub,Nat.reduceMul,Nat.min_eq_left,Nat.reduceEqDiff,BEq.rfl,Int.tdiv_one,LN_succ]
      refine Cov.go [] [] ?_
      simp [cvT,step,res,boxW,litPl,-List.getD_eq_getElem?_getD]
      exact ⟨ColEq.i fun i hi => by rw [hDE i hi],ColEq.i fun i hi => by rw [hDE i hi]⟩
    · have d0 : (V == 0) = false := by simpa using h0
      rw [if_neg h0] at hbv
      rw [hbv]
      simp -dsimp only [aqA,↓seqK,↓blkK,↓loopK,step,stepBin,eqB,Nat.add_assoc nid,simprocAttr,z0,Int.cast_ofNat_Int,Int.reduceBEq,Int.reduceBNe,Int.reduceLT,Int.reduceLE,Int.reduceAdd,Int.reduceSub,Int.reduceMul,Int.reduceToNat,Int.reduceNeg,Int.reduceTMod,Int.reduceEq,not_false_eq_true,Int.reducePow,Int.reduceFDiv,Nat.reducePow,Nat.reduceSub,Nat.reduceMul,Nat.min_eq_left,Nat.reduceEqDiff,BEq.rfl,Int.tdiv_one,LN_succ,d0]
      refine Cov.go [] [] ?_
      simp [cvT,step,res,boxW,litPl,-List.getD_eq_getElem?_getD]
      exact ⟨ColEq.i fun i hi => by rw [hDE i hi],ColEq.i fun i hi => by rw [hDE i hi]⟩
  clear hpf hbv
  by_cases h0 : bothV W B = 0
  rotate_left
  · have d0 : (bothV W B != 0) = true := by simpa using h0
    rcases hmg with ⟨g0,g1,g2,g3⟩ | ⟨g0,g1,g2,g3,g4⟩
    · exact absurd g0 h0
    rcases hch with ⟨k0,k1,k2⟩ | ⟨k0,k1,k2,k3⟩
    · exact absurd k0 h0
    have hf := g2 h0
    subst g0 g1 k1 hf
    have hsn := fun m => sameNo_c n2 ⟨[],[]⟩ m (by simp)
    have e0 : (bothV W B == bothV W B) = true := by simp
    unfold wafP at hsn
    simp only [BEq.rfl,Bool.and_self] at hsn
    refine SR.run (t := .mk) ?_
    unfold boxW litPl
    simp -dsimp only [aqA,↓seqK,↓blkK,↓loopK,step,stepBin,eqB,Nat.add_assoc nid,simprocAttr,z0,Int.cast_ofNat_Int,Int.reduceBEq,Int.reduceBNe,Int.reduceLT,Int.reduceLE,Int.reduceAdd,Int.reduceSub,Int.reduceMul,Int.reduceToNat,Int.reduceNeg,Int.reduceTMod,Int.reduceEq,not_false_eq_true,Int.reducePow,Int.reduceFDiv,Nat.reducePow,Nat.reduceSub,Nat.reduceMul,Nat.min_eq_left,Nat.reduceEqDiff,BEq.rfl,Int.tdiv_one,LN_succ,d0,e0]
    refine CallO.pure (hsn _) ?_
    simp -dsimp only [aqA,↓seqK,↓blkK,↓loopK,step,stepBin,eqB,Nat.add_assoc nid,simprocAttr,z0,Int.cast_ofNat_Int,Int.reduceBEq,Int.reduceBNe,Int.reduceLT,Int.reduceLE,Int.reduceAdd,Int.reduceSub,Int.reduceMul,Int.reduceToNat,Int.reduceNeg,Int.reduceTMod,Int.reduceEq,not_false_eq_true,Int.reducePow,Int.reduceFDiv,Nat.reducePow,Nat.reduceSub,Nat.reduceMul,Nat.min_eq_left,Nat.reduceEqDiff,BEq.rfl,Int.tdiv_one,LN_succ]
    refine CallO.pure (hps _) ?_
    simp -dsimp only [aqA,↓seqK,↓blkK,↓loopK,step,stepBin,eqB,Nat.add_assoc nid,simprocAttr,z0,Int.cast_ofNat_Int,Int.reduceBEq,Int.reduceBNe,Int.reduceLT,Int.reduceLE,Int.reduceAdd,Int.reduceSub,Int.reduceMul,Int.reduceToNat,Int.reduceNeg,Int.reduceTMod,Int.reduceEq,not_false_eq_true,Int.reducePow,Int.reduceFDiv,Nat.reducePow,Nat.reduceSub,Nat.reduceMul,Nat.min_eq_left,Nat.reduceEqDiff,BEq.rfl,Int.tdiv_one,LN_succ]
    refine RetOK.go [] [] (.inl rfl) ?_
    simp [a3,cvT,step,res]
  rw [h0]
  refine SR.seqTo ⟨[(18,litPl n3 C),(19,.int .i64 0),(16,.ptr (nid + 28) 0),(17,.int .i64 f),(4,.ptr (nid + 4) 0),(5,.ptr (nid + 16) 0)],[(nid + 4,boxW nw W),(nid + 16,boxW nb B),(nid + 28,boxW n2 ⟨R,Q⟩)],nid + 10900,nid⟩ ?_ ?_
  · unfold litPl
    simp -dsimp only [aqA,↓seqK,↓blkK,↓loopK,step,stepBin,eqB,Nat.add_assoc nid,simprocAttr,z0,Int.cast_ofNat_Int,Int.reduceBEq,Int.reduceBNe,Int.reduceLT,Int.reduceLE,Int.reduceAdd,Int.reduceSub,Int.reduceMul,Int.reduceToNat,Int.reduceNeg,Int.reduceTMod,Int.reduceEq,not_false_eq_true,Int.reducePow,Int.reduceFDiv,Nat.reducePow,Nat.reduceSub,Nat.reduceMul,Nat.min_eq_left,Nat.reduceEqDiff,BEq.rfl,Int.tdiv_one,LN_succ]
    refine Cov.go [] [] ?_
    simp [cvT,step,res,boxW,litPl,ColsEq.refl,-List.getD_eq_getElem?_getD]
  refine SR.seqTo ⟨[(20,.ptr (nid + 40) 0),(21,.int .i64 f),(18,litPl n3 C),(19,.int .i64 0),(16,.ptr (nid + 28) 0),(17,.int .i64 f),(4,.ptr (nid + 4) 0),(5,.ptr (nid + 16) 0)],[(nid + 4,boxW nw W),(nid + 16,boxW nb B),(nid + 28,boxW n2 ⟨R,Q⟩),(nid + 40,sbox R.length Q (nid + 44)),(nid + 44,arrS R)],nid + 11000,nid⟩ ?_ ?_
  · unfold boxW litPl
    simp -dsimp only [aqA,↓seqK,↓blkK,↓loopK,step,stepBin,eqB,Nat.add_assoc nid,simprocAttr,z0,Int.cast_ofNat_Int,Int.reduceBEq,Int.reduceBNe,Int.reduceLT,Int.reduceLE,Int.reduceAdd,Int.reduceSub,Int.reduceMul,Int.reduceToNat,Int.reduceNeg,Int.reduceTMod,Int.reduceEq,not_false_eq_true,Int.reducePow,Int.reduceFDiv,Nat.reducePow,Nat.reduceSub,Nat.reduceMul,Nat.min_eq_left,Nat.reduceEqDiff,BEq.rfl,Int.tdiv_one,LN_succ]
    rcases hmg with ⟨g0,g1,g2,g3⟩ | ⟨g0,g1,g2,g3,g4⟩
    · refine CallO.pure (g3 _) ?_
      unfold arrS
      simp -dsimp only [aqA,↓seqK,↓blkK,↓loopK,step,stepBin,eqB,Nat.add_assoc nid,simprocAttr,z0,Int.cast_ofNat_Int,Int.reduceBEq,Int.reduceBNe,Int.reduceLT,Int.reduceLE,Int.reduceAdd,Int.reduceSub,Int.reduceMul,Int.reduceToNat,Int.reduceNeg,Int.reduceTMod,Int.reduceEq,not_false_eq_true,Int.reducePow,Int.reduceFDiv,Nat.reducePow,Nat.reduceSub,Nat.reduceMul,Nat.min_eq_left,Nat.reduceEqDiff,BEq.rfl,Int.tdiv_one,LN_succ]
      refine Cov.go [(nid + 40,nid + 10924),(nid + 44,nid + 10908)] [] ?_
      simp [cvT,step,res,boxW,sbox,litPl,ColsEq.refl,-List.getD_eq_getElem?_getD]
    · refine CallO.pure (g4 h0 _) ?_
      simp -dsimp only [aqA,↓seqK,↓blkK,↓loopK,step,stepBin,eqB,Nat.add_assoc nid,simprocAttr,z0,Int.cast_ofNat_Int,Int.reduceBEq,Int.reduceBNe,Int.reduceLT,Int.reduceLE,Int.reduceAdd,Int.reduceSub,Int.reduceMul,Int.reduceToNat,Int.reduceNeg,Int.reduceTMod,Int.reduceEq,not_false_eq_true,Int.reducePow,Int.reduceFDiv,Nat.reducePow,Nat.reduceSub,Nat.reduceMul,Nat.min_eq_left,Nat.reduceEqDiff,BEq.rfl,Int.tdiv_one,LN_succ]
      refine Cov.go [(nid + 40,nid + 10924)] [(nid + 44,1)] ?_
      simp [cvT,step,res,boxW,sbox,arrS,litPl,g0,g1,ColsEq.refl,-List.getD_eq_getElem?_getD]
  unfold sbox arrS boxW
  refine SR.freezeB [nid + 44] (fun nl' => ?_)
  simp only [frzS,frzH,frzBlk,lends,lend,kill,noOs,aqA,↓seqK,↓blkK,↓loopK,step,stepBin,eqB,Nat.add_assoc nid,simprocAttr,z0,Int.cast_ofNat_Int,Int.reduceBEq,Int.reduceBNe,Int.reduceLT,Int.reduceLE,Int.reduceAdd,Int.reduceSub,Int.reduceMul,Int.reduceToNat,Int.reduceNeg,Int.reduceTMod,Int.reduceEq,not_false_eq_true,Int.reducePow,Int.reduceFDiv,Nat.reducePow,Nat.reduceSub,Nat.reduceMul,Nat.min_eq_left,Nat.reduceEqDiff,BEq.rfl,Int.tdiv_one,LN_succ]
  generalize nl' (nid + 44) = n4
  have hsw := fun m => sameWafer_c n2 n4 ⟨R,Q⟩ ⟨R,Q⟩ m (by simp only; omega) (by simp only; omega)
  have hep := fun nl' m => eqPl_c n3 nl' C C m (by omega) (by omega)
  have ef : (f == f) = true := by simp
  simp only [BEq.rfl,Bool.and_self] at hsw hep
  unfold wafP at hsw
  unfold litPl at hep ⊢
  rcases hch with ⟨k0,k1,k2⟩ | ⟨k0,k1,k2,k3⟩
  rotate_left
  · exact absurd h0 k0
  unfold arrPl at k2
  refine SR.run (t := .mk) ?_
  simp -dsimp only [aqA,↓seqK,↓blkK,↓loopK,step,stepBin,eqB,Nat.add_assoc nid,simprocAttr,z0,Int.cast_ofNat_Int,Int.reduceBEq,Int.reduceBNe,Int.reduceLT,Int.reduceLE,Int.reduceAdd,Int.reduceSub,Int.reduceMul,Int.reduceToNat,Int.reduceNeg,Int.reduceTMod,Int.reduceEq,not_false_eq_true,Int.reducePow,Int.reduceFDiv,Nat.reducePow,Nat.reduceSub,Nat.reduceMul,Nat.min_eq_left,Nat.reduceEqDiff,BEq.rfl,Int.tdiv_one,LN_succ,ef]
  refine CallO.pure (hsw _) ?_
  simp -dsimp only [aqA,↓seqK,↓blkK,↓loopK,step,stepBin,eqB,Nat.add_assoc nid,simprocAttr,z0,Int.cast_ofNat_Int,Int.reduceBEq,Int.reduceBNe,Int.reduceLT,Int.reduceLE,Int.reduceAdd,Int.reduceSub,Int.reduceMul,Int.reduceToNat,Int.reduceNeg,Int.reduceTMod,Int.reduceEq,not_false_eq_true,Int.reducePow,Int.reduceFDiv,Nat.reducePow,Nat.reduceSub,Nat.reduceMul,Nat.min_eq_left,Nat.reduceEqDiff,BEq.rfl,Int.tdiv_one,LN_succ]
  refine CallO.pure (k2 _) ?_
  simp -dsimp only [aqA,↓seqK,↓blkK,↓loopK,step,stepBin,eqB,Nat.add_assoc nid,simprocAttr,z0,Int.cast_ofNat_Int,Int.reduceBEq,Int.reduceBNe,Int.reduceLT,Int.reduceLE,Int.reduceAdd,Int.reduceSub,Int.reduceMul,Int.reduceToNat,Int.reduceNeg,Int.reduceTMod,Int.reduceEq,not_false_eq_true,Int.reducePow,Int.reduceFDiv,Nat.reducePow,Nat.reduceSub,Nat.reduceMul,Nat.min_eq_left,Nat.reduceEqDiff,BEq.rfl,Int.tdiv_one,LN_succ]
  refine CallO.lent [nid + 11064] (fun nl' => by
    simp only [lends,lend,noOs,aqA,↓seqK,↓blkK,↓loopK,step,stepBin,eqB,Nat.add_assoc nid,simprocAttr,z0,Int.cast_ofNat_Int,Int.reduceBEq,Int.reduceBNe,Int.reduceLT,Int.reduceLE,Int.reduceAdd,Int.reduceSub,Int.reduceMul,Int.reduceToNat,Int.reduceNeg,Int.reduceTMod,Int.reduceEq,not_false_eq_true,Int.reducePow,Int.reduceFDiv,Nat.reducePow,Nat.reduceSub,Nat.reduceMul,Nat.min_eq_left,Nat.reduceEqDiff,BEq.rfl,Int.tdiv_one,LN_succ]
    exact hep _ _) rfl rfl (by simp [getH]) ?_
  simp -dsimp only [aqA,↓seqK,↓blkK,↓loopK,step,stepBin,eqB,Nat.add_assoc nid,simprocAttr,z0,Int.cast_ofNat_Int,Int.reduceBEq,Int.reduceBNe,Int.reduceLT,Int.reduceLE,Int.reduceAdd,Int.reduceSub,Int.reduceMul,Int.reduceToNat,Int.reduceNeg,Int.reduceTMod,Int.reduceEq,not_false_eq_true,Int.reducePow,Int.reduceFDiv,Nat.reducePow,Nat.reduceSub,Nat.reduceMul,Nat.min_eq_left,Nat.reduceEqDiff,BEq.rfl,Int.tdiv_one,LN_succ]
  refine CallO.pure (hps _) ?_
  simp -dsimp only [aqA,↓seqK,↓blkK,↓loopK,step,stepBin,eqB,Nat.add_assoc nid,simprocAttr,z0,Int.cast_ofNat_Int,Int.reduceBEq,Int.reduceBNe,Int.reduceLT,Int.reduceLE,Int.reduceAdd,Int.reduceSub,Int.reduceMul,Int.reduceToNat,Int.reduceNeg,Int.reduceTMod,Int.reduceEq,not_false_eq_true,Int.reducePow,Int.reduceFDiv,Nat.reducePow,Nat.reduceSub,Nat.reduceMul,Nat.min_eq_left,Nat.reduceEqDiff,BEq.rfl,Int.tdiv_one,LN_succ]
  refine RetOK.go [] [] (.inl rfl) ?_
  simp [a3,cvT,step,res]
open Go.RowKit
theorem gok_cell {W:World} {g:Nat} {m:Int} (h:W.cell? ⟨g,0,none⟩=some (.int .i64 m)):g<W.heap.size∧∃ o,W.heap[g]?=some o∧cell0 o=some (.int .i64 m):=by
 unfold World.cell? at h
 simp only at h
 split at h
 ·rename_i c t f hc
  refine ⟨?_,_,hc,?_⟩
  ·rcases Nat.lt_or_ge g W.heap.size with hl | hl
   ·exact hl
   ·rw [Array.getElem?_eq_none hl] at hc; cases hc
  ·simpa [cell0] using h
 ·cases h
set_option maxRecDepth 1000000 in
theorem gok0_of {W:World} (h:W.ShapedOpen Try.prog):GOK0 (fun b=>W.heap[b]?) W.heap.size:=by
 obtain ⟨m,hm⟩:=cell_of_shapedOpen_int (g:=0) (t:=3) (zero:=#[.int .i64 0]) (k:=.i64) h (of_decide_eq_true (by kernel_rfl)) (by kernel_rfl) rfl (by kernel_rfl) (by kernel_rfl) Try.underlying3
 obtain ⟨h1,o,h2,h3⟩:=gok_cell hm
 exact ⟨o,m,h1,h2,h3⟩
theorem gok_of {W:World} (h:W.ShapedOpen Try.prog):GOK (fun b=>W.heap[b]?) W.heap.size:=gok0_of h
end Go.Proofs.Yteepabfepfehgaa
