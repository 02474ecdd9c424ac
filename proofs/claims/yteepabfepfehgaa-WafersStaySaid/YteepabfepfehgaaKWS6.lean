/-
 The places of a wafer; two wafers merged,place by place,by the abstract machine.
-/
import Derived.Test.YteepabfepfehgaaKWS5
import Derived.Test.YteepabfepfehgaaProg
import Derived.Ground.NamesProg
import Derived.Shelf.SlSortCmp.NoneTotal
import Derived.Shelf.SlicesG.Cmp
import Derived.Test.YteepabfepfehgaaKWS3
import Derived.WalkKit
import Derived.StillTailTactics
import Derived.RegionCalls
import Derived.Deep.RegionWith
import Derived.Test.YteepabfepfehgaaKWS4
set_option linter.unusedVariables false
set_option linter.unusedSimpArgs false
set_option maxRecDepth 100000
namespace Go.Proofs.Yteepabfepfehgaa
open Go.RowKit
theorem plTo_bd {W:Waf} (hW:WafOk W) {y:Nat} (hy:y≤W.rows.length):(plTo W y).length≤60000:=by
 have h:=plTo_len (W:=W) (fun r hr=>by have:=(hW.row r hr).2.1; omega) y hy
 have:=hW.len
 omega
set_option maxHeartbeats 4000000 in
theorem places_all (nl:Bool) (W:Waf) (nid:Nat) (hW:WafOk W):ACall Try.prog 43 [wafP nl W] [] nid (.sl nid 0 (plV W).length) [(nid,arrPl (plV W))]:=by
 have hl:=hW.len
 refine acall_run c43 (by simp [a43]) ?_
 unfold wafP
 simp -dsimp only [a43,aqA,↓seqK,↓blkK,↓loopK,step,stepBin,eqB,Nat.add_assoc nid,simprocAttr,z0,Int.cast_ofNat_Int,Int.reduceBEq,Int.reduceBNe,Int.reduceLT,Int.reduceLE,Int.reduceAdd,Int.reduceSub,Int.reduceMul,Int.reduceToNat,Int.reduceNeg,Int.reduceTMod,Int.reduceEq,not_false_eq_true,Int.reducePow,Int.reduceFDiv,Nat.reducePow,Nat.reduceSub,Nat.reduceMul,Nat.min_eq_left,Nat.reduceEqDiff,BEq.rfl,Int.tdiv_one,LN_succ]
 refine LP.mkP (fun y:Nat=>y≤W.rows.length) (fun y:Nat=>⟨[(10,.int .i64 y),(9,.int .i64 W.rows.length),(8,.lit nl W.rows.length [.s fun i=>W.rows.getD i []]),(3,.sl (nid+8) 0 (plTo W y).length)],[(nid+8,arrPl (plTo W y))],nid+100,nid⟩) (fun y=>W.rows.length+1 - y) 0 (by omega) (Cov.go [] [(nid+8,2)] ?_) (fun y hy=>?_)
 ·simp [cvT,step,res,arrPl,plTo]
 unfold arrPl
 simp -dsimp only [aqA,↓seqK,↓blkK,↓loopK,step,stepBin,eqB,Nat.add_assoc nid,simprocAttr,z0,Int.cast_ofNat_Int,Int.reduceBEq,Int.reduceBNe,Int.reduceLT,Int.reduceLE,Int.reduceAdd,Int.reduceSub,Int.reduceMul,Int.reduceToNat,Int.reduceNeg,Int.reduceTMod,Int.reduceEq,not_false_eq_true,Int.reducePow,Int.reduceFDiv,Nat.reducePow,Nat.reduceSub,Nat.reduceMul,Nat.min_eq_left,Nat.reduceEqDiff,BEq.rfl,Int.tdiv_one,LN_succ]
 refine S2.dec (fun h1=>?_) (fun h1=>?_) <;> simp -dsimp only [aqA,↓seqK,↓blkK,↓loopK,step,stepBin,eqB,Nat.add_assoc nid,simprocAttr,z0,Int.cast_ofNat_Int,Int.reduceBEq,Int.reduceBNe,Int.reduceLT,Int.reduceLE,Int.reduceAdd,Int.reduceSub,Int.reduceMul,Int.reduceToNat,Int.reduceNeg,Int.reduceTMod,Int.reduceEq,not_false_eq_true,Int.reducePow,Int.reduceFDiv,Nat.reducePow,Nat.reduceSub,Nat.reduceMul,Nat.min_eq_left,Nat.reduceEqDiff,BEq.rfl,Int.tdiv_one,LN_succ]
 ·have hyl:y<W.rows.length:=by omega
  have hrl:=(hW.at hyl).1
  have hw2:=hW.wide.2
  have hts:=plTo_succ W y
  have htb:=plTo_bd hW (y:=y) (by omega)
  generalize hr:W.rows.getD y []=r at *
  generalize plTo W y=T at *
  refine ⟨by omega,LP.mkP (fun x:Nat=>x≤r.length) (fun x:Nat=>⟨[(17,.int .i64 x),(16,.int .i64 r.length),(4,.int .i64 y),(10,.int .i64 y),(9,.int .i64 W.rows.length),(8,.lit nl W.rows.length [.s fun i=>W.rows.getD i []]),(3,.sl (nid+8) 0 (T++rowPl y x).length)],[(nid+8,arrPl (T++rowPl y x))],nid+300,nid⟩) (fun x=>r.length+1 - x) 0 (by omega) (Cov.go [] [] ?_) (fun x hx=>?_)⟩
  ·simp [cvT,step,res,arrPl,rowPl]
  have hrs:=rowPl_succ y x
  have hrx:=rowPl_len y x
  have hTl:(T++rowPl y x).length=T.length+x:=by rw [List.length_append,hrx]
  have hTs:T++rowPl y (x+1)=(T++rowPl y x)++[((x:Int),(y:Int))]:=by rw [hrs,List.append_assoc]
  generalize hLd:T++rowPl y x=L at *
  unfold arrPl
  simp -dsimp only [aqA,↓seqK,↓blkK,↓loopK,step,stepBin,eqB,Nat.add_assoc nid,simprocAttr,z0,Int.cast_ofNat_Int,Int.reduceBEq,Int.reduceBNe,Int.reduceLT,Int.reduceLE,Int.reduceAdd,Int.reduceSub,Int.reduceMul,Int.reduceToNat,Int.reduceNeg,Int.reduceTMod,Int.reduceEq,not_false_eq_true,Int.reducePow,Int.reduceFDiv,Nat.reducePow,Nat.reduceSub,Nat.reduceMul,Nat.min_eq_left,Nat.reduceEqDiff,BEq.rfl,Int.tdiv_one,LN_succ]
  refine S2.dec (fun h2=>?_) (fun h2=>?_) <;> simp -dsimp only [aqA,↓seqK,↓blkK,↓loopK,step,stepBin,eqB,Nat.add_assoc nid,simprocAttr,z0,Int.cast_ofNat_Int,Int.reduceBEq,Int.reduceBNe,Int.reduceLT,Int.reduceLE,Int.reduceAdd,Int.reduceSub,Int.reduceMul,Int.reduceToNat,Int.reduceNeg,Int.reduceTMod,Int.reduceEq,not_false_eq_true,Int.reducePow,Int.reduceFDiv,Nat.reducePow,Nat.reduceSub,Nat.reduceMul,Nat.min_eq_left,Nat.reduceEqDiff,BEq.rfl,Int.tdiv_one,LN_succ]
  ·rw [getD_appP L ((x:Int),(y:Int)) rfl (fun q=>q.1) rfl rfl,getD_appP L ((x:Int),(y:Int)) rfl (fun q=>q.2) rfl rfl,← hTs]
   have hl3:(T++rowPl y (x+1)).length=L.length+1:=by rw [hTs]; simp
   refine ⟨⟨by omega,by omega⟩,by unfold inI64; omega,x+1,⟨by omega,by omega⟩,Cov.go [(nid+8,nid+332)] [] ?_⟩
   simp [cvT,step,res,hl3,-List.getD_eq_getElem?_getD,-List.length_append]
  ·have hxr:x=r.length:=by omega
   subst hxr
   have e:plTo W (y+1)=L:=by rw [hts,hLd]
   refine ⟨by unfold inI64; omega,y+1,⟨by omega,by omega⟩,Cov.go [] [] ?_⟩
   rw [e]
   simp [cvT,step,res,-List.getD_eq_getElem?_getD]
 ·have hyn:y=W.rows.length:=by omega
  subst hyn
  refine RetOK.go [(nid,nid+8)] [] (.inl rfl) ?_
  simp [cvT,step,res,a43,arrPl,plV,-List.getD_eq_getElem?_getD]
def mergeB (a d:UInt8):UInt8:=if a=d∨d=63 then a else d
def mergeO (a d:UInt8):Bool:=decide (a=d∨d=63∨a=63)
def boxW (nl:Bool) (W:Waf):Option ABlk:=some (.box 28 [.lit nl W.rows.length [.s fun i=>W.rows.getD i []],.str W.pass])
def boxB (b:Bool):Option ABlk:=some (.box 4 [.bool b])
def dieB (W:Waf) (x y:Nat):UInt8:=(W.rows.getD y []).getD x 0
theorem byteI_inj {a b:UInt8}:byteI a=byteI b↔a=b:=by
 unfold byteI
 constructor
 ·intro h
  have:a.toNat=b.toNat:=by omega
  exact UInt8.toNat_inj.1 this
 ·rintro rfl; rfl
set_option maxHeartbeats 4000000 in
theorem mergeF_c (ib io:Nat) (nl:Bool) (W:Waf) (x y:Nat) (a:UInt8) (o:Bool) (nid:Nat) (hib:ib<nid) (hio:io<nid) (hne:ib≠io) (hW:WafOk W) (hy:y<W.rows.length) (hx:x<wideOf W) :
  ACall Try.prog 56 [.agg [.int .i64 (x:Nat),.int .i64 (y:Nat)],.int .u8 ((a.toNat:Nat)),.ptr ib 0,.ptr io 0] [(ib,boxW nl W),(io,boxB o)] nid (.int .u8 (((mergeB a (dieB W x y)).toNat:Nat))) [(ib,boxW nl W),(io,boxB (o && mergeO a (dieB W x y)))]:=by
 have hl:=hW.len
 have hw:=hW.wide.2
 obtain ⟨a1,a2,a3,a4,a5,a6,a7,a8,a9⟩:=id_all hib
 obtain ⟨b1,b2,b3,b4,b5,b6,b7,b8,b9⟩:=id_all hio
 have c1:(ib==io)=false:=by simpa using hne
 have c2:(io==ib)=false:=by simpa using fun h=>hne h.symm
 have c3:¬ io=ib:=fun h=>hne h.symm
 refine acall_run c56 (by simp [a56]) ?_
 unfold boxW boxB
 simp -dsimp only [a56,aqA,↓seqK,↓blkK,↓loopK,step,stepBin,eqB,Nat.add_assoc nid,simprocAttr,z0,Int.cast_ofNat_Int,Int.reduceBEq,Int.reduceBNe,Int.reduceLT,Int.reduceLE,Int.reduceAdd,Int.reduceSub,Int.reduceMul,Int.reduceToNat,Int.reduceNeg,Int.reduceTMod,Int.reduceEq,not_false_eq_true,Int.reducePow,Int.reduceFDiv,Nat.reducePow,Nat.reduceSub,Nat.reduceMul,Nat.min_eq_left,Nat.reduceEqDiff,BEq.rfl,Int.tdiv_one,LN_succ,a1,a2,a3,a4,a5,a6,a7,a8,a9,b1,b2,b3,b4,b5,b6,b7,b8,b9,c1,c2]
 refine CallO.pure (at_all nl W (x:Nat) (y:Nat) _ hW (by unfold inI64; omega) (by unfold inI64; omega)) ?_
 rw [dieV_in hy hx]
 have hd:(W.rows.getD y []).getD x 0=dieB W x y:=rfl
 rw [hd]
 generalize dieB W x y=d
 simp -dsimp only [aqA,↓seqK,↓blkK,↓loopK,step,stepBin,eqB,Nat.add_assoc nid,simprocAttr,z0,Int.cast_ofNat_Int,Int.reduceBEq,Int.reduceBNe,Int.reduceLT,Int.reduceLE,Int.reduceAdd,Int.reduceSub,Int.reduceMul,Int.reduceToNat,Int.reduceNeg,Int.reduceTMod,Int.reduceEq,not_false_eq_true,Int.reducePow,Int.reduceFDiv,Nat.reducePow,Nat.reduceSub,Nat.reduceMul,Nat.min_eq_left,Nat.reduceEqDiff,BEq.rfl,Int.tdiv_one,LN_succ,a1,a2,a3,a4,a5,a6,a7,a8,a9,b1,b2,b3,b4,b5,b6,b7,b8,b9,c1,c2]
 unfold byteI
 have fin:∀ (r:UInt8) (o':Bool),r=mergeB a d→o'=(o && mergeO a d)→∀ st:ST,getS st.slots 6=.int .u8 ((r.toNat:Nat))→getH st.heap ib=boxW nl W→getH st.heap io=boxB o'→RetOK (a56).res [(ib,boxW nl W),(io,boxB o)] nid (.int .u8 (((mergeB a d).toNat:Nat))) [(ib,boxW nl W),(io,boxB (o && mergeO a d))] .ret st:=fun r o' hr ho st h1 h2 h3=>by
  subst hr; subst ho
  refine RetOK.go [] [] (.inl rfl) ?_
  unfold boxW boxB at *
  simp [a56,cvT,step,res,a1,a2,a3,a4,a5,a6,a7,a8,a9,b1,b2,b3,b4,b5,b6,b7,b8,b9,c1,c2,c3,hne,h1,h2,h3]
 unfold boxW boxB at fin
 have hinj:∀ x z:UInt8,(((x.toNat:Nat):Int)==((z.toNat:Nat):Int))=decide (x=z):=fun x z=>by
  rw [Bool.eq_iff_iff,beq_iff_eq,decide_eq_true_eq]
  exact byteI_inj
 rw [hinj a d]
 refine S2.dec (fun h1=>?_) (fun h1=>?_) <;> simp -dsimp only [aqA,↓seqK,↓blkK,↓loopK,step,stepBin,eqB,Nat.add_assoc nid,simprocAttr,z0,Int.cast_ofNat_Int,Int.reduceBEq,Int.reduceBNe,Int.reduceLT,Int.reduceLE,Int.reduceAdd,Int.reduceSub,Int.reduceMul,Int.reduceToNat,Int.reduceNeg,Int.reduceTMod,Int.reduceEq,not_false_eq_true,Int.reducePow,Int.reduceFDiv,Nat.reducePow,Nat.reduceSub,Nat.reduceMul,Nat.min_eq_left,Nat.reduceEqDiff,BEq.rfl,Int.tdiv_one,LN_succ,a1,a2,a3,a4,a5,a6,a7,a8,a9,b1,b2,b3,b4,b5,b6,b7,b8,b9,c1,c2]
 ·exact fin a o (by unfold mergeB; rw [if_pos (.inl h1)]) (by unfold mergeO; simp [h1]) _ (by simp only [aqA,↓seqK,↓blkK,↓loopK,step,stepBin,eqB,Nat.add_assoc nid,simprocAttr,z0]) (by simp only [aqA,↓seqK,↓blkK,↓loopK,step,stepBin,eqB,Nat.add_assoc nid,simprocAttr,z0,a1,a2,a3,a4,a5,a6,a7,a8,a9,b1,b2,b3,b4,b5,b6,b7,b8,b9,c1,c2]) (by simp only [aqA,↓seqK,↓blkK,↓loopK,step,stepBin,eqB,Nat.add_assoc nid,simprocAttr,z0,a1,a2,a3,a4,a5,a6,a7,a8,a9,b1,b2,b3,b4,b5,b6,b7,b8,b9,c1,c2])
 ·have h63:(((d.toNat:Nat):Int)==63)=decide (d=63):=hinj d 63
  rw [h63]
  refine S2.dec (fun h2=>?_) (fun h2=>?_) <;> simp -dsimp only [aqA,↓seqK,↓blkK,↓loopK,step,stepBin,eqB,Nat.add_assoc nid,simprocAttr,z0,Int.cast_ofNat_Int,Int.reduceBEq,Int.reduceBNe,Int.reduceLT,Int.reduceLE,Int.reduceAdd,Int.reduceSub,Int.reduceMul,Int.reduceToNat,Int.reduceNeg,Int.reduceTMod,Int.reduceEq,not_false_eq_true,Int.reducePow,Int.reduceFDiv,Nat.reducePow,Nat.reduceSub,Nat.reduceMul,Nat.min_eq_left,Nat.reduceEqDiff,BEq.rfl,Int.tdiv_one,LN_succ,a1,a2,a3,a4,a5,a6,a7,a8,a9,b1,b2,b3,b4,b5,b6,b7,b8,b9,c1,c2]
  ·exact fin a o (by unfold mergeB; rw [if_pos (.inr h2)]) (by unfold mergeO; simp [h2]) _ (by simp only [aqA,↓seqK,↓blkK,↓loopK,step,stepBin,eqB,Nat.add_assoc nid,simprocAttr,z0]) (by simp only [aqA,↓seqK,↓blkK,↓loopK,step,stepBin,eqB,Nat.add_assoc nid,simprocAttr,z0,a1,a2,a3,a4,a5,a6,a7,a8,a9,b1,b2,b3,b4,b5,b6,b7,b8,b9,c1,c2]) (by simp only [aqA,↓seqK,↓blkK,↓loopK,step,stepBin,eqB,Nat.add_assoc nid,simprocAttr,z0,a1,a2,a3,a4,a5,a6,a7,a8,a9,b1,b2,b3,b4,b5,b6,b7,b8,b9,c1,c2])
  ·have h64:(((a.toNat:Nat):Int) != 63)=decide (¬ a=63):=by
    have:(((a.toNat:Nat):Int)==63)=decide (a=63):=hinj a 63
    unfold bne
    rw [this]
    by_cases h:a=63 <;> simp [h]
   rw [h64]
   have hb:mergeB a d=d:=by unfold mergeB; rw [if_neg (by simp [h1,h2])]
   refine S2.dec (fun h3=>?_) (fun h3=>?_) <;> simp -dsimp only [aqA,↓seqK,↓blkK,↓loopK,step,stepBin,eqB,Nat.add_assoc nid,simprocAttr,z0,Int.cast_ofNat_Int,Int.reduceBEq,Int.reduceBNe,Int.reduceLT,Int.reduceLE,Int.reduceAdd,Int.reduceSub,Int.reduceMul,Int.reduceToNat,Int.reduceNeg,Int.reduceTMod,Int.reduceEq,not_false_eq_true,Int.reducePow,Int.reduceFDiv,Nat.reducePow,Nat.reduceSub,Nat.reduceMul,Nat.min_eq_left,Nat.reduceEqDiff,BEq.rfl,Int.tdiv_one,LN_succ,a1,a2,a3,a4,a5,a6,a7,a8,a9,b1,b2,b3,b4,b5,b6,b7,b8,b9,c1,c2]
   ·exact fin d false hb.symm (by unfold mergeO; simp [h1,h2,h3]) _ (by simp only [aqA,↓seqK,↓blkK,↓loopK,step,stepBin,eqB,Nat.add_assoc nid,simprocAttr,z0]) (by simp only [aqA,↓seqK,↓blkK,↓loopK,step,stepBin,eqB,Nat.add_assoc nid,simprocAttr,z0,a1,a2,a3,a4,a5,a6,a7,a8,a9,b1,b2,b3,b4,b5,b6,b7,b8,b9,c1,c2]) (by simp only [aqA,↓seqK,↓blkK,↓loopK,step,stepBin,eqB,Nat.add_assoc nid,simprocAttr,z0,a1,a2,a3,a4,a5,a6,a7,a8,a9,b1,b2,b3,b4,b5,b6,b7,b8,b9,c1,c2])
   ·have h3':a=63:=Classical.not_not.1 h3
    exact fin d o hb.symm (by unfold mergeO; simp [h3']) _ (by simp only [aqA,↓seqK,↓blkK,↓loopK,step,stepBin,eqB,Nat.add_assoc nid,simprocAttr,z0]) (by simp only [aqA,↓seqK,↓blkK,↓loopK,step,stepBin,eqB,Nat.add_assoc nid,simprocAttr,z0,a1,a2,a3,a4,a5,a6,a7,a8,a9,b1,b2,b3,b4,b5,b6,b7,b8,b9,c1,c2]) (by simp only [aqA,↓seqK,↓blkK,↓loopK,step,stepBin,eqB,Nat.add_assoc nid,simprocAttr,z0,a1,a2,a3,a4,a5,a6,a7,a8,a9,b1,b2,b3,b4,b5,b6,b7,b8,b9,c1,c2])
def mergeR (r t:List UInt8):List UInt8:=List.zipWith mergeB r t
def okR (r t:List UInt8):Bool:=(List.zipWith mergeO r t).all id
def mergeRs (R T:List (List UInt8)):List (List UInt8):=List.zipWith mergeR R T
def okRs (R T:List (List UInt8)):Bool:=(List.zipWith okR R T).all id
theorem zip_len {α β γ:Type} (f:α→β→γ) {l:List α} {m:List β} (h:l.length=m.length):(List.zipWith f l m).length=l.length:=by rw [List.length_zipWith]; omega
theorem zip_take {α β γ:Type} (f:α→β→γ) (da:α) (db:β) {l:List α} {m:List β} {k:Nat} (hl:k<l.length) (hm:k<m.length):(List.zipWith f l m).take (k+1)=(List.zipWith f l m).take k++[f (l.getD k da) (m.getD k db)]:=by
 rw [List.take_add_one]
 congr 1
 rw [List.getElem?_zipWith,List.getElem?_eq_getElem hl,List.getElem?_eq_getElem hm,List.getD_eq_getElem?_getD,List.getD_eq_getElem?_getD,List.getElem?_eq_getElem hl,List.getElem?_eq_getElem hm]
 rfl
def rowTo (r t:List UInt8) (k:Nat):List UInt8:=(List.zipWith mergeB r t).take k++r.drop k
theorem rowTo_len {r t:List UInt8} (h:r.length=t.length) (k:Nat):(rowTo r t k).length=r.length:=by
 unfold rowTo; rw [List.length_append,List.length_take,List.length_drop,zip_len _ h]; omega
theorem rowTo_at {r t:List UInt8} (h:r.length=t.length) {k:Nat} (hk:k<r.length):(rowTo r t k).getD k 0=r.getD k 0:=by
 unfold rowTo
 rw [List.getD_eq_getElem?_getD,List.getElem?_append_right (by rw [List.length_take]; omega),List.getElem?_drop,List.length_take,zip_len _ h,List.getD_eq_getElem?_getD]
 congr 2
 omega
theorem rowTo_set {r t:List UInt8} (h:r.length=t.length) {k:Nat} (hk:k<r.length):(rowTo r t k).set k (mergeB (r.getD k 0) (t.getD k 0))=rowTo r t (k+1):=by
 unfold rowTo
 rw [zip_take mergeB 0 0 hk (by omega),List.set_append_right _ _ (by rw [List.length_take]; omega),List.length_take,zip_len _ h,Nat.min_eq_left (by omega),Nat.sub_self,List.append_assoc,List.drop_eq_getElem_cons hk]
 rfl
theorem rowTo_all {r t:List UInt8} (h:r.length=t.length):rowTo r t r.length=mergeR r t:=by
 unfold rowTo mergeR
 rw [List.drop_length,List.append_nil,List.take_of_length_le (by rw [zip_len _ h]; omega)]
open Go.RowKit
open Go.RowKit
open Go.RowKit
def cntTo (F:Pt→Bool) (l:List Pt) (k:Nat):Nat:=(l.take k).countP F
def cntN (F:Pt→Bool) (l:List Pt):Nat:=l.countP F
theorem cntTo_succ (F:Pt→Bool) {l:List Pt} {k:Nat} (h:k<l.length):cntTo F l (k+1)=cntTo F l k+(if F (l.getD k p0)=true then 1 else 0):=by
 unfold cntTo
 rw [take_snoc (x:=l.getD k p0) (by rw [List.getD_eq_getElem?_getD,List.getElem?_eq_getElem h]; rfl),List.countP_append,List.countP_cons,List.countP_nil,Nat.zero_add]
theorem cntTo_le (F:Pt→Bool) (l:List Pt) (k:Nat):cntTo F l k≤l.length:=by
 unfold cntTo
 have h1:=List.countP_le_length (p:=F) (l:=l.take k)
 rw [List.length_take] at h1
 omega
theorem cntTo_all (F:Pt→Bool) (l:List Pt):cntTo F l l.length=cntN F l:=by unfold cntTo cntN; rw [List.take_length]
theorem cntTo_zero (F:Pt→Bool) (l:List Pt):cntTo F l 0=0:=by simp [cntTo]
theorem cntN_le (F:Pt→Bool) (l:List Pt):cntN F l≤l.length:=List.countP_le_length
theorem ptMem' {l:List Pt} {k:Nat} (h:k<l.length):l.getD k p0∈l:=by
 rw [List.getD_eq_getElem?_getD,List.getElem?_eq_getElem h]; exact List.getElem_mem _
theorem WafOk.bd {W:Waf} (h:WafOk W) (hp:W.pass.length≤1000000):WafBd W:=⟨by have:=h.len; omega,fun r hr=>by have:=(h.row r hr).2.1; omega,hp⟩
open Go.RowKit
def neP (q p:Pt):Bool:=!(q.1==p.1 && q.2==p.2)
def rowAr (p:Pt) (j i:Nat):List Pt:=((List.range i).map fun i=>(p.1 - 1+((i:Nat):Int),p.2 - 1+((j:Nat):Int))).filter fun q=>neP q p
def arTo (p:Pt) (j:Nat):List Pt:=(List.range j).flatMap fun j=>rowAr p j 3
def arV (p:Pt):List Pt:=arTo p 3
theorem rowAr_succ (p:Pt) (j i:Nat):rowAr p j (i+1)=rowAr p j i++(if neP (p.1 - 1+(i:Int),p.2 - 1+(j:Int)) p=true then [(p.1 - 1+(i:Int),p.2 - 1+(j:Int))] else []):=by
 unfold rowAr
 rw [List.range_succ,List.map_append,List.filter_append]
 congr 1
 cases h:neP (p.1 - 1+(i:Int),p.2 - 1+(j:Int)) p <;> simp [h]
theorem arTo_succ (p:Pt) (j:Nat):arTo p (j+1)=arTo p j++rowAr p j 3:=by simp [arTo,List.range_succ]
theorem rowAr_len (p:Pt) (j i:Nat):(rowAr p j i).length≤i:=by
 unfold rowAr
 have:=List.length_filter_le (fun q=>neP q p) ((List.range i).map fun i=>(p.1 - 1+((i:Nat):Int),p.2 - 1+((j:Nat):Int)))
 simpa using this
theorem arTo_len (p:Pt):∀ j,(arTo p j).length≤3 * j
 | 0=>by simp [arTo]
 | j+1=>by
  have:=arTo_len p j
  have:=rowAr_len p j 3
  rw [arTo_succ,List.length_append]
  omega
def PtBd (p:Pt):Prop := -1000000≤p.1∧p.1≤1000000 ∧ -1000000≤p.2∧p.2≤1000000
theorem arV_mem {p q:Pt} (h:q∈arV p):p.1 - 1≤q.1∧q.1≤p.1+1∧p.2 - 1≤q.2∧q.2≤p.2+1:=by
 unfold arV arTo rowAr at h
 rw [List.mem_flatMap] at h
 obtain ⟨j,hj,h⟩:=h
 rw [List.mem_filter,List.mem_map] at h
 obtain ⟨⟨i,hi,rfl⟩,_⟩:=h
 have:=List.mem_range.1 hi
 have:=List.mem_range.1 hj
 simp only
 omega
set_option maxHeartbeats 4000000 in
theorem around_all (p:Pt) (nid:Nat) (hp:PtBd p):ACall Try.prog 67 [.agg [.int .i64 p.1,.int .i64 p.2]] [] nid (.sl nid 0 (arV p).length) [(nid,arrPl (arV p))]:=by
 obtain ⟨x,y⟩:=p
 obtain ⟨p1,p2,p3,p4⟩:=hp
 simp only at p1 p2 p3 p4
 refine acall_run c67 (by simp [a67]) ?_
 simp -dsimp only [a67,aqA,↓seqK,↓blkK,↓loopK,step,stepBin,eqB,Nat.add_assoc nid,simprocAttr,z0,Int.cast_ofNat_Int,Int.reduceBEq,Int.reduceBNe,Int.reduceLT,Int.reduceLE,Int.reduceAdd,Int.reduceSub,Int.reduceMul,Int.reduceToNat,Int.reduceNeg,Int.reduceTMod,Int.reduceEq,not_false_eq_true,Int.reducePow,Int.reduceFDiv,Nat.reducePow,Nat.reduceSub,Nat.reduceMul,Nat.min_eq_left,Nat.reduceEqDiff,BEq.rfl,Int.tdiv_one,LN_succ]
 refine ⟨by unfold inI64; omega,LP.mkP (fun j:Nat=>j≤3) (fun j:Nat=>⟨[(4,.int .i64 (y - 1+(j:Int))),(3,.sl (nid+8) 0 (arTo (x,y) j).length),(1,.ptr nid 0)],[(nid,some (.box 46 [.int .i64 x,.int .i64 y])),(nid+8,arrPl (arTo (x,y) j))],nid+100,nid⟩) (fun j=>4 - j) 0 (by omega) (Cov.go [] [(nid+8,2)] ?_) (fun j hj=>?_)⟩
 ·simp [cvT,step,res,arrPl,arTo]
 have hAs:=arTo_succ (x,y) j
 have hV:arV (x,y)=arTo (x,y) 3:=rfl
 have hAl:=arTo_len (x,y) j
 generalize hTd:arTo (x,y) j=T at *
 unfold arrPl
 simp -dsimp only [aqA,↓seqK,↓blkK,↓loopK,step,stepBin,eqB,Nat.add_assoc nid,simprocAttr,z0,Int.cast_ofNat_Int,Int.reduceBEq,Int.reduceBNe,Int.reduceLT,Int.reduceLE,Int.reduceAdd,Int.reduceSub,Int.reduceMul,Int.reduceToNat,Int.reduceNeg,Int.reduceTMod,Int.reduceEq,not_false_eq_true,Int.reducePow,Int.reduceFDiv,Nat.reducePow,Nat.reduceSub,Nat.reduceMul,Nat.min_eq_left,Nat.reduceEqDiff,BEq.rfl,Int.tdiv_one,LN_succ]
 refine ⟨by unfold inI64; omega,S2.dec (fun h1=>?_) (fun h1=>?_)⟩ <;> simp -dsimp only [aqA,↓seqK,↓blkK,↓loopK,step,stepBin,eqB,Nat.add_assoc nid,simprocAttr,z0,Int.cast_ofNat_Int,Int.reduceBEq,Int.reduceBNe,Int.reduceLT,Int.reduceLE,Int.reduceAdd,Int.reduceSub,Int.reduceMul,Int.reduceToNat,Int.reduceNeg,Int.reduceTMod,Int.reduceEq,not_false_eq_true,Int.reducePow,Int.reduceFDiv,Nat.reducePow,Nat.reduceSub,Nat.reduceMul,Nat.min_eq_left,Nat.reduceEqDiff,BEq.rfl,Int.tdiv_one,LN_succ]
 ·refine ⟨by unfold inI64; omega,LP.mkP (fun i:Nat=>i≤3) (fun i:Nat=>⟨[(5,.int .i64 (x - 1+(i:Int))),(4,.int .i64 (y - 1+(j:Int))),(3,.sl (nid+8) 0 (T++rowAr (x,y) j i).length),(1,.ptr nid 0)],[(nid,some (.box 46 [.int .i64 x,.int .i64 y])),(nid+8,arrPl (T++rowAr (x,y) j i))],nid+300,nid⟩) (fun i=>4 - i) 0 (by omega) (Cov.go [] [] ?_) (fun i hi=>?_)⟩
  ·simp [cvT,step,res,arrPl,rowAr]
  have hRs:=rowAr_succ (x,y) j i
  have hRl:=rowAr_len (x,y) j i
  have hTl:(T++rowAr (x,y) j i).length≤20:=by rw [List.length_append]; omega
  unfold arrPl
  simp -dsimp only [aqA,↓seqK,↓blkK,↓loopK,step,stepBin,eqB,Nat.add_assoc nid,simprocAttr,z0,Int.cast_ofNat_Int,Int.reduceBEq,Int.reduceBNe,Int.reduceLT,Int.reduceLE,Int.reduceAdd,Int.reduceSub,Int.reduceMul,Int.reduceToNat,Int.reduceNeg,Int.reduceTMod,Int.reduceEq,not_false_eq_true,Int.reducePow,Int.reduceFDiv,Nat.reducePow,Nat.reduceSub,Nat.reduceMul,Nat.min_eq_left,Nat.reduceEqDiff,BEq.rfl,Int.tdiv_one,LN_succ]
  refine ⟨by unfold inI64; omega,S2.dec (fun h2=>?_) (fun h2=>?_)⟩ <;> simp -dsimp only [aqA,↓seqK,↓blkK,↓loopK,step,stepBin,eqB,Nat.add_assoc nid,simprocAttr,z0,Int.cast_ofNat_Int,Int.reduceBEq,Int.reduceBNe,Int.reduceLT,Int.reduceLE,Int.reduceAdd,Int.reduceSub,Int.reduceMul,Int.reduceToNat,Int.reduceNeg,Int.reduceTMod,Int.reduceEq,not_false_eq_true,Int.reducePow,Int.reduceFDiv,Nat.reducePow,Nat.reduceSub,Nat.reduceMul,Nat.min_eq_left,Nat.reduceEqDiff,BEq.rfl,Int.tdiv_one,LN_succ]
  ·have hne:(!(x - 1+(i:Int)==x && y - 1+(j:Int)==y))=neP (x - 1+(i:Int),y - 1+(j:Int)) (x,y):=rfl
   rw [hne]
   have hAp:T++rowAr (x,y) j (i+1)=(T++rowAr (x,y) j i)++(if neP (x - 1+(i:Int),y - 1+(j:Int)) (x,y)=true then [(x - 1+(i:Int),y - 1+(j:Int))] else []):=by rw [hRs,List.append_assoc]
   generalize hLd:T++rowAr (x,y) j i=L at *
   cases hN:neP (x - 1+(i:Int),y - 1+(j:Int)) (x,y) <;> rw [hN] at hAp <;> simp -dsimp only [aqA,↓seqK,↓blkK,↓loopK,step,stepBin,eqB,Nat.add_assoc nid,simprocAttr,z0,Int.cast_ofNat_Int,Int.reduceBEq,Int.reduceBNe,Int.reduceLT,Int.reduceLE,Int.reduceAdd,Int.reduceSub,Int.reduceMul,Int.reduceToNat,Int.reduceNeg,Int.reduceTMod,Int.reduceEq,not_false_eq_true,Int.reducePow,Int.reduceFDiv,Nat.reducePow,Nat.reduceSub,Nat.reduceMul,Nat.min_eq_left,Nat.reduceEqDiff,BEq.rfl,Int.tdiv_one,LN_succ]
   ·rw [if_neg (by simp),List.append_nil] at hAp
    refine ⟨by unfold inI64; omega,i+1,⟨by omega,by omega⟩,Cov.go [] [] ?_⟩
    simp [cvT,step,res,arrPl,hAp,-List.getD_eq_getElem?_getD]
    omega
   ·rw [if_pos rfl] at hAp
    rw [getD_appP L (x - 1+(i:Int),y - 1+(j:Int)) rfl (fun q=>q.1) rfl rfl,getD_appP L (x - 1+(i:Int),y - 1+(j:Int)) rfl (fun q=>q.2) rfl rfl,← hAp]
    have hl3:(T++rowAr (x,y) j (i+1)).length=L.length+1:=by rw [hAp]; simp
    refine ⟨⟨by omega,by omega⟩,by unfold inI64; omega,i+1,⟨by omega,by omega⟩,Cov.go [(nid+8,nid+364)] [] ?_⟩
    simp [cvT,step,res,arrPl,hl3,-List.getD_eq_getElem?_getD,-List.length_append]
    omega
  ·have hi3:i=3:=by omega
   subst hi3
   rw [← hAs]
   refine ⟨by unfold inI64; omega,j+1,⟨by omega,by omega⟩,Cov.go [] [] ?_⟩
   simp [cvT,step,res,arrPl,-List.getD_eq_getElem?_getD]
   omega
 ·have hj3:j=3:=by omega
  subst hj3
  rw [hV,hTd]
  refine RetOK.go [(nid,nid+8)] [] (.inl rfl) ?_
  simp [cvT,step,res,a67,arrPl,-List.getD_eq_getElem?_getD]
theorem failed_c (nl:Bool) (W:Waf) (c:Int) (nid:Nat):ACall Try.prog 46 [wafP nl W,.int .u8 c] [] nid (.bool (failedV W.pass c)) []:=by
 refine acall_run c46 (by simp [a46]) ?_
 unfold wafP
 simp -dsimp only [a46,aqA,↓seqK,↓blkK,↓loopK,step,stepBin,eqB,Nat.add_assoc nid,simprocAttr,z0,Int.cast_ofNat_Int,Int.reduceBEq,Int.reduceBNe,Int.reduceLT,Int.reduceLE,Int.reduceAdd,Int.reduceSub,Int.reduceMul,Int.reduceToNat,Int.reduceNeg,Int.reduceTMod,Int.reduceEq,not_false_eq_true,Int.reducePow,Int.reduceFDiv,Nat.reducePow,Nat.reduceSub,Nat.reduceMul,Nat.min_eq_left,Nat.reduceEqDiff,BEq.rfl,Int.tdiv_one,LN_succ]
 refine CallO.pure (isBin_c _ _) ?_
 unfold failedV
 cases h:isBinV c <;> simp -dsimp only [aqA,↓seqK,↓blkK,↓loopK,step,stepBin,eqB,Nat.add_assoc nid,simprocAttr,z0,Int.cast_ofNat_Int,Int.reduceBEq,Int.reduceBNe,Int.reduceLT,Int.reduceLE,Int.reduceAdd,Int.reduceSub,Int.reduceMul,Int.reduceToNat,Int.reduceNeg,Int.reduceTMod,Int.reduceEq,not_false_eq_true,Int.reducePow,Int.reduceFDiv,Nat.reducePow,Nat.reduceSub,Nat.reduceMul,Nat.min_eq_left,Nat.reduceEqDiff,BEq.rfl,Int.tdiv_one,LN_succ]
 ·refine RetOK.go [] [] (.inl rfl) ?_
  simp [a46,cvT,step,res]
 ·refine CallO.pure (passed_c _ _ _ _ _ _ _ rfl) ?_
  simp -dsimp only [aqA,↓seqK,↓blkK,↓loopK,step,stepBin,eqB,Nat.add_assoc nid,simprocAttr,z0,Int.cast_ofNat_Int,Int.reduceBEq,Int.reduceBNe,Int.reduceLT,Int.reduceLE,Int.reduceAdd,Int.reduceSub,Int.reduceMul,Int.reduceToNat,Int.reduceNeg,Int.reduceTMod,Int.reduceEq,not_false_eq_true,Int.reducePow,Int.reduceFDiv,Nat.reducePow,Nat.reduceSub,Nat.reduceMul,Nat.min_eq_left,Nat.reduceEqDiff,BEq.rfl,Int.tdiv_one,LN_succ]
  refine RetOK.go [] [] (.inl rfl) ?_
  simp [a46,cvT,step,res]
def badP (W:Waf) (p:Pt):Bool:=failedV W.pass (dieV W p.1 p.2)
theorem PtBd.ar {p q:Pt} (h:PtBd p) (hq:q∈arV p):inI64 q.1∧inI64 q.2:=by
 obtain ⟨h1,h2,h3,h4⟩:=h
 have:=arV_mem hq
 unfold inI64
 omega
theorem arV_len (p:Pt):(arV p).length≤9:=arTo_len p 3
set_option maxHeartbeats 4000000 in
theorem badN_all (nl:Bool) (W:Waf) (p:Pt) (nid:Nat) (hW:WafOk W) (hp:PtBd p):ACall Try.prog 66 [wafP nl W,.agg [.int .i64 p.1,.int .i64 p.2]] [] nid (.int .i64 (cntN (badP W) (arV p):Nat)) []:=by
 have hl:=arV_len p
 refine acall_run c66 (by simp [a66]) ?_
 unfold wafP
 simp -dsimp only [a66,aqA,↓seqK,↓blkK,↓loopK,step,stepBin,eqB,Nat.add_assoc nid,simprocAttr,z0,Int.cast_ofNat_Int,Int.reduceBEq,Int.reduceBNe,Int.reduceLT,Int.reduceLE,Int.reduceAdd,Int.reduceSub,Int.reduceMul,Int.reduceToNat,Int.reduceNeg,Int.reduceTMod,Int.reduceEq,not_false_eq_true,Int.reducePow,Int.reduceFDiv,Nat.reducePow,Nat.reduceSub,Nat.reduceMul,Nat.min_eq_left,Nat.reduceEqDiff,BEq.rfl,Int.tdiv_one,LN_succ]
 refine CallO.pure (around_all p _ hp) ?_
 have hin:=fun q hq=>hp.ar (q:=q) hq
 generalize arV p=l at *
 unfold arrPl
 simp -dsimp only [aqA,↓seqK,↓blkK,↓loopK,step,stepBin,eqB,Nat.add_assoc nid,simprocAttr,z0,Int.cast_ofNat_Int,Int.reduceBEq,Int.reduceBNe,Int.reduceLT,Int.reduceLE,Int.reduceAdd,Int.reduceSub,Int.reduceMul,Int.reduceToNat,Int.reduceNeg,Int.reduceTMod,Int.reduceEq,not_false_eq_true,Int.reducePow,Int.reduceFDiv,Nat.reducePow,Nat.reduceSub,Nat.reduceMul,Nat.min_eq_left,Nat.reduceEqDiff,BEq.rfl,Int.tdiv_one,LN_succ]
 refine LP.mkP (fun k:Nat=>k≤l.length) (fun k:Nat=>⟨[(11,.int .i64 k),(10,.int .i64 l.length),(9,.sl (nid+20) 0 l.length),(5,.int .i64 (cntTo (badP W) l k:Nat)),(2,.ptr nid 0)],[(nid,boxW nl W),(nid+20,arrPl l)],nid+100,nid⟩) (fun k=>l.length+1 - k) 0 (by omega) (Cov.go [] [] ?_) (fun k hk=>?_)
 ·simp [cvT,step,res,arrPl,boxW,cntTo_zero]
 unfold arrPl boxW
 simp -dsimp only [aqA,↓seqK,↓blkK,↓loopK,step,stepBin,eqB,Nat.add_assoc nid,simprocAttr,z0,Int.cast_ofNat_Int,Int.reduceBEq,Int.reduceBNe,Int.reduceLT,Int.reduceLE,Int.reduceAdd,Int.reduceSub,Int.reduceMul,Int.reduceToNat,Int.reduceNeg,Int.reduceTMod,Int.reduceEq,not_false_eq_true,Int.reducePow,Int.reduceFDiv,Nat.reducePow,Nat.reduceSub,Nat.reduceMul,Nat.min_eq_left,Nat.reduceEqDiff,BEq.rfl,Int.tdiv_one,LN_succ]
 refine S2.dec (fun h1=>?_) (fun h1=>?_) <;> simp -dsimp only [aqA,↓seqK,↓blkK,↓loopK,step,stepBin,eqB,Nat.add_assoc nid,simprocAttr,z0,Int.cast_ofNat_Int,Int.reduceBEq,Int.reduceBNe,Int.reduceLT,Int.reduceLE,Int.reduceAdd,Int.reduceSub,Int.reduceMul,Int.reduceToNat,Int.reduceNeg,Int.reduceTMod,Int.reduceEq,not_false_eq_true,Int.reducePow,Int.reduceFDiv,Nat.reducePow,Nat.reduceSub,Nat.reduceMul,Nat.min_eq_left,Nat.reduceEqDiff,BEq.rfl,Int.tdiv_one,LN_succ]
 ·have hkl:k<l.length:=by omega
  have e1:=cntTo_succ (badP W) hkl
  have b1:=cntTo_le (badP W) l k
  obtain ⟨i1,i2⟩:=hin _ (ptMem' hkl)
  refine ⟨by omega,CallX.pure (at_all nl W _ _ _ hW i1 i2) ?_⟩
  simp -dsimp only [aqA,↓seqK,↓blkK,↓loopK,step,stepBin,eqB,Nat.add_assoc nid,simprocAttr,z0,Int.cast_ofNat_Int,Int.reduceBEq,Int.reduceBNe,Int.reduceLT,Int.reduceLE,Int.reduceAdd,Int.reduceSub,Int.reduceMul,Int.reduceToNat,Int.reduceNeg,Int.reduceTMod,Int.reduceEq,not_false_eq_true,Int.reducePow,Int.reduceFDiv,Nat.reducePow,Nat.reduceSub,Nat.reduceMul,Nat.min_eq_left,Nat.reduceEqDiff,BEq.rfl,Int.tdiv_one,LN_succ]
  refine CallX.pure (failed_c nl W _ _) ?_
  have g1:failedV W.pass (dieV W (l.getD k p0).1 (l.getD k p0).2)=badP W (l.getD k p0):=rfl
  rw [g1]
  cases hA:badP W (l.getD k p0) <;> rw [hA] at e1 <;> simp -dsimp only [aqA,↓seqK,↓blkK,↓loopK,step,stepBin,eqB,Nat.add_assoc nid,simprocAttr,z0,Int.cast_ofNat_Int,Int.reduceBEq,Int.reduceBNe,Int.reduceLT,Int.reduceLE,Int.reduceAdd,Int.reduceSub,Int.reduceMul,Int.reduceToNat,Int.reduceNeg,Int.reduceTMod,Int.reduceEq,not_false_eq_true,Int.reducePow,Int.reduceFDiv,Nat.reducePow,Nat.reduceSub,Nat.reduceMul,Nat.min_eq_left,Nat.reduceEqDiff,BEq.rfl,Int.tdiv_one,LN_succ]
  ·simp only [Bool.false_eq_true,if_false,Nat.add_zero] at e1
   refine ⟨by unfold inI64; omega,k+1,⟨by omega,by omega⟩,Cov.go [] [] ?_⟩
   simp [cvT,step,res,arrPl,boxW,e1]
  ·simp only [if_true] at e1
   refine ⟨by unfold inI64; omega,by unfold inI64; omega,k+1,⟨by omega,by omega⟩,Cov.go [] [] ?_⟩
   simp [cvT,step,res,arrPl,boxW,e1]
 ·have hkn:k=l.length:=by omega
  subst hkn
  rw [cntTo_all]
  refine RetOK.go [] [] (.inl rfl) ?_
  simp [a66,cvT,step,res]
open Go.RowKit
theorem plV_bd {W:Waf} (hW:WafOk W) {p:Pt} (h:p∈plV W):PtBd p:=by
 obtain ⟨x,y,rfl,h1,h2⟩:=plV_mem h
 have:=(hW.at h1).1
 have:=hW.wide.2
 have:=hW.len
 unfold PtBd
 simp only
 omega
open Go.RowKit
def seenD (S:List Pt) (q:MK):Bool:=S.any fun p=>decide (q=MK.p p.1 p.2)
theorem seenD_snoc (S:List Pt) (a:Pt):(fun p=>if p=MK.p a.1 a.2 then true else seenD S p)=seenD (S++[a]):=by
 funext q
 unfold seenD
 rw [List.any_append]
 by_cases h:q=MK.p a.1 a.2 <;> simp [h]
theorem seenD_nil:(fun _:MK=>false)=seenD []:=by funext q; rfl
theorem seenD_self (S:List Pt) (a:Pt):seenD (S++[a]) (MK.p a.1 a.2)=true:=by rw [← seenD_snoc]; simp
theorem seenD_mono (S:List Pt) (a:Pt) {q:MK} (h:seenD S q=true):seenD (S++[a]) q=true:=by
 rw [← seenD_snoc]; simp [h]
def mapS (S:List Pt):Option ABlk:=some (.map .p (seenD S) (.b (seenD S)))
theorem countP_lt' {F G:Pt→Bool} {q:Pt} (hq:F q=true) (hG:G q=false) (h:∀ p,G p=true→F p=true):∀ {l:List Pt},q∈l→l.countP G<l.countP F
 | [],hm=>by simp at hm
 | a::l,hm=>by
  have hle:l.countP G≤l.countP F:=List.countP_mono_left fun p _=>h p
  rw [List.countP_cons,List.countP_cons]
  rcases List.mem_cons.1 hm with rfl | hm
  ·rw [hq,hG]; simp; omega
  ·have:=countP_lt' hq hG h hm
   cases hg:G a
   ·simp; omega
   ·rw [h a hg]; simp; omega
def muV (W:Waf) (S:List Pt):Nat:=(plV W).countP fun p=>!seenD S (MK.p p.1 p.2)
theorem muV_le {W:Waf} (hW:WafOk W) (S:List Pt):muV W S≤60000:=by
 have h1:=plTo_bd hW (Nat.le_refl _)
 have h2:=List.countP_le_length (p:=fun p:Pt=>!seenD S (MK.p p.1 p.2)) (l:=plV W)
 unfold muV plV at *
 omega
theorem muV_lt {W:Waf} {S:List Pt} {q:Pt} (hq:q∈plV W) (hs:seenD S (MK.p q.1 q.2)=false):muV W (S++[q])<muV W S:=by
 refine countP_lt' (q:=q) (by simp [hs]) (by simp [seenD_self]) (fun p hp=>?_) hq
 cases h:seenD S (MK.p p.1 p.2)
 ·rfl
 ·rw [seenD_mono S q h] at hp; cases hp
theorem die_mem {W:Waf} (hW:WafOk W) {q:Pt} (h:dieV W q.1 q.2≠46):q∈plV W:=by
 obtain ⟨x,y⟩:=q
 unfold dieV outB at h
 simp only at h
 split at h
 ·contradiction
 split at h
 ·contradiction
 rename_i h1 h2
 simp at h1 h2
 have hp:=hW.pos
 have hr:=(hW.at (y:=y.toNat) (by omega)).1
 have hw:=hW.wide.1
 unfold plV plTo rowPl
 rw [List.mem_flatMap]
 refine ⟨y.toNat,List.mem_range.2 (by omega),?_⟩
 rw [List.mem_map]
 refine ⟨x.toNat,List.mem_range.2 (by omega),?_⟩
 ext <;> simp <;> omega
inductive Rch (W:Waf):Pt→Pt→Prop
 | refl {p:Pt} (h:badP W p=true):Rch W p p
 | step {p q r:Pt} (h:Rch W p q) (hr:r∈arV q) (hb:badP W r=true):Rch W p r
theorem arV_iff {p q:Pt}:q∈arV p↔q≠p∧p.1 - 1≤q.1∧q.1≤p.1+1∧p.2 - 1≤q.2∧q.2≤p.2+1:=by
 obtain ⟨x,y⟩:=p
 obtain ⟨a,b⟩:=q
 unfold arV arTo rowAr neP
 simp only [List.mem_flatMap,List.mem_filter,List.mem_map,List.mem_range,Prod.mk.injEq,ne_eq,Bool.not_eq_true',Bool.and_eq_false_iff,beq_eq_false_iff_ne]
 constructor
 ·rintro ⟨j,hj,⟨i,hi,h1,h2⟩,h3⟩
  omega
 ·rintro ⟨h1,h2,h3,h4,h5⟩
  refine ⟨(b - (y - 1)).toNat,by omega,⟨(a - (x - 1)).toNat,by omega,by omega,by omega⟩,by omega⟩
theorem arV_symm {p q:Pt} (h:q∈arV p):p∈arV q:=by
 rw [arV_iff] at *
 obtain ⟨h1,h2⟩:=h
 exact ⟨fun e=>h1 e.symm,by omega⟩
theorem Rch.bad {W:Waf} {p q:Pt} (h:Rch W p q):badP W q=true:=by
 cases h with
 | refl h=>exact h
 | step _ _ hb=>exact hb
theorem Rch.trans {W:Waf} {p q r:Pt} (h:Rch W p q) (h':Rch W q r):Rch W p r:=by
 induction h' with
 | refl _=>exact h
 | step _ hr hb ih=>exact .step ih hr hb
theorem Rch.symm {W:Waf} {p q:Pt} (h:Rch W p q):Rch W q p:=by
 induction h with
 | refl h=>exact .refl h
 | step h hr hb ih=>exact (Rch.step (.refl hb) (arV_symm hr) h.bad).trans ih
theorem badP_die {W:Waf} {p:Pt} (h:badP W p=true):dieV W p.1 p.2≠46:=by
 intro e
 unfold badP failedV at h
 rw [e] at h
 have:isBinV 46=false:=by decide
 rw [this] at h
 cases h
theorem badP_mem {W:Waf} (hW:WafOk W) {p:Pt} (h:badP W p=true):p∈plV W:=die_mem hW (badP_die h)
def ltP (p q:Pt):Prop:=p.2<q.2∨(p.2=q.2∧p.1<q.1)
instance (p q:Pt):Decidable (ltP p q):=by unfold ltP; exact inferInstance
theorem rowPl_pw (y n:Nat):(rowPl y n).Pairwise ltP:=by
 unfold rowPl
 rw [List.pairwise_map]
 refine (List.pairwise_lt_range (n:=n)).imp ?_
 intro a b h
 exact .inr ⟨rfl,by simp only; omega⟩
theorem plTo_pw (W:Waf):∀ y,(plTo W y).Pairwise ltP
 | 0=>by simp [plTo]
 | y+1=>by
  rw [plTo_succ,List.pairwise_append]
  refine ⟨plTo_pw W y,rowPl_pw _ _,?_⟩
  intro a ha b hb
  unfold plTo rowPl at ha
  unfold rowPl at hb
  simp only [List.mem_flatMap,List.mem_range,List.mem_map] at ha hb
  obtain ⟨y',hy',x',_,rfl⟩:=ha
  obtain ⟨x,_,rfl⟩:=hb
  exact .inl (by simp only; omega)
theorem plV_pw (W:Waf):(plV W).Pairwise ltP:=plTo_pw W _
theorem ltP_irrefl (p:Pt):¬ ltP p p:=by unfold ltP; omega
theorem ltP_asymm {p q:Pt} (h:ltP p q):¬ ltP q p:=by unfold ltP at *; omega
theorem ltP_total {p q:Pt} (h:¬ ltP p q) (h':¬ ltP q p):p=q:=by
 obtain ⟨a,b⟩:=p
 obtain ⟨c,d⟩:=q
 unfold ltP at *
 simp only at h h'
 ext <;> simp only <;> omega
theorem ltP_trans {p q r:Pt} (h:ltP p q) (h':ltP q r):ltP p r:=by unfold ltP at *; omega
theorem sorted_eq:∀ {l m:List Pt},l.Pairwise ltP→m.Pairwise ltP→(∀ p,p∈l↔p∈m)→l=m
 | [],[],_,_,_=>rfl
 | [],b::m,_,_,h=>absurd ((h b).2 (by simp)) (by simp)
 | a::l,[],_,_,h=>absurd ((h a).1 (by simp)) (by simp)
 | a::l,b::m,hl,hm,h=>by
  rw [List.pairwise_cons] at hl hm
  have hab:a=b:=by
   refine ltP_total (fun c=>?_) (fun c=>?_)
   ·rcases List.mem_cons.1 ((h a).1 (by simp)) with e | e
    ·subst e; exact ltP_irrefl _ c
    ·exact ltP_asymm c (hm.1 _ e)
   ·rcases List.mem_cons.1 ((h b).2 (by simp)) with e | e
    ·subst e; exact ltP_irrefl _ c
    ·exact ltP_asymm c (hl.1 _ e)
  subst hab
  congr 1
  refine sorted_eq hl.2 hm.2 (fun p=>⟨fun hp=>?_,fun hp=>?_⟩)
  ·rcases List.mem_cons.1 ((h p).1 (by simp [hp])) with e | e
   ·subst e; exact absurd (hl.1 _ hp) (ltP_irrefl _)
   ·exact e
  ·rcases List.mem_cons.1 ((h p).2 (by simp [hp])) with e | e
   ·subst e; exact absurd (hm.1 _ hp) (ltP_irrefl _)
   ·exact e
open Classical in
noncomputable def compL (W:Waf) (p:Pt):List Pt:=(plV W).filter fun q=>decide (Rch W p q)
theorem compL_mem {W:Waf} (hW:WafOk W) {p q:Pt}:q∈compL W p↔Rch W p q:=by
 unfold compL
 rw [List.mem_filter]
 constructor
 ·intro h; simpa using h.2
 ·intro h; exact ⟨badP_mem hW h.bad,by simpa using h⟩
theorem compL_pw (W:Waf) (p:Pt):(compL W p).Pairwise ltP:=(plV_pw W).filter _
open Classical in
noncomputable def clNext (W:Waf) (c:List (List Pt)) (p:Pt):List (List Pt):=if badP W p=true∧∀ g∈c,p ∉ g then c++[compL W p] else c
noncomputable def clTo (W:Waf) (k:Nat):List (List Pt):=((plV W).take k).foldl (clNext W) []
noncomputable def clV (W:Waf):List (List Pt):=clTo W (plV W).length
theorem clTo_zero (W:Waf):clTo W 0=[]:=rfl
theorem clTo_succ {W:Waf} {k:Nat} (h:k<(plV W).length):clTo W (k+1)=clNext W (clTo W k) ((plV W).getD k p0):=by
 unfold clTo
 rw [take_snoc (x:=(plV W).getD k p0) (by rw [List.getD_eq_getElem?_getD,List.getElem?_eq_getElem h]; rfl),List.foldl_append]
 rfl
structure ClOk (W:Waf) (c:List (List Pt)):Prop where
 comp:∀ g∈c,∃ p,badP W p=true∧g=compL W p
 apart:c.Pairwise fun g h=>∀ p,p∈g→p ∉ h
theorem ClOk.nil (W:Waf):ClOk W []:=⟨by simp,by simp⟩
theorem ClOk.next {W:Waf} (hW:WafOk W) {c:List (List Pt)} (h:ClOk W c) (p:Pt):ClOk W (clNext W c p):=by
 unfold clNext
 split
 ·rename_i hp
  refine ⟨fun g hg=>?_,?_⟩
  ·rcases List.mem_append.1 hg with hg | hg
   ·exact h.comp g hg
   ·rw [List.mem_singleton.1 hg]; exact ⟨p,hp.1,rfl⟩
  ·rw [List.pairwise_append]
   refine ⟨h.apart,by simp,fun g hg g' hg' q hq hq'=>?_⟩
   rw [List.mem_singleton.1 hg'] at hq'
   obtain ⟨p',_,rfl⟩:=h.comp g hg
   have h1:=(compL_mem hW).1 hq
   have h2:=(compL_mem hW).1 hq'
   exact hp.2 _ hg ((compL_mem hW).2 (h1.trans h2.symm))
 ·exact h
theorem ClOk.fold {W:Waf} (hW:WafOk W):∀ (l:List Pt) {c:List (List Pt)},ClOk W c→ClOk W (l.foldl (clNext W) c)
 | [],_,h=>h
 | p::l,_,h=>ClOk.fold hW l (h.next hW p)
theorem clTo_ok {W:Waf} (hW:WafOk W) (k:Nat):ClOk W (clTo W k):=ClOk.fold hW _ (.nil W)
theorem clNext_len {W:Waf} {c:List (List Pt)} {p:Pt}:(clNext W c p).length≤c.length+1:=by
 unfold clNext
 split
 ·simp
 ·omega
theorem clTo_len {W:Waf}:∀ k,k≤(plV W).length→(clTo W k).length≤k
 | 0,_=>by simp [clTo_zero]
 | k+1,h=>by
  rw [clTo_succ (by omega)]
  have:=clTo_len (W:=W) k (by omega)
  have:=clNext_len (W:=W) (c:=clTo W k) (p:=(plV W).getD k p0)
  omega
theorem compL_len (W:Waf) (p:Pt):(compL W p).length≤(plV W).length:=List.length_filter_le _ _
theorem seenD_iff {S:List Pt} {q:Pt}:seenD S (MK.p q.1 q.2)=true↔q∈S:=by
 unfold seenD
 rw [List.any_eq_true]
 constructor
 ·rintro ⟨p,hp,h⟩
  have h':=of_decide_eq_true h
  injection h' with h1 h2
  have:q=p:=by obtain ⟨a,b⟩:=q; obtain ⟨c,d⟩:=p; simp only at h1 h2; rw [h1,h2]
  rw [this]; exact hp
 ·intro h
  exact ⟨q,h,by simp⟩
theorem seenD_not {S:List Pt} {q:Pt}:seenD S (MK.p q.1 q.2)=false↔q ∉ S:=by
 rw [← seenD_iff]
 cases seenD S (MK.p q.1 q.2) <;> simp
def SeenOk (c:List (List Pt)) (S:List Pt):Prop:=∀ q,q∈S↔∃ g∈c,q∈g
structure BfsOk (W:Waf) (p:Pt) (S L:List Pt):Prop where
 nodup:L.Nodup
 off:∀ q∈L,q ∉ S
 rch:∀ q∈L,Rch W p q
 has:p∈L
 sum:L.length+muV W (S++L)≤muV W S
theorem BfsOk.start {W:Waf} (hW:WafOk W) {p:Pt} {S:List Pt} (hb:badP W p=true) (hs:p ∉ S):BfsOk W p S [p]:=by
 have h:=muV_lt (W:=W) (S:=S) (q:=p) (badP_mem hW hb) (seenD_not.2 hs)
 refine ⟨by simp,?_,?_,by simp,by simp only [List.length_singleton]; omega⟩
 ·intro q hq; rw [List.mem_singleton.1 hq]; exact hs
 ·intro q hq; rw [List.mem_singleton.1 hq]; exact .refl hb
theorem BfsOk.add {W:Waf} (hW:WafOk W) {p q r:Pt} {S L:List Pt} (h:BfsOk W p S L) (hq:q∈L) (hr:r∈arV q) (hb:badP W r=true) (hn:r ∉ S++L):BfsOk W p S (L++[r]):=by
 have hlt:=muV_lt (W:=W) (S:=S++L) (q:=r) (badP_mem hW hb) (seenD_not.2 hn)
 rw [List.append_assoc] at hlt
 have hs:=h.sum
 rw [List.mem_append,not_or] at hn
 refine ⟨?_,?_,?_,by simp [h.has],by rw [List.length_append,List.length_singleton]; omega⟩
 ·rw [List.nodup_append]
  refine ⟨h.nodup,by simp,?_⟩
  intro a ha b hb' e
  rw [List.mem_singleton.1 hb'] at e
  rw [e] at ha
  exact hn.2 ha
 ·intro a ha
  rcases List.mem_append.1 ha with ha | ha
  ·exact h.off a ha
  ·rw [List.mem_singleton.1 ha]; exact hn.1
 ·intro a ha
  rcases List.mem_append.1 ha with ha | ha
  ·exact h.rch a ha
  ·rw [List.mem_singleton.1 ha]; exact .step (h.rch q hq) hr hb
def ShutTo (W:Waf) (S L:List Pt) (i:Nat):Prop:=∀ j,j<i→∀ r∈arV (L.getD j p0),badP W r=true→r∈S∨r∈L
theorem bfs_done {W:Waf} (hW:WafOk W) {c:List (List Pt)} {p:Pt} {S L:List Pt} (hc:ClOk W c) (hS:SeenOk c S) (h:BfsOk W p S L) (hp:p ∉ S) (hs:ShutTo W S L L.length) (q:Pt):q∈L↔Rch W p q:=by
 refine ⟨h.rch q,fun hr=>?_⟩
 induction hr with
 | refl _=>exact h.has
 | @step q r h1 hr hb ih =>
  obtain ⟨j,hj,hjq⟩:=List.getElem_of_mem ih
  have h2:=hs j hj r (by rw [List.getD_eq_getElem?_getD,List.getElem?_eq_getElem hj,Option.getD_some,hjq]; exact hr) hb
  rcases h2 with h2 | h2
  ·exfalso
   obtain ⟨g,hg,hrg⟩:=(hS r).1 h2
   obtain ⟨a,_,rfl⟩:=hc.comp g hg
   have h3:=(compL_mem hW).1 hrg
   refine hp ((hS p).2 ⟨_,hg,(compL_mem hW).2 ?_⟩)
   exact h3.trans (Rch.step h1 hr hb).symm
  ·exact h2
theorem clNext_new {W:Waf} {c:List (List Pt)} {p:Pt} {S:List Pt} (hS:SeenOk c S) (hp:p ∉ S) (hb:badP W p=true):clNext W c p=c++[compL W p]:=by
 unfold clNext
 rw [if_pos ⟨hb,fun g hg hpg=>hp ((hS p).2 ⟨g,hg,hpg⟩)⟩]
theorem clNext_old {W:Waf} {c:List (List Pt)} {p:Pt} {S:List Pt} (hS:SeenOk c S) (h:p∈S∨badP W p=false):clNext W c p=c:=by
 unfold clNext
 refine if_neg fun hh=>?_
 rcases h with h | h
 ·obtain ⟨g,hg,hpg⟩:=(hS p).1 h
  exact hh.2 g hg hpg
 ·rw [h] at hh; exact absurd hh.1 (by simp)
theorem seen_next {W:Waf} (hW:WafOk W) {c:List (List Pt)} {p:Pt} {S L:List Pt} (hS:SeenOk c S) (hL:∀ q,q∈L↔Rch W p q):SeenOk (c++[compL W p]) (S++L):=by
 intro q
 rw [List.mem_append,hS q,hL q]
 constructor
 ·rintro (⟨g,hg,h⟩ | h)
  ·exact ⟨g,by simp [hg],h⟩
  ·exact ⟨compL W p,by simp,(compL_mem hW).2 h⟩
 ·rintro ⟨g,hg,h⟩
  rcases List.mem_append.1 hg with hg | hg
  ·exact .inl ⟨g,hg,h⟩
  ·rw [List.mem_singleton.1 hg] at h
   exact .inr ((compL_mem hW).1 h)
def bigC (least:Nat) (c:List (List Pt)):List (List Pt):=c.filter fun g=>decide (least≤g.length)
theorem bigC_app (least:Nat) (c:List (List Pt)) (g:List Pt):bigC least (c++[g])=bigC least c++(if least≤g.length then [g] else []):=by
 unfold bigC
 rw [List.filter_append]
 congr 1
 by_cases h:least≤g.length <;> simp [h]
theorem bigC_len (least:Nat) (c:List (List Pt)):(bigC least c).length≤c.length:=List.length_filter_le _ _
end Go.Proofs.Yteepabfepfehgaa
namespace Go.Proofs
open Go.Shelf
def Try.sortP_ren:Go.Shelf.Ren:=⟨fun | 6=>68 | 15=>84 | 14=>83 | 28=>109 | 29=>110 | 20=>101 | 21=>102 | 22=>103 | 23=>104 | 24=>105 | 25=>106 | 26=>107 | 27=>108 | 46=>115 | 47=>116 | 48=>117 | 49=>118 | 50=>119 | 57=>120 | n=>n,fun | 22=>40 | 24=>46 | 25=>97 | 3=>3 | 39=>115 | 0=>0 | 53=>131 | 55=>108 | 4=>4 | 46=>124 | 45=>123 | 50=>128 | 5=>5 | 9=>9 | 66=>136 | 70=>140 | 76=>144 | 77=>110 | n=>n,fun | n=>n⟩
theorem Try.sortP:Go.Proofs.SlLaysF0.n6 Try.prog Try.sortP_ren:={
 mixed:=by kernel_rfl
 f6:=⟨Try.f68.name,by decide,Try.func68.trans (congrArg some (by kernel_rfl))⟩
 f14:=⟨Try.f83.name,by decide,Try.func83.trans (congrArg some (by kernel_rfl))⟩
 f15:=Try.func84.trans (congrArg some (by kernel_rfl))
 f20:=⟨Try.f101.name,by decide,Try.func101.trans (congrArg some (by kernel_rfl))⟩
 f21:=⟨Try.f102.name,by decide,Try.func102.trans (congrArg some (by kernel_rfl))⟩
 f22:=⟨Try.f103.name,by decide,Try.func103.trans (congrArg some (by kernel_rfl))⟩
 f23:=⟨Try.f104.name,by decide,Try.func104.trans (congrArg some (by kernel_rfl))⟩
 f24:=⟨Try.f105.name,by decide,Try.func105.trans (congrArg some (by kernel_rfl))⟩
 f25:=⟨Try.f106.name,by decide,Try.func106.trans (congrArg some (by kernel_rfl))⟩
 f26:=⟨Try.f107.name,by decide,Try.func107.trans (congrArg some (by kernel_rfl))⟩
 f27:=⟨Try.f108.name,by decide,Try.func108.trans (congrArg some (by kernel_rfl))⟩
 f28:=Try.func109.trans (congrArg some (by kernel_rfl))
 f29:=Try.func110.trans (congrArg some (by kernel_rfl))
 f46:=⟨Try.f115.name,by decide,Try.func115.trans (congrArg some (by kernel_rfl))⟩
 f47:=Try.func116.trans (congrArg some (by kernel_rfl))
 f48:=Try.func117.trans (congrArg some (by kernel_rfl))
 f49:=⟨Try.f118.name,by decide,Try.func118.trans (congrArg some (by kernel_rfl))⟩
 f50:=⟨Try.f119.name,by decide,Try.func119.trans (congrArg some (by kernel_rfl))⟩
 f57:=⟨Try.f120.name,by decide,Try.func120.trans (congrArg some (by kernel_rfl))⟩
 t0:=Try.underlying0
 a0:=Try.isAgg0
 z0:=Try.sizeOf0
 v0:=Try.zeroValue0
 t3:=Try.underlying3
 a3:=Try.isAgg3
 z3:=Try.sizeOf3
 v3:=Try.zeroValue3
 t4:=Try.underlying4
 a4:=Try.isAgg4
 z4:=Try.sizeOf4
 v4:=Try.zeroValue4
 t5:=Try.underlying5
 a5:=Try.isAgg5
 z5:=Try.sizeOf5
 v5:=Try.zeroValue5
 t9:=Try.underlying9
 a9:=Try.isAgg9
 z9:=Try.sizeOf9
 v9:=Try.zeroValue9
 t22:=Try.underlying40
 a22:=Try.isAgg40
 z22:=Try.sizeOf40
 v22:=Try.zeroValue40
 t25:=Try.underlying97
 a25:=Try.isAgg97
 z25:=Try.sizeOf97
 v25:=Try.zeroValue97
 t39:=Try.underlying115
 a39:=Try.isAgg115
 z39:=Try.sizeOf115
 v39:=Try.zeroValue115
 t45:=Try.underlying123
 a45:=Try.isAgg123
 z45:=Try.sizeOf123
 v45:=Try.zeroValue123
 t46:=Try.underlying124
 a46:=Try.isAgg124
 z46:=Try.sizeOf124
 v46:=Try.zeroValue124
 t50:=Try.underlying128
 a50:=Try.isAgg128
 z50:=Try.sizeOf128
 v50:=Try.zeroValue128
 t53:=Try.underlying131
 a53:=Try.isAgg131
 z53:=Try.sizeOf131
 v53:=Try.zeroValue131
 t55:=Try.underlying108
 a55:=Try.isAgg108
 z55:=Try.sizeOf108
 v55:=Try.zeroValue108
 t66:=Try.underlying136
 a66:=Try.isAgg136
 z66:=Try.sizeOf136
 v66:=Try.zeroValue136
 t70:=Try.underlying140
 a70:=Try.isAgg140
 z70:=Try.sizeOf140
 v70:=Try.zeroValue140
 t76:=Try.underlying144
 a76:=Try.isAgg144
 z76:=Try.sizeOf144
 v76:=Try.zeroValue144
 t77:=Try.underlying110
 a77:=Try.isAgg110
 z77:=Try.sizeOf110
 v77:=Try.zeroValue110 }
def Try.cmpI_ren:Go.Shelf.Ren:=⟨fun | 5=>86 | 7=>111 | n=>n,fun | 22=>3 | 3=>3 | 4=>4 | n=>n,fun | n=>n⟩
theorem Try.cmpI:Go.Proofs.SlLaysC2.n5 Try.prog Try.cmpI_ren:={
 mixed:=by kernel_rfl
 f5:=⟨Try.f86.name,by decide,Try.func86.trans (congrArg some (by kernel_rfl))⟩
 f7:=⟨Try.f111.name,by decide,Try.func111.trans (congrArg some (by kernel_rfl))⟩
 t3:=Try.underlying3
 a3:=Try.isAgg3
 z3:=Try.sizeOf3
 v3:=Try.zeroValue3
 t4:=Try.underlying4
 a4:=Try.isAgg4
 z4:=Try.sizeOf4
 v4:=Try.zeroValue4
 t22:=Try.underlying3
 a22:=Try.isAgg3
 z22:=Try.sizeOf3
 v22:=Try.zeroValue3 }
end Go.Proofs
namespace Go.Proofs.Yteepabfepfehgaa
open Go.RowKit Go.Shelf Go.Lib Go.Sort
set_option maxHeartbeats 2000000
theorem cmpOr_calls (x y r:Int) (b:Nat) (w:World) (hr0:x=0→r=y) (hr1:x≠0→r=x) (h0:w.cell? ⟨b,0,none⟩=some (.int .i64 x)) (h1:w.cell? ⟨b,1,none⟩=some (.int .i64 y)) :
  Calls Try.prog 85 #[.slice (some ⟨b,0,none⟩) 2 2] w fun e w'=>e=.returned (.int .i64 r)∧w'=w:=by
 go_enter Try.func85,Try.ntmps85
 go_wp2
 refine wp_loop_rounds 3 ?_
 rw [rounds_succ]
 go_wp2
 ·have hx:x≠0:=by rename_i hx; simpa using hx
  rw [hr1 hx]
  go_ret
  exact ⟨rfl,rfl⟩
 have hx:x=0:=by rename_i hx; simpa using hx
 have hr:=hr0 hx
 subst hr
 clear hr0 hr1
 rw [rounds_succ]
 go_wp2
 ·go_ret
  exact ⟨rfl,rfl⟩
 have hy:r=0:=by rename_i hy; simpa using hy
 rw [rounds_succ]
 go_wp2
 subst hy
 go_ret
 exact ⟨rfl,rfl⟩
def Kept (p:Prop):Prop:=p
def byRowV (p q:Pt):Int:=if Lib.compareInt p.2 q.2=0 then Lib.compareInt p.1 q.1 else Lib.compareInt p.2 q.2
set_option maxRecDepth 20000 in
set_option maxHeartbeats 4000000 in
theorem byRow_calls (p q:Pt) (W:World):Calls Try.prog 69 #[.agg #[.int .i64 p.1,.int .i64 p.2],.agg #[.int .i64 q.1,.int .i64 q.2]] W fun e w'=>e=.returned (.int .i64 (byRowV p q))∧∃ n os',w'=grow (W.drewN n) os':=by
 obtain ⟨px,py⟩:=p
 obtain ⟨qx,qy⟩:=q
 have hC:=fun a b W'=>AnyG.cmp_Compare_int Try.cmpI a b W'
 change ∀ a b W',Calls Try.prog 86 _ _ _ at hC
 unfold byRowV
 simp only
 generalize Lib.compareInt=F at *
 have hO:∀ b w,w.cell? ⟨b,0,none⟩=some (.int .i64 (F py qy))→w.cell? ⟨b,1,none⟩=some (.int .i64 (F px qx))→Calls Try.prog 85 #[.slice (some ⟨b,0,none⟩) 2 2] w fun e w'=>e=.returned (.int .i64 (if F py qy=0 then F px qx else F py qy))∧w'=w :=
  fun b w h0 h1=>cmpOr_calls (F py qy) (F px qx) _ b w (fun h=>by rw [if_pos h]) (fun h=>by rw [if_neg h]) h0 h1
 generalize (if F py qy=0 then F px qx else F py qy)=r at *
 go_enter Try.func69,Try.ntmps69
 go_wp2
 have c1:((W.alloc (.cells #[.int .i64 px,.int .i64 py] 46)).alloc (.cells #[.int .i64 qx,.int .i64 qy] 46)).drew.cell? ⟨W.heap.size,0,none⟩=some (.int .i64 px):=by simp
 have c2:((W.alloc (.cells #[.int .i64 px,.int .i64 py] 46)).alloc (.cells #[.int .i64 qx,.int .i64 qy] 46)).drew.cell? ⟨W.heap.size,1,none⟩=some (.int .i64 py):=by simp
 have c3:((W.alloc (.cells #[.int .i64 px,.int .i64 py] 46)).alloc (.cells #[.int .i64 qx,.int .i64 qy] 46)).drew.cell? ⟨W.heap.size+1,0,none⟩=some (.int .i64 qx):=by simp
 have c4:((W.alloc (.cells #[.int .i64 px,.int .i64 py] 46)).alloc (.cells #[.int .i64 qx,.int .i64 qy] 46)).drew.cell? ⟨W.heap.size+1,1,none⟩=some (.int .i64 qy):=by simp
 have hg:Kept ((W.alloc (.cells #[.int .i64 px,.int .i64 py] 46)).alloc (.cells #[.int .i64 qx,.int .i64 qy] 46)=grow W #[.cells #[.int .i64 px,.int .i64 py] 46 (0,0),.cells #[.int .i64 qx,.int .i64 qy] 46 (0,0)]):=by
  unfold Kept
  rw [alloc_eq_grow,alloc_eq_grow,grow_grow]
  rfl
 generalize (W.alloc (.cells #[.int .i64 px,.int .i64 py] 46)).alloc (.cells #[.int .i64 qx,.int .i64 qy] 46)=W2 at *
 refine wp_region_still_tail 10 (by kernel_rfl) (by kernel_rfl) ?_
 simp only [List.take_succ_cons,List.take_zero,List.drop_succ_cons,List.drop_zero]
 change wpStill _ _ W2.drew _ _ _
 generalize hw3:W2.drew=w3 at c1 c2 c3 c4
 have hk:Kept (w3=W2.drew):=hw3.symm
 clear hw3
 still_step
 still_step
 still_step
 still_step
 still_call (hC _ _ _)
 still_step
 still_step
 still_step
 still_step
 still_call (hC _ _ _)
 refine wpStill_nil ?_
 change wpList _ _ _ _ _ W2.drew
 have hk2:=hk
 unfold Kept at hk2
 rw [← hk2]
 clear hk2
 have hN:=hO w3.heap.size (w3.alloc (.cells #[.int .i64 (F py qy),.int .i64 (F px qx)] 3)) (by simp) (by simp)
 go_wp2_with (go_at_call 85; refine hN.mono ?_; rintro e w' ⟨rfl,rfl⟩)
 go_ret
 have e:∀ o,w3.alloc o=grow (W.drewN 1) (#[.cells #[.int .i64 px,.int .i64 py] 46 (0,0),.cells #[.int .i64 qx,.int .i64 qy] 46 (0,0)]++#[o]):=by
  intro o
  unfold Kept at hk hg
  rw [hk,hg,alloc_eq_grow,← grow_grow]
  rfl
 exact ⟨rfl,1,_,e _⟩
theorem cmpI_lt (a b:Int):Lib.compareInt a b=if a<b then -1 else if b<a then 1 else 0:=by
 unfold Lib.compareInt
 by_cases h1:a<b
 ·simp [h1]
 ·by_cases h2:b<a <;> simp [h1,h2]
theorem byRow_lt (p q:Pt):ltOf byRowV p q=decide (ltP p q):=by
 unfold ltOf byRowV
 rw [cmpI_lt,cmpI_lt]
 rw [Bool.eq_iff_iff,decide_eq_true_eq,decide_eq_true_eq]
 unfold ltP
 by_cases h1:p.2<q.2
 ·simp [h1]
 ·by_cases h2:q.2<p.2
  ·simp [h1,h2]; omega
  ·by_cases h3:p.1<q.1
   ·simp [h1,h2,h3]; omega
   ·by_cases h4:q.1<p.1 <;> simp [h1,h2,h3,h4]
theorem byRow_swo:SWO (ltOf byRowV) where
 irrefl x:=by rw [byRow_lt]; simpa using ltP_irrefl x
 trans x y z h1 h2:=by rw [byRow_lt] at *; simp only [decide_eq_true_eq] at *; exact ltP_trans h1 h2
 ntrans x y z h1 h2:=by rw [byRow_lt] at *; simp only [decide_eq_false_iff_not] at *; unfold ltP at *; omega
def sortV (l:List Pt):List Pt:=l.mergeSort fun x y=>!(ltOf byRowV) y x
theorem sortV_perm (l:List Pt):(sortV l).Perm l:=List.mergeSort_perm _ _
theorem sortV_len (l:List Pt):(sortV l).length=l.length:=(sortV_perm l).length_eq
theorem sortV_le (l:List Pt):(sortV l).Pairwise fun a b=>¬ ltP b a:=by
 have h:=List.pairwise_mergeSort (le:=fun x y:Pt=>!(ltOf byRowV) y x) (fun a b c h1 h2=>by
   simp only [byRow_lt,Bool.not_eq_true',decide_eq_false_iff_not] at *
   unfold ltP at *; omega) (fun a b=>by
   simp only [byRow_lt,Bool.or_eq_true,Bool.not_eq_true',decide_eq_false_iff_not]
   unfold ltP; omega) l
 refine h.imp ?_
 intro a b h
 simpa [byRow_lt] using h
theorem sortV_pw {l:List Pt} (h:l.Nodup):(sortV l).Pairwise ltP:=by
 have h1:=sortV_le l
 have h2:(sortV l).Nodup:=(sortV_perm l).nodup_iff.2 h
 rw [List.nodup_iff_pairwise_ne] at h2
 refine (h1.and h2).imp ?_
 intro a b hab
 exact Classical.byContradiction fun hn=>hab.2 (ltP_total hn hab.1)
set_option maxRecDepth 20000 in
theorem sort_c (ix:Nat) (l:List Pt) (nid:Nat) (hpos:0<l.length) (hl:l.length<4611686018427387904) :
  ACall Try.prog 68 [.sl ix 0 l.length,.fn 69 []] [(ix,arrP2 46 l)] nid (.tup []) [(ix,arrP2 46 (sortV l))] :=
 acall_turned ix nid Try.func68 (by kernel_rfl) (by kernel_rfl) (by decide) hpos (sortV_len l) (fun w blk off cap hH hblk=>by
  have eg:∀ args w,(callFunc 69 args).run Try.prog w=.ok (.enter 69 args) w:=enters_of Try.func69 (by kernel_rfl) rfl
  have h:=AnyQ.slices_SortFunc_total Try.sortP 2 Try.isAgg46 Try.sizeOf46 encP (fun _=>rfl) (fun x v hv=>by simp [encP] at hv; rcases hv with rfl | rfl <;> rfl) byRowV byRow_swo 69 #[] blk off cap l.toArray w eg (fun _ _ _ _ x y=>byRow_calls x y _) hH hblk (by simpa using hl) (fun x y h1 h2=>ltP_total (by simpa [byRow_lt] using h1) (by simpa [byRow_lt] using h2))
  have hf:Try.sortP_ren.f 6=68:=by kernel_rfl
  rw [hf] at h
  exact h)
open Go.RowKit
theorem sort_cc (ix:Nat) (l:List Pt) (nid:Nat) (hpos:0<l.length) (hl:l.length<4611686018427387904) :
  ACall Try.prog 68 [.sl ix 0 l.length,.fn 69 []] [(ix,arrPl l)] nid (.tup []) [(ix,arrPl (sortV l))]:=sort_c ix l nid hpos hl
theorem pt_in {p:Pt} (h:PtBd p):inI64 p.1∧inI64 p.2:=by
 obtain ⟨h1,h2,h3,h4⟩:=h
 unfold inI64
 omega
open Go.RowKit
def famP (b:Nat) (C:List (List Pt)):Nat→Heap
 | 0=>[]
 | n+1=>(b+n,arrPl (C.getD n []))::famP b C n
def arrCo (b:Nat) (C:List (List Pt)):Option ABlk:=some (.arr 40 C.length [.o (fun i=>b+i) (fun i=>(C.getD i []).length)])
def famC (o b:Nat) (C:List (List Pt)):Heap:=(o,arrCo b C)::famP b C C.length
theorem famP_get {b:Nat} {C:List (List Pt)}:∀ {n i:Nat},i<n→getH (famP b C n) (b+i)=arrPl (C.getD i [])
 | 0,i,h=>by omega
 | n+1,i,h=>by
  by_cases e:i=n
  ·subst e
   simp [famP,getH]
  ·have h1:(b+n==b+i)=false:=by rw [beq_eq_false_iff_ne]; omega
   have ih:=famP_get (b:=b) (C:=C) (n:=n) (i:=i) (by omega)
   simp only [famP,getH,h1,cond_false]
   exact ih
theorem famP_key {b:Nat} {C:List (List Pt)}:∀ {n id:Nat},id∈keys (famP b C n)→b≤id∧id<b+n
 | 0,id,h=>by simp [famP,keys] at h
 | n+1,id,h=>by
  simp only [famP,keys,List.map_cons,List.mem_cons] at h
  rcases h with h | h
  ·omega
  ·have:=famP_key (b:=b) (C:=C) (n:=n) h
   omega
theorem famP_low {b:Nat} {C:List (List Pt)} (c:Nat):∀ {n id:Nat} {x:ABlk},getH (famP b C n) id=some x→lowBlk c (some x)=true
 | 0,id,x,h=>by simp [famP,getH] at h
 | n+1,id,x,h=>by
  simp only [famP,getH] at h
  cases e:(b+n==id)
  ·rw [e] at h
   exact famP_low (n:=n) c h
  ·rw [e] at h
   simp only [cond_true,arrPl,Option.some.injEq] at h
   subst h
   rfl
theorem famP_scoped {b c n:Nat} (C:List (List Pt)) (h:b+n≤c):Scoped c (famP b C n):=⟨fun id hid=>by have:=famP_key hid; omega,fun id x hx=>famP_low c hx⟩
theorem famP_congr {b:Nat} {C D:List (List Pt)}:∀ {n:Nat},(∀ i,i<n→C.getD i []=D.getD i [])→famP b C n=famP b D n
 | 0,_=>rfl
 | n+1,h=>by
  simp only [famP]
  rw [h n (by omega),famP_congr (n:=n) fun i hi=>h i (by omega)]
theorem famC_scoped {o b c:Nat} (C:List (List Pt)) (h:b+C.length≤c) (ho:o<c):Scoped c (famC o b C):=by
 refine ⟨fun id hid=>?_,fun id x hx=>?_⟩
 ·simp only [famC,keys,List.map_cons,List.mem_cons] at hid
  rcases hid with hid | hid
  ·omega
  ·have:=famP_key hid; omega
 ·simp only [famC,getH] at hx
  cases e:(o==id)
  ·rw [e] at hx
   exact famP_low c hx
  ·rw [e] at hx
   simp only [cond_true,arrCo,Option.some.injEq] at hx
   subst hx
   have key:∀ k,k≤C.length→allTo k (fun j=>decide (b+j<c))=true:=by
    intro k
    induction k with
    | zero=>intro _; rfl
    | succ k ih =>
     intro hk
     simp only [allTo,Bool.and_eq_true,decide_eq_true_eq]
     first | exact ⟨ih (by omega),by omega⟩ | exact ⟨by omega,ih (by omega)⟩
   simp only [lowBlk,lowCols,Bool.and_eq_true]
   exact ⟨key _ (Nat.le_refl _),trivial⟩
theorem famC_key {o b:Nat} {C:List (List Pt)} {id:Nat} (h:id∈keys (famC o b C)):id=o∨(b≤id∧id<b+C.length):=by
 simp only [famC,keys,List.map_cons,List.mem_cons] at h
 rcases h with h | h
 ·exact .inl h
 ·exact .inr (famP_key h)
theorem famC_snoc (o b:Nat) (C:List (List Pt)) (g:List Pt):famC o b (C++[g])=(o,arrCo b (C++[g]))::(b+C.length,arrPl g)::famP b C C.length:=by
 have e1:(C++[g]).length=C.length+1:=by simp
 unfold famC
 rw [e1]
 simp only [famP]
 have e2:(C++[g]).getD C.length []=g:=by rw [List.getD_eq_getElem?_getD,List.getElem?_append_right (Nat.le_refl _),Nat.sub_self]; rfl
 rw [e2,famP_congr (C:=C++[g]) (D:=C)]
 intro i hi
 rw [List.getD_eq_getElem?_getD,List.getElem?_append_left hi,← List.getD_eq_getElem?_getD]
theorem HSF.alike {C : Ctx} {Y : Nat → Prop} {m : Names} {w : World} {H H2 : Heap} {Fr : Nat → Prop} (h : HSF C Y m w H Fr) (e : ∀ id,getH H2 id = getH H id) : HSF C Y m w H2 Fr :=
  { h with
    blk := fun id b hb => h.blk id b (by rw [← e]; exact hb)
    inj := fun id id' b b' pl pl' g hne hb hb' => h.inj id id' b b' pl pl' g hne (by rw [← e]; exact hb) (by rw [← e]; exact hb') }
theorem Cov.alike {s:Slots} {H H2:Heap} {n b:Nat} (e:∀ id,getH H2 id=getH H id):Cov ⟨s,H,n,b⟩ ⟨s,H2,n,b⟩:=fun C nt Y m a w h=>⟨Y,m,h.size,h.defers,h.slots,HSF.alike h.heap e,h.base⟩
theorem Cov.step {x y z:ST} (h1:Cov x y) (h2:Cov y z):Cov x z:=fun C nt Y m a w h=>by
 obtain ⟨Y',m',h'⟩:=h1 C nt Y m a w h
 exact h2 C nt Y' m' a w h'
theorem HCov.all2 {b hi:Nat} {Hs Z:Heap} (hs:Scoped b Hs) (hb:b≤hi) (hZ:subH Hs Z):HCov hi [] [] Z Hs:=fun id x hx=>by
 have h:=frame_cov (b:=b) (hi:=hi) (ren:=[]) (nils:=[]) (n:=0) Hs [] [] hs (by simp [keys]) rfl rfl hb trivial id x hx
 simp only [List.nil_append] at h
 have e1:getH Z (srcOf [] id)=getH Hs (srcOf [] id):=by
  show getH Z id=getH Hs id
  rw [hx]
  exact hZ id x hx
 rw [e1]
 exact h
theorem RetOKW.all2 {k:Nat} {rs:List ARes} {nid:Nat} {r:PV} {e:AEx} {s:Slots} {n1 b1:Nat} {u Z:Heap} (he:e=.ret∨e=.normal) (hs:Scoped (nid+k) u) (hZ:subH u Z)
  (h:onAll (readAll ⟨s,Z,n1,b1⟩ rs) fun ps=>PVCov (nid+k) [] [] (retPV ps) r):RetOKW k rs [] nid r u e ⟨s,Z,n1,b1⟩:=by
 cases hp:readAll ⟨s,Z,n1,b1⟩ rs with
 | none=>rw [hp] at h; exact h.elim
 | some ps =>
  rw [hp] at h
  have hall:∃ (ren nils:List (Nat × Nat)) (H2:Heap),(∀ id,getH H2 id=getH (u++[]) id)∧inRange nid (nid+k) ren=true∧inRange nid (nid+k) nils=true∧apart ren nils (liveIds H2)=true∧(liveIds H2).all (fun id=>decide (id<nid+k))=true ∧
    HCov (nid+k) ren nils Z H2∧PVCov (nid+k) ren nils (retPV ps) r :=
   ⟨[],[],u,fun id=>by rw [List.append_nil],rfl,rfl,frame_apart (b:=nid+k) (hi:=nid+k) u [] hs rfl rfl rfl,frame_lt (b:=nid+k) (hi:=nid+k) u [] hs (Nat.le_refl _) rfl,HCov.all2 hs (Nat.le_refl _) hZ,h⟩
  rcases he with rfl | rfl
  ·show onAll (readAll ⟨s,Z,n1,b1⟩ rs) _
   rw [hp]
   exact hall
  ·show onAll (readAll ⟨s,Z,n1,b1⟩ rs) _
   rw [hp]
   exact hall
inductive PreQ (Hs:Heap):Heap→Heap→Prop
 | nil:PreQ Hs Hs []
 | cons {a:Nat × Option ABlk} {Z X:Heap} (h:PreQ Hs Z X):PreQ Hs (a::Z) (a::X)
theorem PreQ.eq {Hs Z X:Heap} (h:PreQ Hs Z X):Z=X++Hs:=by
 induction h with
 | nil=>rfl
 | cons h ih=>rw [ih]; rfl
theorem Cov.goQ (c:Nat) {s1 s2:Slots} {n1 n2 b:Nat} (Hs:Heap) {Z1 Z2 X Y:Heap} (ren nils:List (Nat × Nat)) (hbc:b≤c) (hs:Scoped c Hs) (h1:PreQ Hs Z1 X) (h2:PreQ Hs Z2 Y) (hX:kOK c Hs X) (hr:ren.all (fun x=>decide (c≤x.2))=true)
  (h:c≤n2∧inRange c n2 ren=true∧inRange c n2 nils=true∧apart ren nils (liveIds Y)=true∧(liveIds Y).all (fun id=>decide (id<n2))=true∧HeapCov n2 ren nils X Y∧SlotsCov n2 ren nils s1 s2):Cov ⟨s1,Z1,n1,b⟩ ⟨s2,Z2,n2,b⟩:=by
 rw [h1.eq,h2.eq]
 exact Cov.goG c Hs X Y ren nils hbc hs hX hr h
section
variable {P:Program}
theorem SROps.cov {l:List AIn} {s s':Slots} {H H':Heap} {n n' b:Nat} {Q:AEx→ST→Prop} (hc:Cov ⟨s,H,n,b⟩ ⟨s',H',n',b⟩) (h:SROps P l s' H' n' b Q):SROps P l s H n b Q:=fun nt ops rest C Y m a w hl hS=>by
 obtain ⟨Y',m',hS'⟩:=hc C nt Y m a w hS
 exact h nt ops rest C Y' m' a w hl hS'
end
open Go.RowKit
def okTo (R T:List (List UInt8)) (y:Nat):Bool:=((List.zipWith okR R T).take y).all id
def okAt (r t:List UInt8) (x:Nat):Bool:=((List.zipWith mergeO r t).take x).all id
theorem okTo_succ {R T:List (List UInt8)} {y:Nat} (h1:y<R.length) (h2:y<T.length):okTo R T (y+1)=(okTo R T y && okR (R.getD y []) (T.getD y [])):=by
 unfold okTo
 rw [zip_take okR [] [] h1 h2,List.all_append]
 simp
theorem okAt_succ {r t:List UInt8} {x:Nat} (h1:x<r.length) (h2:x<t.length):okAt r t (x+1)=(okAt r t x && mergeO (r.getD x 0) (t.getD x 0)):=by
 unfold okAt
 rw [zip_take mergeO 0 0 h1 h2,List.all_append]
 simp
theorem okAt_all {r t:List UInt8} (h:r.length=t.length):okAt r t r.length=okR r t:=by
 unfold okAt okR
 rw [List.take_of_length_le (by rw [zip_len _ h]; omega)]
theorem okTo_all {R T:List (List UInt8)} (h:R.length=T.length):okTo R T R.length=okRs R T:=by
 unfold okTo okRs
 rw [List.take_of_length_le (by rw [zip_len _ h]; omega)]
theorem mergeRs_take {R T:List (List UInt8)} {y:Nat} (h1:y<R.length) (h2:y<T.length):(mergeRs R T).take (y+1)=(mergeRs R T).take y++[mergeR (R.getD y []) (T.getD y [])]:=zip_take mergeR [] [] h1 h2
theorem setD_byte {l:List UInt8} {k:Nat} (hk:k<l.length) (b:UInt8):(fun j=>if j=k then ((b.toNat:Nat):Int) else (((l.getD j 0).toNat:Nat):Int))=fun j=>((((l.set k b).getD j 0).toNat:Nat):Int):=by
 funext j
 simp only [List.getD_eq_getElem?_getD,List.getElem?_set]
 by_cases h:j=k
 ·subst h; simp [hk]
 ·rw [if_neg h,if_neg (fun e=>h e.symm)]
theorem bytes_back2 {l:List UInt8} {n:Nat} (h:l.length=n):(List.range n).map (fun i=>UInt8.ofNat (l.getD i 0).toNat)=l:=by
 subst h
 apply List.ext_getElem
 ·simp
 ·intro i h1 h2
  simp [List.getElem?_eq_getElem h2]
set_option maxHeartbeats 8000000 in
theorem changedMerge_c (ib io : Nat) (nl nlb : Bool) (A B : Waf) (nid : Nat) (hib : ib < nid) (hio : io < nid) (hne : ib ≠ io) (hA : WafOk A) (hB : WafOk B) (hr : A.rows.length = B.rows.length) (hw : wideOf A = wideOf B) :
    ACall Try.prog 55 [wafP nl A,.fn 56 [.ptr ib 0,.ptr io 0]] [(ib,boxW nlb B),(io,boxB true)] nid (.agg [.sl nid 0 A.rows.length,.str A.pass]) [(ib,boxW nlb B),(io,boxB (okRs A.rows B.rows)),(nid,arrS (mergeRs A.rows B.rows))] := by
  have hl := hA.len
  have hww := hA.wide.2
  obtain ⟨a1,a2,a3,a4,a5,a6,a7,a8,a9⟩ := id_all hib
  obtain ⟨b1,b2,b3,b4,b5,b6,b7,b8,b9⟩ := id_all hio
  have c1 : (ib == io) = false := by simpa using hne
  have c2 : (io == ib) = false := by simpa using fun h => hne h.symm
  have c3 : ¬ io = ib := fun h => hne h.symm
  have hml : (mergeRs A.rows B.rows).length = A.rows.length := zip_len _ hr
  refine acall_run c55 (by simp [a55]) ?_
  unfold wafP boxW boxB
  simp -dsimp only [a55,aqA,↓seqK,↓blkK,↓loopK,step,stepBin,eqB,Nat.add_assoc nid,simprocAttr,z0,Int.cast_ofNat_Int,Int.reduceBEq,Int.reduceBNe,Int.reduceLT,Int.reduceLE,Int.reduceAdd,Int.reduceSub,Int.reduceMul,Int.reduceToNat,Int.reduceNeg,Int.reduceTMod,Int.reduceEq,not_false_eq_true,Int.reducePow,Int.reduceFDiv,Nat.reducePow,Nat.reduceSub,Nat.reduceMul,Nat.min_eq_left,Nat.reduceEqDiff,BEq.rfl,Int.tdiv_one,LN_succ,a1,a2,a3,a4,a5,a6,a7,a8,a9,b1,b2,b3,b4,b5,b6,b7,b8,b9,c1,c2,c3,hne]
  refine LP.mkP (fun y : Nat => y ≤ A.rows.length) (fun y : Nat => ⟨[(16,.int .i64 y),(15,.int .i64 A.rows.length),(14,.lit nl A.rows.length [.s fun i => A.rows.getD i []]),(1,.fn 56 [.ptr ib 0,.ptr io 0]),(5,.ptr (nid + 20) 0),(4,.ptr (nid + 4) 0)],
    [(ib,boxW nlb B),(io,boxB (okTo A.rows B.rows y)),(nid + 4,some (.box 28 [.lit true 0 [],.str []])),(nid + 20,some (.box 28 [.sl (nid + 8) 0 y,.str A.pass])),(nid + 8,some (.arr 9 y [.s fun i => ((mergeRs A.rows B.rows).take y).getD i []]))],nid + 200,nid⟩) (fun y => A.rows.length + 1 - y) 0 (by omega) (Cov.go [] [(nid + 8,1)] ?_) (fun y hy => ?_)
  · simp [cvT,step,res,a1,a2,a3,a4,a5,a6,a7,a8,a9,b1,b2,b3,b4,b5,b6,b7,b8,b9,c1,c2,c3,hne,boxW,boxB,okTo]
  unfold boxW boxB
  simp -dsimp only [aqA,↓seqK,↓blkK,↓loopK,step,stepBin,eqB,Nat.add_assoc nid,simprocAttr,z0,Int.cast_ofNat_Int,Int.reduceBEq,Int.reduceBNe,Int.reduceLT,Int.reduceLE,Int.reduceAdd,Int.reduceSub,Int.reduceMul,Int.reduceToNat,Int.reduceNeg,Int.reduceTMod,Int.reduceEq,not_false_eq_true,Int.reducePow,Int.reduceFDiv,Nat.reducePow,Nat.reduceSub,Nat.reduceMul,Nat.min_eq_left,Nat.reduceEqDiff,BEq.rfl,Int.tdiv_one,LN_succ,a1,a2,a3,a4,a5,a6,a7,a8,a9,b1,b2,b3,b4,b5,b6,b7,b8,b9,c1,c2,c3,hne]
  refine S2.dec (fun h1 => ?_) (fun h1 => ?_) <;> simp -dsimp only [aqA,↓seqK,↓blkK,↓loopK,step,stepBin,eqB,Nat.add_assoc nid,simprocAttr,z0,Int.cast_ofNat_Int,Int.reduceBEq,Int.reduceBNe,Int.reduceLT,Int.reduceLE,Int.reduceAdd,Int.reduceSub,Int.reduceMul,Int.reduceToNat,Int.reduceNeg,Int.reduceTMod,Int.reduceEq,not_false_eq_true,Int.reducePow,Int.reduceFDiv,Nat.reducePow,Nat.reduceSub,Nat.reduceMul,Nat.min_eq_left,Nat.reduceEqDiff,BEq.rfl,Int.tdiv_one,LN_succ,a1,a2,a3,a4,a5,a6,a7,a8,a9,b1,b2,b3,b4,b5,b6,b7,b8,b9,c1,c2,c3,hne]
  · have hyl : y < A.rows.length := by omega
    have hra := (hA.at hyl).1
    have hrb := (hB.at (y := y) (by omega)).1
    have hok := okTo_succ hyl (T := B.rows) (by omega)
    have hmt := mergeRs_take (R := A.rows) (T := B.rows) hyl (by omega)
    have hmtl : ((mergeRs A.rows B.rows).take y).length = y := by rw [List.length_take]; omega
    have hdie : ∀ x : Nat,dieB B x y = (B.rows.getD y []).getD x 0 := fun x => rfl
    have hyB : y < B.rows.length := by omega
    generalize hAr : A.rows.getD y [] = r at *
    generalize hBt : B.rows.getD y [] = t at *
    have hrt : r.length = t.length := by rw [hra,hrb,hw]
    refine ⟨by omega,by omega,?_⟩
    refine LP.mkP (fun x : Nat => x ≤ r.length) (fun x : Nat => ⟨[(25,.int .i64 x),(24,.int .i64 r.length),(8,.sl (nid + 228) 0 r.length),(6,.int .i64 y),(16,.int .i64 y),(15,.int .i64 A.rows.length),(14,.lit nl A.rows.length [.s fun i => A.rows.getD i []]),(1,.fn 56 [.ptr ib 0,.ptr io 0]),(5,.ptr (nid + 20) 0),(4,.ptr (nid + 4) 0)],
      [(ib,boxW nlb B),(io,boxB (okTo A.rows B.rows y && okAt r t x)),(nid + 4,some (.box 28 [.lit true 0 [],.str []])),(nid + 20,some (.box 28 [.sl (nid + 8) 0 y,.str A.pass])),(nid + 8,some (.arr 9 y [.s fun i => ((mergeRs A.rows B.rows).take y).getD i []])),
       (nid + 228,some (.arr 4294967295 r.length [.i .u8 fun i => (((rowTo r t x).getD i 0).toNat : Nat)]))],nid + 400,nid⟩) (fun x => r.length + 1 - x) 0 (by omega) (Cov.go [] [] ?_) (fun x hx => ?_)
    · simp [cvT,step,res,a1,a2,a3,a4,a5,a6,a7,a8,a9,b1,b2,b3,b4,b5,b6,b7,b8,b9,c1,c2,c3,hne,boxW,boxB,okAt,rowTo,-List.getD_eq_getElem?_getD]
    unfold boxW boxB
    have hrl := rowTo_len hrt x
    have hra2 := rowTo_at hrt (k := x)
    have hrs := rowTo_set hrt (k := x)
    have hoa := okAt_succ (r := r) (t := t) (x := x)
    generalize hq : rowTo r t x = q at *
    simp -dsimp only [aqA,↓seqK,↓blkK,↓loopK,step,stepBin,eqB,Nat.add_assoc nid,simprocAttr,z0,Int.cast_ofNat_Int,Int.reduceBEq,Int.reduceBNe,Int.reduceLT,Int.reduceLE,Int.reduceAdd,Int.reduceSub,Int.reduceMul,Int.reduceToNat,Int.reduceNeg,Int.reduceTMod,Int.reduceEq,not_false_eq_true,Int.reducePow,Int.reduceFDiv,Nat.reducePow,Nat.reduceSub,Nat.reduceMul,Nat.min_eq_left,Nat.reduceEqDiff,BEq.rfl,Int.tdiv_one,LN_succ,a1,a2,a3,a4,a5,a6,a7,a8,a9,b1,b2,b3,b4,b5,b6,b7,b8,b9,c1,c2,c3,hne]
    refine S2.dec (fun h2 => ?_) (fun h2 => ?_) <;> simp -dsimp only [aqA,↓seqK,↓blkK,↓loopK,step,stepBin,eqB,Nat.add_assoc nid,simprocAttr,z0,Int.cast_ofNat_Int,Int.reduceBEq,Int.reduceBNe,Int.reduceLT,Int.reduceLE,Int.reduceAdd,Int.reduceSub,Int.reduceMul,Int.reduceToNat,Int.reduceNeg,Int.reduceTMod,Int.reduceEq,not_false_eq_true,Int.reducePow,Int.reduceFDiv,Nat.reducePow,Nat.reduceSub,Nat.reduceMul,Nat.min_eq_left,Nat.reduceEqDiff,BEq.rfl,Int.tdiv_one,LN_succ,a1,a2,a3,a4,a5,a6,a7,a8,a9,b1,b2,b3,b4,b5,b6,b7,b8,b9,c1,c2,c3,hne]
    · have hxl : x < r.length := by omega
      rw [hra2 hxl]
      refine ⟨by omega,CallO.on (mergeF_c ib io nlb B x y (r.getD x 0) (okTo A.rows B.rows y && okAt r t x) _ (by omega) (by omega) hne hB hyB (by omega)) (subH_cons (by simp only [aqA,↓seqK,↓blkK,↓loopK,step,stepBin,eqB,Nat.add_assoc nid,simprocAttr,z0,Int.cast_ofNat_Int,Int.reduceBEq,Int.reduceBNe,Int.reduceLT,Int.reduceLE,Int.reduceAdd,Int.reduceSub,Int.reduceMul,Int.reduceToNat,Int.reduceNeg,Int.reduceTMod,Int.reduceEq,not_false_eq_true,Int.reducePow,Int.reduceFDiv,Nat.reducePow,Nat.reduceSub,Nat.reduceMul,Nat.min_eq_left,Nat.reduceEqDiff,BEq.rfl,Int.tdiv_one,LN_succ,a1,a2,a3,a4,a5,a6,a7,a8,a9,b1,b2,b3,b4,b5,b6,b7,b8,b9,c1,c2,c3,hne,boxW]) (subH_get (by simp only [aqA,↓seqK,↓blkK,↓loopK,step,stepBin,eqB,Nat.add_assoc nid,simprocAttr,z0,Int.cast_ofNat_Int,Int.reduceBEq,Int.reduceBNe,Int.reduceLT,Int.reduceLE,Int.reduceAdd,Int.reduceSub,Int.reduceMul,Int.reduceToNat,Int.reduceNeg,Int.reduceTMod,Int.reduceEq,not_false_eq_true,Int.reducePow,Int.reduceFDiv,Nat.reducePow,Nat.reduceSub,Nat.reduceMul,Nat.min_eq_left,Nat.reduceEqDiff,BEq.rfl,Int.tdiv_one,LN_succ,a1,a2,a3,a4,a5,a6,a7,a8,a9,b1,b2,b3,b4,b5,b6,b7,b8,b9,c1,c2,c3,hne,boxB]))) ?_⟩
      rw [hdie x]
      unfold boxW boxB
      simp -dsimp only [aqA,↓seqK,↓blkK,↓loopK,step,stepBin,eqB,Nat.add_assoc nid,simprocAttr,z0,Int.cast_ofNat_Int,Int.reduceBEq,Int.reduceBNe,Int.reduceLT,Int.reduceLE,Int.reduceAdd,Int.reduceSub,Int.reduceMul,Int.reduceToNat,Int.reduceNeg,Int.reduceTMod,Int.reduceEq,not_false_eq_true,Int.reducePow,Int.reduceFDiv,Nat.reducePow,Nat.reduceSub,Nat.reduceMul,Nat.min_eq_left,Nat.reduceEqDiff,BEq.rfl,Int.tdiv_one,LN_succ,a1,a2,a3,a4,a5,a6,a7,a8,a9,b1,b2,b3,b4,b5,b6,b7,b8,b9,c1,c2,c3,hne]
      rw [setD_byte (by omega : x < q.length),hrs hxl,Bool.and_assoc,← hoa hxl (by omega)]
      refine ⟨by omega,by unfold inI64; omega,x + 1,⟨by omega,by omega⟩,Cov.go [] [] ?_⟩
      simp [cvT,step,res,a1,a2,a3,a4,a5,a6,a7,a8,a9,b1,b2,b3,b4,b5,b6,b7,b8,b9,c1,c2,c3,hne,boxW,boxB,-List.getD_eq_getElem?_getD]
    · have hxr : x = r.length := by omega
      subst hxr
      rw [rowTo_all hrt] at hq
      subst hq
      rw [okAt_all hrt,← hok]
      rw [bytes_back2 hrl,getD_app1 _ _ hmtl,← hmt]
      refine ⟨⟨by omega,by omega⟩,by unfold inI64; omega,y + 1,⟨by omega,by omega⟩,Cov.go [(nid + 8,nid + 424)] [] ?_⟩
      simp [cvT,step,res,a1,a2,a3,a4,a5,a6,a7,a8,a9,b1,b2,b3,b4,b5,b6,b7,b8,b9,c1,c2,c3,hne,boxW,boxB,-List.getD_eq_getElem?_getD]
  · have hyn : y = A.rows.length := by omega
    subst hyn
    rw [okTo_all hr,List.take_of_length_le (by omega)]
    refine RetOK.go [(nid,nid + 8)] [] (.inl rfl) ?_
    simp [cvT,step,res,a1,a2,a3,a4,a5,a6,a7,a8,a9,b1,b2,b3,b4,b5,b6,b7,b8,b9,c1,c2,c3,hne,a55,boxW,boxB,arrS,hml,-List.getD_eq_getElem?_getD]
open Go.RowKit
structure Pair2 (A B:Waf):Prop where
 a:waferV A=0
 b:waferV B=0
 rows:A.rows.length=B.rows.length
 wide:wideOf A=wideOf B
 pass:A.pass=B.pass
 bdA:WafBd A
 bdB:WafBd B
theorem bothFault_ok (nla nlb:Bool) (A B:Waf) (nid:Nat) (h:Pair2 A B):ACall Try.prog 54 [wafP nla A,wafP nlb B] [] nid (.int .i64 0) []:=by
 have hpa:=(waferV_ok h.a).pos
 have hpb:=(waferV_ok h.b).pos
 have hw:=h.wide
 have hwa:wideOf A=(A.rows.getD 0 []).length:=rfl
 have hwb:wideOf B=(B.rows.getD 0 []).length:=rfl
 rw [hwa,hwb] at hw
 have e1:(((A.rows.length:Nat):Int) != ((B.rows.length:Nat):Int))=false:=by rw [h.rows]; simp
 have e2:((((A.rows.getD 0 []).length:Nat):Int) != (((B.rows.getD 0 []).length:Nat):Int))=false:=by rw [hw]; simp
 have e3:(!(A.pass==B.pass))=false:=by rw [h.pass]; simp
 refine acall_sr c54 (by simp [a54]) ?_
 unfold a54 wafP
 refine SR.seq ?_
 simp -dsimp only [aqA,↓seqK,↓blkK,↓loopK,step,stepBin,eqB,Nat.add_assoc nid,simprocAttr,z0,Int.cast_ofNat_Int,Int.reduceBEq,Int.reduceBNe,Int.reduceLT,Int.reduceLE,Int.reduceAdd,Int.reduceSub,Int.reduceMul,Int.reduceToNat,Int.reduceNeg,Int.reduceTMod,Int.reduceEq,not_false_eq_true,Int.reducePow,Int.reduceFDiv,Nat.reducePow,Nat.reduceSub,Nat.reduceMul,Nat.min_eq_left,Nat.reduceEqDiff,BEq.rfl,Int.tdiv_one,LN_succ]
 refine SR.seqTo ⟨[(5,.int .i64 0),(2,.ptr nid 0),(3,.ptr (nid+4) 0)],[(nid,boxW nla A),(nid+4,boxW nlb B)],nid+100,nid⟩ ?_ ?_
 ·simp -dsimp only [aqA,↓seqK,↓blkK,↓loopK,step,stepBin,eqB,Nat.add_assoc nid,simprocAttr,z0,Int.cast_ofNat_Int,Int.reduceBEq,Int.reduceBNe,Int.reduceLT,Int.reduceLE,Int.reduceAdd,Int.reduceSub,Int.reduceMul,Int.reduceToNat,Int.reduceNeg,Int.reduceTMod,Int.reduceEq,not_false_eq_true,Int.reducePow,Int.reduceFDiv,Nat.reducePow,Nat.reduceSub,Nat.reduceMul,Nat.min_eq_left,Nat.reduceEqDiff,BEq.rfl,Int.tdiv_one,LN_succ]
  refine CallX.pure (checkWafer_all nla A _ h.bdA) ?_
  simp -dsimp only [aqA,↓seqK,↓blkK,↓loopK,step,stepBin,eqB,Nat.add_assoc nid,simprocAttr,z0,Int.cast_ofNat_Int,Int.reduceBEq,Int.reduceBNe,Int.reduceLT,Int.reduceLE,Int.reduceAdd,Int.reduceSub,Int.reduceMul,Int.reduceToNat,Int.reduceNeg,Int.reduceTMod,Int.reduceEq,not_false_eq_true,Int.reducePow,Int.reduceFDiv,Nat.reducePow,Nat.reduceSub,Nat.reduceMul,Nat.min_eq_left,Nat.reduceEqDiff,BEq.rfl,Int.tdiv_one,LN_succ]
  refine CallX.pure (checkWafer_all nlb B _ h.bdB) ?_
  simp -dsimp only [aqA,↓seqK,↓blkK,↓loopK,step,stepBin,eqB,Nat.add_assoc nid,simprocAttr,z0,Int.cast_ofNat_Int,Int.reduceBEq,Int.reduceBNe,Int.reduceLT,Int.reduceLE,Int.reduceAdd,Int.reduceSub,Int.reduceMul,Int.reduceToNat,Int.reduceNeg,Int.reduceTMod,Int.reduceEq,not_false_eq_true,Int.reducePow,Int.reduceFDiv,Nat.reducePow,Nat.reduceSub,Nat.reduceMul,Nat.min_eq_left,Nat.reduceEqDiff,BEq.rfl,Int.tdiv_one,LN_succ]
  rw [h.a,h.b]
  refine CallX.gave1 (by simp only [aqA,↓seqK,↓blkK,↓loopK,step,stepBin,eqB,Nat.add_assoc nid,simprocAttr,z0,Int.cast_ofNat_Int,Int.reduceBEq,Int.reduceBNe,Int.reduceLT,Int.reduceLE,Int.reduceAdd,Int.reduceSub,Int.reduceMul,Int.reduceToNat,Int.reduceNeg,Int.reduceTMod,Int.reduceEq,not_false_eq_true,Int.reducePow,Int.reduceFDiv,Nat.reducePow,Nat.reduceSub,Nat.reduceMul,Nat.min_eq_left,Nat.reduceEqDiff,BEq.rfl,Int.tdiv_one,LN_succ]; rfl) (fun nl'=>first_c nl' [0,0] _ (by simp)) rfl ?_
  simp -dsimp only [aqA,↓seqK,↓blkK,↓loopK,step,stepBin,eqB,Nat.add_assoc nid,simprocAttr,z0,Int.cast_ofNat_Int,Int.reduceBEq,Int.reduceBNe,Int.reduceLT,Int.reduceLE,Int.reduceAdd,Int.reduceSub,Int.reduceMul,Int.reduceToNat,Int.reduceNeg,Int.reduceTMod,Int.reduceEq,not_false_eq_true,Int.reducePow,Int.reduceFDiv,Nat.reducePow,Nat.reduceSub,Nat.reduceMul,Nat.min_eq_left,Nat.reduceEqDiff,BEq.rfl,Int.tdiv_one,LN_succ,firstBad2]
  refine Cov.go [] [] ?_
  simp [cvT,step,res,boxW]
 refine SR.seqTo ⟨[(5,.int .i64 0)],[],nid+400,nid⟩ ?_ ?_
 ·unfold boxW
  simp -dsimp only [aqA,↓seqK,↓blkK,↓loopK,step,stepBin,eqB,Nat.add_assoc nid,simprocAttr,z0,Int.cast_ofNat_Int,Int.reduceBEq,Int.reduceBNe,Int.reduceLT,Int.reduceLE,Int.reduceAdd,Int.reduceSub,Int.reduceMul,Int.reduceToNat,Int.reduceNeg,Int.reduceTMod,Int.reduceEq,not_false_eq_true,Int.reducePow,Int.reduceFDiv,Nat.reducePow,Nat.reduceSub,Nat.reduceMul,Nat.min_eq_left,Nat.reduceEqDiff,BEq.rfl,Int.tdiv_one,LN_succ,e1,e2,e3]
  refine ⟨by omega,by omega,Cov.go [] [] ?_⟩
  simp [cvT,step,res]
 refine SR.run (t:=.mk) ?_
 simp -dsimp only [aqA,↓seqK,↓blkK,↓loopK,step,stepBin,eqB,Nat.add_assoc nid,simprocAttr,z0,Int.cast_ofNat_Int,Int.reduceBEq,Int.reduceBNe,Int.reduceLT,Int.reduceLE,Int.reduceAdd,Int.reduceSub,Int.reduceMul,Int.reduceToNat,Int.reduceNeg,Int.reduceTMod,Int.reduceEq,not_false_eq_true,Int.reducePow,Int.reduceFDiv,Nat.reducePow,Nat.reduceSub,Nat.reduceMul,Nat.min_eq_left,Nat.reduceEqDiff,BEq.rfl,Int.tdiv_one,LN_succ]
 refine RetOK.pure (.inl rfl) rfl ?_
 simp [cvT,step,res]
set_option maxHeartbeats 4000000 in
theorem merge_ok (nla nlb:Bool) (A B:Waf) (nid:Nat) (h:Pair2 A B) (ho:okRs A.rows B.rows=true):ACall Try.prog 17 [wafP nla A,wafP nlb B] [] nid (.tup [.agg [.sl nid 0 A.rows.length,.str A.pass],.int .i64 0]) [(nid,arrS (mergeRs A.rows B.rows))]:=by
 have hA:=waferV_ok h.a
 have hB:=waferV_ok h.b
 have hml:(mergeRs A.rows B.rows).length=A.rows.length:=zip_len _ h.rows
 refine acall_sr c17 (by simp [a17]) ?_
 unfold a17 wafP
 refine SR.seq ?_
 simp -dsimp only [aqA,↓seqK,↓blkK,↓loopK,step,stepBin,eqB,Nat.add_assoc nid,simprocAttr,z0,Int.cast_ofNat_Int,Int.reduceBEq,Int.reduceBNe,Int.reduceLT,Int.reduceLE,Int.reduceAdd,Int.reduceSub,Int.reduceMul,Int.reduceToNat,Int.reduceNeg,Int.reduceTMod,Int.reduceEq,not_false_eq_true,Int.reducePow,Int.reduceFDiv,Nat.reducePow,Nat.reduceSub,Nat.reduceMul,Nat.min_eq_left,Nat.reduceEqDiff,BEq.rfl,Int.tdiv_one,LN_succ]
 refine SR.seqTo ⟨[(2,.ptr nid 0),(3,.ptr (nid+4) 0),(4,.ptr (nid+8) 0)],[(nid,boxW nla A),(nid+4,boxW nlb B),(nid+8,some (.box 28 [.lit true 0 [],.str []]))],nid+100,nid⟩ ?_ ?_
 ·simp -dsimp only [aqA,↓seqK,↓blkK,↓loopK,step,stepBin,eqB,Nat.add_assoc nid,simprocAttr,z0,Int.cast_ofNat_Int,Int.reduceBEq,Int.reduceBNe,Int.reduceLT,Int.reduceLE,Int.reduceAdd,Int.reduceSub,Int.reduceMul,Int.reduceToNat,Int.reduceNeg,Int.reduceTMod,Int.reduceEq,not_false_eq_true,Int.reducePow,Int.reduceFDiv,Nat.reducePow,Nat.reduceSub,Nat.reduceMul,Nat.min_eq_left,Nat.reduceEqDiff,BEq.rfl,Int.tdiv_one,LN_succ]
  refine CallO.pure (bothFault_ok nla nlb A B _ h) ?_
  simp -dsimp only [aqA,↓seqK,↓blkK,↓loopK,step,stepBin,eqB,Nat.add_assoc nid,simprocAttr,z0,Int.cast_ofNat_Int,Int.reduceBEq,Int.reduceBNe,Int.reduceLT,Int.reduceLE,Int.reduceAdd,Int.reduceSub,Int.reduceMul,Int.reduceToNat,Int.reduceNeg,Int.reduceTMod,Int.reduceEq,not_false_eq_true,Int.reducePow,Int.reduceFDiv,Nat.reducePow,Nat.reduceSub,Nat.reduceMul,Nat.min_eq_left,Nat.reduceEqDiff,BEq.rfl,Int.tdiv_one,LN_succ]
  refine Cov.go [] [] ?_
  simp [cvT,step,res,boxW]
 refine SR.seq ?_
 unfold boxW
 simp -dsimp only [aqA,↓seqK,↓blkK,↓loopK,step,stepBin,eqB,Nat.add_assoc nid,simprocAttr,z0,Int.cast_ofNat_Int,Int.reduceBEq,Int.reduceBNe,Int.reduceLT,Int.reduceLE,Int.reduceAdd,Int.reduceSub,Int.reduceMul,Int.reduceToNat,Int.reduceNeg,Int.reduceTMod,Int.reduceEq,not_false_eq_true,Int.reducePow,Int.reduceFDiv,Nat.reducePow,Nat.reduceSub,Nat.reduceMul,Nat.min_eq_left,Nat.reduceEqDiff,BEq.rfl,Int.tdiv_one,LN_succ]
 refine SR.seq ?_
 simp -dsimp only [aqA,↓seqK,↓blkK,↓loopK,step,stepBin,eqB,Nat.add_assoc nid,simprocAttr,z0,Int.cast_ofNat_Int,Int.reduceBEq,Int.reduceBNe,Int.reduceLT,Int.reduceLE,Int.reduceAdd,Int.reduceSub,Int.reduceMul,Int.reduceToNat,Int.reduceNeg,Int.reduceTMod,Int.reduceEq,not_false_eq_true,Int.reducePow,Int.reduceFDiv,Nat.reducePow,Nat.reduceSub,Nat.reduceMul,Nat.min_eq_left,Nat.reduceEqDiff,BEq.rfl,Int.tdiv_one,LN_succ]
 refine CallO.on (changedMerge_c (nid+4) (nid+100) nla nlb A B _ (by omega) (by omega) (by omega) hA hB h.rows h.wide) (subH_cons (by simp only [aqA,↓seqK,↓blkK,↓loopK,step,stepBin,eqB,Nat.add_assoc nid,simprocAttr,z0,Int.cast_ofNat_Int,Int.reduceBEq,Int.reduceBNe,Int.reduceLT,Int.reduceLE,Int.reduceAdd,Int.reduceSub,Int.reduceMul,Int.reduceToNat,Int.reduceNeg,Int.reduceTMod,Int.reduceEq,not_false_eq_true,Int.reducePow,Int.reduceFDiv,Nat.reducePow,Nat.reduceSub,Nat.reduceMul,Nat.min_eq_left,Nat.reduceEqDiff,BEq.rfl,Int.tdiv_one,LN_succ,boxW]) (subH_get (by simp only [aqA,↓seqK,↓blkK,↓loopK,step,stepBin,eqB,Nat.add_assoc nid,simprocAttr,z0,Int.cast_ofNat_Int,Int.reduceBEq,Int.reduceBNe,Int.reduceLT,Int.reduceLE,Int.reduceAdd,Int.reduceSub,Int.reduceMul,Int.reduceToNat,Int.reduceNeg,Int.reduceTMod,Int.reduceEq,not_false_eq_true,Int.reducePow,Int.reduceFDiv,Nat.reducePow,Nat.reduceSub,Nat.reduceMul,Nat.min_eq_left,Nat.reduceEqDiff,BEq.rfl,Int.tdiv_one,LN_succ,boxB]))) ?_
 rw [ho]
 unfold boxW boxB arrS
 simp -dsimp only [aqA,↓seqK,↓blkK,↓loopK,step,stepBin,eqB,Nat.add_assoc nid,simprocAttr,z0,Int.cast_ofNat_Int,Int.reduceBEq,Int.reduceBNe,Int.reduceLT,Int.reduceLE,Int.reduceAdd,Int.reduceSub,Int.reduceMul,Int.reduceToNat,Int.reduceNeg,Int.reduceTMod,Int.reduceEq,not_false_eq_true,Int.reducePow,Int.reduceFDiv,Nat.reducePow,Nat.reduceSub,Nat.reduceMul,Nat.min_eq_left,Nat.reduceEqDiff,BEq.rfl,Int.tdiv_one,LN_succ]
 refine SR.run (t:=.mk) ?_
 simp -dsimp only [aqA,↓seqK,↓blkK,↓loopK,step,stepBin,eqB,Nat.add_assoc nid,simprocAttr,z0,Int.cast_ofNat_Int,Int.reduceBEq,Int.reduceBNe,Int.reduceLT,Int.reduceLE,Int.reduceAdd,Int.reduceSub,Int.reduceMul,Int.reduceToNat,Int.reduceNeg,Int.reduceTMod,Int.reduceEq,not_false_eq_true,Int.reducePow,Int.reduceFDiv,Nat.reducePow,Nat.reduceSub,Nat.reduceMul,Nat.min_eq_left,Nat.reduceEqDiff,BEq.rfl,Int.tdiv_one,LN_succ]
 refine RetOK.go [(nid,nid+116)] [] (.inl rfl) ?_
 simp [a17,cvT,step,res,arrS,hml,-List.getD_eq_getElem?_getD]
open Go.RowKit
def navC:List Nat→ACode→ACode
 | [],c=>c
 | 0::l,.seq a _=>navC l a
 | 1::l,.seq _ b=>navC l b
 | 0::l,.block _ c=>navC l c
 | 0::l,.loop c=>navC l c
 | 0::l,.cond _ a _=>navC l a
 | 1::l,.cond _ _ b=>navC l b
 | _,c=>c
set_option maxHeartbeats 16000000 in
theorem bfsF_run (nl:Bool) (W:Waf) (least k cl b0 o nid:Nat) (S:List Pt) (p:Pt) (Hs:Heap) (Q:AEx→ST→Prop) (hW:WafOk W) (hb0:b0≤nid) (ho:o<nid) (hs:Scoped nid Hs) (hplv:(plV W).length≤60000) (hstart:BfsOk W p S [p]) :
  Run Try.prog (navC [1,1,1,1,1,0,1,0,0,1,1,0,0,1,1,1,1,0] (a28).body) ⟨[(11,.sl (nid+20) 0 1),(26,.int .i64 k),(25,.int .i64 (plV W).length),(24,.sl (nid+12) 0 (plV W).length),(8,.sl (o) 0 cl),(7,.mp (nid+8)),(1,.int .i64 (least:Nat)),(2,.ptr (nid) 0)],[(nid,boxW nl W),(nid+8,mapS (S++[p])),(nid+12,arrPl (plV W)),(nid+20,arrPl [p])]++Hs,nid+3500,b0⟩ (seqK (fun s=>∃ L:{L:List Pt // BfsOk W p S L∧ShutTo W S L L.length},Cov s (⟨[(11,.sl (nid+20) 0 L.1.length),(26,.int .i64 k),(25,.int .i64 (plV W).length),(24,.sl (nid+12) 0 (plV W).length),(8,.sl (o) 0 cl),(7,.mp (nid+8)),(1,.int .i64 (least:Nat)),(2,.ptr (nid) 0)],[(nid,boxW nl W),(nid+8,mapS (S++L.1)),(nid+12,arrPl (plV W)),(nid+20,arrPl L.1)]++Hs,nid+6000,b0⟩)) Q) .mk:=by
 have o1:∀ K,o<nid+K:=fun K=>by omega
 have o2:∀ K,¬ o=nid+K:=fun K=>by omega
 have o3:∀ K,¬ nid+K=o:=fun K=>by omega
 have o4:∀ K,¬ nid+K≤o:=fun K=>by omega
 have o8:∀ K,(nid+K==o)=false:=fun K=>by rw [beq_eq_false_iff_ne]; omega
 have o9:(nid==o)=false:=by rw [beq_eq_false_iff_ne]; omega
 have o5:¬ o=nid:=by omega
 have o6:¬ nid=o:=by omega
 have o7:¬ nid≤o:=by omega
 simp only [a28,navC]
 unfold boxW arrPl mapS
 simp -dsimp only [aqA,↓seqK,↓blkK,↓loopK,step,stepBin,eqB,Nat.add_assoc nid,simprocAttr,z0,Int.cast_ofNat_Int,Int.reduceBEq,Int.reduceBNe,Int.reduceLT,Int.reduceLE,Int.reduceAdd,Int.reduceSub,Int.reduceMul,Int.reduceToNat,Int.reduceNeg,Int.reduceTMod,Int.reduceEq,not_false_eq_true,Int.reducePow,Int.reduceFDiv,Nat.reducePow,Nat.reduceSub,Nat.reduceMul,Nat.min_eq_left,Nat.reduceEqDiff,BEq.rfl,Int.tdiv_one,LN_succ]
 refine LP.mkP (fun x:Nat × List Pt=>x.1≤x.2.length∧BfsOk W p S x.2∧ShutTo W S x.2 x.1) (fun x:Nat × List Pt=>⟨[(12,.int .i64 x.1),(11,.sl (nid+20) 0 x.2.length),(26,.int .i64 k),(25,.int .i64 (plV W).length),(24,.sl (nid+12) 0 (plV W).length),(8,.sl (o) 0 cl),(7,.mp (nid+8)),(1,.int .i64 (least:Nat)),(2,.ptr (nid) 0)],[(nid,boxW nl W),(nid+8,mapS (S++x.2)),(nid+12,arrPl (plV W)),(nid+20,arrPl x.2)]++Hs,nid+4000,b0⟩) (fun x=>muV W S+1 - x.1) (0,[p]) ⟨by simp,hstart,fun j hj=>by omega⟩ ?_ (fun x hx=>?_)
 ·refine Cov.goQ (nid) Hs [] [] (by omega) hs (by repeat (first | exact PreQ.nil | apply PreQ.cons)) (by repeat (first | exact PreQ.nil | apply PreQ.cons)) (by simp [kOK]) (by simp) ?_
  simp [cvT,step,res,boxW,arrPl,mapS,o1,o2,o3,o4,o5,o6,o7,o8,o9,ho,-List.getD_eq_getElem?_getD,-List.length_append]
 obtain ⟨i,L⟩:=x
 obtain ⟨hi,hL,hSh⟩:=hx
 simp only at hi hL hSh ⊢
 have hmS:=muV_le hW S
 have hLs:=hL.sum
 unfold arrPl boxW mapS
 simp -dsimp only [aqA,↓seqK,↓blkK,↓loopK,step,stepBin,eqB,Nat.add_assoc nid,simprocAttr,z0,Int.cast_ofNat_Int,Int.reduceBEq,Int.reduceBNe,Int.reduceLT,Int.reduceLE,Int.reduceAdd,Int.reduceSub,Int.reduceMul,Int.reduceToNat,Int.reduceNeg,Int.reduceTMod,Int.reduceEq,not_false_eq_true,Int.reducePow,Int.reduceFDiv,Nat.reducePow,Nat.reduceSub,Nat.reduceMul,Nat.min_eq_left,Nat.reduceEqDiff,BEq.rfl,Int.tdiv_one,LN_succ]
 refine S2.dec (fun h4=>?_) (fun h4=>?_) <;> simp -dsimp only [aqA,↓seqK,↓blkK,↓loopK,step,stepBin,eqB,Nat.add_assoc nid,simprocAttr,z0,Int.cast_ofNat_Int,Int.reduceBEq,Int.reduceBNe,Int.reduceLT,Int.reduceLE,Int.reduceAdd,Int.reduceSub,Int.reduceMul,Int.reduceToNat,Int.reduceNeg,Int.reduceTMod,Int.reduceEq,not_false_eq_true,Int.reducePow,Int.reduceFDiv,Nat.reducePow,Nat.reduceSub,Nat.reduceMul,Nat.min_eq_left,Nat.reduceEqDiff,BEq.rfl,Int.tdiv_one,LN_succ]
 ·have hiL:i<L.length:=by omega
  have hqL:=ptMem' hiL
  have hqb:PtBd (L.getD i p0):=plV_bd hW (badP_mem hW (hL.rch _ hqL).bad)
  have hin:=fun q hq=>hqb.ar (q:=q) hq
  have har:=arV_len (L.getD i p0)
  refine ⟨by omega,CallO.pure (around_all (L.getD i p0) _ hqb) ?_⟩
  generalize hqd:L.getD i p0=q at *
  generalize hRd:arV q=R at *
  unfold arrPl
  simp -dsimp only [aqA,↓seqK,↓blkK,↓loopK,step,stepBin,eqB,Nat.add_assoc nid,simprocAttr,z0,Int.cast_ofNat_Int,Int.reduceBEq,Int.reduceBNe,Int.reduceLT,Int.reduceLE,Int.reduceAdd,Int.reduceSub,Int.reduceMul,Int.reduceToNat,Int.reduceNeg,Int.reduceTMod,Int.reduceEq,not_false_eq_true,Int.reducePow,Int.reduceFDiv,Nat.reducePow,Nat.reduceSub,Nat.reduceMul,Nat.min_eq_left,Nat.reduceEqDiff,BEq.rfl,Int.tdiv_one,LN_succ]
  refine LP.mkP (fun x:Nat × List Pt=>x.1≤R.length∧BfsOk W p S (L++x.2)∧∀ j,j<x.1→badP W (R.getD j p0)=true→R.getD j p0∈S∨R.getD j p0∈L++x.2) (fun x:Nat × List Pt=>⟨[(57,.int .i64 x.1),(56,.int .i64 R.length),(55,.sl (nid+24) 0 R.length),(12,.int .i64 i),(11,.sl (nid+20) 0 (L++x.2).length),(26,.int .i64 k),(25,.int .i64 (plV W).length),(24,.sl (nid+12) 0 (plV W).length),(8,.sl (o) 0 cl),(7,.mp (nid+8)),(1,.int .i64 (least:Nat)),(2,.ptr (nid) 0)],[(nid,boxW nl W),(nid+8,mapS (S++(L++x.2))),(nid+12,arrPl (plV W)),(nid+20,arrPl (L++x.2)),(nid+24,arrPl R)]++Hs,nid+5000,b0⟩) (fun x=>R.length+1 - x.1) (0,[]) ⟨by simp,by simpa using hL,fun j hj=>by omega⟩ ?_ (fun x hx=>?_)
  ·refine Cov.goQ (nid) Hs [(nid+24,nid+4032)] [] (by omega) hs (by repeat (first | exact PreQ.nil | apply PreQ.cons)) (by repeat (first | exact PreQ.nil | apply PreQ.cons)) (by simp [kOK]) (by simp) ?_
   simp [cvT,step,res,boxW,arrPl,mapS,o1,o2,o3,o4,o5,o6,o7,o8,o9,ho,-List.getD_eq_getElem?_getD,-List.length_append]
  obtain ⟨j,M⟩:=x
  obtain ⟨hj,hLM,hjs⟩:=hx
  simp only at hj hLM hjs ⊢
  have hLMs:=hLM.sum
  unfold arrPl boxW mapS
  simp -dsimp only [aqA,↓seqK,↓blkK,↓loopK,step,stepBin,eqB,Nat.add_assoc nid,simprocAttr,z0,Int.cast_ofNat_Int,Int.reduceBEq,Int.reduceBNe,Int.reduceLT,Int.reduceLE,Int.reduceAdd,Int.reduceSub,Int.reduceMul,Int.reduceToNat,Int.reduceNeg,Int.reduceTMod,Int.reduceEq,not_false_eq_true,Int.reducePow,Int.reduceFDiv,Nat.reducePow,Nat.reduceSub,Nat.reduceMul,Nat.min_eq_left,Nat.reduceEqDiff,BEq.rfl,Int.tdiv_one,LN_succ]
  refine S2.dec (fun h5=>?_) (fun h5=>?_) <;> simp -dsimp only [aqA,↓seqK,↓blkK,↓loopK,step,stepBin,eqB,Nat.add_assoc nid,simprocAttr,z0,Int.cast_ofNat_Int,Int.reduceBEq,Int.reduceBNe,Int.reduceLT,Int.reduceLE,Int.reduceAdd,Int.reduceSub,Int.reduceMul,Int.reduceToNat,Int.reduceNeg,Int.reduceTMod,Int.reduceEq,not_false_eq_true,Int.reducePow,Int.reduceFDiv,Nat.reducePow,Nat.reduceSub,Nat.reduceMul,Nat.min_eq_left,Nat.reduceEqDiff,BEq.rfl,Int.tdiv_one,LN_succ]
  ·have hjr:j<R.length:=by omega
   obtain ⟨i1,i2⟩:=hin _ (ptMem' hjr)
   have hrR:=ptMem' hjr
   have hnext:∀ M',(∀ a∈L++M,a∈L++M')→(badP W (R.getD j p0)=true→R.getD j p0∈S∨R.getD j p0∈L++M')→∀ j',j'<j+1→badP W (R.getD j' p0)=true→R.getD j' p0∈S∨R.getD j' p0∈L++M':=by
    intro M' hsub hnew j' hj' hb'
    rcases (by omega:j'<j∨j'=j) with e | e
    ·exact (hjs j' e hb').imp id (hsub _)
    ·subst e; exact hnew hb'
   have hadd:=fun hb hn=>hLM.add hW (List.mem_append_left M hqL) (r:=R.getD j p0) (by rw [hRd]; exact hrR) hb hn
   refine ⟨by omega,?_⟩
   have hsn:=seenD_snoc (S++(L++M)) (R.getD j p0)
   have hse:S++(L++M)++[R.getD j p0]=S++(L++(M++[R.getD j p0])):=by simp
   rw [hse] at hsn
   generalize R.getD j p0=r at *
   refine ⟨⟨i1,i2⟩,?_⟩
   cases hsd:seenD (S++(L++M)) (MK.p r.1 r.2) <;> simp -dsimp only [aqA,↓seqK,↓blkK,↓loopK,step,stepBin,eqB,Nat.add_assoc nid,simprocAttr,z0,Int.cast_ofNat_Int,Int.reduceBEq,Int.reduceBNe,Int.reduceLT,Int.reduceLE,Int.reduceAdd,Int.reduceSub,Int.reduceMul,Int.reduceToNat,Int.reduceNeg,Int.reduceTMod,Int.reduceEq,not_false_eq_true,Int.reducePow,Int.reduceFDiv,Nat.reducePow,Nat.reduceSub,Nat.reduceMul,Nat.min_eq_left,Nat.reduceEqDiff,BEq.rfl,Int.tdiv_one,LN_succ]
   ·refine CallX.pure (at_all nl W _ _ _ hW i1 i2) ?_
    simp -dsimp only [aqA,↓seqK,↓blkK,↓loopK,step,stepBin,eqB,Nat.add_assoc nid,simprocAttr,z0,Int.cast_ofNat_Int,Int.reduceBEq,Int.reduceBNe,Int.reduceLT,Int.reduceLE,Int.reduceAdd,Int.reduceSub,Int.reduceMul,Int.reduceToNat,Int.reduceNeg,Int.reduceTMod,Int.reduceEq,not_false_eq_true,Int.reducePow,Int.reduceFDiv,Nat.reducePow,Nat.reduceSub,Nat.reduceMul,Nat.min_eq_left,Nat.reduceEqDiff,BEq.rfl,Int.tdiv_one,LN_succ]
    refine CallX.pure (failed_c nl W _ _) ?_
    have g1:failedV W.pass (dieV W r.1 r.2)=badP W r:=rfl
    rw [g1]
    cases hb:badP W r <;> simp -dsimp only [aqA,↓seqK,↓blkK,↓loopK,step,stepBin,eqB,Nat.add_assoc nid,simprocAttr,z0,Int.cast_ofNat_Int,Int.reduceBEq,Int.reduceBNe,Int.reduceLT,Int.reduceLE,Int.reduceAdd,Int.reduceSub,Int.reduceMul,Int.reduceToNat,Int.reduceNeg,Int.reduceTMod,Int.reduceEq,not_false_eq_true,Int.reducePow,Int.reduceFDiv,Nat.reducePow,Nat.reduceSub,Nat.reduceMul,Nat.min_eq_left,Nat.reduceEqDiff,BEq.rfl,Int.tdiv_one,LN_succ]
    ·refine ⟨by unfold inI64; omega,(j+1,M),⟨⟨by simp only; omega,hLM,hnext M (fun _ h=>h) (fun hb'=>by rw [hb] at hb'; cases hb')⟩,by simp only; omega⟩,?_⟩
     refine Cov.goQ (nid) Hs [] [] (by omega) hs (by repeat (first | exact PreQ.nil | apply PreQ.cons)) (by repeat (first | exact PreQ.nil | apply PreQ.cons)) (by simp [kOK]) (by simp) ?_
     simp [cvT,step,res,boxW,arrPl,mapS,o1,o2,o3,o4,o5,o6,o7,o8,o9,ho,-List.getD_eq_getElem?_getD,-List.length_append]
    ·have hLM2:=hadd hb (seenD_not.1 hsd)
     rw [List.append_assoc] at hLM2
     have hl2:(L++(M++[r])).length=(L++M).length+1:=by simp only [List.length_append,List.length_singleton]; omega
     rw [hsn,getD_appP (L++M) r rfl (fun q=>q.1) rfl rfl,getD_appP (L++M) r rfl (fun q=>q.2) rfl rfl,List.append_assoc,← hl2]
     refine ⟨⟨i1,i2⟩,⟨by omega,by omega⟩,by unfold inI64; omega,(j+1,M++[r]),⟨⟨by simp only; omega,hLM2,hnext (M++[r]) (fun a h=>by rw [← List.append_assoc]; exact List.mem_append_left _ h) (fun _=>.inr (by simp))⟩,by simp only; omega⟩,?_⟩
     refine Cov.goQ (nid) Hs [(nid+20,nid+5088)] [] (by omega) hs (by repeat (first | exact PreQ.nil | apply PreQ.cons)) (by repeat (first | exact PreQ.nil | apply PreQ.cons)) (by simp [kOK]) (by simp) ?_
     simp [cvT,step,res,boxW,arrPl,mapS,o1,o2,o3,o4,o5,o6,o7,o8,o9,ho,-List.getD_eq_getElem?_getD,-List.length_append]
   ·refine ⟨by unfold inI64; omega,(j+1,M),⟨⟨by simp only; omega,hLM,hnext M (fun _ h=>h) (fun _=>List.mem_append.1 (seenD_iff.1 hsd))⟩,by simp only; omega⟩,?_⟩
    refine Cov.goQ (nid) Hs [] [] (by omega) hs (by repeat (first | exact PreQ.nil | apply PreQ.cons)) (by repeat (first | exact PreQ.nil | apply PreQ.cons)) (by simp [kOK]) (by simp) ?_
    simp [cvT,step,res,boxW,arrPl,mapS,o1,o2,o3,o4,o5,o6,o7,o8,o9,ho,-List.getD_eq_getElem?_getD,-List.length_append]
  ·have hjR:j=R.length:=by omega
   subst hjR
   have hsh2:ShutTo W S (L++M) (i+1):=by
    intro i' hi' r hr hb
    rcases (by omega:i'<i∨i'=i) with e | e
    ·have e2:(L++M).getD i' p0=L.getD i' p0:=by
      rw [List.getD_eq_getElem?_getD,List.getElem?_append_left (by omega),← List.getD_eq_getElem?_getD]
     rw [e2] at hr
     exact (hSh i' e r hr hb).imp id (List.mem_append_left _)
    ·subst e
     have e2:(L++M).getD i' p0=q:=by
      rw [List.getD_eq_getElem?_getD,List.getElem?_append_left (by omega),← List.getD_eq_getElem?_getD,hqd]
     rw [e2,hRd] at hr
     obtain ⟨j',hj',hjr⟩:=List.getElem_of_mem hr
     have hg:R.getD j' p0=r:=by rw [List.getD_eq_getElem?_getD,List.getElem?_eq_getElem hj']; exact hjr
     have:=hjs j' hj' (by rw [hg]; exact hb)
     rwa [hg] at this
   have hLl:=hLM.sum
   refine ⟨by unfold inI64; omega,(i+1,L++M),⟨⟨by simp only; rw [List.length_append]; omega,hLM,hsh2⟩,by simp only; rw [List.length_append] at hLl; omega⟩,?_⟩
   refine Cov.goQ (nid) Hs [] [] (by omega) hs (by repeat (first | exact PreQ.nil | apply PreQ.cons)) (by repeat (first | exact PreQ.nil | apply PreQ.cons)) (by simp [kOK]) (by simp) ?_
   simp [cvT,step,res,boxW,arrPl,mapS,o1,o2,o3,o4,o5,o6,o7,o8,o9,ho,-List.getD_eq_getElem?_getD,-List.length_append]
 ·have hie:i=L.length:=by omega
  subst hie
  refine ⟨⟨L,hL,hSh⟩,?_⟩
  refine Cov.goQ (nid) Hs [] [] (by omega) hs (by repeat (first | exact PreQ.nil | apply PreQ.cons)) (by repeat (first | exact PreQ.nil | apply PreQ.cons)) (by simp [kOK]) (by simp) ?_
  simp [cvT,step,res,boxW,arrPl,mapS,o1,o2,o3,o4,o5,o6,o7,o8,o9,ho,-List.getD_eq_getElem?_getD,-List.length_append]
open Go.RowKit
theorem mergeB_self (a:UInt8):mergeB a a=a:=by unfold mergeB; simp
theorem mergeO_self (a:UInt8):mergeO a a=true:=by unfold mergeO; simp
theorem mergeR_self:∀ r:List UInt8,mergeR r r=r
 | []=>rfl
 | a::r=>by
  have h:=mergeR_self r
  unfold mergeR at h ⊢
  rw [List.zipWith_cons_cons,h,mergeB_self]
theorem okR_self:∀ r:List UInt8,okR r r=true
 | []=>rfl
 | a::r=>by
  have h:=okR_self r
  unfold okR at h ⊢
  rw [List.zipWith_cons_cons,List.all_cons,h,mergeO_self]
  rfl
theorem mergeRs_self:∀ R:List (List UInt8),mergeRs R R=R
 | []=>rfl
 | a::r=>by
  have h:=mergeRs_self r
  unfold mergeRs at h ⊢
  rw [List.zipWith_cons_cons,h,mergeR_self]
theorem okRs_self:∀ R:List (List UInt8),okRs R R=true
 | []=>rfl
 | a::r=>by
  have h:=okRs_self r
  unfold okRs at h ⊢
  rw [List.zipWith_cons_cons,List.all_cons,h,okR_self]
  rfl
theorem getD_setC (E:List (List Pt)) {k:Nat} (hk:k<E.length) (r:List Pt) (i:Nat):(E.set k r).getD i []=if i=k then r else E.getD i []:=by
 rw [List.getD_eq_getElem?_getD,List.getD_eq_getElem?_getD,List.getElem?_set]
 by_cases h:k=i
 ·subst h
  rw [if_pos rfl,if_pos hk,if_pos rfl]
  rfl
 ·rw [if_neg h,if_neg (fun e=>h e.symm)]
theorem famP_skip {b id:Nat} {C D:List (List Pt)}:∀ {n:Nat},(∀ i,i<n→¬ b+i=id∨C.getD i []=D.getD i [])→getH (famP b C n) id=getH (famP b D n) id
 | 0,_=>rfl
 | n+1,h=>by
  simp only [famP,getH]
  rw [famP_skip (n:=n) fun i hi=>h i (by omega)]
  rcases h n (by omega) with h1 | h1
  ·have e:(b+n==id)=false:=by rw [beq_eq_false_iff_ne]; exact h1
   rw [e]
   rfl
  ·rw [h1]
theorem famC_set {o fb k:Nat} {E:List (List Pt)} {r:List Pt} (hk:k<E.length) (hne:∀ i,i<E.length→¬ fb+i=o) (hl:r.length=(E.getD k []).length) (id:Nat):getH (famC o fb (E.set k r)) id=getH ((fb+k,arrPl r)::famC o fb E) id:=by
 have hlen:(E.set k r).length=E.length:=List.length_set
 have hco:arrCo fb (E.set k r)=arrCo fb E:=by
  unfold arrCo
  rw [hlen]
  have:(fun i=>((E.set k r).getD i []).length)=fun i=>(E.getD i []).length:=by
   funext i
   rw [getD_setC E hk]
   split
   ·rename_i h; rw [h,hl]
   ·rfl
  rw [this]
 have hok:(o==fb+k)=false:=by rw [beq_eq_false_iff_ne]; exact fun e=>hne k hk e.symm
 unfold famC
 rw [hlen,hco]
 by_cases e:fb+k=id
 ·subst e
  simp only [getH,hok,BEq.rfl,cond_false,cond_true]
  rw [famP_get hk,getD_setC E hk,if_pos rfl]
 ·have e1:(fb+k==id)=false:=by rw [beq_eq_false_iff_ne]; exact e
  simp only [getH,e1,cond_false]
  rw [famP_skip (C:=E.set k r) (D:=E) fun i hi=>?_]
  rw [getD_setC E hk]
  by_cases h:i=k
  ·subst h; exact .inl e
  ·rw [if_neg h]; exact .inr rfl
theorem famC_own {o fb:Nat} {E:List (List Pt)}:getH (famC o fb E) o=arrCo fb E:=by
 simp only [famC,getH,BEq.rfl,cond_true]
theorem famC_row {o fb k:Nat} {E:List (List Pt)} (hk:k<E.length) (hne:∀ i,i<E.length→¬ fb+i=o):getH (famC o fb E) (fb+k)=arrPl (E.getD k []):=by
 have hok:(o==fb+k)=false:=by rw [beq_eq_false_iff_ne]; exact fun e=>hne k hk e.symm
 simp only [famC,getH,hok,cond_false]
 exact famP_get hk
theorem getH_swap2 {q a b:Nat} {x y z:Option ABlk} {H:Heap} (h1:¬ q=a) (h2:¬ q=b) (id:Nat):getH ((q,x)::(a,y)::(b,z)::H) id=getH ((a,y)::(b,z)::(q,x)::H) id:=by
 simp only [getH]
 by_cases e:q=id
 ·subst e
  have e1:(a==q)=false:=by rw [beq_eq_false_iff_ne]; exact fun h=>h1 h.symm
  have e2:(b==q)=false:=by rw [beq_eq_false_iff_ne]; exact fun h=>h2 h.symm
  rw [e1,e2]
  rfl
 ·have e1:(q==id)=false:=by rw [beq_eq_false_iff_ne]; exact e
  rw [e1]
  rfl
set_option maxHeartbeats 4000000 in
theorem spoilF_run (n1 n2 n3 n4:Bool) (W:Waf) (P:List Pt) (C:List (List Pt)) (o fb b0 nid:Nat) (Q:AEx→ST→Prop) (hb0:b0≤nid) (ho:o<nid) (hfb:fb+C.length≤nid) (hne:∀ i,i<C.length→¬ fb+i=o) (hC:C.length≤60000) (hr:∀ i,(C.getD i []).length≤60000) :
  Run Try.prog (navC [1,1,1,1,1,1,1,1,1,1,1,1,1,1,1,0] (a4).body) ⟨[(5,.ptr nid 0),(6,.ptr (nid+4) 0),(7,litPl n3 P),(8,litPl n4 P),(16,.sl o 0 C.length)],[(nid,boxW n1 W),(nid+4,boxW n2 W)]++famC o fb C,nid+1000,b0⟩ (seqK (fun s=>Cov s (⟨[(5,.ptr nid 0),(6,.ptr (nid+4) 0),(7,litPl n3 P),(8,litPl n4 P)],[(nid,boxW n1 W),(nid+4,boxW n2 W)],nid+3000,b0⟩)) Q) .mk:=by
 simp only [a4,navC]
 have o1:∀ K,o<nid+K:=fun K=>by omega
 have o2:∀ K,¬ o=nid+K:=fun K=>by omega
 have o3:∀ K,¬ nid+K=o:=fun K=>by omega
 have o4:∀ K,¬ nid+K≤o:=fun K=>by omega
 have o8:∀ K,(nid+K==o)=false:=fun K=>by rw [beq_eq_false_iff_ne]; omega
 have o9:(nid==o)=false:=by rw [beq_eq_false_iff_ne]; omega
 have o5:¬ o=nid:=by omega
 have o6:¬ nid=o:=by omega
 have o7:¬ nid≤o:=by omega
 have hsc:=fun D (hD:D.length=C.length)=>famC_scoped (o:=o) (b:=fb) (c:=nid) D (by omega) (by omega)
 unfold boxW
 simp -dsimp only [aqA,↓seqK,↓blkK,↓loopK,step,stepBin,eqB,Nat.add_assoc nid,simprocAttr,z0,Int.cast_ofNat_Int,Int.reduceBEq,Int.reduceBNe,Int.reduceLT,Int.reduceLE,Int.reduceAdd,Int.reduceSub,Int.reduceMul,Int.reduceToNat,Int.reduceNeg,Int.reduceTMod,Int.reduceEq,not_false_eq_true,Int.reducePow,Int.reduceFDiv,Nat.reducePow,Nat.reduceSub,Nat.reduceMul,Nat.min_eq_left,Nat.reduceEqDiff,BEq.rfl,Int.tdiv_one,LN_succ]
 refine LP.mkP (fun x:Nat × List (List Pt)=>x.1≤C.length∧x.2.length=C.length∧∀ i,(x.2.getD i []).length=(C.getD i []).length) (fun x:Nat × List (List Pt)=>⟨[(107,.int .i64 x.1),(106,.int .i64 C.length),(105,.sl o 0 C.length),(5,.ptr nid 0),(6,.ptr (nid+4) 0),(7,litPl n3 P),(8,litPl n4 P)],[(nid,boxW n1 W),(nid+4,boxW n2 W)]++famC o fb x.2,nid+1100,b0⟩) (fun x=>C.length+1 - x.1) (0,C) ⟨by simp,rfl,fun _=>rfl⟩ ?_ (fun x hx=>?_)
 ·have hs:=hsc C rfl
  obtain ⟨Hs,hHs⟩:∃ Hs,famC o fb C=Hs:=⟨_,rfl⟩
  simp only [hHs]
  rw [hHs] at hs
  refine Cov.goQ (nid) Hs [] [] (by omega) hs (by repeat (first | exact PreQ.nil | apply PreQ.cons)) (by repeat (first | exact PreQ.nil | apply PreQ.cons)) (by simp [kOK]) (by simp) ?_
  simp [cvT,step,res,boxW,litPl,ColsEq.refl,o1,o2,o3,o4,o5,o6,o7,o8,o9,ho,-List.getD_eq_getElem?_getD]
 obtain ⟨k,D⟩:=x
 obtain ⟨hk,hDl,hDr⟩:=hx
 simp only at hk hDl hDr ⊢
 have hgo:getH (famC o fb D) o=some (.arr 40 C.length [.o (fun i=>fb+i) (fun i=>(D.getD i []).length)]):=by
  rw [famC_own]; unfold arrCo; rw [hDl]
 unfold boxW
 simp -dsimp only [aqA,↓seqK,↓blkK,↓loopK,step,stepBin,eqB,Nat.add_assoc nid,simprocAttr,z0,Int.cast_ofNat_Int,Int.reduceBEq,Int.reduceBNe,Int.reduceLT,Int.reduceLE,Int.reduceAdd,Int.reduceSub,Int.reduceMul,Int.reduceToNat,Int.reduceNeg,Int.reduceTMod,Int.reduceEq,not_false_eq_true,Int.reducePow,Int.reduceFDiv,Nat.reducePow,Nat.reduceSub,Nat.reduceMul,Nat.min_eq_left,Nat.reduceEqDiff,BEq.rfl,Int.tdiv_one,LN_succ,hgo,o8,o9]
 refine S2.dec (fun h3=>?_) (fun h3=>?_) <;> simp -dsimp only [aqA,↓seqK,↓blkK,↓loopK,step,stepBin,eqB,Nat.add_assoc nid,simprocAttr,z0,Int.cast_ofNat_Int,Int.reduceBEq,Int.reduceBNe,Int.reduceLT,Int.reduceLE,Int.reduceAdd,Int.reduceSub,Int.reduceMul,Int.reduceToNat,Int.reduceNeg,Int.reduceTMod,Int.reduceEq,not_false_eq_true,Int.reducePow,Int.reduceFDiv,Nat.reducePow,Nat.reduceSub,Nat.reduceMul,Nat.min_eq_left,Nat.reduceEqDiff,BEq.rfl,Int.tdiv_one,LN_succ,hgo,o8,o9]
 rotate_left
 ·refine Cov.go [] [] ?_
  simp [cvT,step,res,boxW,litPl,ColsEq.refl,-List.getD_eq_getElem?_getD]
  try omega
 have hkC:k<C.length:=by omega
 refine ⟨by omega,?_⟩
 have hrk:=hr k
 have hDk:=hDr k
 obtain ⟨m,hm⟩:∃ m,(C.getD k []).length=m:=⟨_,rfl⟩
 rw [hm] at hDk hrk
 rw [hDk]
 have f1:∀ K,(nid+K==fb+k)=false:=fun K=>by rw [beq_eq_false_iff_ne]; omega
 have f2:(nid==fb+k)=false:=by rw [beq_eq_false_iff_ne]; omega
 refine LP.mkP (fun x:Nat × List (List Pt)=>x.1≤m∧x.2.length=C.length∧∀ i,(x.2.getD i []).length=(C.getD i []).length) (fun x:Nat × List (List Pt)=>⟨[(113,.int .i64 x.1),(112,.int .i64 m),(22,.sl (fb+k) 0 m),(107,.int .i64 k),(106,.int .i64 C.length),(105,.sl o 0 C.length),(5,.ptr nid 0),(6,.ptr (nid+4) 0),(7,litPl n3 P),(8,litPl n4 P)],[(nid,boxW n1 W),(nid+4,boxW n2 W)]++famC o fb x.2,nid+1500,b0⟩) (fun x=>m+1 - x.1) (0,D) ⟨by simp,hDl,hDr⟩ ?_ (fun x hx=>?_)
 ·have hs:=hsc D hDl
  obtain ⟨Hs,hHs⟩:∃ Hs,famC o fb D=Hs:=⟨_,rfl⟩
  simp only [hHs]
  rw [hHs] at hs
  have g1:∀ K,¬ nid+K≤fb+k:=fun K=>by omega
  have g2:∀ K,fb+k<nid+K:=fun K=>by omega
  refine Cov.goQ (nid) Hs [] [] (by omega) hs (by repeat (first | exact PreQ.nil | apply PreQ.cons)) (by repeat (first | exact PreQ.nil | apply PreQ.cons)) (by simp [kOK]) (by simp) ?_
  simp [cvT,step,res,boxW,litPl,ColsEq.refl,o1,o2,o3,o4,o5,o6,o7,o8,o9,f1,f2,g1,g2,ho,-List.getD_eq_getElem?_getD]
 obtain ⟨j,E⟩:=x
 obtain ⟨hj,hEl,hEr⟩:=hx
 simp only at hj hEl hEr ⊢
 have hgk:getH (famC o fb E) (fb+k)=some (.arr 46 m [.i .i64 fun i=>((E.getD k []).getD i p0).1,.i .i64 fun i=>((E.getD k []).getD i p0).2]):=by
  rw [famC_row (by omega) (fun i hi=>hne i (by omega))]
  unfold arrPl
  rw [hEr k,hm]
 have hEk:=hEr k
 rw [hm] at hEk
 unfold boxW
 simp -dsimp only [aqA,↓seqK,↓blkK,↓loopK,step,stepBin,eqB,Nat.add_assoc nid,simprocAttr,z0,Int.cast_ofNat_Int,Int.reduceBEq,Int.reduceBNe,Int.reduceLT,Int.reduceLE,Int.reduceAdd,Int.reduceSub,Int.reduceMul,Int.reduceToNat,Int.reduceNeg,Int.reduceTMod,Int.reduceEq,not_false_eq_true,Int.reducePow,Int.reduceFDiv,Nat.reducePow,Nat.reduceSub,Nat.reduceMul,Nat.min_eq_left,Nat.reduceEqDiff,BEq.rfl,Int.tdiv_one,LN_succ,hgk,f1,f2]
 refine S2.dec (fun h4=>?_) (fun h4=>?_) <;> simp -dsimp only [aqA,↓seqK,↓blkK,↓loopK,step,stepBin,eqB,Nat.add_assoc nid,simprocAttr,z0,Int.cast_ofNat_Int,Int.reduceBEq,Int.reduceBNe,Int.reduceLT,Int.reduceLE,Int.reduceAdd,Int.reduceSub,Int.reduceMul,Int.reduceToNat,Int.reduceNeg,Int.reduceTMod,Int.reduceEq,not_false_eq_true,Int.reducePow,Int.reduceFDiv,Nat.reducePow,Nat.reduceSub,Nat.reduceMul,Nat.min_eq_left,Nat.reduceEqDiff,BEq.rfl,Int.tdiv_one,LN_succ,hgk,f1,f2]
 ·have hjm:j<m:=by omega
  have hset:=famC_set (o:=o) (fb:=fb) (k:=k) (E:=E) (r:=(E.getD k []).set j (777,0)) (by omega) (fun i hi=>hne i (by omega)) (by rw [List.length_set])
  have hrow:arrPl ((E.getD k []).set j (777,0))=some (.arr 46 m [.i .i64 fun i=>if i=j then 777 else ((E.getD k []).getD i p0).1,.i .i64 fun i=>if i=j then 0 else ((E.getD k []).getD i p0).2]):=by
   unfold arrPl
   rw [List.length_set,hEk]
   generalize E.getD k []=r at hEk ⊢
   have e:∀ i,(r.set j (777,0)).getD i p0=if i=j then (777,0) else r.getD i p0:=fun i=>by
    rw [List.getD_eq_getElem?_getD,List.getD_eq_getElem?_getD,List.getElem?_set]
    by_cases h:j=i
    ·subst h
     rw [if_pos rfl,if_pos (by rw [hEk]; exact hjm),if_pos rfl]
     rfl
    ·rw [if_neg h,if_neg (fun e=>h e.symm)]
   have e1:(fun i=>((r.set j (777,0)).getD i p0).1)=fun i=>if i=j then 777 else (r.getD i p0).1:=by funext i; rw [e]; split <;> rfl
   have e2:(fun i=>((r.set j (777,0)).getD i p0).2)=fun i=>if i=j then 0 else (r.getD i p0).2:=by funext i; rw [e]; split <;> rfl
   rw [e1,e2]
  have hEl2:(E.set k ((E.getD k []).set j (777,0))).length=C.length:=by rw [List.length_set]; exact hEl
  have hEr2:∀ i,((E.set k ((E.getD k []).set j (777,0))).getD i []).length=(C.getD i []).length:=fun i=>by
   rw [getD_setC E (by omega)]
   split
   ·rename_i h; subst h; rw [List.length_set]; exact hEr _
   ·exact hEr i
  refine ⟨by omega,by unfold inI64; omega,(j+1,E.set k ((E.getD k []).set j (777,0))),⟨⟨by simp only; omega,hEl2,hEr2⟩,by simp only; omega⟩,?_⟩
  simp only
  rw [← hrow]
  refine Cov.step (Cov.alike (H2:=[(nid,boxW n1 W),(nid+4,boxW n2 W)]++famC o fb (E.set k ((E.getD k []).set j (777,0)))) (fun id=>?_)) ?_
  ·unfold boxW
   rw [getH_swap2 (by omega) (by omega)]
   show getH ((nid,_)::(nid+4,_)::famC o fb (E.set k ((E.getD k []).set j (777,0)))) id=_
   simp only [getH]
   have:=hset id
   simp only [getH] at this
   rw [this]
  have hs:=hsc _ hEl2
  obtain ⟨Hs,hHs⟩:∃ Hs,famC o fb (E.set k ((E.getD k []).set j (777,0)))=Hs:=⟨_,rfl⟩
  rw [hHs] at hs ⊢
  have g1:∀ K,¬ nid+K≤fb+k:=fun K=>by omega
  have g2:∀ K,fb+k<nid+K:=fun K=>by omega
  refine Cov.goQ (nid) Hs [] [] (by omega) hs (by repeat (first | exact PreQ.nil | apply PreQ.cons)) (by repeat (first | exact PreQ.nil | apply PreQ.cons)) (by simp [kOK]) (by simp) ?_
  simp [cvT,step,res,boxW,litPl,ColsEq.refl,o1,o2,o3,o4,o5,o6,o7,o8,o9,f1,f2,g1,g2,ho,-List.getD_eq_getElem?_getD]
 ·have hs:=hsc E hEl
  refine ⟨by unfold inI64; omega,(k+1,E),⟨⟨by simp only; omega,hEl,hEr⟩,by simp only; omega⟩,?_⟩
  obtain ⟨Hs,hHs⟩:∃ Hs,famC o fb E=Hs:=⟨_,rfl⟩
  simp only [hHs]
  rw [hHs] at hs
  refine Cov.goQ (nid) Hs [] [] (by omega) hs (by repeat (first | exact PreQ.nil | apply PreQ.cons)) (by repeat (first | exact PreQ.nil | apply PreQ.cons)) (by simp [kOK]) (by simp) ?_
  simp [cvT,step,res,boxW,litPl,ColsEq.refl,o1,o2,o3,o4,o5,o6,o7,o8,o9,ho,-List.getD_eq_getElem?_getD]
open Go.RowKit
theorem spoilInts_c (s nid:Nat) (L:List Int) (h:s<nid) (hl:L.length≤1000000):ACall Try.prog 32 [.sl s 0 L.length] [(s,arrI L)] nid (.tup []) [(s,arrI (List.replicate L.length 777))]:=by
 obtain ⟨e1,e2,e3,e4,e5,e6,e7,e8,e9⟩:=id_all h
 refine acall_run c32 (by simp [a32]) ?_
 unfold arrI
 simp -dsimp only [a32,aqA,↓seqK,↓blkK,↓loopK,step,stepBin,eqB,Nat.add_assoc nid,simprocAttr,z0,e1,e2,e3,e4,e5,e6,e7,e8,e9]
 refine LP.mkP (fun k:Nat=>k≤L.length) (fun k:Nat=>⟨[(5,.int .i64 k),(4,.int .i64 L.length),(0,.sl s 0 L.length)],[(s,some (.arr 3 L.length [.i .i64 fun i=>if i<k then 777 else L.getD i 0]))],nid+100,nid⟩)
  (fun k=>L.length+1 - k) 0 (by omega) (Cov.go [] [] ?_) (fun k hk=>?_)
 ·simp [cvT,step,res,e1,e2,e3,e4,e5,e6,e7,e8,e9,-List.getD_eq_getElem?_getD]
 simp -dsimp only [aqA,↓seqK,↓blkK,↓loopK,step,stepBin,eqB,Nat.add_assoc nid,simprocAttr,z0,e1,e2,e3,e4,e5,e6,e7,e8,e9]
 refine S2.dec (fun h3=>?_) (fun h3=>?_) <;> simp -dsimp only [aqA,↓seqK,↓blkK,↓loopK,step,stepBin,eqB,Nat.add_assoc nid,simprocAttr,z0,e1,e2,e3,e4,e5,e6,e7,e8,e9]
 ·refine ⟨by omega,by unfold inI64; omega,k+1,⟨by omega,by omega⟩,Cov.go [] [] ?_⟩
  simp [cvT,step,res,e1,e2,e3,e4,e5,e6,e7,e8,e9,-List.getD_eq_getElem?_getD]
  refine ColEq.i fun i hi=>?_
  by_cases hik:i=k
  ·subst hik; rw [if_pos rfl,if_pos (by omega)]
  ·rw [if_neg hik]
   by_cases hc:i<k
   ·rw [if_pos hc,if_pos (by omega)]
   ·rw [if_neg hc,if_neg (by omega)]
 ·refine RetOK.go [] [] (.inr rfl) ?_
  simp [a32,cvT,step,res,e1,e2,e3,e4,e5,e6,e7,e8,e9,-List.getD_eq_getElem?_getD]
  refine ColEq.i fun i hi=>?_
  rw [if_pos (by omega),List.getD_eq_getElem?_getD,List.getElem?_replicate,if_pos hi,Option.getD_some]
def spoiltS:List UInt8:=[115,112,111,105,108,116]
theorem spoilNames_c (s nid:Nat) (L:List (List UInt8)) (h:s<nid) (hl:L.length≤1000000):ACall Try.prog 31 [.sl s 0 L.length] [(s,arrS L)] nid (.tup []) [(s,arrS (List.replicate L.length spoiltS))]:=by
 obtain ⟨e1,e2,e3,e4,e5,e6,e7,e8,e9⟩:=id_all h
 refine acall_run c31 (by simp [a31]) ?_
 unfold arrS
 simp -dsimp only [a31,aqA,↓seqK,↓blkK,↓loopK,step,stepBin,eqB,Nat.add_assoc nid,simprocAttr,z0,e1,e2,e3,e4,e5,e6,e7,e8,e9]
 refine LP.mkP (fun k:Nat=>k≤L.length) (fun k:Nat=>⟨[(5,.int .i64 k),(4,.int .i64 L.length),(0,.sl s 0 L.length)],[(s,some (.arr 9 L.length [.s fun i=>if i<k then spoiltS else L.getD i []]))],nid+100,nid⟩)
  (fun k=>L.length+1 - k) 0 (by omega) (Cov.go [] [] ?_) (fun k hk=>?_)
 ·simp [cvT,step,res,e1,e2,e3,e4,e5,e6,e7,e8,e9,-List.getD_eq_getElem?_getD]
 simp -dsimp only [aqA,↓seqK,↓blkK,↓loopK,step,stepBin,eqB,Nat.add_assoc nid,simprocAttr,z0,e1,e2,e3,e4,e5,e6,e7,e8,e9]
 refine S2.dec (fun h3=>?_) (fun h3=>?_) <;> simp -dsimp only [aqA,↓seqK,↓blkK,↓loopK,step,stepBin,eqB,Nat.add_assoc nid,simprocAttr,z0,e1,e2,e3,e4,e5,e6,e7,e8,e9]
 ·refine ⟨by omega,by unfold inI64; omega,k+1,⟨by omega,by omega⟩,Cov.go [] [] ?_⟩
  simp [cvT,step,res,e1,e2,e3,e4,e5,e6,e7,e8,e9,-List.getD_eq_getElem?_getD]
  refine ColEq.s fun i hi=>?_
  by_cases hik:i=k
  ·subst hik; rw [if_pos rfl,if_pos (by omega)]; rfl
  ·rw [if_neg hik]
   by_cases hc:i<k
   ·rw [if_pos hc,if_pos (by omega)]
   ·rw [if_neg hc,if_neg (by omega)]
 ·refine RetOK.go [] [] (.inr rfl) ?_
  simp [a31,cvT,step,res,e1,e2,e3,e4,e5,e6,e7,e8,e9,-List.getD_eq_getElem?_getD]
  refine ColEq.s fun i hi=>?_
  rw [if_pos (by omega),List.getD_eq_getElem?_getD,List.getElem?_replicate,if_pos hi,Option.getD_some]
open Go.RowKit
def litP (nl:Bool) (l:List Pt):PV:=.lit nl l.length [.i .i64 fun i=>(l.getD i p0).1,.i .i64 fun i=>(l.getD i p0).2]
theorem apart_c (a b:Pt) (nid:Nat) (ha:(-1000≤a.1∧a.1≤1000) ∧ -1000≤a.2∧a.2≤1000) (hb:(-1000≤b.1∧b.1≤1000) ∧ -1000≤b.2∧b.2≤1000) :
  ACall Try.prog 89 [.agg [.int .i64 a.1,.int .i64 a.2],.agg [.int .i64 b.1,.int .i64 b.2]] [] nid (.int .i64 (apartI a b)) []:=by
 refine acall_run c89 (by simp [a89]) ?_
 simp -dsimp only [a89,aqA,↓seqK,↓blkK,↓loopK,step,stepBin,eqB,Nat.add_assoc nid,simprocAttr,z0]
 refine ⟨by unfold inI64; omega,by unfold inI64; omega,by unfold inI64; omega,by unfold inI64; omega,?_⟩
 refine RetOK.go [] [] (.inl rfl) ?_
 simp [cvT,step,res,apartI,a89]
def bPV (c:Nat):Best→PV
 | none=>.lit true 0 []
 | some (l,_)=>.sl c 0 l.length
def bSum:Best→Int
 | none=>0
 | some (_,s)=>s
def bH (c:Nat):Best→Option ABlk
 | none=>none
 | some (l,_)=>arrI l
def rtBox (nl:Bool) (P:List Pt) (a c:Nat) (n:Nat) (sum:Int) (b:Best):Option ABlk:=some (.box 100 [litP nl P,.sl a 0 n,.int .i64 sum,bPV c b,.int .i64 (bSum b)])
set_option maxHeartbeats 4000000 in
theorem walk_c (nl:Bool) (P:List Pt) (hP:PtsOk P):∀ (f:Nat) (now:List Int) (sum:Int) (b:Best) (r a c nid:Nat),r<nid→a<nid→c<nid→r≠a→r≠c→a≠c→now.length+f=P.length+1→0<f→0<now.length →
  (∀ x∈now,0≤x∧x<(P.length:Int))→0≤sum→sum≤2000 * ((now.length:Int) - 1)→BestOk P b →
  ACall Try.prog 70 [.ptr r 0] [(r,rtBox nl P a c now.length sum b),(a,arrI now),(c,bH c b)] nid (.tup [])
   [(r,rtBox nl P nid (nid+1) now.length sum (rtGo P f now sum b)),(a,none),(c,none),(nid,arrI now),(nid+1,bH (nid+1) (rtGo P f now sum b))]
 | 0,_,_,_,_,_,_,_,_,_,_,_,_,_,_,h,_,_,_,_,_=>absurd h (by omega)
 | f+1,now,sum,b,r,a,c,nid,hr,ha,hc,hra,hrc,hac,hlen,_,hn0,hnow,h0,h1,hb=>by
  obtain ⟨e1,e2,e3,e4,e5,e6,e7,e8,e9⟩:=id_all hr
  obtain ⟨a1,a2,a3,a4,a5,a6,a7,a8,a9⟩:=id_all ha
  obtain ⟨b1,b2,b3,b4,b5,b6,b7,b8,b9⟩:=id_all hc
  have d1:(r==a)=false:=by simpa using hra
  have d2:(r==c)=false:=by simpa using hrc
  have d3:(a==c)=false:=by simpa using hac
  have d4:(a==r)=false:=by simpa using fun e=>hra e.symm
  have d5:(c==r)=false:=by simpa using fun e=>hrc e.symm
  have d6:(c==a)=false:=by simpa using fun e=>hac e.symm
  have g1:¬ a=r:=fun e=>hra e.symm
  have g2:¬ c=r:=fun e=>hrc e.symm
  have g3:¬ c=a:=fun e=>hac e.symm
  have hPl:=hP.len
  refine acall_sr c70 (by simp [a70]) ?_
  unfold a70
  -- is there a better one already
  refine SR.seqEx (ι:=PLift (cutB b sum=false)) (fun _=>⟨[(0,.ptr r 0)],[(r,rtBox nl P a c now.length sum b),(a,arrI now),(c,bH c b)],nid+100,nid⟩) ?_ (fun hcut=>?_)
  ·cases b with
   | none =>
    unfold rtBox bPV bH bSum arrI litP
    simp -dsimp only [aqA,↓seqK,↓blkK,↓loopK,step,stepBin,eqB,Nat.add_assoc nid,simprocAttr,z0,e1,e2,e3,e4,e5,e6,e7,e8,e9,a1,a2,a3,a4,a9,b1,b2,b3,b4,b9,d1,d2,d3,d4,d5,d6,g1,g2,g3,hra,hrc,hac,a5,a6,a7,a8,b5,b6,b7,b8]
    refine ⟨⟨rfl⟩,Cov.go [] [] ?_⟩
    simp [cvT,step,res,e1,e2,e3,e4,e5,e6,e7,e8,e9,a1,a2,a3,a4,a9,b1,b2,b3,b4,b9,d1,d2,d3,d4,d5,d6,g1,g2,g3,hra,hrc,hac,a5,a6,a7,a8,b5,b6,b7,b8,litP,arrI,rtBox,bH,bPV,bSum]
   | some lb =>
    obtain ⟨bl,bs⟩:=lb
    obtain ⟨hbl,hb0,hb1⟩:=hb bl bs rfl
    unfold rtBox bPV bH bSum arrI litP
    simp -dsimp only [aqA,↓seqK,↓blkK,↓loopK,step,stepBin,eqB,Nat.add_assoc nid,simprocAttr,z0,e1,e2,e3,e4,e5,e6,e7,e8,e9,a1,a2,a3,a4,a9,b1,b2,b3,b4,b9,d1,d2,d3,d4,d5,d6,g1,g2,g3,hra,hrc,hac,a5,a6,a7,a8,b5,b6,b7,b8]
    refine ⟨by omega,?_⟩
    refine S2.dec (fun h=>?_) (fun h=>?_) <;> simp -dsimp only [aqA,↓seqK,↓blkK,↓loopK,step,stepBin,eqB,Nat.add_assoc nid,simprocAttr,z0,e1,e2,e3,e4,e5,e6,e7,e8,e9,a1,a2,a3,a4,a9,b1,b2,b3,b4,b9,d1,d2,d3,d4,d5,d6,g1,g2,g3,hra,hrc,hac,a5,a6,a7,a8,b5,b6,b7,b8]
    ·rw [rtGo_cut (show cutB (some (bl,bs)) sum=true by simp [cutB,h])]
     refine RetOK.go [(nid,a),(nid+1,c)] [] (.inl rfl) ?_
     simp [cvT,step,res,e1,e2,e3,e4,e5,e6,e7,e8,e9,a1,a2,a3,a4,a9,b1,b2,b3,b4,b9,d1,d2,d3,d4,d5,d6,g1,g2,g3,hra,hrc,hac,a5,a6,a7,a8,b5,b6,b7,b8,a70,litP,arrI,rtBox,bH,bPV,bSum]
    ·refine ⟨⟨by simp [cutB]; omega⟩,Cov.go [] [] ?_⟩
     simp [cvT,step,res,e1,e2,e3,e4,e5,e6,e7,e8,e9,a1,a2,a3,a4,a9,b1,b2,b3,b4,b9,d1,d2,d3,d4,d5,d6,g1,g2,g3,hra,hrc,hac,a5,a6,a7,a8,b5,b6,b7,b8,litP,arrI,rtBox,bH,bPV,bSum]
  have hcut:cutB b sum=false:=hcut.down
  -- are all points in it
  refine SR.seqEx (ι:=PLift (now.length≠P.length)) (fun _=>⟨[(0,.ptr r 0)],[(r,rtBox nl P a c now.length sum b),(a,arrI now),(c,bH c b)],nid+200,nid⟩) ?_ (fun hfull=>?_)
  ·unfold rtBox arrI litP
   simp -dsimp only [aqA,↓seqK,↓blkK,↓loopK,step,stepBin,eqB,Nat.add_assoc nid,simprocAttr,z0,e1,e2,e3,e4,e5,e6,e7,e8,e9,a1,a2,a3,a4,a9,b1,b2,b3,b4,b9,d1,d2,d3,d4,d5,d6,g1,g2,g3,hra,hrc,hac,a5,a6,a7,a8,b5,b6,b7,b8]
   refine S2.intro (fun h=>?_) (fun h=>?_) <;> simp -dsimp only [aqA,↓seqK,↓blkK,↓loopK,step,stepBin,eqB,Nat.add_assoc nid,simprocAttr,z0,e1,e2,e3,e4,e5,e6,e7,e8,e9,a1,a2,a3,a4,a9,b1,b2,b3,b4,b9,d1,d2,d3,d4,d5,d6,g1,g2,g3,hra,hrc,hac,a5,a6,a7,a8,b5,b6,b7,b8]
   ·have hn:now.length=P.length:=by
     have:(now.length:Int)=P.length:=by simpa using h
     omega
    rw [rtGo_full hcut hn]
    refine CallX.lent [a] (fun nl'=>by
     simp only [lends,lend,aqA,↓seqK,↓blkK,↓loopK,step,stepBin,eqB,Nat.add_assoc nid,simprocAttr,z0,e1,e2,e3,e4,e5,e6,e7,e8,e9,a1,a2,a3,a4,a9,b1,b2,b3,b4,b9,d1,d2,d3,d4,d5,d6,g1,g2,g3,hra,hrc,hac,a5,a6,a7,a8,b5,b6,b7,b8]
     exact ACall.nonnil 0 rfl (fun hn=>cloneI_c (nl' a) now (nid+168) (by omega) (fun e=>List.eq_nil_of_length_eq_zero (hn e)))) rfl rfl (by simp [getH,idS1,idS2,e1,e2,e3,e4,e5,e6,e7,e8,e9,a1,a2,a3,a4,a9,b1,b2,b3,b4,b9,d1,d2,d3,d4,d5,d6,g1,g2,g3,hra,hrc,hac,a5,a6,a7,a8,b5,b6,b7,b8]) ?_
    unfold arrI
    simp -dsimp only [aqA,↓seqK,↓blkK,↓loopK,step,stepBin,eqB,Nat.add_assoc nid,simprocAttr,z0,e1,e2,e3,e4,e5,e6,e7,e8,e9,a1,a2,a3,a4,a9,b1,b2,b3,b4,b9,d1,d2,d3,d4,d5,d6,g1,g2,g3,hra,hrc,hac,a5,a6,a7,a8,b5,b6,b7,b8]
    refine RetOK.go [(nid,a),(nid+1,nid+168)] [] (.inl rfl) ?_
    simp [cvT,step,res,e1,e2,e3,e4,e5,e6,e7,e8,e9,a1,a2,a3,a4,a9,b1,b2,b3,b4,b9,d1,d2,d3,d4,d5,d6,g1,g2,g3,hra,hrc,hac,a5,a6,a7,a8,b5,b6,b7,b8,a70,litP,arrI,rtBox,bH,bPV,bSum]
   ·refine ⟨⟨fun e=>by simp [e] at h⟩,Cov.go [] [] ?_⟩
    cases b with
    | none=>simp [cvT,step,res,e1,e2,e3,e4,e5,e6,e7,e8,e9,a1,a2,a3,a4,a9,b1,b2,b3,b4,b9,d1,d2,d3,d4,d5,d6,g1,g2,g3,hra,hrc,hac,a5,a6,a7,a8,b5,b6,b7,b8,litP,arrI,rtBox,bH,bPV,bSum]
    | some lb=>simp [cvT,step,res,e1,e2,e3,e4,e5,e6,e7,e8,e9,a1,a2,a3,a4,a9,b1,b2,b3,b4,b9,d1,d2,d3,d4,d5,d6,g1,g2,g3,hra,hrc,hac,a5,a6,a7,a8,b5,b6,b7,b8,litP,arrI,rtBox,bH,bPV,bSum]
  have hfull:now.length≠P.length:=hfull.down
  rw [rtGo_more hcut hfull]
  have hlast:(now.getD (now.length - 1) 0)∈now:=by
   rw [List.getD_eq_getElem?_getD,List.getElem?_eq_getElem (show now.length - 1<now.length by omega)]
   exact List.getElem_mem _
  have hlb:=hnow _ hlast
  obtain ⟨L,hL⟩:∃ L,now.getD (now.length - 1) 0=(L:Nat):=⟨_,(Int.toNat_of_nonneg hlb.1).symm⟩
  have hLp:lastP P now=P.getD L p0:=by unfold lastP; rw [hL,Int.toNat_natCast]
  have hn1:((now.length:Int) - 1).toNat=now.length - 1:=by omega
  refine SR.seq ?_
  unfold rtBox arrI litP
  simp -dsimp only [aqA,↓seqK,↓blkK,↓loopK,step,stepBin,eqB,Nat.add_assoc nid,simprocAttr,z0,e1,e2,e3,e4,e5,e6,e7,e8,e9,a1,a2,a3,a4,a9,b1,b2,b3,b4,b9,d1,d2,d3,d4,d5,d6,g1,g2,g3,hra,hrc,hac,a5,a6,a7,a8,b5,b6,b7,b8]
  rw [hn1,hL]
  refine ⟨by unfold inI64; omega,by omega,?_⟩
  refine SR.run (t:=.mk) ?_
  simp -dsimp only [aqA,↓seqK,↓blkK,↓loopK,step,stepBin,eqB,Nat.add_assoc nid,simprocAttr,z0,e1,e2,e3,e4,e5,e6,e7,e8,e9,a1,a2,a3,a4,a9,b1,b2,b3,b4,b9,d1,d2,d3,d4,d5,d6,g1,g2,g3,hra,hrc,hac,a5,a6,a7,a8,b5,b6,b7,b8]
  refine LP.mkP (fun k:Nat=>k≤P.length) (fun k:Nat=>⟨[(65,.int .i64 k),(64,.int .i64 P.length),(63,litP nl P),(0,.ptr r 0),(2,.int .i64 L)],
   [(r,rtBox nl P (nid+4) (nid+5) now.length sum (rtTo P f now sum b k)),(nid+4,arrI now),(nid+5,bH (nid+5) (rtTo P f now sum b k))],nid+1000,nid⟩) (fun k=>P.length+1 - k) 0 (by omega) (Cov.go [(nid+4,a),(nid+5,c)] [] ?_) (fun k hk=>?_)
  ·have e0:rtTo P f now sum b 0=b:=rfl
   rw [e0]
   cases b with
   | none=>simp [cvT,step,res,e1,e2,e3,e4,e5,e6,e7,e8,e9,a1,a2,a3,a4,a9,b1,b2,b3,b4,b9,d1,d2,d3,d4,d5,d6,g1,g2,g3,hra,hrc,hac,a5,a6,a7,a8,b5,b6,b7,b8,litP,arrI,rtBox,bH,bPV,bSum]
   | some lb=>simp [cvT,step,res,e1,e2,e3,e4,e5,e6,e7,e8,e9,a1,a2,a3,a4,a9,b1,b2,b3,b4,b9,d1,d2,d3,d4,d5,d6,g1,g2,g3,hra,hrc,hac,a5,a6,a7,a8,b5,b6,b7,b8,litP,arrI,rtBox,bH,bPV,bSum]
  have hst:=rtTo_succ P f now sum b k
  have hbk:=rtTo_ok hP (f:=f) (now:=now) h0 (by omega) hb k
  have hbk1:=rtTo_ok hP (f:=f) (now:=now) h0 (by omega) hb (k+1)
  unfold rtBox arrI litP
  generalize hB:rtTo P f now sum b k=B at *
  simp -dsimp only [aqA,↓seqK,↓blkK,↓loopK,step,stepBin,eqB,Nat.add_assoc nid,simprocAttr,z0,e1,e2,e3,e4,e5,e6,e7,e8,e9]
  refine S2.dec (fun h3=>?_) (fun h3=>?_) <;> simp -dsimp only [aqA,↓seqK,↓blkK,↓loopK,step,stepBin,eqB,Nat.add_assoc nid,simprocAttr,z0,e1,e2,e3,e4,e5,e6,e7,e8,e9]
  ·refine ⟨by omega,?_⟩
   refine CallO.lent [nid+4] (fun nl'=>by
    simp only [lends,lend,aqA,↓seqK,↓blkK,↓loopK,step,stepBin,eqB,Nat.add_assoc nid,simprocAttr,z0,e1,e2,e3,e4,e5,e6,e7,e8,e9]
    exact contains_c (nl' _) now (k:Int) (nid+1048) (by omega)) rfl rfl (by simp [getH]) ?_
   have hkP:k<P.length:=by omega
   have hap:=apartI_bd (hP.get L) (hP.get k)
   cases hcon:now.contains (k:Int) <;> simp -dsimp only [aqA,↓seqK,↓blkK,↓loopK,step,stepBin,eqB,Nat.add_assoc nid,simprocAttr,z0,e1,e2,e3,e4,e5,e6,e7,e8,e9]
   ·rw [hcon,if_neg (by simp)] at hst
    rw [hLp] at hst
    refine ⟨by omega,CallX.pure (apart_c (P.getD L p0) (P.getD k p0) _ (hP.get L) (hP.get k)) ?_⟩
    generalize hd:apartI (P.getD L p0) (P.getD k p0)=d at *
    simp -dsimp only [aqA,↓seqK,↓blkK,↓loopK,step,stepBin,eqB,Nat.add_assoc nid,simprocAttr,z0,e1,e2,e3,e4,e5,e6,e7,e8,e9]
    have hf:0<f:=by omega
    have hl1:(now++[(k:Int)]).length=now.length+1:=by simp
    have hcol:(fun i=>if i<now.length then now.getD i 0 else [(k:Int)].getD (i - now.length) 0)=fun i=>(now++[(k:Int)]).getD i 0:=by
     funext i
     simp only [List.getD_eq_getElem?_getD,List.getElem?_append]
     split <;> rfl
    rw [hcol]
    have hih:=fun nid' (h:nid+1124<nid')=>walk_c nl P hP f (now++[(k:Int)]) (sum+d) B r (nid+1124) (nid+5) nid' (by omega) (by omega) (by omega) (by omega) (by omega) (by omega) (by omega) hf (by omega)
     (fun x hx=>by
      rcases List.mem_append.1 hx with hx | hx
      ·exact hnow x hx
      ·rw [List.mem_singleton] at hx; omega) (by omega) (by rw [hl1]; push_cast; omega) hbk
    unfold rtBox arrI litP at hih
    simp only [hl1] at hih
    rw [← hst] at hih
    generalize hB1:rtTo P f now sum b (k+1)=B1 at *
    refine ⟨⟨by omega,by omega⟩,by unfold inI64; omega,CallO.on (hih _ (by omega)) (subH_cons (by simp only [aqA,↓seqK,↓blkK,↓loopK,step,stepBin,eqB,Nat.add_assoc nid,simprocAttr,z0,e1,e2,e3,e4,e5,e6,e7,e8,e9]) (subH_cons (by simp only [aqA,↓seqK,↓blkK,↓loopK,step,stepBin,eqB,Nat.add_assoc nid,simprocAttr,z0,e1,e2,e3,e4,e5,e6,e7,e8,e9]) (subH_get (by simp only [aqA,↓seqK,↓blkK,↓loopK,step,stepBin,eqB,Nat.add_assoc nid,simprocAttr,z0,e1,e2,e3,e4,e5,e6,e7,e8,e9])))) ?_⟩
    simp -dsimp only [aqA,↓seqK,↓blkK,↓loopK,step,stepBin,eqB,Nat.add_assoc nid,simprocAttr,z0,e1,e2,e3,e4,e5,e6,e7,e8,e9]
    have q1:(((now.length+1:Nat):Int) - 1).toNat=now.length:=by omega
    rw [q1]
    refine ⟨by unfold inI64; omega,⟨by omega,by omega⟩,by unfold inI64; omega,by unfold inI64; omega,k+1,⟨by omega,by omega⟩,?_⟩
    refine Cov.trans (b:=⟨[(65,.int .i64 (k+1:Nat)),(64,.int .i64 P.length),(63,litP nl P),(0,.ptr r 0),(2,.int .i64 L)],
     [(r,rtBox nl P (nid+4) (nid+5) now.length sum B1),(nid+4,some (.arr 3 (now.length+1) [.i .i64 fun i=>(now++[(k:Int)]).getD i 0])),(nid+5,bH (nid+5) B1)],nid+2000,nid⟩) (Cov.go [(nid+4,nid+1180),(nid+5,nid+1181)] [] ?_)
     (Cov.trans (Cov.shrink (id:=nid+4) (T:=3) (k:=now.length+1) (q:=now.length) (cols:=[.i .i64 fun i=>(now++[(k:Int)]).getD i 0]) ?_ (by omega) (by omega) ?_ ?_) (Cov.go [] [] ?_))
    ·cases B1 with
     | none=>simp [cvT,step,res,e1,e2,e3,e4,e5,e6,e7,e8,e9,litP,arrI,rtBox,bH,bPV,bSum]
     | some lb=>simp [cvT,step,res,e1,e2,e3,e4,e5,e6,e7,e8,e9,litP,arrI,rtBox,bH,bPV,bSum]
    ·simp only [aqA,↓seqK,↓blkK,↓loopK,step,stepBin,eqB,Nat.add_assoc nid,simprocAttr,z0,e1,e2,e3,e4,e5,e6,e7,e8,e9]
    ·simp [fitS,fitP,litP]
    ·cases B1 with
     | none=>simp [noOs,fitH,fitPs,fitP,litP,rtBox,bH,bPV,bSum]
     | some lb=>simp [noOs,fitH,fitPs,fitP,litP,rtBox,bH,bPV,bSum,arrI]
    ·rw [hB1]
     have hce:ColEq now.length (.i .i64 fun i=>(now++[(k:Int)]).getD i 0) (.i .i64 fun i=>now.getD i 0):=ColEq.i fun i hi=>by
      simp only [List.getD_eq_getElem?_getD,List.getElem?_append_left hi]
     cases B1 with
     | none=>simp [cvT,step,res,e1,e2,e3,e4,e5,e6,e7,e8,e9,litP,arrI,rtBox,bH,bPV,bSum,-List.getD_eq_getElem?_getD,hce]
     | some lb=>simp [cvT,step,res,e1,e2,e3,e4,e5,e6,e7,e8,e9,litP,arrI,rtBox,bH,bPV,bSum,-List.getD_eq_getElem?_getD,hce]
   ·rw [hcon,if_pos rfl] at hst
    refine ⟨by unfold inI64; omega,k+1,⟨by omega,by omega⟩,Cov.go [] [] ?_⟩
    rw [hst]
    cases B with
    | none=>simp [cvT,step,res,e1,e2,e3,e4,e5,e6,e7,e8,e9,litP,arrI,rtBox,bH,bPV,bSum]
    | some lb=>simp [cvT,step,res,e1,e2,e3,e4,e5,e6,e7,e8,e9,litP,arrI,rtBox,bH,bPV,bSum]
  ·have hkn:k=P.length:=by omega
   subst hkn
   rw [hB]
   refine RetOK.go [(nid,nid+4),(nid+1,nid+5)] [] (.inr rfl) ?_
   cases B with
   | none=>simp [cvT,step,res,e1,e2,e3,e4,e5,e6,e7,e8,e9,a1,a2,a3,a4,a9,b1,b2,b3,b4,b9,d1,d2,d3,d4,d5,d6,g1,g2,g3,hra,hrc,hac,a5,a6,a7,a8,b5,b6,b7,b8,a70,litP,arrI,rtBox,bH,bPV,bSum]
   | some lb=>simp [cvT,step,res,e1,e2,e3,e4,e5,e6,e7,e8,e9,a1,a2,a3,a4,a9,b1,b2,b3,b4,b9,d1,d2,d3,d4,d5,d6,g1,g2,g3,hra,hrc,hac,a5,a6,a7,a8,b5,b6,b7,b8,a70,litP,arrI,rtBox,bH,bPV,bSum]
open Go.RowKit
def bestL (b:Best):List Int:=match b with
 | some (l,_)=>l
 | none=>[]
def routeL (P:List Pt):List Int:=if routeFault P=0 then bestL (routeV P) else []
def routeS (P:List Pt):Int:=if routeFault P=0 then bSum (routeV P) else 0
theorem badGet {α:Type} (d:α) {f:α→Int} {l:List α} {k:Nat} (h:k<l.length) (h1:firstBad f (l.take k)=0):(f (l.getD k d)=0→firstBad f (l.take (k+1))=0)∧(f (l.getD k d)≠0→firstBad f l=f (l.getD k d)):=by
 have hx:l[k]?=some (l.getD k d):=by rw [List.getD_eq_getElem?_getD,List.getElem?_eq_getElem h]; rfl
 exact ⟨fun h2=>firstBad_step hx h1 h2,fun h2=>firstBad_hit hx h1 h2⟩
set_option maxHeartbeats 4000000 in
theorem route_c (nl:Bool) (P:List Pt) (nid:Nat) (hl:P.length≤1000000000):ACall Try.prog 29 [litP nl P] [] nid (.tup [.sl nid 0 (routeL P).length,.int .i64 (routeS P),.int .i64 (routeFault P)]) [(nid,arrI (routeL P))]:=by
 have bad:routeFault P≠0→routeL P=[]∧routeS P=0:=fun h=>by unfold routeL routeS; rw [if_neg h,if_neg h]; exact ⟨rfl,rfl⟩
 refine acall_run c29 (by simp [a29]) ?_
 unfold litP
 simp -dsimp only [aqA,↓seqK,↓blkK,↓loopK,step,stepBin,eqB,Nat.add_assoc nid,simprocAttr,z0,a29]
 refine S2.intro (fun h=>?_) (fun h=>?_) <;> simp -dsimp only [aqA,↓seqK,↓blkK,↓loopK,step,stepBin,eqB,Nat.add_assoc nid,simprocAttr,z0]
 ·have h0:P.length=0:=by
   have:(P.length:Int)=0:=by simpa using h
   omega
  have hf:routeFault P=8:=by unfold routeFault; rw [if_pos h0]
  obtain ⟨b1,b2⟩:=bad (by omega)
  rw [b1,b2,hf]
  refine RetOK.go [] [(nid,1)] (.inl rfl) ?_
  simp [cvT,step,res,a29,arrI]
 have h0:P.length≠0:=by
  intro e
  rw [e] at h
  simp at h
 refine S2.dec (fun h2=>?_) (fun h2=>?_) <;> simp -dsimp only [aqA,↓seqK,↓blkK,↓loopK,step,stepBin,eqB,Nat.add_assoc nid,simprocAttr,z0]
 ·have hf:routeFault P=2:=by unfold routeFault; rw [if_neg h0,if_pos (by omega)]
  obtain ⟨b1,b2⟩:=bad (by omega)
  rw [b1,b2,hf]
  refine RetOK.go [] [(nid,1)] (.inl rfl) ?_
  simp [cvT,step,res,a29,arrI]
 have hfb:routeFault P=firstBad ptBad P:=by unfold routeFault; rw [if_neg h0,if_neg (by omega)]
 refine LP.mkP (fun k:Nat=>k≤P.length∧firstBad ptBad (P.take k)=0) (fun k:Nat=>⟨[(18,.int .i64 k),(17,.int .i64 P.length),(16,litP nl P),(0,litP nl P)],[],nid+1000,nid⟩) (fun k=>P.length+1 - k) 0 ?_ (Cov.go [] [] ?_) (fun k hk=>?_)
 ·exact ⟨by omega,rfl⟩
 ·simp [cvT,step,res,litP]
 obtain ⟨hk,hb⟩:=hk
 unfold litP
 simp -dsimp only [aqA,↓seqK,↓blkK,↓loopK,step,stepBin,eqB,Nat.add_assoc nid,simprocAttr,z0]
 refine S2.dec (fun h3=>?_) (fun h3=>?_) <;> simp -dsimp only [aqA,↓seqK,↓blkK,↓loopK,step,stepBin,eqB,Nat.add_assoc nid,simprocAttr,z0]
 ·have hkl:k<P.length:=by omega
  obtain ⟨g1,g2⟩:=badGet p0 hkl hb
  refine ⟨by omega,?_⟩
  refine CallO.pure (out_c _ _ _ _) ?_
  simp -dsimp only [aqA,↓seqK,↓blkK,↓loopK,step,stepBin,eqB,Nat.add_assoc nid,simprocAttr,z0]
  cases ho:outB (P.getD k p0).1 (-1000) 1000 <;> simp -dsimp only [aqA,↓seqK,↓blkK,↓loopK,step,stepBin,eqB,Nat.add_assoc nid,simprocAttr,z0]
  ·refine CallO.pure (out_c _ _ _ _) ?_
   simp -dsimp only [aqA,↓seqK,↓blkK,↓loopK,step,stepBin,eqB,Nat.add_assoc nid,simprocAttr,z0]
   cases ho2:outB (P.getD k p0).2 (-1000) 1000 <;> simp -dsimp only [aqA,↓seqK,↓blkK,↓loopK,step,stepBin,eqB,Nat.add_assoc nid,simprocAttr,z0]
   ·refine ⟨by unfold inI64; omega,k+1,⟨⟨by omega,g1 (by unfold ptBad; rw [ho,ho2]; rfl)⟩,by omega⟩,Cov.go [] [] ?_⟩
    simp [cvT,step,res,litP]
   ·have hbad:ptBad (P.getD k p0)=1:=by unfold ptBad; rw [ho,ho2]; rfl
    have hf:routeFault P=1:=by rw [hfb,g2 (by omega),hbad]
    obtain ⟨b1,b2⟩:=bad (by omega)
    rw [b1,b2,hf]
    refine RetOK.go [] [(nid,1)] (.inl rfl) ?_
    simp [cvT,step,res,a29,arrI]
  ·have hbad:ptBad (P.getD k p0)=1:=by unfold ptBad; rw [ho]; rfl
   have hf:routeFault P=1:=by rw [hfb,g2 (by omega),hbad]
   obtain ⟨b1,b2⟩:=bad (by omega)
   rw [b1,b2,hf]
   refine RetOK.go [] [(nid,1)] (.inl rfl) ?_
   simp [cvT,step,res,a29,arrI]
 have hkn:k=P.length:=by omega
 subst hkn
 rw [List.take_length] at hb
 have hf:routeFault P=0:=by rw [hfb,hb]
 obtain ⟨hne,hP⟩:=routeFault_ok hf
 obtain ⟨bl,bs,hbv⟩:=routeV_some hne
 have e1:routeL P=bl:=by unfold routeL bestL; rw [if_pos hf,hbv]
 have e2:routeS P=bs:=by unfold routeS bSum; rw [if_pos hf,hbv]
 rw [e1,e2,hf]
 have hw:=walk_c nl P hP P.length [0] 0 none (nid+1016) (nid+1008) (nid+1) (nid+1028) (by omega) (by omega) (by omega) (by omega) (by omega) (by omega) (by simp; omega) (by omega) (by simp) (fun x hx=>by
  rw [List.mem_singleton] at hx; omega) (by omega) (by simp) (fun l s e=>by cases e)
 have hbv':rtGo P P.length [0] 0 none=some (bl,bs):=hbv
 rw [hbv'] at hw
 unfold rtBox arrI litP bPV bH bSum at hw
 simp only [arrI] at hw
 refine CallO.on hw (subH_cons (by simp only [aqA,↓seqK,↓blkK,↓loopK,step,stepBin,eqB,Nat.add_assoc nid,simprocAttr,z0]) (subH_cons (by simp only [aqA,↓seqK,↓blkK,↓loopK,step,stepBin,eqB,Nat.add_assoc nid,simprocAttr,z0]) (subH_cons (by simp only [aqA,↓seqK,↓blkK,↓loopK,step,stepBin,eqB,Nat.add_assoc nid,simprocAttr,z0]) (subH_nil _)))) ?_
 simp -dsimp only [aqA,↓seqK,↓blkK,↓loopK,step,stepBin,eqB,Nat.add_assoc nid,simprocAttr,z0]
 refine RetOK.go [(nid,nid+1029)] [] (.inl rfl) ?_
 simp [cvT,step,res,a29,arrI]
open Go.RowKit
theorem routeFault_c (nl:Bool) (P:List Pt) (nid:Nat) (hl:P.length≤1000000000):ACall Try.prog 30 [litP nl P] [] nid (.int .i64 (routeFault P)) []:=by
 refine acall_run c30 (by simp [a30]) ?_
 unfold litP
 simp -dsimp only [aqA,↓seqK,↓blkK,↓loopK,step,stepBin,eqB,Nat.add_assoc nid,simprocAttr,z0,a30]
 refine S2.intro (fun h=>?_) (fun h=>?_) <;> simp -dsimp only [aqA,↓seqK,↓blkK,↓loopK,step,stepBin,eqB,Nat.add_assoc nid,simprocAttr,z0]
 ·have h0:P.length=0:=by
   have:(P.length:Int)=0:=by simpa using h
   omega
  have hf:routeFault P=8:=by unfold routeFault; rw [if_pos h0]
  rw [hf]
  refine RetOK.pure (.inl rfl) rfl ?_
  simp [cvT,step,res]
 have h0:P.length≠0:=by
  intro e
  rw [e] at h
  simp at h
 refine S2.dec (fun h2=>?_) (fun h2=>?_) <;> simp -dsimp only [aqA,↓seqK,↓blkK,↓loopK,step,stepBin,eqB,Nat.add_assoc nid,simprocAttr,z0]
 ·have hf:routeFault P=2:=by unfold routeFault; rw [if_neg h0,if_pos (by omega)]
  rw [hf]
  refine RetOK.pure (.inl rfl) rfl ?_
  simp [cvT,step,res]
 have hfb:routeFault P=firstBad ptBad P:=by unfold routeFault; rw [if_neg h0,if_neg (by omega)]
 refine LP.mkP (fun k:Nat=>k≤P.length∧firstBad ptBad (P.take k)=0) (fun k:Nat=>⟨[(15,.int .i64 k),(14,.int .i64 P.length),(13,litP nl P)],[],nid+1000,nid⟩) (fun k=>P.length+1 - k) 0 ?_ (Cov.go [] [] ?_) (fun k hk=>?_)
 ·exact ⟨by omega,rfl⟩
 ·simp [cvT,step,res,litP]
 obtain ⟨hk,hb⟩:=hk
 unfold litP
 simp -dsimp only [aqA,↓seqK,↓blkK,↓loopK,step,stepBin,eqB,Nat.add_assoc nid,simprocAttr,z0]
 refine S2.dec (fun h3=>?_) (fun h3=>?_) <;> simp -dsimp only [aqA,↓seqK,↓blkK,↓loopK,step,stepBin,eqB,Nat.add_assoc nid,simprocAttr,z0]
 ·have hkl:k<P.length:=by omega
  obtain ⟨g1,g2⟩:=badGet p0 hkl hb
  refine ⟨by omega,?_⟩
  refine CallO.pure (in_c _ _ _ _) ?_
  cases ho:outB (P.getD k p0).1 (-1000) 1000 <;> simp -dsimp only [aqA,↓seqK,↓blkK,↓loopK,step,stepBin,eqB,Nat.add_assoc nid,simprocAttr,z0]
  ·refine CallO.pure (in_c _ _ _ _) ?_
   cases ho2:outB (P.getD k p0).2 (-1000) 1000 <;> simp -dsimp only [aqA,↓seqK,↓blkK,↓loopK,step,stepBin,eqB,Nat.add_assoc nid,simprocAttr,z0]
   ·refine ⟨by unfold inI64; omega,k+1,⟨⟨by omega,g1 (by unfold ptBad; rw [ho,ho2]; rfl)⟩,by omega⟩,Cov.go [] [] ?_⟩
    simp [cvT,step,res,litP]
   ·have hbad:ptBad (P.getD k p0)=1:=by unfold ptBad; rw [ho,ho2]; rfl
    have hf:routeFault P=1:=by rw [hfb,g2 (by omega),hbad]
    rw [hf]
    refine RetOK.pure (.inl rfl) rfl ?_
    simp [cvT,step,res]
  ·have hbad:ptBad (P.getD k p0)=1:=by unfold ptBad; rw [ho]; rfl
   have hf:routeFault P=1:=by rw [hfb,g2 (by omega),hbad]
   rw [hf]
   refine RetOK.pure (.inl rfl) rfl ?_
   simp [cvT,step,res]
 have hkn:k=P.length:=by omega
 subst hkn
 rw [List.take_length] at hb
 have hf:routeFault P=0:=by rw [hfb,hb]
 rw [hf]
 refine RetOK.pure (.inl rfl) rfl ?_
 simp [cvT,step,res]
def arrP (l:List Pt):Option ABlk:=some (.arr 46 l.length [.i .i64 fun i=>(l.getD i p0).1,.i .i64 fun i=>(l.getD i p0).2])
theorem cappP (f:Pt→Int) (h0:f p0=0) (l:List Pt) (x:Pt) {k:Nat} (hk:l.length=k) {v:Int} (hv:v=f x):∀ i,i<k+1→(if i<k then f (l.getD i p0) else [v].getD (i - k) 0)=f ((l++[x]).getD i p0):=fun i hi=>by
 subst hk
 subst hv
 simp only [List.getD_eq_getElem?_getD,List.getElem?_append]
 split
 ·rfl
 ·rw [show i - l.length=0 by omega]
  rfl
theorem csetP (p:Pt→Int) (O:List Pt) {I:Nat} (hI:I<O.length) (x:Pt) {v:Int} (hv:v=p x) {M:Nat}:∀ j,j<M→(if j=I then v else p (O.getD j p0))=p ((O.set I x).getD j p0):=fun j _=>by
 simp only [List.getD_eq_getElem?_getD,List.getElem?_set]
 by_cases h:j=I
 ·subst h; simp [hI,hv]
 ·rw [if_neg h,if_neg (fun e=>h e.symm)]
theorem ckeepP (p:Pt→Int) (O:List Pt) {I:Nat} (hI:I<O.length) (x:Pt) (hv:p (O.getD I p0)=p x) {M:Nat}:∀ j,j<M→p (O.getD j p0)=p ((O.set I x).getD j p0):=fun j hj=>by
 rw [← csetP p O hI x hv j hj]
 split
 ·rename_i h; rw [h]
 ·rfl
set_option maxHeartbeats 4000000 in
theorem pointList_c (s nid:Nat) (nl:Bool) (A:List Int) (p:Nat) (h:s<nid) (hp:p≤1099511600000) (hA:A.length≤17592186044416) :
  ACall Try.prog 25 [.ptr s 0] [(s,strmC nl A p)] nid (.sl nid 0 (pointListV A p).1.length) [(s,strmC nl A (pointListV A p).2),(nid,arrP (pointListV A p).1)]:=by
 obtain ⟨e1,e2,e3,e4,e5,e6,e7,e8,e9⟩:=id_all h
 refine acall_run c25 (by simp [a25]) ?_
 unfold strmC
 simp -dsimp only [a25,aqA,↓seqK,↓blkK,↓loopK,step,stepBin,eqB,Nat.add_assoc nid,simprocAttr,z0,e1,e2,e3,e4,e5,e6,e7,e8,e9]
 obtain ⟨hm1,hm6,hmp⟩:=ptsN_bd A p
 refine CallO.pick_go (T:=3) (nl:=nl) (A:=A) (p:=p) (g:=fun i=>[1,2,3,4,5,6].getD i 0) (by simp only [aqA,↓seqK,↓blkK,↓loopK,step,stepBin,eqB,Nat.add_assoc nid,simprocAttr,z0,e1,e2,e3,e4,e5,e6,e7,e8,e9,strmC]) (by simp only [aqA,↓seqK,↓blkK,↓loopK,step,stepBin,eqB,Nat.add_assoc nid,simprocAttr,z0,e1,e2,e3,e4,e5,e6,e7,e8,e9]) (by simp only [aqA,↓seqK,↓blkK,↓loopK,step,stepBin,eqB,Nat.add_assoc nid,simprocAttr,z0,e1,e2,e3,e4,e5,e6,e7,e8,e9]) (by omega) (by omega) hA (by omega) (by omega) ?_
 have hpk:[1,2,3,4,5,6].getD (pickI A p 6) 0=(ptsN A p:Int):=hmp
 unfold strmC
 simp -dsimp only [aqA,↓seqK,↓blkK,↓loopK,step,stepBin,eqB,Nat.add_assoc nid,simprocAttr,z0,e1,e2,e3,e4,e5,e6,e7,e8,e9]
 rw [hpk]
 refine LP.mkP (fun k:Nat=>k≤ptsN A p) (fun k:Nat=>⟨[(7,.int .i64 k),(6,.int .i64 (ptsN A p:Nat)),(3,.sl (nid+4) 0 k),(0,.ptr s 0),(2,.lit true 0 [])],
  [(s,strmC nl A (p+1+2 * k)),(nid+4,some (.arr 46 k [.i .i64 fun i=>((pts0 A (p+1) k).getD i p0).1,.i .i64 fun i=>((pts0 A (p+1) k).getD i p0).2]))],nid+200,nid⟩)
  (fun k=>9 - k) 0 (by omega) (Cov.go [] [(nid+4,2)] ?_) (fun k hk=>?_)
 ·simp [cvT,step,res,e1,e2,e3,e4,e5,e6,e7,e8,e9,strmC,pts0]
 have hol:=pts0_len A (p+1) k
 have hst:=pts0_succ A (p+1) k
 unfold strmC
 simp -dsimp only [aqA,↓seqK,↓blkK,↓loopK,step,stepBin,eqB,Nat.add_assoc nid,simprocAttr,z0,e1,e2,e3,e4,e5,e6,e7,e8,e9]
 refine S2.dec (fun h1=>?_) (fun h1=>?_) <;> simp -dsimp only [aqA,↓seqK,↓blkK,↓loopK,step,stepBin,eqB,Nat.add_assoc nid,simprocAttr,z0,e1,e2,e3,e4,e5,e6,e7,e8,e9]
 ·generalize pts0 A (p+1) k=O at *
  refine CallO.on (range_c s _ nl A (p+1+2 * k) (-3) 9 (by omega) (by omega) hA (by omega) (by omega) (by omega)) (subH_get (by simp only [aqA,↓seqK,↓blkK,↓loopK,step,stepBin,eqB,Nat.add_assoc nid,simprocAttr,z0,e1,e2,e3,e4,e5,e6,e7,e8,e9,strmC])) ?_
  unfold strmC
  simp -dsimp only [aqA,↓seqK,↓blkK,↓loopK,step,stepBin,eqB,Nat.add_assoc nid,simprocAttr,z0,e1,e2,e3,e4,e5,e6,e7,e8,e9]
  refine CallO.pick_go (T:=3) (nl:=nl) (A:=A) (p:=p+1+2 * k+1) (g:=fun i=>[0,0,1,5,-7].getD i 0) (by simp only [aqA,↓seqK,↓blkK,↓loopK,step,stepBin,eqB,Nat.add_assoc nid,simprocAttr,z0,e1,e2,e3,e4,e5,e6,e7,e8,e9,strmC]) (by simp only [aqA,↓seqK,↓blkK,↓loopK,step,stepBin,eqB,Nat.add_assoc nid,simprocAttr,z0,e1,e2,e3,e4,e5,e6,e7,e8,e9]) (by simp only [aqA,↓seqK,↓blkK,↓loopK,step,stepBin,eqB,Nat.add_assoc nid,simprocAttr,z0,e1,e2,e3,e4,e5,e6,e7,e8,e9]) (by omega) (by omega) hA (by omega) (by omega) ?_
  unfold strmC
  simp -dsimp only [aqA,↓seqK,↓blkK,↓loopK,step,stepBin,eqB,Nat.add_assoc nid,simprocAttr,z0,e1,e2,e3,e4,e5,e6,e7,e8,e9]
  refine ⟨⟨by omega,by omega⟩,by unfold inI64; omega,k+1,⟨by omega,by omega⟩,Cov.go [(nid+4,nid+236)] [] ?_⟩
  rw [hst]
  simp [cvT,step,res,e1,e2,e3,e4,e5,e6,e7,e8,e9,strmC,-List.getD_eq_getElem?_getD]
  exact ⟨by omega,ColEq.i (cappP (fun x:Pt=>x.1) rfl O (ptAt A (p+1+2 * k)) hol rfl),ColEq.i (cappP (fun x:Pt=>x.2) rfl O (ptAt A (p+1+2 * k)) hol rfl)⟩
 have hkM:k=ptsN A p:=by omega
 subst hkM
 generalize hq:p+1+2 * ptsN A p=q at *
 have hps:pts0 A (p+1) (ptsN A p)=pts0 A (p+1) (ptsN A p):=rfl
 have hpv:pointListV A p=if flipV A (pts1 A q (ptsN A p) (pts0 A (p+1) (ptsN A p))).2 40=true then ([],(pts1 A q (ptsN A p) (pts0 A (p+1) (ptsN A p))).2+1)
   else ((pts1 A q (ptsN A p) (pts0 A (p+1) (ptsN A p))).1,(pts1 A q (ptsN A p) (pts0 A (p+1) (ptsN A p))).2+1):=by unfold pointListV; rw [hq]
 generalize pts0 A (p+1) (ptsN A p)=O at *
 generalize ptsN A p=m at *
 obtain ⟨hpl,hpq⟩:=pts1_len A q m O
 refine CallO.on (flip_c s _ nl A q 15 (by omega) (by omega) hA (by omega)) (subH_get (by simp only [aqA,↓seqK,↓blkK,↓loopK,step,stepBin,eqB,Nat.add_assoc nid,simprocAttr,z0,e1,e2,e3,e4,e5,e6,e7,e8,e9,strmC])) ?_
 unfold strmC
 simp -dsimp only [aqA,↓seqK,↓blkK,↓loopK,step,stepBin,eqB,Nat.add_assoc nid,simprocAttr,z0,e1,e2,e3,e4,e5,e6,e7,e8,e9]
 have hnx:=nextV_bd A (q+1) (n:=(m:Int)) (by omega)
 obtain ⟨I,hI⟩:∃ I,nextV A (q+1) (m:Int)=(I:Nat):=⟨_,(Int.toNat_of_nonneg hnx.1).symm⟩
 have hp1:pts1 A q m O=if flipV A q 15=true then (O.set I (pickV A (q+2) [-1001,1001,1000],(O.getD I p0).2),q+3) else (O,q+1):=by unfold pts1; rw [hI,Int.toNat_natCast]
 refine S2.intro (fun h2=>?_) (fun h2=>?_) <;> simp -dsimp only [aqA,↓seqK,↓blkK,↓loopK,step,stepBin,eqB,Nat.add_assoc nid,simprocAttr,z0,e1,e2,e3,e4,e5,e6,e7,e8,e9]
 ·rw [if_pos h2] at hp1
  rw [hp1] at hpv
  refine CallO.on (next_c s _ nl A (q+1) _ (by omega) (by omega) hA (by omega)) (subH_get (by simp only [aqA,↓seqK,↓blkK,↓loopK,step,stepBin,eqB,Nat.add_assoc nid,simprocAttr,z0,e1,e2,e3,e4,e5,e6,e7,e8,e9,strmC])) ?_
  unfold strmC
  simp -dsimp only [aqA,↓seqK,↓blkK,↓loopK,step,stepBin,eqB,Nat.add_assoc nid,simprocAttr,z0,e1,e2,e3,e4,e5,e6,e7,e8,e9]
  refine CallO.pick_go (T:=3) (nl:=nl) (A:=A) (p:=q+1+1) (g:=fun i=>[-1001,1001,1000].getD i 0) (by simp only [aqA,↓seqK,↓blkK,↓loopK,step,stepBin,eqB,Nat.add_assoc nid,simprocAttr,z0,e1,e2,e3,e4,e5,e6,e7,e8,e9,strmC]) (by simp only [aqA,↓seqK,↓blkK,↓loopK,step,stepBin,eqB,Nat.add_assoc nid,simprocAttr,z0,e1,e2,e3,e4,e5,e6,e7,e8,e9]) (by simp only [aqA,↓seqK,↓blkK,↓loopK,step,stepBin,eqB,Nat.add_assoc nid,simprocAttr,z0,e1,e2,e3,e4,e5,e6,e7,e8,e9]) (by omega) (by omega) hA (by omega) (by omega) ?_
  unfold strmC
  simp -dsimp only [aqA,↓seqK,↓blkK,↓loopK,step,stepBin,eqB,Nat.add_assoc nid,simprocAttr,z0,e1,e2,e3,e4,e5,e6,e7,e8,e9]
  rw [hI]
  refine ⟨by omega,?_⟩
  refine CallO.on (flip_c s _ nl A (q+1+1+1) 40 (by omega) (by omega) hA (by omega)) (subH_get (by simp only [aqA,↓seqK,↓blkK,↓loopK,step,stepBin,eqB,Nat.add_assoc nid,simprocAttr,z0,e1,e2,e3,e4,e5,e6,e7,e8,e9,strmC])) ?_
  unfold strmC
  simp -dsimp only [aqA,↓seqK,↓blkK,↓loopK,step,stepBin,eqB,Nat.add_assoc nid,simprocAttr,z0,e1,e2,e3,e4,e5,e6,e7,e8,e9]
  have hIm:I<O.length:=by omega
  refine S2.intro (fun h3=>?_) (fun h3=>?_) <;> simp -dsimp only [aqA,↓seqK,↓blkK,↓loopK,step,stepBin,eqB,Nat.add_assoc nid,simprocAttr,z0,e1,e2,e3,e4,e5,e6,e7,e8,e9]
  ·rw [if_pos h3] at hpv
   rw [hpv]
   refine RetOK.go [] [(nid,2)] (.inl rfl) ?_
   simp [a25,cvT,step,res,e1,e2,e3,e4,e5,e6,e7,e8,e9,strmC,arrP]
   omega
  ·rw [if_neg (by simp [h3])] at hpv
   rw [hpv]
   refine RetOK.go [(nid,nid+4)] [] (.inl rfl) ?_
   simp [a25,cvT,step,res,e1,e2,e3,e4,e5,e6,e7,e8,e9,strmC,arrP,hol,-List.getD_eq_getElem?_getD]
   exact ⟨by omega,ColEq.i (csetP (fun x:Pt=>x.1) O hIm (pickV A (q+2) [-1001,1001,1000],(O.getD I p0).2) rfl),ColEq.i (ckeepP (fun x:Pt=>x.2) O hIm (pickV A (q+2) [-1001,1001,1000],(O.getD I p0).2) rfl)⟩
 ·rw [if_neg (by simp [h2])] at hp1
  rw [hp1] at hpv
  refine CallO.on (flip_c s _ nl A (q+1) 40 (by omega) (by omega) hA (by omega)) (subH_get (by simp only [aqA,↓seqK,↓blkK,↓loopK,step,stepBin,eqB,Nat.add_assoc nid,simprocAttr,z0,e1,e2,e3,e4,e5,e6,e7,e8,e9,strmC])) ?_
  unfold strmC
  simp -dsimp only [aqA,↓seqK,↓blkK,↓loopK,step,stepBin,eqB,Nat.add_assoc nid,simprocAttr,z0,e1,e2,e3,e4,e5,e6,e7,e8,e9]
  refine S2.intro (fun h3=>?_) (fun h3=>?_) <;> simp -dsimp only [aqA,↓seqK,↓blkK,↓loopK,step,stepBin,eqB,Nat.add_assoc nid,simprocAttr,z0,e1,e2,e3,e4,e5,e6,e7,e8,e9]
  ·rw [if_pos h3] at hpv
   rw [hpv]
   refine RetOK.go [] [(nid,2)] (.inl rfl) ?_
   simp [a25,cvT,step,res,e1,e2,e3,e4,e5,e6,e7,e8,e9,strmC,arrP]
  ·rw [if_neg (by simp [h3])] at hpv
   rw [hpv]
   refine RetOK.go [(nid,nid+4)] [] (.inl rfl) ?_
   simp [a25,cvT,step,res,e1,e2,e3,e4,e5,e6,e7,e8,e9,strmC,arrP,hol,-List.getD_eq_getElem?_getD]
open Go.RowKit Go.Lib
theorem take_eqPp {l m:List Pt} {k:Nat} (hl:k<l.length) (hm:k<m.length) (h:l.take k=m.take k) (hx:l.getD k p0=m.getD k p0):l.take (k+1)=m.take (k+1):=by
 rw [take_snoc (x:=l.getD k p0) (by rw [List.getD_eq_getElem?_getD,List.getElem?_eq_getElem hl]; rfl),take_snoc (x:=m.getD k p0) (by rw [List.getD_eq_getElem?_getD,List.getElem?_eq_getElem hm]; rfl),h,hx]
theorem eqPl_c (nl nl' : Bool) (l m : List Pt) (nid : Nat) (hl : l.length ≤ 1000000) (hm : m.length ≤ 1000000) : ACall Try.prog 15 [litPl nl l,litPl nl' m] [] nid (.bool (l == m)) [] := by
  refine acall_run c15 (by simp [a15]) ?_
  unfold litPl
  simp -dsimp only [aqA,↓seqK,↓blkK,↓loopK,step,stepBin,eqB,Nat.add_assoc nid,simprocAttr,z0,Int.cast_ofNat_Int,Int.reduceBEq,Int.reduceBNe,Int.reduceLT,Int.reduceLE,Int.reduceAdd,Int.reduceSub,Int.reduceMul,Int.reduceToNat,Int.reduceNeg,Int.reduceTMod,Int.reduceEq,not_false_eq_true,Int.reducePow,Int.reduceFDiv,Nat.reducePow,Nat.reduceSub,Nat.reduceMul,Nat.min_eq_left,Nat.reduceEqDiff,BEq.rfl,Int.tdiv_one,LN_succ,a15]
  refine S2.intro (fun h => ?_) (fun h => ?_) <;> simp -dsimp only [aqA,↓seqK,↓blkK,↓loopK,step,stepBin,eqB,Nat.add_assoc nid,simprocAttr,z0,Int.cast_ofNat_Int,Int.reduceBEq,Int.reduceBNe,Int.reduceLT,Int.reduceLE,Int.reduceAdd,Int.reduceSub,Int.reduceMul,Int.reduceToNat,Int.reduceNeg,Int.reduceTMod,Int.reduceEq,not_false_eq_true,Int.reducePow,Int.reduceFDiv,Nat.reducePow,Nat.reduceSub,Nat.reduceMul,Nat.min_eq_left,Nat.reduceEqDiff,BEq.rfl,Int.tdiv_one,LN_succ]
  · refine RetOK.pure (.inl rfl) rfl ?_
    have h1 : l ≠ m := fun e => by subst e; simp at h
    have h2 : (l == m) = false := by simpa using h1
    simp [cvT,step,res,h1]
  have hlm : l.length = m.length := by have : (l.length : Int) = m.length := by simpa using h
                                       omega
  refine LP.mkP (fun k : Nat => k ≤ l.length ∧ l.take k = m.take k) (fun k : Nat => ⟨[(13,.int .i64 k),(12,.int .i64 l.length),(0,litPl nl l),(1,litPl nl' m)],[],nid + 100,nid⟩) (fun k => l.length + 1 - k) 0 ⟨by omega,rfl⟩ (Cov.go [] [] ?_) (fun k hk => ?_)
  · simp [cvT,step,res,litPl]
  unfold litPl
  obtain ⟨hk,ht⟩ := hk
  simp -dsimp only [aqA,↓seqK,↓blkK,↓loopK,step,stepBin,eqB,Nat.add_assoc nid,simprocAttr,z0,Int.cast_ofNat_Int,Int.reduceBEq,Int.reduceBNe,Int.reduceLT,Int.reduceLE,Int.reduceAdd,Int.reduceSub,Int.reduceMul,Int.reduceToNat,Int.reduceNeg,Int.reduceTMod,Int.reduceEq,not_false_eq_true,Int.reducePow,Int.reduceFDiv,Nat.reducePow,Nat.reduceSub,Nat.reduceMul,Nat.min_eq_left,Nat.reduceEqDiff,BEq.rfl,Int.tdiv_one,LN_succ]
  refine S2.dec (fun h3 => ?_) (fun h3 => ?_) <;> simp -dsimp only [aqA,↓seqK,↓blkK,↓loopK,step,stepBin,eqB,Nat.add_assoc nid,simprocAttr,z0,Int.cast_ofNat_Int,Int.reduceBEq,Int.reduceBNe,Int.reduceLT,Int.reduceLE,Int.reduceAdd,Int.reduceSub,Int.reduceMul,Int.reduceToNat,Int.reduceNeg,Int.reduceTMod,Int.reduceEq,not_false_eq_true,Int.reducePow,Int.reduceFDiv,Nat.reducePow,Nat.reduceSub,Nat.reduceMul,Nat.min_eq_left,Nat.reduceEqDiff,BEq.rfl,Int.tdiv_one,LN_succ]
  · have hkl : k < l.length := by omega
    have hstep := fun hx => take_eqPp (l := l) (m := m) hkl (by omega) ht hx
    have hne : l.getD k p0 ≠ m.getD k p0 → l ≠ m := fun hd e => hd (by rw [e])
    generalize l.getD k p0 = a at *
    generalize m.getD k p0 = b at *
    refine ⟨by omega,by omega,S2.intro (fun h4 => ?_) (fun h4 => ?_)⟩ <;> simp -dsimp only [aqA,↓seqK,↓blkK,↓loopK,step,stepBin,eqB,Nat.add_assoc nid,simprocAttr,z0,Int.cast_ofNat_Int,Int.reduceBEq,Int.reduceBNe,Int.reduceLT,Int.reduceLE,Int.reduceAdd,Int.reduceSub,Int.reduceMul,Int.reduceToNat,Int.reduceNeg,Int.reduceTMod,Int.reduceEq,not_false_eq_true,Int.reducePow,Int.reduceFDiv,Nat.reducePow,Nat.reduceSub,Nat.reduceMul,Nat.min_eq_left,Nat.reduceEqDiff,BEq.rfl,Int.tdiv_one,LN_succ]
    · have h1 : l ≠ m := hne (fun e => by subst e; simp at h4)
      refine RetOK.pure (.inl rfl) rfl ?_
      simp [cvT,step,res,h1]
    · have h5 : a = b := by
        simp at h4; exact Prod.ext h4.1 h4.2
      refine ⟨by unfold inI64; omega,k + 1,⟨⟨by omega,hstep h5⟩,by omega⟩,Cov.go [] [] ?_⟩
      simp [cvT,step,res,litPl,-List.getD_eq_getElem?_getD]
  · obtain rfl : k = l.length := by omega
    have h1 : l = m := by
      rw [List.take_of_length_le (Nat.le_refl _),List.take_of_length_le (by omega)] at ht
      exact ht
    refine RetOK.pure (.inl rfl) rfl ?_
    simp [cvT,step,res,h1]
open Go.RowKit
def stT:List (Nat × Nat):=[(1,0),(1,2),(3,9),(4,5),(4,5),(6,8),(6,7),(4,8),(1,2),(10,0),(11,12),(11,12),(13,15),(13,14),(11,15),(1,2)]
def nextN (s t:Nat):Nat:=if t=0 then (stT.getD s (0,0)).1 else (stT.getD s (0,0)).2
def stCells:List PV:=stT.flatMap fun x=>[.int .i64 (x.1:Nat),.int .i64 (x.2:Nat)]
theorem stCells_get:∀ s,s<16→∀ t,t<2→∃ r,stCells.drop (s * 2+t)=.int .i64 (nextN s t:Nat)::r:=by
 intro s hs t ht
 rcases t with _ | _ | t
 ·rcases s with _ | _ | _ | _ | _ | _ | _ | _ | _ | _ | _ | _ | _ | _ | _ | _ | s <;> first | exact ⟨_,rfl⟩ | omega
 ·rcases s with _ | _ | _ | _ | _ | _ | _ | _ | _ | _ | _ | _ | _ | _ | _ | _ | s <;> first | exact ⟨_,rfl⟩ | omega
 ·omega
theorem next_st (s t nid:Nat) (hs:s<16) (ht:t<2):ACall Try.prog 113 [.int .i64 (s:Nat),.int .i64 (t:Nat)] [] nid (.int .i64 (nextN s t:Nat)) []:=by
 refine acall_run c113 (by simp [a113]) ?_
 obtain ⟨r,hr⟩:=stCells_get s hs t ht
 have e:stCells=[.int .i64 1,.int .i64 0,.int .i64 1,.int .i64 2,.int .i64 3,.int .i64 9,.int .i64 4,.int .i64 5,.int .i64 4,.int .i64 5,.int .i64 6,.int .i64 8,.int .i64 6,.int .i64 7,.int .i64 4,.int .i64 8,
  .int .i64 1,.int .i64 2,.int .i64 10,.int .i64 0,.int .i64 11,.int .i64 12,.int .i64 11,.int .i64 12,.int .i64 13,.int .i64 15,.int .i64 13,.int .i64 14,.int .i64 11,.int .i64 15,.int .i64 1,.int .i64 2]:=rfl
 rw [e] at hr
 simp -dsimp only [a113,aqT,aqU,aqN,aqP,aqM,↓seqK,↓blkK,↓loopK,step,stepBin,eqB,Nat.reduceBEq,Nat.reduceBeqDiff,Nat.add_assoc nid,Nat.reduceAdd,reduceCtorEq,↓reduceIte,Nat.reduceLeDiff,Nat.reduceBneDiff,Option.toList,← Int.ofNat_tmod,← Int.ofNat_tdiv,Nat.reduceLT,z0]
 refine ⟨by omega,by omega,?_⟩
 rw [Nat.mul_one,hr]
 simp -dsimp only [aqT,aqU,aqN,aqP,aqM,↓seqK,↓blkK,↓loopK,step,stepBin,eqB,Nat.reduceBEq,Nat.reduceBeqDiff,Nat.add_assoc nid,Nat.reduceAdd,reduceCtorEq,↓reduceIte,Nat.reduceLeDiff,Nat.reduceBneDiff,Option.toList,← Int.ofNat_tmod,← Int.ofNat_tdiv,Nat.reduceLT,z0]
 refine RetOK.pure (.inl rfl) rfl ?_
 simp [cvT,step,res]
def tlook:List (Nat × List UInt8)→MK→Option (List UInt8)
 | [],_=>none
 | (k,v)::r,q=>if q=.i (k:Nat) then some v else tlook r q
def pIn (a t:Nat) (x:List Nat × List (Nat × List UInt8)):List Nat × List (Nat × List UInt8) :=
 if (tlook x.2 (.i (nextN a t:Nat))).isSome then x else (x.1++[nextN a t],(nextN a t,(tlook x.2 (.i (a:Nat))).getD []++[UInt8.ofNat (48+t)])::x.2)
def pOut (x:List Nat × List (Nat × List UInt8)):List Nat × List (Nat × List UInt8):=match x.1 with
 | []=>x
 | a::r=>pIn a 1 (pIn a 0 (r,x.2))
def pAt (s:Nat):Nat→List Nat × List (Nat × List UInt8)
 | 0=>([s],[(s,[])])
 | n+1=>pOut (pAt s n)
def pathV (s t:Nat):List UInt8:=(tlook (pAt s 16).2 (.i (t:Nat))).getD []
theorem pAt_ok:∀ s,s<16→((pAt s 16).1=[]∧∀ n,n<17→((pAt s n).1.all (·<16)=true∧(pAt s n).1.length≤16∧(pAt s n).2.all (fun x=>decide (x.2.length≤16))=true)):=by decide
def pInTo (a:Nat) (x:List Nat × List (Nat × List UInt8)):Nat→List Nat × List (Nat × List UInt8)
 | 0=>x
 | k+1=>pIn a k (pInTo a x k)
theorem pInTo_len (a:Nat) (x:List Nat × List (Nat × List UInt8)) (k:Nat):(pInTo a x k).1.length≤x.1.length+k:=by
 induction k with
 | zero=>exact Nat.le_refl _
 | succ k ih =>
  unfold pInTo pIn
  split
  ·omega
  ·simp; omega
theorem tlook_len {L:Nat}:∀ {T:List (Nat × List UInt8)},T.all (fun x=>decide (x.2.length≤L))=true→∀ q,((tlook T q).getD []).length≤L
 | [],_,q=>by simp [tlook]
 | (k,v)::r,h,q=>by
  simp only [List.all_cons,Bool.and_eq_true,decide_eq_true_eq] at h
  unfold tlook
  split
  ·exact h.1
  ·exact tlook_len h.2 q
theorem pInTo_vals {L:Nat} (a:Nat) {x:List Nat × List (Nat × List UInt8)} (h:x.2.all (fun x=>decide (x.2.length≤L))=true):∀ k,(pInTo a x k).2.all (fun x=>decide (x.2.length≤L+k))=true
 | 0=>h
 | k+1=>by
  have ih:=pInTo_vals a h k
  have ih':(pInTo a x k).2.all (fun x=>decide (x.2.length≤L+(k+1)))=true:=by
   rw [List.all_eq_true] at ih ⊢
   intro y hy
   have:=ih y hy
   simp only [decide_eq_true_eq] at this ⊢
   omega
  unfold pInTo pIn
  split
  ·exact ih'
  ·simp only [List.all_cons,Bool.and_eq_true,decide_eq_true_eq,ih',and_true,List.length_append,List.length_singleton]
   have:=tlook_len ih (.i (a:Nat))
   omega
theorem optD (o:Option (List UInt8)):(bif o.isSome then o.getD [] else [])=o.getD []:=by cases o <;> rfl
theorem utf8_bit {k:Nat} (hk:k<2):(Utf8.encode (IntKind.i32.wrap (48+(k:Int)))).data.toList=[UInt8.ofNat (48+k)]:=by
 have:k=0∨k=1:=by omega
 rcases this with rfl | rfl <;> rfl
theorem getD_snocN (l:List Nat) (x i:Nat):(l++[x]).getD i 0=if i<l.length then l.getD i 0 else if i=l.length then x else 0:=by
 simp only [List.getD_eq_getElem?_getD,List.getElem?_append]
 split
 ·rfl
 ·split
  ·simp [*]
  ·rw [List.getElem?_eq_none (by simp; omega)]; rfl
def mapT (T:List (Nat × List UInt8)):Option ABlk:=some (.map (.i .i64) (fun q=>(tlook T q).isSome) (.s fun q=>(tlook T q).getD []))
set_option maxHeartbeats 1000000 in
theorem path_st (s t nid:Nat) (hs:s<16):ACall Try.prog 91 [.int .i64 (s:Nat),.int .i64 (t:Nat)] [] nid (.str (pathV s t)) []:=by
 refine acall_run c91 (by simp [a91]) ?_
 simp -dsimp only [a91,aqT,aqU,aqN,aqP,aqM,↓seqK,↓blkK,↓loopK,step,stepBin,eqB,Nat.reduceBEq,Nat.reduceBeqDiff,Nat.add_assoc nid,Nat.reduceAdd,reduceCtorEq,↓reduceIte,Nat.reduceLeDiff,Nat.reduceBneDiff,Option.toList,← Int.ofNat_tmod,← Int.ofNat_tdiv,Nat.reduceLT,z0,mNew,mkKey,keyIn,mPut]
 refine LP.mkP (fun x:Nat × Nat × (Nat→Int)=>x.1≤16) (fun x=>⟨[(6,.sl (nid+4) x.2.1 (pAt s x.1).1.length),(5,.mp (nid+8)),(1,.int .i64 (t:Nat))],
  [(nid+4,some (.arr 3 (x.2.1+(pAt s x.1).1.length) [.i .i64 fun i=>if i<x.2.1 then x.2.2 i else (((pAt s x.1).1.getD (i - x.2.1) 0:Nat):Int)])),(nid+8,mapT (pAt s x.1).2)],nid+100,nid⟩)
  (fun x=>17 - x.1) (0,0,fun _=>0) (by simp) (Cov.go [(nid+4,nid+28),(nid+8,nid+4)] [] ?_) (fun x hx=>?_)
 ·simp [cvT,step,res,pAt,mapT]
  refine ⟨ColEq.i fun i hi=>?_,fun q hq=>?_⟩
  ·have:i=0:=by omega
   subst this; rfl
  ·unfold tlook tlook
   split <;> simp [*,mVal]
 obtain ⟨n,d,g⟩:=x
 simp only at hx
 obtain ⟨ok1,ok2⟩:=pAt_ok s hs
 have ok:=ok2 n (by omega)
 have hst:pAt s (n+1)=pOut (pAt s n):=rfl
 unfold mapT
 simp -dsimp only [aqT,aqU,aqN,aqP,aqM,↓seqK,↓blkK,↓loopK,step,stepBin,eqB,Nat.reduceBEq,Nat.reduceBeqDiff,Nat.add_assoc nid,Nat.reduceAdd,reduceCtorEq,↓reduceIte,Nat.reduceLeDiff,Nat.reduceBneDiff,Option.toList,← Int.ofNat_tmod,← Int.ofNat_tdiv,Nat.reduceLT,z0]
 refine S2.dec (fun h1=>?_) (fun h1=>?_)
 ·have hn:n<16:=by
   rcases Nat.lt_or_ge n 16 with h | h
   ·exact h
   ·have:n=16:=by omega
    subst this; rw [ok1] at h1; simp at h1
  rcases hQ:pAt s n with ⟨Q,T⟩
  rw [hQ] at ok hst h1
  rcases Q with _ | ⟨a,r⟩
  ·simp at h1
  simp only [List.all_cons,Bool.and_eq_true,decide_eq_true_eq,List.length_cons] at ok
  obtain ⟨⟨ha,hr⟩,hlen,hvl⟩:=ok
  have hst:pAt s (n+1)=pInTo a (r,T) 2:=hst
  simp -dsimp only [aqT,aqU,aqN,aqP,aqM,↓seqK,↓blkK,↓loopK,step,stepBin,eqB,Nat.reduceBEq,Nat.reduceBeqDiff,Nat.add_assoc nid,Nat.reduceAdd,reduceCtorEq,↓reduceIte,Nat.reduceLeDiff,Nat.reduceBneDiff,Option.toList,← Int.ofNat_tmod,← Int.ofNat_tdiv,Nat.reduceLT,z0]
  refine ⟨by omega,by omega,LP.mkP (fun x:Nat × Nat × (Nat→Int)=>x.1≤2) (fun x=>⟨[(25,.int .i64 (x.1:Nat)),(7,.int .i64 (a:Nat)),(6,.sl (nid+4) x.2.1 (pInTo a (r,T) x.1).1.length),(5,.mp (nid+8)),(1,.int .i64 (t:Nat))],
   [(nid+4,some (.arr 3 (x.2.1+(pInTo a (r,T) x.1).1.length) [.i .i64 fun i=>if i<x.2.1 then x.2.2 i else (((pInTo a (r,T) x.1).1.getD (i - x.2.1) 0:Nat):Int)])),(nid+8,mapT (pInTo a (r,T) x.1).2)],nid+200,nid⟩)
   (fun x=>3 - x.1) (0,d+1,fun i=>if i<d then g i else (((a::r).getD (i - d) 0:Nat):Int)) (by simp) (Cov.go [] [] ?_) (fun y hy=>?_)⟩
  ·simp [cvT,step,res,pInTo,mapT,-List.getD_eq_getElem?_getD]
   refine ⟨⟨by omega,ColEq.i fun i hi=>?_⟩,by simp⟩
   by_cases hid:i<d+1
   ·rw [if_pos hid]
   ·rw [if_neg hid,if_neg (by omega),show i - d=i - (d+1)+1 from by omega]
    rfl
  obtain ⟨k,d2,g2⟩:=y
  simp only at hy
  unfold mapT
  have hql:=pInTo_len a (r,T) k
  have hqv:=pInTo_vals a (x:=(r,T)) hvl k
  rcases hX:pInTo a (r,T) k with ⟨Q2,T2⟩
  have hk1:pInTo a (r,T) (k+1)=pIn a k (Q2,T2):=by rw [← hX]; rfl
  rw [hX] at hql hqv
  simp only at hql hqv
  have hsl:=tlook_len hqv (.i (a:Nat))
  simp -dsimp only [aqT,aqU,aqN,aqP,aqM,↓seqK,↓blkK,↓loopK,step,stepBin,eqB,Nat.reduceBEq,Nat.reduceBeqDiff,Nat.add_assoc nid,Nat.reduceAdd,reduceCtorEq,↓reduceIte,Nat.reduceLeDiff,Nat.reduceBneDiff,Option.toList,← Int.ofNat_tmod,← Int.ofNat_tdiv,Nat.reduceLT,z0,hX]
  refine S2.dec (fun h2=>?_) (fun h2=>?_)
  ·simp -dsimp only [aqT,aqU,aqN,aqP,aqM,↓seqK,↓blkK,↓loopK,step,stepBin,eqB,Nat.reduceBEq,Nat.reduceBeqDiff,Nat.add_assoc nid,Nat.reduceAdd,reduceCtorEq,↓reduceIte,Nat.reduceLeDiff,Nat.reduceBneDiff,Option.toList,← Int.ofNat_tmod,← Int.ofNat_tdiv,Nat.reduceLT,z0]
   refine CallO.pure (next_st a k _ ha (by omega)) ?_
   simp -dsimp only [aqT,aqU,aqN,aqP,aqM,↓seqK,↓blkK,↓loopK,step,stepBin,eqB,Nat.reduceBEq,Nat.reduceBeqDiff,Nat.add_assoc nid,Nat.reduceAdd,reduceCtorEq,↓reduceIte,Nat.reduceLeDiff,Nat.reduceBneDiff,Option.toList,← Int.ofNat_tmod,← Int.ofNat_tdiv,Nat.reduceLT,z0,mkKey,keyIn,mGet,optD]
   refine S2.intro (fun h3=>?_) (fun h3=>?_)
   ·have h3':(tlook T2 (.i (nextN a k:Nat))).isSome=false:=by simpa using h3
    rw [show pIn a k (Q2,T2)=(Q2++[nextN a k],(nextN a k,(tlook T2 (.i (a:Nat))).getD []++[UInt8.ofNat (48+k)])::T2) from by unfold pIn; rw [if_neg (by rw [h3']; simp)]] at hk1
    simp -dsimp only [aqT,aqU,aqN,aqP,aqM,↓seqK,↓blkK,↓loopK,step,stepBin,eqB,Nat.reduceBEq,Nat.reduceBeqDiff,Nat.add_assoc nid,Nat.reduceAdd,reduceCtorEq,↓reduceIte,Nat.reduceLeDiff,Nat.reduceBneDiff,Option.toList,← Int.ofNat_tmod,← Int.ofNat_tdiv,Nat.reduceLT,z0,mkKey,keyIn,mGet,mPut,optD,utf8_bit (show k<2 by omega)]
    refine ⟨by unfold inI64; omega,by simp; omega,?_⟩
    cases hd2:d2==0
    ·simp -dsimp only [aqT,aqU,aqN,aqP,aqM,↓seqK,↓blkK,↓loopK,step,stepBin,eqB,Nat.reduceBEq,Nat.reduceBeqDiff,Nat.add_assoc nid,Nat.reduceAdd,reduceCtorEq,↓reduceIte,Nat.reduceLeDiff,Nat.reduceBneDiff,Option.toList,← Int.ofNat_tmod,← Int.ofNat_tdiv,Nat.reduceLT,z0,Col.shift]
     refine ⟨⟨by omega,by omega⟩,by unfold inI64; omega,(k+1,0,fun _=>0),⟨by omega,by omega⟩,Cov.go [(nid+4,nid+324)] [] ?_⟩
     rw [hk1]
     simp [cvT,step,res,mapT,-List.getD_eq_getElem?_getD]
     refine ⟨ColEq.i fun i hi=>?_,fun q hq=>?_⟩
     ·rw [getD_snocN]
      by_cases h:i<Q2.length
      ·simp only [if_pos h,if_neg (show ¬ d2+i<d2 by omega)]
      ·have:i=Q2.length:=by omega
       subst this
       simp
     ·simp only [tlook,mVal]
      by_cases h:q=.i (nextN a k:Nat)
      ·simp [h]
      ·simp [h]
    ·have hd0:d2=0:=by simpa using hd2
     subst hd0
     simp -dsimp only [aqT,aqU,aqN,aqP,aqM,↓seqK,↓blkK,↓loopK,step,stepBin,eqB,Nat.reduceBEq,Nat.reduceBeqDiff,Nat.add_assoc nid,Nat.reduceAdd,reduceCtorEq,↓reduceIte,Nat.reduceLeDiff,Nat.reduceBneDiff,Option.toList,← Int.ofNat_tmod,← Int.ofNat_tdiv,Nat.reduceLT,z0]
     refine ⟨⟨by omega,by omega⟩,by unfold inI64; omega,(k+1,0,fun _=>0),⟨by omega,by omega⟩,Cov.go [(nid+4,nid+324)] [] ?_⟩
     rw [hk1]
     simp [cvT,step,res,mapT,-List.getD_eq_getElem?_getD]
     refine ⟨ColEq.i fun i hi=>?_,fun q hq=>?_⟩
     ·rw [getD_snocN]
      by_cases h:i<Q2.length
      ·simp only [if_pos h]
      ·have:i=Q2.length:=by omega
       subst this
       simp
     ·simp only [tlook,mVal]
      by_cases h:q=.i (nextN a k:Nat)
      ·simp [h]
      ·simp [h]
   ·have h3':(tlook T2 (.i (nextN a k:Nat))).isSome=true:=by simpa using h3
    rw [show pIn a k (Q2,T2)=(Q2,T2) from by unfold pIn; rw [if_pos h3']] at hk1
    simp -dsimp only [aqT,aqU,aqN,aqP,aqM,↓seqK,↓blkK,↓loopK,step,stepBin,eqB,Nat.reduceBEq,Nat.reduceBeqDiff,Nat.add_assoc nid,Nat.reduceAdd,reduceCtorEq,↓reduceIte,Nat.reduceLeDiff,Nat.reduceBneDiff,Option.toList,← Int.ofNat_tmod,← Int.ofNat_tdiv,Nat.reduceLT,z0]
    refine ⟨by unfold inI64; omega,(k+1,d2,g2),⟨by omega,by omega⟩,Cov.go [] [] ?_⟩
    rw [hk1]
    simp [cvT,step,res,mapT]
  ·have hk2:k=2:=by omega
   subst hk2
   simp -dsimp only [aqT,aqU,aqN,aqP,aqM,↓seqK,↓blkK,↓loopK,step,stepBin,eqB,Nat.reduceBEq,Nat.reduceBeqDiff,Nat.add_assoc nid,Nat.reduceAdd,reduceCtorEq,↓reduceIte,Nat.reduceLeDiff,Nat.reduceBneDiff,Option.toList,← Int.ofNat_tmod,← Int.ofNat_tdiv,Nat.reduceLT,z0]
   refine ⟨(n+1,d2,g2),⟨by omega,by omega⟩,Cov.go [] [] ?_⟩
   rw [hst,hX]
   simp [cvT,step,res,mapT]
 ·simp -dsimp only [aqT,aqU,aqN,aqP,aqM,↓seqK,↓blkK,↓loopK,step,stepBin,eqB,Nat.reduceBEq,Nat.reduceBeqDiff,Nat.add_assoc nid,Nat.reduceAdd,reduceCtorEq,↓reduceIte,Nat.reduceLeDiff,Nat.reduceBneDiff,Option.toList,← Int.ofNat_tmod,← Int.ofNat_tdiv,Nat.reduceLT,z0,mkKey,keyIn,mGet,optD]
  have h0:(pAt s n).1=[]:=List.eq_nil_of_length_eq_zero (by omega)
  have h16:∀ j,(pAt s (n+j))=pAt s n:=by
   intro j
   induction j with
   | zero=>rfl
   | succ j ih =>
    show pOut (pAt s (n+j))=_
    rw [ih]
    unfold pOut
    rw [h0]
  have:=h16 (16 - n)
  rw [show n+(16 - n)=16 from by omega] at this
  refine RetOK.pure (.inl rfl) rfl ?_
  simp [cvT,step,res,pathV,this]
open Go.RowKit
def w1x (nl:Bool):PV:=.lit nl 1 [.s fun i=>[[49,120]].getD i []]
theorem out_00:outB 0 0 0=false:=by decide
theorem out_01:outB 0 0 1=false:=by decide
theorem out_11:outB 1 0 1=false:=by decide
theorem t49:(isBinV 49 || (49:Int)==42)=true:=by decide
theorem t120:(isBinV 120 || (120:Int)==42)=true:=by decide
theorem p49:passedV [49] 49=true:=by decide
theorem p120:passedV [49] 120=false:=by decide
theorem s1x:(([49,120]:List UInt8)==[])=false:=by decide
theorem at_1x (nl:Bool) (x:Int) (c:Int) (hx:(x=0∧c=49)∨(x=1∧c=120)) (nid:Nat):ACall Try.prog 44 [.agg [w1x nl,.str [49]],.agg [.int .i64 x,.int .i64 0]] [] nid (.int .u8 c) []:=by
 refine acall_run c44 (by simp [a44]) ?_
 unfold w1x
 rcases hx with ⟨rfl,rfl⟩ | ⟨rfl,rfl⟩
 ·simp -dsimp only [a44,aqT,aqU,aqN,aqP,aqM,↓seqK,↓blkK,↓loopK,step,stepBin,eqB,Nat.reduceBEq,Nat.reduceBeqDiff,Nat.add_assoc nid,Nat.reduceAdd,reduceCtorEq,↓reduceIte,Nat.reduceLeDiff,Nat.reduceBneDiff,Option.toList,← Int.ofNat_tmod,← Int.ofNat_tdiv,Nat.reduceLT,z0,Int.cast_ofNat_Int,Int.reduceBEq,Int.reduceBNe,Int.reduceLT,Int.reduceLE,Int.reduceAdd,Int.reduceSub,Int.reduceMul,Int.reduceToNat,Int.reduceNeg,Int.reduceTMod,Int.reduceEq,not_false_eq_true,Int.reducePow,Int.reduceFDiv,Nat.reducePow,Nat.reduceSub,Nat.reduceMul,Nat.min_eq_left,Nat.reduceEqDiff,BEq.rfl,Int.tdiv_one,LN_succ]
  refine ⟨by unfold inI64; omega,CallX.pure (out_c _ _ _ _) ?_⟩
  simp -dsimp only [aqT,aqU,aqN,aqP,aqM,↓seqK,↓blkK,↓loopK,step,stepBin,eqB,Nat.reduceBEq,Nat.reduceBeqDiff,Nat.add_assoc nid,Nat.reduceAdd,reduceCtorEq,↓reduceIte,Nat.reduceLeDiff,Nat.reduceBneDiff,Option.toList,← Int.ofNat_tmod,← Int.ofNat_tdiv,Nat.reduceLT,z0,Int.cast_ofNat_Int,Int.reduceBEq,Int.reduceBNe,Int.reduceLT,Int.reduceLE,Int.reduceAdd,Int.reduceSub,Int.reduceMul,Int.reduceToNat,Int.reduceNeg,Int.reduceTMod,Int.reduceEq,not_false_eq_true,Int.reducePow,Int.reduceFDiv,Nat.reducePow,Nat.reduceSub,Nat.reduceMul,Nat.min_eq_left,Nat.reduceEqDiff,BEq.rfl,Int.tdiv_one,LN_succ,out_00,List.getD_cons_zero]
  refine ⟨by unfold inI64; omega,CallX.pure (out_c _ _ _ _) ?_⟩
  simp -dsimp only [aqT,aqU,aqN,aqP,aqM,↓seqK,↓blkK,↓loopK,step,stepBin,eqB,Nat.reduceBEq,Nat.reduceBeqDiff,Nat.add_assoc nid,Nat.reduceAdd,reduceCtorEq,↓reduceIte,Nat.reduceLeDiff,Nat.reduceBneDiff,Option.toList,← Int.ofNat_tmod,← Int.ofNat_tdiv,Nat.reduceLT,z0,Int.cast_ofNat_Int,Int.reduceBEq,Int.reduceBNe,Int.reduceLT,Int.reduceLE,Int.reduceAdd,Int.reduceSub,Int.reduceMul,Int.reduceToNat,Int.reduceNeg,Int.reduceTMod,Int.reduceEq,not_false_eq_true,Int.reducePow,Int.reduceFDiv,Nat.reducePow,Nat.reduceSub,Nat.reduceMul,Nat.min_eq_left,Nat.reduceEqDiff,BEq.rfl,Int.tdiv_one,LN_succ,out_01,List.getD_cons_zero]
  refine RetOK.pure (.inl rfl) rfl ?_
  simp [retPV,over,keys,List.map_nil,List.map_cons,List.contains_cons,List.contains_nil,Bool.or_false,Bool.or_true,Bool.true_or,Bool.false_or,beq_self_eq_true,cond_true,cond_false,HeapCov,orNil,nilSz,onBlk,srcOf,getH_hit,getH_miss,getH.eq_1,getS_hit,getS_miss,getS.eq_1,BlkCov,MEq,PVCovs,PVCov,ColsEq,AColsEq,ACEq,ColEq.refl,liveIds,SlotsCov,List.all_nil,List.all_cons,List.any_nil,List.any_cons,List.nil_append,List.cons_append,inRange,apart,nilBlk,idS1,idS2,readAll,readRes,onAll,step,res,AX.val,List.drop_zero,List.drop_succ_cons,List.take_succ_cons,List.take_zero]
 ·simp -dsimp only [a44,aqT,aqU,aqN,aqP,aqM,↓seqK,↓blkK,↓loopK,step,stepBin,eqB,Nat.reduceBEq,Nat.reduceBeqDiff,Nat.add_assoc nid,Nat.reduceAdd,reduceCtorEq,↓reduceIte,Nat.reduceLeDiff,Nat.reduceBneDiff,Option.toList,← Int.ofNat_tmod,← Int.ofNat_tdiv,Nat.reduceLT,z0,Int.cast_ofNat_Int,Int.reduceBEq,Int.reduceBNe,Int.reduceLT,Int.reduceLE,Int.reduceAdd,Int.reduceSub,Int.reduceMul,Int.reduceToNat,Int.reduceNeg,Int.reduceTMod,Int.reduceEq,not_false_eq_true,Int.reducePow,Int.reduceFDiv,Nat.reducePow,Nat.reduceSub,Nat.reduceMul,Nat.min_eq_left,Nat.reduceEqDiff,BEq.rfl,Int.tdiv_one,LN_succ]
  refine ⟨by unfold inI64; omega,CallX.pure (out_c _ _ _ _) ?_⟩
  simp -dsimp only [aqT,aqU,aqN,aqP,aqM,↓seqK,↓blkK,↓loopK,step,stepBin,eqB,Nat.reduceBEq,Nat.reduceBeqDiff,Nat.add_assoc nid,Nat.reduceAdd,reduceCtorEq,↓reduceIte,Nat.reduceLeDiff,Nat.reduceBneDiff,Option.toList,← Int.ofNat_tmod,← Int.ofNat_tdiv,Nat.reduceLT,z0,Int.cast_ofNat_Int,Int.reduceBEq,Int.reduceBNe,Int.reduceLT,Int.reduceLE,Int.reduceAdd,Int.reduceSub,Int.reduceMul,Int.reduceToNat,Int.reduceNeg,Int.reduceTMod,Int.reduceEq,not_false_eq_true,Int.reducePow,Int.reduceFDiv,Nat.reducePow,Nat.reduceSub,Nat.reduceMul,Nat.min_eq_left,Nat.reduceEqDiff,BEq.rfl,Int.tdiv_one,LN_succ,out_00,List.getD_cons_zero]
  refine ⟨by unfold inI64; omega,CallX.pure (out_c _ _ _ _) ?_⟩
  simp -dsimp only [aqT,aqU,aqN,aqP,aqM,↓seqK,↓blkK,↓loopK,step,stepBin,eqB,Nat.reduceBEq,Nat.reduceBeqDiff,Nat.add_assoc nid,Nat.reduceAdd,reduceCtorEq,↓reduceIte,Nat.reduceLeDiff,Nat.reduceBneDiff,Option.toList,← Int.ofNat_tmod,← Int.ofNat_tdiv,Nat.reduceLT,z0,Int.cast_ofNat_Int,Int.reduceBEq,Int.reduceBNe,Int.reduceLT,Int.reduceLE,Int.reduceAdd,Int.reduceSub,Int.reduceMul,Int.reduceToNat,Int.reduceNeg,Int.reduceTMod,Int.reduceEq,not_false_eq_true,Int.reducePow,Int.reduceFDiv,Nat.reducePow,Nat.reduceSub,Nat.reduceMul,Nat.min_eq_left,Nat.reduceEqDiff,BEq.rfl,Int.tdiv_one,LN_succ,out_11,List.getD_cons_zero]
  refine RetOK.pure (.inl rfl) rfl ?_
  simp [retPV,over,keys,List.map_nil,List.map_cons,List.contains_cons,List.contains_nil,Bool.or_false,Bool.or_true,Bool.true_or,Bool.false_or,beq_self_eq_true,cond_true,cond_false,HeapCov,orNil,nilSz,onBlk,srcOf,getH_hit,getH_miss,getH.eq_1,getS_hit,getS_miss,getS.eq_1,BlkCov,MEq,PVCovs,PVCov,ColsEq,AColsEq,ACEq,ColEq.refl,liveIds,SlotsCov,List.all_nil,List.all_cons,List.any_nil,List.any_cons,List.nil_append,List.cons_append,inRange,apart,nilBlk,idS1,idS2,readAll,readRes,onAll,step,res,AX.val,List.drop_zero,List.drop_succ_cons,List.take_succ_cons,List.take_zero]
theorem places_c (nl:Bool) (nid:Nat):ACall Try.prog 43 [.agg [w1x nl,.str [49]]] [] nid (.sl nid 0 2) [(nid,some (.arr 46 2 [.i .i64 fun i=>[0,1].getD i 0,.i .i64 fun i=>[0,0].getD i 0]))]:=by
 refine acall_run c43 (by simp [a43]) ?_
 unfold w1x
 simp -dsimp only [a43,aqT,aqU,aqN,aqP,aqM,↓seqK,↓blkK,↓loopK,step,stepBin,eqB,Nat.reduceBEq,Nat.reduceBeqDiff,Nat.add_assoc nid,Nat.reduceAdd,reduceCtorEq,↓reduceIte,Nat.reduceLeDiff,Nat.reduceBneDiff,Option.toList,← Int.ofNat_tmod,← Int.ofNat_tdiv,Nat.reduceLT,z0,Int.cast_ofNat_Int,Int.reduceBEq,Int.reduceBNe,Int.reduceLT,Int.reduceLE,Int.reduceAdd,Int.reduceSub,Int.reduceMul,Int.reduceToNat,Int.reduceNeg,Int.reduceTMod,Int.reduceEq,not_false_eq_true,Int.reducePow,Int.reduceFDiv,Nat.reducePow,Nat.reduceSub,Nat.reduceMul,Nat.min_eq_left,Nat.reduceEqDiff,BEq.rfl,Int.tdiv_one,LN_succ]
 refine LP.rounds 3 ?_
 simp -dsimp only [aqT,aqU,aqN,aqP,aqM,↓seqK,↓blkK,↓loopK,step,stepBin,eqB,Nat.reduceBEq,Nat.reduceBeqDiff,Nat.add_assoc nid,Nat.reduceAdd,reduceCtorEq,↓reduceIte,Nat.reduceLeDiff,Nat.reduceBneDiff,Option.toList,← Int.ofNat_tmod,← Int.ofNat_tdiv,Nat.reduceLT,z0,Int.cast_ofNat_Int,Int.reduceBEq,Int.reduceBNe,Int.reduceLT,Int.reduceLE,Int.reduceAdd,Int.reduceSub,Int.reduceMul,Int.reduceToNat,Int.reduceNeg,Int.reduceTMod,Int.reduceEq,not_false_eq_true,Int.reducePow,Int.reduceFDiv,Nat.reducePow,Nat.reduceSub,Nat.reduceMul,Nat.min_eq_left,Nat.reduceEqDiff,BEq.rfl,Int.tdiv_one,LN_succ,List.getD_cons_zero]
 refine LP.rounds 4 ?_
 simp -dsimp only [aqT,aqU,aqN,aqP,aqM,↓seqK,↓blkK,↓loopK,step,stepBin,eqB,Nat.reduceBEq,Nat.reduceBeqDiff,Nat.add_assoc nid,Nat.reduceAdd,reduceCtorEq,↓reduceIte,Nat.reduceLeDiff,Nat.reduceBneDiff,Option.toList,← Int.ofNat_tmod,← Int.ofNat_tdiv,Nat.reduceLT,z0,Int.cast_ofNat_Int,Int.reduceBEq,Int.reduceBNe,Int.reduceLT,Int.reduceLE,Int.reduceAdd,Int.reduceSub,Int.reduceMul,Int.reduceToNat,Int.reduceNeg,Int.reduceTMod,Int.reduceEq,not_false_eq_true,Int.reducePow,Int.reduceFDiv,Nat.reducePow,Nat.reduceSub,Nat.reduceMul,Nat.min_eq_left,Nat.reduceEqDiff,BEq.rfl,Int.tdiv_one,LN_succ,List.getD_cons_zero]
 refine ⟨by unfold inI64; omega,by unfold inI64; omega,by unfold inI64; omega,RetOK.go [(nid,nid+144)] [] (.inl rfl) ?_⟩
 simp [a43,retPV,over,keys,List.map_nil,List.map_cons,List.contains_cons,List.contains_nil,Bool.or_false,Bool.or_true,Bool.true_or,Bool.false_or,beq_self_eq_true,cond_true,cond_false,HeapCov,orNil,nilSz,onBlk,srcOf,getH_hit,getH_miss,getH.eq_1,getS_hit,getS_miss,getS.eq_1,BlkCov,MEq,PVCovs,PVCov,ColsEq,AColsEq,ACEq,ColEq.refl,liveIds,SlotsCov,List.all_nil,List.all_cons,List.any_nil,List.any_cons,List.nil_append,List.cons_append,inRange,apart,nilBlk,idS1,idS2,readAll,readRes,onAll,step,res,AX.val,List.drop_zero,List.drop_succ_cons,List.take_succ_cons,List.take_zero]
 constructor <;> refine ColEq.i fun i hi=>?_ <;> (have:i=0∨i=1:=by omega) <;> rcases this with rfl | rfl <;> simp
theorem share_c (nl nlp:Bool) (nid:Nat):ACall Try.prog 81 [.agg [w1x nl,.str [49]],.lit nlp 2 [.i .i64 fun i=>[0,1].getD i 0,.i .i64 fun i=>[0,0].getD i 0]] [] nid (.tup [.int .i64 1,.int .i64 2]) []:=by
 refine acall_run c81 (by simp [a81]) ?_
 unfold w1x
 simp -dsimp only [a81,aqT,aqU,aqN,aqP,aqM,↓seqK,↓blkK,↓loopK,step,stepBin,eqB,Nat.reduceBEq,Nat.reduceBeqDiff,Nat.add_assoc nid,Nat.reduceAdd,reduceCtorEq,↓reduceIte,Nat.reduceLeDiff,Nat.reduceBneDiff,Option.toList,← Int.ofNat_tmod,← Int.ofNat_tdiv,Nat.reduceLT,z0,Int.cast_ofNat_Int,Int.reduceBEq,Int.reduceBNe,Int.reduceLT,Int.reduceLE,Int.reduceAdd,Int.reduceSub,Int.reduceMul,Int.reduceToNat,Int.reduceNeg,Int.reduceTMod,Int.reduceEq,not_false_eq_true,Int.reducePow,Int.reduceFDiv,Nat.reducePow,Nat.reduceSub,Nat.reduceMul,Nat.min_eq_left,Nat.reduceEqDiff,BEq.rfl,Int.tdiv_one,LN_succ]
 refine LP.rounds 4 ?_
 simp -dsimp only [aqT,aqU,aqN,aqP,aqM,↓seqK,↓blkK,↓loopK,step,stepBin,eqB,Nat.reduceBEq,Nat.reduceBeqDiff,Nat.add_assoc nid,Nat.reduceAdd,reduceCtorEq,↓reduceIte,Nat.reduceLeDiff,Nat.reduceBneDiff,Option.toList,← Int.ofNat_tmod,← Int.ofNat_tdiv,Nat.reduceLT,z0,Int.cast_ofNat_Int,Int.reduceBEq,Int.reduceBNe,Int.reduceLT,Int.reduceLE,Int.reduceAdd,Int.reduceSub,Int.reduceMul,Int.reduceToNat,Int.reduceNeg,Int.reduceTMod,Int.reduceEq,not_false_eq_true,Int.reducePow,Int.reduceFDiv,Nat.reducePow,Nat.reduceSub,Nat.reduceMul,Nat.min_eq_left,Nat.reduceEqDiff,BEq.rfl,Int.tdiv_one,LN_succ,List.getD_cons_zero,List.getD_cons_succ]
 refine CallO.pure (at_1x nl 0 49 (.inl ⟨rfl,rfl⟩) _) ?_
 simp -dsimp only [aqT,aqU,aqN,aqP,aqM,↓seqK,↓blkK,↓loopK,step,stepBin,eqB,Nat.reduceBEq,Nat.reduceBeqDiff,Nat.add_assoc nid,Nat.reduceAdd,reduceCtorEq,↓reduceIte,Nat.reduceLeDiff,Nat.reduceBneDiff,Option.toList,← Int.ofNat_tmod,← Int.ofNat_tdiv,Nat.reduceLT,z0,Int.cast_ofNat_Int,Int.reduceBEq,Int.reduceBNe,Int.reduceLT,Int.reduceLE,Int.reduceAdd,Int.reduceSub,Int.reduceMul,Int.reduceToNat,Int.reduceNeg,Int.reduceTMod,Int.reduceEq,not_false_eq_true,Int.reducePow,Int.reduceFDiv,Nat.reducePow,Nat.reduceSub,Nat.reduceMul,Nat.min_eq_left,Nat.reduceEqDiff,BEq.rfl,Int.tdiv_one,LN_succ]
 refine CallO.pure (tested_c _ _) ?_
 rw [t49]
 simp -dsimp only [aqT,aqU,aqN,aqP,aqM,↓seqK,↓blkK,↓loopK,step,stepBin,eqB,Nat.reduceBEq,Nat.reduceBeqDiff,Nat.add_assoc nid,Nat.reduceAdd,reduceCtorEq,↓reduceIte,Nat.reduceLeDiff,Nat.reduceBneDiff,Option.toList,← Int.ofNat_tmod,← Int.ofNat_tdiv,Nat.reduceLT,z0,Int.cast_ofNat_Int,Int.reduceBEq,Int.reduceBNe,Int.reduceLT,Int.reduceLE,Int.reduceAdd,Int.reduceSub,Int.reduceMul,Int.reduceToNat,Int.reduceNeg,Int.reduceTMod,Int.reduceEq,not_false_eq_true,Int.reducePow,Int.reduceFDiv,Nat.reducePow,Nat.reduceSub,Nat.reduceMul,Nat.min_eq_left,Nat.reduceEqDiff,BEq.rfl,Int.tdiv_one,LN_succ]
 refine ⟨by unfold inI64; omega,CallO.pure (passed_c _ _ _ _ _ _ _ rfl) ?_⟩
 rw [p49]
 simp -dsimp only [aqT,aqU,aqN,aqP,aqM,↓seqK,↓blkK,↓loopK,step,stepBin,eqB,Nat.reduceBEq,Nat.reduceBeqDiff,Nat.add_assoc nid,Nat.reduceAdd,reduceCtorEq,↓reduceIte,Nat.reduceLeDiff,Nat.reduceBneDiff,Option.toList,← Int.ofNat_tmod,← Int.ofNat_tdiv,Nat.reduceLT,z0,Int.cast_ofNat_Int,Int.reduceBEq,Int.reduceBNe,Int.reduceLT,Int.reduceLE,Int.reduceAdd,Int.reduceSub,Int.reduceMul,Int.reduceToNat,Int.reduceNeg,Int.reduceTMod,Int.reduceEq,not_false_eq_true,Int.reducePow,Int.reduceFDiv,Nat.reducePow,Nat.reduceSub,Nat.reduceMul,Nat.min_eq_left,Nat.reduceEqDiff,BEq.rfl,Int.tdiv_one,LN_succ,List.getD_cons_zero,List.getD_cons_succ]
 refine ⟨by unfold inI64; omega,by unfold inI64; omega,CallO.pure (at_1x nl 1 120 (.inr ⟨rfl,rfl⟩) _) ?_⟩
 simp -dsimp only [aqT,aqU,aqN,aqP,aqM,↓seqK,↓blkK,↓loopK,step,stepBin,eqB,Nat.reduceBEq,Nat.reduceBeqDiff,Nat.add_assoc nid,Nat.reduceAdd,reduceCtorEq,↓reduceIte,Nat.reduceLeDiff,Nat.reduceBneDiff,Option.toList,← Int.ofNat_tmod,← Int.ofNat_tdiv,Nat.reduceLT,z0,Int.cast_ofNat_Int,Int.reduceBEq,Int.reduceBNe,Int.reduceLT,Int.reduceLE,Int.reduceAdd,Int.reduceSub,Int.reduceMul,Int.reduceToNat,Int.reduceNeg,Int.reduceTMod,Int.reduceEq,not_false_eq_true,Int.reducePow,Int.reduceFDiv,Nat.reducePow,Nat.reduceSub,Nat.reduceMul,Nat.min_eq_left,Nat.reduceEqDiff,BEq.rfl,Int.tdiv_one,LN_succ]
 refine CallO.pure (tested_c _ _) ?_
 rw [t120]
 simp -dsimp only [aqT,aqU,aqN,aqP,aqM,↓seqK,↓blkK,↓loopK,step,stepBin,eqB,Nat.reduceBEq,Nat.reduceBeqDiff,Nat.add_assoc nid,Nat.reduceAdd,reduceCtorEq,↓reduceIte,Nat.reduceLeDiff,Nat.reduceBneDiff,Option.toList,← Int.ofNat_tmod,← Int.ofNat_tdiv,Nat.reduceLT,z0,Int.cast_ofNat_Int,Int.reduceBEq,Int.reduceBNe,Int.reduceLT,Int.reduceLE,Int.reduceAdd,Int.reduceSub,Int.reduceMul,Int.reduceToNat,Int.reduceNeg,Int.reduceTMod,Int.reduceEq,not_false_eq_true,Int.reducePow,Int.reduceFDiv,Nat.reducePow,Nat.reduceSub,Nat.reduceMul,Nat.min_eq_left,Nat.reduceEqDiff,BEq.rfl,Int.tdiv_one,LN_succ]
 refine ⟨by unfold inI64; omega,CallO.pure (passed_c _ _ _ _ _ _ _ rfl) ?_⟩
 rw [p120]
 simp -dsimp only [aqT,aqU,aqN,aqP,aqM,↓seqK,↓blkK,↓loopK,step,stepBin,eqB,Nat.reduceBEq,Nat.reduceBeqDiff,Nat.add_assoc nid,Nat.reduceAdd,reduceCtorEq,↓reduceIte,Nat.reduceLeDiff,Nat.reduceBneDiff,Option.toList,← Int.ofNat_tmod,← Int.ofNat_tdiv,Nat.reduceLT,z0,Int.cast_ofNat_Int,Int.reduceBEq,Int.reduceBNe,Int.reduceLT,Int.reduceLE,Int.reduceAdd,Int.reduceSub,Int.reduceMul,Int.reduceToNat,Int.reduceNeg,Int.reduceTMod,Int.reduceEq,not_false_eq_true,Int.reducePow,Int.reduceFDiv,Nat.reducePow,Nat.reduceSub,Nat.reduceMul,Nat.min_eq_left,Nat.reduceEqDiff,BEq.rfl,Int.tdiv_one,LN_succ,List.getD_cons_zero,List.getD_cons_succ]
 refine ⟨by unfold inI64; omega,RetOK.pure (.inl rfl) rfl ?_⟩
 simp [retPV,over,keys,List.map_nil,List.map_cons,List.contains_cons,List.contains_nil,Bool.or_false,Bool.or_true,Bool.true_or,Bool.false_or,beq_self_eq_true,cond_true,cond_false,HeapCov,orNil,nilSz,onBlk,srcOf,getH_hit,getH_miss,getH.eq_1,getS_hit,getS_miss,getS.eq_1,BlkCov,MEq,PVCovs,PVCov,ColsEq,AColsEq,ACEq,ColEq.refl,liveIds,SlotsCov,List.all_nil,List.all_cons,List.any_nil,List.any_cons,List.nil_append,List.cons_append,inRange,apart,nilBlk,idS1,idS2,readAll,readRes,onAll,step,res,AX.val,List.drop_zero,List.drop_succ_cons,List.take_succ_cons,List.take_zero]
theorem checkWafer_c (nl:Bool) (nid:Nat):ACall Try.prog 40 [.agg [w1x nl,.str [49]]] [] nid (.int .i64 0) []:=by
 refine acall_run c40 (by simp [a40]) ?_
 unfold w1x
 simp -dsimp only [a40,aqT,aqU,aqN,aqP,aqM,↓seqK,↓blkK,↓loopK,step,stepBin,eqB,Nat.reduceBEq,Nat.reduceBeqDiff,Nat.add_assoc nid,Nat.reduceAdd,reduceCtorEq,↓reduceIte,Nat.reduceLeDiff,Nat.reduceBneDiff,Option.toList,← Int.ofNat_tmod,← Int.ofNat_tdiv,Nat.reduceLT,z0,Int.cast_ofNat_Int,Int.reduceBEq,Int.reduceBNe,Int.reduceLT,Int.reduceLE,Int.reduceAdd,Int.reduceSub,Int.reduceMul,Int.reduceToNat,Int.reduceNeg,Int.reduceTMod,Int.reduceEq,not_false_eq_true,Int.reducePow,Int.reduceFDiv,Nat.reducePow,Nat.reduceSub,Nat.reduceMul,Nat.min_eq_left,Nat.reduceEqDiff,BEq.rfl,Int.tdiv_one,LN_succ]
 refine LP.rounds 3 ?_
 simp -dsimp only [aqT,aqU,aqN,aqP,aqM,↓seqK,↓blkK,↓loopK,step,stepBin,eqB,Nat.reduceBEq,Nat.reduceBeqDiff,Nat.add_assoc nid,Nat.reduceAdd,reduceCtorEq,↓reduceIte,Nat.reduceLeDiff,Nat.reduceBneDiff,Option.toList,← Int.ofNat_tmod,← Int.ofNat_tdiv,Nat.reduceLT,z0,Int.cast_ofNat_Int,Int.reduceBEq,Int.reduceBNe,Int.reduceLT,Int.reduceLE,Int.reduceAdd,Int.reduceSub,Int.reduceMul,Int.reduceToNat,Int.reduceNeg,Int.reduceTMod,Int.reduceEq,not_false_eq_true,Int.reducePow,Int.reduceFDiv,Nat.reducePow,Nat.reduceSub,Nat.reduceMul,Nat.min_eq_left,Nat.reduceEqDiff,BEq.rfl,Int.tdiv_one,LN_succ,List.getD_cons_zero,List.getD_cons_succ,s1x]
 refine CallO.pure (odd_c' [49,120] _ (by simp) (fun i hi=>by
  have:i=0∨i=1:=by simp at hi; omega
  rcases this with rfl | rfl <;> decide)) ?_
 simp -dsimp only [aqT,aqU,aqN,aqP,aqM,↓seqK,↓blkK,↓loopK,step,stepBin,eqB,Nat.reduceBEq,Nat.reduceBeqDiff,Nat.add_assoc nid,Nat.reduceAdd,reduceCtorEq,↓reduceIte,Nat.reduceLeDiff,Nat.reduceBneDiff,Option.toList,← Int.ofNat_tmod,← Int.ofNat_tdiv,Nat.reduceLT,z0,Int.cast_ofNat_Int,Int.reduceBEq,Int.reduceBNe,Int.reduceLT,Int.reduceLE,Int.reduceAdd,Int.reduceSub,Int.reduceMul,Int.reduceToNat,Int.reduceNeg,Int.reduceTMod,Int.reduceEq,not_false_eq_true,Int.reducePow,Int.reduceFDiv,Nat.reducePow,Nat.reduceSub,Nat.reduceMul,Nat.min_eq_left,Nat.reduceEqDiff,BEq.rfl,Int.tdiv_one,LN_succ,List.getD_cons_zero,List.getD_cons_succ,s1x]
 refine ⟨by unfold inI64; omega,LP.rounds 3 ?_⟩
 simp -dsimp only [aqT,aqU,aqN,aqP,aqM,↓seqK,↓blkK,↓loopK,step,stepBin,eqB,Nat.reduceBEq,Nat.reduceBeqDiff,Nat.add_assoc nid,Nat.reduceAdd,reduceCtorEq,↓reduceIte,Nat.reduceLeDiff,Nat.reduceBneDiff,Option.toList,← Int.ofNat_tmod,← Int.ofNat_tdiv,Nat.reduceLT,z0,Int.cast_ofNat_Int,Int.reduceBEq,Int.reduceBNe,Int.reduceLT,Int.reduceLE,Int.reduceAdd,Int.reduceSub,Int.reduceMul,Int.reduceToNat,Int.reduceNeg,Int.reduceTMod,Int.reduceEq,not_false_eq_true,Int.reducePow,Int.reduceFDiv,Nat.reducePow,Nat.reduceSub,Nat.reduceMul,Nat.min_eq_left,Nat.reduceEqDiff,BEq.rfl,Int.tdiv_one,LN_succ,List.getD_cons_zero,List.getD_cons_succ,s1x]
 refine CallO.pure (isBin_c _ _) ?_
 have b49:isBinV ((UInt8.toNat 49:Nat):Int)=true:=by decide
 rw [b49]
 simp -dsimp only [aqT,aqU,aqN,aqP,aqM,↓seqK,↓blkK,↓loopK,step,stepBin,eqB,Nat.reduceBEq,Nat.reduceBeqDiff,Nat.add_assoc nid,Nat.reduceAdd,reduceCtorEq,↓reduceIte,Nat.reduceLeDiff,Nat.reduceBneDiff,Option.toList,← Int.ofNat_tmod,← Int.ofNat_tdiv,Nat.reduceLT,z0,Int.cast_ofNat_Int,Int.reduceBEq,Int.reduceBNe,Int.reduceLT,Int.reduceLE,Int.reduceAdd,Int.reduceSub,Int.reduceMul,Int.reduceToNat,Int.reduceNeg,Int.reduceTMod,Int.reduceEq,not_false_eq_true,Int.reducePow,Int.reduceFDiv,Nat.reducePow,Nat.reduceSub,Nat.reduceMul,Nat.min_eq_left,Nat.reduceEqDiff,BEq.rfl,Int.tdiv_one,LN_succ,List.getD_cons_zero,List.getD_cons_succ,s1x]
 refine ⟨by unfold inI64; omega,RetOK.pure (.inl rfl) rfl ?_⟩
 simp [retPV,over,keys,List.map_nil,List.map_cons,List.contains_cons,List.contains_nil,Bool.or_false,Bool.or_true,Bool.true_or,Bool.false_or,beq_self_eq_true,cond_true,cond_false,HeapCov,orNil,nilSz,onBlk,srcOf,getH_hit,getH_miss,getH.eq_1,getS_hit,getS_miss,getS.eq_1,BlkCov,MEq,PVCovs,PVCov,ColsEq,AColsEq,ACEq,ColEq.refl,liveIds,SlotsCov,List.all_nil,List.all_cons,List.any_nil,List.any_cons,List.nil_append,List.cons_append,inRange,apart,nilBlk,idS1,idS2,readAll,readRes,onAll,step,res,AX.val,List.drop_zero,List.drop_succ_cons,List.take_succ_cons,List.take_zero]
theorem yield_c (nl:Bool) (nid:Nat):ACall Try.prog 60 [.agg [w1x nl,.str [49]]] [] nid (.tup [.agg [.int .i64 1,.int .i64 2],.bool true,.int .i64 0]) []:=by
 refine acall_run c60 (by simp [a60]) ?_
 unfold w1x
 simp -dsimp only [a60,aqT,aqU,aqN,aqP,aqM,↓seqK,↓blkK,↓loopK,step,stepBin,eqB,Nat.reduceBEq,Nat.reduceBeqDiff,Nat.add_assoc nid,Nat.reduceAdd,reduceCtorEq,↓reduceIte,Nat.reduceLeDiff,Nat.reduceBneDiff,Option.toList,← Int.ofNat_tmod,← Int.ofNat_tdiv,Nat.reduceLT,z0,Int.cast_ofNat_Int,Int.reduceBEq,Int.reduceBNe,Int.reduceLT,Int.reduceLE,Int.reduceAdd,Int.reduceSub,Int.reduceMul,Int.reduceToNat,Int.reduceNeg,Int.reduceTMod,Int.reduceEq,not_false_eq_true,Int.reducePow,Int.reduceFDiv,Nat.reducePow,Nat.reduceSub,Nat.reduceMul,Nat.min_eq_left,Nat.reduceEqDiff,BEq.rfl,Int.tdiv_one,LN_succ]
 refine CallO.pure (checkWafer_c nl _) ?_
 simp -dsimp only [aqT,aqU,aqN,aqP,aqM,↓seqK,↓blkK,↓loopK,step,stepBin,eqB,Nat.reduceBEq,Nat.reduceBeqDiff,Nat.add_assoc nid,Nat.reduceAdd,reduceCtorEq,↓reduceIte,Nat.reduceLeDiff,Nat.reduceBneDiff,Option.toList,← Int.ofNat_tmod,← Int.ofNat_tdiv,Nat.reduceLT,z0,Int.cast_ofNat_Int,Int.reduceBEq,Int.reduceBNe,Int.reduceLT,Int.reduceLE,Int.reduceAdd,Int.reduceSub,Int.reduceMul,Int.reduceToNat,Int.reduceNeg,Int.reduceTMod,Int.reduceEq,not_false_eq_true,Int.reducePow,Int.reduceFDiv,Nat.reducePow,Nat.reduceSub,Nat.reduceMul,Nat.min_eq_left,Nat.reduceEqDiff,BEq.rfl,Int.tdiv_one,LN_succ]
 refine CallX.pure (places_c nl _) ?_
 simp -dsimp only [aqT,aqU,aqN,aqP,aqM,↓seqK,↓blkK,↓loopK,step,stepBin,eqB,Nat.reduceBEq,Nat.reduceBeqDiff,Nat.add_assoc nid,Nat.reduceAdd,reduceCtorEq,↓reduceIte,Nat.reduceLeDiff,Nat.reduceBneDiff,Option.toList,← Int.ofNat_tmod,← Int.ofNat_tdiv,Nat.reduceLT,z0,Int.cast_ofNat_Int,Int.reduceBEq,Int.reduceBNe,Int.reduceLT,Int.reduceLE,Int.reduceAdd,Int.reduceSub,Int.reduceMul,Int.reduceToNat,Int.reduceNeg,Int.reduceTMod,Int.reduceEq,not_false_eq_true,Int.reducePow,Int.reduceFDiv,Nat.reducePow,Nat.reduceSub,Nat.reduceMul,Nat.min_eq_left,Nat.reduceEqDiff,BEq.rfl,Int.tdiv_one,LN_succ]
 refine CallX.gave [nid+44] (fun nl'=>by
  simp only [lends,lend,aqT,aqU,aqN,aqP,aqM,↓seqK,↓blkK,↓loopK,step,stepBin,eqB,Nat.reduceBEq,Nat.reduceBeqDiff,Nat.add_assoc nid,Nat.reduceAdd,reduceCtorEq,↓reduceIte,Nat.reduceLeDiff,Nat.reduceBneDiff,Option.toList,← Int.ofNat_tmod,← Int.ofNat_tdiv,Nat.reduceLT,z0]
  exact share_c nl (nl' _) _) (by simp [getH]) ?_
 simp -dsimp only [aqT,aqU,aqN,aqP,aqM,↓seqK,↓blkK,↓loopK,step,stepBin,eqB,Nat.reduceBEq,Nat.reduceBeqDiff,Nat.add_assoc nid,Nat.reduceAdd,reduceCtorEq,↓reduceIte,Nat.reduceLeDiff,Nat.reduceBneDiff,Option.toList,← Int.ofNat_tmod,← Int.ofNat_tdiv,Nat.reduceLT,z0,Int.cast_ofNat_Int,Int.reduceBEq,Int.reduceBNe,Int.reduceLT,Int.reduceLE,Int.reduceAdd,Int.reduceSub,Int.reduceMul,Int.reduceToNat,Int.reduceNeg,Int.reduceTMod,Int.reduceEq,not_false_eq_true,Int.reducePow,Int.reduceFDiv,Nat.reducePow,Nat.reduceSub,Nat.reduceMul,Nat.min_eq_left,Nat.reduceEqDiff,BEq.rfl,Int.tdiv_one,LN_succ,kill]
 refine CallO.pure (frac12_c _) ?_
 simp -dsimp only [aqT,aqU,aqN,aqP,aqM,↓seqK,↓blkK,↓loopK,step,stepBin,eqB,Nat.reduceBEq,Nat.reduceBeqDiff,Nat.add_assoc nid,Nat.reduceAdd,reduceCtorEq,↓reduceIte,Nat.reduceLeDiff,Nat.reduceBneDiff,Option.toList,← Int.ofNat_tmod,← Int.ofNat_tdiv,Nat.reduceLT,z0,Int.cast_ofNat_Int,Int.reduceBEq,Int.reduceBNe,Int.reduceLT,Int.reduceLE,Int.reduceAdd,Int.reduceSub,Int.reduceMul,Int.reduceToNat,Int.reduceNeg,Int.reduceTMod,Int.reduceEq,not_false_eq_true,Int.reducePow,Int.reduceFDiv,Nat.reducePow,Nat.reduceSub,Nat.reduceMul,Nat.min_eq_left,Nat.reduceEqDiff,BEq.rfl,Int.tdiv_one,LN_succ]
 refine RetOK.go [] [] (.inl rfl) ?_
 simp [a60,retPV,over,keys,List.map_nil,List.map_cons,List.contains_cons,List.contains_nil,Bool.or_false,Bool.or_true,Bool.true_or,Bool.false_or,beq_self_eq_true,cond_true,cond_false,HeapCov,orNil,nilSz,onBlk,srcOf,getH_hit,getH_miss,getH.eq_1,getS_hit,getS_miss,getS.eq_1,BlkCov,MEq,PVCovs,PVCov,ColsEq,AColsEq,ACEq,ColEq.refl,liveIds,SlotsCov,List.all_nil,List.all_cons,List.any_nil,List.any_cons,List.nil_append,List.cons_append,inRange,apart,nilBlk,idS1,idS2,readAll,readRes,onAll,step,res,AX.val,List.drop_zero,List.drop_succ_cons,List.take_succ_cons,List.take_zero]
open Go.RowKit
theorem enough_c (id:Nat) (k v:Int) (b:Bool) (hk:(k=0∧v=1∧b=false)∨(k=1∧v=2∧b=false)∨(k=2∧v=4∧b=false)∨(k=3∧v=8∧b=true)) (nid:Nat) (h:id<nid) :
  ACall Try.prog 94 [.int .i64 k,.ptr id 0] [(id,some (.box 3 [.int .i64 3]))] nid (.bool b) []:=by
 obtain ⟨e1,e2,e3,e4,e5,e6,e7,e8,e9⟩:=id_all h
 have hv:IntKind.i64.wrap (1 * 2 ^ (min k.toNat IntKind.i64.bits))=v∧0≤k∧inI64 (v - 2)∧decide (3≤v - 2)=b:=by
  rcases hk with ⟨rfl,rfl,rfl⟩ | ⟨rfl,rfl,rfl⟩ | ⟨rfl,rfl,rfl⟩ | ⟨rfl,rfl,rfl⟩ <;> exact ⟨by decide,by decide,by unfold inI64; omega,by decide⟩
 obtain ⟨h1,h2,h3,h4⟩:=hv
 refine acall_run c94 (by simp [a94]) ?_
 simp -dsimp only [a94,aqT,aqU,aqN,aqP,aqM,↓seqK,↓blkK,↓loopK,step,stepBin,eqB,Nat.reduceBEq,Nat.reduceBeqDiff,Nat.add_assoc nid,Nat.reduceAdd,reduceCtorEq,↓reduceIte,Nat.reduceLeDiff,Nat.reduceBneDiff,Option.toList,← Int.ofNat_tmod,← Int.ofNat_tdiv,Nat.reduceLT,z0,e1,e2,e3,e4,e5,e6,e7,e8,e9,h1,h4]
 refine ⟨h2,h3,RetOK.same (.inl rfl) rfl ?_ ?_ ?_⟩ <;> simp [cvT,step,res,e1,e2,e3,e4,e5,e6,e7,e8,e9]
theorem least_c (id nid:Nat) (h:id<nid):ACall Try.prog 93 [.int .i64 0,.fn 94 [.ptr id 0]] [(id,some (.box 3 [.int .i64 3]))] nid (.int .i64 3) []:=by
 obtain ⟨e1,e2,e3,e4,e5,e6,e7,e8,e9⟩:=id_all h
 refine acall_run c93 (by simp [a93]) ?_
 simp -dsimp only [a93,aqT,aqU,aqN,aqP,aqM,↓seqK,↓blkK,↓loopK,step,stepBin,eqB,Nat.reduceBEq,Nat.reduceBeqDiff,Nat.add_assoc nid,Nat.reduceAdd,reduceCtorEq,↓reduceIte,Nat.reduceLeDiff,Nat.reduceBneDiff,Option.toList,← Int.ofNat_tmod,← Int.ofNat_tdiv,Nat.reduceLT,z0,e1,e2,e3,e4,e5,e6,e7,e8,e9]
 refine LP.rounds 5 ?_
 simp -dsimp only [aqT,aqU,aqN,aqP,aqM,↓seqK,↓blkK,↓loopK,step,stepBin,eqB,Nat.reduceBEq,Nat.reduceBeqDiff,Nat.add_assoc nid,Nat.reduceAdd,reduceCtorEq,↓reduceIte,Nat.reduceLeDiff,Nat.reduceBneDiff,Option.toList,← Int.ofNat_tmod,← Int.ofNat_tdiv,Nat.reduceLT,z0,Int.cast_ofNat_Int,Int.reduceBEq,Int.reduceBNe,Int.reduceLT,Int.reduceLE,Int.reduceAdd,Int.reduceSub,Int.reduceMul,Int.reduceToNat,Int.reduceNeg,Int.reduceTMod,Int.reduceEq,not_false_eq_true,Int.reducePow,Int.reduceFDiv,Nat.reducePow,Nat.reduceSub,Nat.reduceMul,Nat.min_eq_left,Nat.reduceEqDiff,BEq.rfl,Int.tdiv_one,LN_succ,e1,e2,e3,e4,e5,e6,e7,e8,e9]
 refine CallO.on (enough_c id 0 1 false (by simp) _ (by omega)) (subH_get (by simp only [aqT,aqU,aqN,aqP,aqM,↓seqK,↓blkK,↓loopK,step,stepBin,eqB,Nat.reduceBEq,Nat.reduceBeqDiff,Nat.add_assoc nid,Nat.reduceAdd,reduceCtorEq,↓reduceIte,Nat.reduceLeDiff,Nat.reduceBneDiff,Option.toList,← Int.ofNat_tmod,← Int.ofNat_tdiv,Nat.reduceLT,z0,e1,e2,e3,e4,e5,e6,e7,e8,e9])) ?_
 simp -dsimp only [aqT,aqU,aqN,aqP,aqM,↓seqK,↓blkK,↓loopK,step,stepBin,eqB,Nat.reduceBEq,Nat.reduceBeqDiff,Nat.add_assoc nid,Nat.reduceAdd,reduceCtorEq,↓reduceIte,Nat.reduceLeDiff,Nat.reduceBneDiff,Option.toList,← Int.ofNat_tmod,← Int.ofNat_tdiv,Nat.reduceLT,z0,Int.cast_ofNat_Int,Int.reduceBEq,Int.reduceBNe,Int.reduceLT,Int.reduceLE,Int.reduceAdd,Int.reduceSub,Int.reduceMul,Int.reduceToNat,Int.reduceNeg,Int.reduceTMod,Int.reduceEq,not_false_eq_true,Int.reducePow,Int.reduceFDiv,Nat.reducePow,Nat.reduceSub,Nat.reduceMul,Nat.min_eq_left,Nat.reduceEqDiff,BEq.rfl,Int.tdiv_one,LN_succ,e1,e2,e3,e4,e5,e6,e7,e8,e9]
 refine ⟨by unfold inI64; omega,CallO.on (enough_c id 1 2 false (by simp) _ (by omega)) (subH_get (by simp only [aqT,aqU,aqN,aqP,aqM,↓seqK,↓blkK,↓loopK,step,stepBin,eqB,Nat.reduceBEq,Nat.reduceBeqDiff,Nat.add_assoc nid,Nat.reduceAdd,reduceCtorEq,↓reduceIte,Nat.reduceLeDiff,Nat.reduceBneDiff,Option.toList,← Int.ofNat_tmod,← Int.ofNat_tdiv,Nat.reduceLT,z0,e1,e2,e3,e4,e5,e6,e7,e8,e9])) ?_⟩
 simp -dsimp only [aqT,aqU,aqN,aqP,aqM,↓seqK,↓blkK,↓loopK,step,stepBin,eqB,Nat.reduceBEq,Nat.reduceBeqDiff,Nat.add_assoc nid,Nat.reduceAdd,reduceCtorEq,↓reduceIte,Nat.reduceLeDiff,Nat.reduceBneDiff,Option.toList,← Int.ofNat_tmod,← Int.ofNat_tdiv,Nat.reduceLT,z0,Int.cast_ofNat_Int,Int.reduceBEq,Int.reduceBNe,Int.reduceLT,Int.reduceLE,Int.reduceAdd,Int.reduceSub,Int.reduceMul,Int.reduceToNat,Int.reduceNeg,Int.reduceTMod,Int.reduceEq,not_false_eq_true,Int.reducePow,Int.reduceFDiv,Nat.reducePow,Nat.reduceSub,Nat.reduceMul,Nat.min_eq_left,Nat.reduceEqDiff,BEq.rfl,Int.tdiv_one,LN_succ,e1,e2,e3,e4,e5,e6,e7,e8,e9]
 refine ⟨by unfold inI64; omega,CallO.on (enough_c id 2 4 false (by simp) _ (by omega)) (subH_get (by simp only [aqT,aqU,aqN,aqP,aqM,↓seqK,↓blkK,↓loopK,step,stepBin,eqB,Nat.reduceBEq,Nat.reduceBeqDiff,Nat.add_assoc nid,Nat.reduceAdd,reduceCtorEq,↓reduceIte,Nat.reduceLeDiff,Nat.reduceBneDiff,Option.toList,← Int.ofNat_tmod,← Int.ofNat_tdiv,Nat.reduceLT,z0,e1,e2,e3,e4,e5,e6,e7,e8,e9])) ?_⟩
 simp -dsimp only [aqT,aqU,aqN,aqP,aqM,↓seqK,↓blkK,↓loopK,step,stepBin,eqB,Nat.reduceBEq,Nat.reduceBeqDiff,Nat.add_assoc nid,Nat.reduceAdd,reduceCtorEq,↓reduceIte,Nat.reduceLeDiff,Nat.reduceBneDiff,Option.toList,← Int.ofNat_tmod,← Int.ofNat_tdiv,Nat.reduceLT,z0,Int.cast_ofNat_Int,Int.reduceBEq,Int.reduceBNe,Int.reduceLT,Int.reduceLE,Int.reduceAdd,Int.reduceSub,Int.reduceMul,Int.reduceToNat,Int.reduceNeg,Int.reduceTMod,Int.reduceEq,not_false_eq_true,Int.reducePow,Int.reduceFDiv,Nat.reducePow,Nat.reduceSub,Nat.reduceMul,Nat.min_eq_left,Nat.reduceEqDiff,BEq.rfl,Int.tdiv_one,LN_succ,e1,e2,e3,e4,e5,e6,e7,e8,e9]
 refine ⟨by unfold inI64; omega,CallO.on (enough_c id 3 8 true (by simp) _ (by omega)) (subH_get (by simp only [aqT,aqU,aqN,aqP,aqM,↓seqK,↓blkK,↓loopK,step,stepBin,eqB,Nat.reduceBEq,Nat.reduceBeqDiff,Nat.add_assoc nid,Nat.reduceAdd,reduceCtorEq,↓reduceIte,Nat.reduceLeDiff,Nat.reduceBneDiff,Option.toList,← Int.ofNat_tmod,← Int.ofNat_tdiv,Nat.reduceLT,z0,e1,e2,e3,e4,e5,e6,e7,e8,e9])) ?_⟩
 simp -dsimp only [aqT,aqU,aqN,aqP,aqM,↓seqK,↓blkK,↓loopK,step,stepBin,eqB,Nat.reduceBEq,Nat.reduceBeqDiff,Nat.add_assoc nid,Nat.reduceAdd,reduceCtorEq,↓reduceIte,Nat.reduceLeDiff,Nat.reduceBneDiff,Option.toList,← Int.ofNat_tmod,← Int.ofNat_tdiv,Nat.reduceLT,z0,Int.cast_ofNat_Int,Int.reduceBEq,Int.reduceBNe,Int.reduceLT,Int.reduceLE,Int.reduceAdd,Int.reduceSub,Int.reduceMul,Int.reduceToNat,Int.reduceNeg,Int.reduceTMod,Int.reduceEq,not_false_eq_true,Int.reducePow,Int.reduceFDiv,Nat.reducePow,Nat.reduceSub,Nat.reduceMul,Nat.min_eq_left,Nat.reduceEqDiff,BEq.rfl,Int.tdiv_one,LN_succ,e1,e2,e3,e4,e5,e6,e7,e8,e9]
 refine RetOK.same (.inl rfl) rfl ?_ ?_ ?_ <;> simp [cvT,step,res,e1,e2,e3,e4,e5,e6,e7,e8,e9]
def bitW (x:Int) (j:Nat):Int:=IntKind.i64.wrap ((BitVec.ofInt IntKind.i64.bits (x.fdiv (2 ^ min j IntKind.i64.bits)) &&& BitVec.ofInt IntKind.i64.bits 1).toNat:Int)
theorem number_c (x b2 b1 b0:Int) (s:List UInt8) (h2:bitW x 2=b2) (h1:bitW x 1=b1) (h0:bitW x 0=b0) (hb:(0≤b2∧b2≤1)∧(0≤b1∧b1≤1)∧(0≤b0∧b0≤1))
  (hs:s=[UInt8.ofNat (IntKind.u8.wrap (48+b2)).toNat,UInt8.ofNat (IntKind.u8.wrap (48+b1)).toNat,UInt8.ofNat (IntKind.u8.wrap (48+b0)).toNat]) (nid:Nat) :
  ACall Try.prog 95 [.int .i64 x,.int .i64 3] [] nid (.str s) []:=by
 unfold bitW at h2 h1 h0
 refine acall_run c95 (by simp [a95]) ?_
 simp -dsimp only [a95,aqT,aqU,aqN,aqP,aqM,↓seqK,↓blkK,↓loopK,step,stepBin,eqB,Nat.reduceBEq,Nat.reduceBeqDiff,Nat.add_assoc nid,Nat.reduceAdd,reduceCtorEq,↓reduceIte,Nat.reduceLeDiff,Nat.reduceBneDiff,Option.toList,← Int.ofNat_tmod,← Int.ofNat_tdiv,Nat.reduceLT,z0,Int.cast_ofNat_Int,Int.reduceBEq,Int.reduceBNe,Int.reduceLT,Int.reduceLE,Int.reduceAdd,Int.reduceSub,Int.reduceMul,Int.reduceToNat,Int.reduceNeg,Int.reduceTMod,Int.reduceEq,not_false_eq_true,Int.reducePow,Int.reduceFDiv,Nat.reducePow,Nat.reduceSub,Nat.reduceMul,Nat.min_eq_left,Nat.reduceEqDiff,BEq.rfl,Int.tdiv_one,LN_succ]
 refine ⟨by unfold inI64; omega,LP.rounds 5 ?_⟩
 simp -dsimp only [aqT,aqU,aqN,aqP,aqM,↓seqK,↓blkK,↓loopK,step,stepBin,eqB,Nat.reduceBEq,Nat.reduceBeqDiff,Nat.add_assoc nid,Nat.reduceAdd,reduceCtorEq,↓reduceIte,Nat.reduceLeDiff,Nat.reduceBneDiff,Option.toList,← Int.ofNat_tmod,← Int.ofNat_tdiv,Nat.reduceLT,z0,Int.cast_ofNat_Int,Int.reduceBEq,Int.reduceBNe,Int.reduceLT,Int.reduceLE,Int.reduceAdd,Int.reduceSub,Int.reduceMul,Int.reduceToNat,Int.reduceNeg,Int.reduceTMod,Int.reduceEq,not_false_eq_true,Int.reducePow,Int.reduceFDiv,Nat.reducePow,Nat.reduceSub,Nat.reduceMul,Nat.min_eq_left,Nat.reduceEqDiff,BEq.rfl,Int.tdiv_one,LN_succ]
 rw [h2,h1,h0]
 obtain ⟨⟨a1,a2⟩,⟨a3,a4⟩,a5,a6⟩:=hb
 refine ⟨by unfold inI64; omega,by unfold inI64; omega,by unfold inI64; omega,by unfold inI64; omega,by unfold inI64; omega,by unfold inI64; omega,RetOK.pure (.inl rfl) rfl ?_⟩
 subst hs
 simp [cvT,step,res,List.range_succ]
theorem netsFault_c (nid:Nat):ACall Try.prog 92 [.int .i64 3] [] nid (.int .i64 0) []:=by
 have ho:outB 3 1 100=false:=by decide
 refine acall_run c92 (by simp [a92]) ?_
 simp -dsimp only [a92,aqT,aqU,aqN,aqP,aqM,↓seqK,↓blkK,↓loopK,step,stepBin,eqB,Nat.reduceBEq,Nat.reduceBeqDiff,Nat.add_assoc nid,Nat.reduceAdd,reduceCtorEq,↓reduceIte,Nat.reduceLeDiff,Nat.reduceBneDiff,Option.toList,← Int.ofNat_tmod,← Int.ofNat_tdiv,Nat.reduceLT,z0,Int.cast_ofNat_Int,Int.reduceBEq,Int.reduceBNe,Int.reduceLT,Int.reduceLE,Int.reduceAdd,Int.reduceSub,Int.reduceMul,Int.reduceToNat,Int.reduceNeg,Int.reduceTMod,Int.reduceEq,not_false_eq_true,Int.reducePow,Int.reduceFDiv,Nat.reducePow,Nat.reduceSub,Nat.reduceMul,Nat.min_eq_left,Nat.reduceEqDiff,BEq.rfl,Int.tdiv_one,LN_succ]
 refine CallO.pure (out_c _ _ _ _) ?_
 rw [ho]
 simp -dsimp only [aqT,aqU,aqN,aqP,aqM,↓seqK,↓blkK,↓loopK,step,stepBin,eqB,Nat.reduceBEq,Nat.reduceBeqDiff,Nat.add_assoc nid,Nat.reduceAdd,reduceCtorEq,↓reduceIte,Nat.reduceLeDiff,Nat.reduceBneDiff,Option.toList,← Int.ofNat_tmod,← Int.ofNat_tdiv,Nat.reduceLT,z0,Int.cast_ofNat_Int,Int.reduceBEq,Int.reduceBNe,Int.reduceLT,Int.reduceLE,Int.reduceAdd,Int.reduceSub,Int.reduceMul,Int.reduceToNat,Int.reduceNeg,Int.reduceTMod,Int.reduceEq,not_false_eq_true,Int.reducePow,Int.reduceFDiv,Nat.reducePow,Nat.reduceSub,Nat.reduceMul,Nat.min_eq_left,Nat.reduceEqDiff,BEq.rfl,Int.tdiv_one,LN_succ]
 refine RetOK.pure (.inl rfl) rfl ?_
 simp [cvT,step,res]
def vecs:List (List UInt8):=[[48,48,48],[48,49,49],[49,48,49]]
theorem turned_c (nl:Bool) (nid:Nat):ACall Try.prog 96 [.lit nl 3 [.s fun i=>[[48,48,49],[48,49,48],[48,49,49]].getD i []],.int .i64 3] [] nid (.sl nid 0 3) [(nid,some (.arr 9 3 [.s fun i=>vecs.getD i []]))]:=by
 refine acall_run c96 (by simp [a96]) ?_
 simp -dsimp only [a96,aqT,aqU,aqN,aqP,aqM,↓seqK,↓blkK,↓loopK,step,stepBin,eqB,Nat.reduceBEq,Nat.reduceBeqDiff,Nat.add_assoc nid,Nat.reduceAdd,reduceCtorEq,↓reduceIte,Nat.reduceLeDiff,Nat.reduceBneDiff,Option.toList,← Int.ofNat_tmod,← Int.ofNat_tdiv,Nat.reduceLT,z0,Int.cast_ofNat_Int,Int.reduceBEq,Int.reduceBNe,Int.reduceLT,Int.reduceLE,Int.reduceAdd,Int.reduceSub,Int.reduceMul,Int.reduceToNat,Int.reduceNeg,Int.reduceTMod,Int.reduceEq,not_false_eq_true,Int.reducePow,Int.reduceFDiv,Nat.reducePow,Nat.reduceSub,Nat.reduceMul,Nat.min_eq_left,Nat.reduceEqDiff,BEq.rfl,Int.tdiv_one,LN_succ]
 refine LP.rounds 5 ?_
 simp -dsimp only [aqT,aqU,aqN,aqP,aqM,↓seqK,↓blkK,↓loopK,step,stepBin,eqB,Nat.reduceBEq,Nat.reduceBeqDiff,Nat.add_assoc nid,Nat.reduceAdd,reduceCtorEq,↓reduceIte,Nat.reduceLeDiff,Nat.reduceBneDiff,Option.toList,← Int.ofNat_tmod,← Int.ofNat_tdiv,Nat.reduceLT,z0,Int.cast_ofNat_Int,Int.reduceBEq,Int.reduceBNe,Int.reduceLT,Int.reduceLE,Int.reduceAdd,Int.reduceSub,Int.reduceMul,Int.reduceToNat,Int.reduceNeg,Int.reduceTMod,Int.reduceEq,not_false_eq_true,Int.reducePow,Int.reduceFDiv,Nat.reducePow,Nat.reduceSub,Nat.reduceMul,Nat.min_eq_left,Nat.reduceEqDiff,BEq.rfl,Int.tdiv_one,LN_succ]
 refine LP.rounds 5 ?_
 simp -dsimp only [aqT,aqU,aqN,aqP,aqM,↓seqK,↓blkK,↓loopK,step,stepBin,eqB,Nat.reduceBEq,Nat.reduceBeqDiff,Nat.add_assoc nid,Nat.reduceAdd,reduceCtorEq,↓reduceIte,Nat.reduceLeDiff,Nat.reduceBneDiff,Option.toList,← Int.ofNat_tmod,← Int.ofNat_tdiv,Nat.reduceLT,z0,Int.cast_ofNat_Int,Int.reduceBEq,Int.reduceBNe,Int.reduceLT,Int.reduceLE,Int.reduceAdd,Int.reduceSub,Int.reduceMul,Int.reduceToNat,Int.reduceNeg,Int.reduceTMod,Int.reduceEq,not_false_eq_true,Int.reducePow,Int.reduceFDiv,Nat.reducePow,Nat.reduceSub,Nat.reduceMul,Nat.min_eq_left,Nat.reduceEqDiff,BEq.rfl,Int.tdiv_one,LN_succ,Col.const,List.getD_cons_zero,List.getD_cons_succ]
 refine ⟨by unfold inI64; omega,by unfold inI64; omega,by unfold inI64; omega,by unfold inI64; omega,LP.rounds 5 ?_⟩
 simp -dsimp only [aqT,aqU,aqN,aqP,aqM,↓seqK,↓blkK,↓loopK,step,stepBin,eqB,Nat.reduceBEq,Nat.reduceBeqDiff,Nat.add_assoc nid,Nat.reduceAdd,reduceCtorEq,↓reduceIte,Nat.reduceLeDiff,Nat.reduceBneDiff,Option.toList,← Int.ofNat_tmod,← Int.ofNat_tdiv,Nat.reduceLT,z0,Int.cast_ofNat_Int,Int.reduceBEq,Int.reduceBNe,Int.reduceLT,Int.reduceLE,Int.reduceAdd,Int.reduceSub,Int.reduceMul,Int.reduceToNat,Int.reduceNeg,Int.reduceTMod,Int.reduceEq,not_false_eq_true,Int.reducePow,Int.reduceFDiv,Nat.reducePow,Nat.reduceSub,Nat.reduceMul,Nat.min_eq_left,Nat.reduceEqDiff,BEq.rfl,Int.tdiv_one,LN_succ,Col.const,List.getD_cons_zero,List.getD_cons_succ]
 refine ⟨by unfold inI64; omega,by unfold inI64; omega,by unfold inI64; omega,by unfold inI64; omega,LP.rounds 5 ?_⟩
 simp -dsimp only [aqT,aqU,aqN,aqP,aqM,↓seqK,↓blkK,↓loopK,step,stepBin,eqB,Nat.reduceBEq,Nat.reduceBeqDiff,Nat.add_assoc nid,Nat.reduceAdd,reduceCtorEq,↓reduceIte,Nat.reduceLeDiff,Nat.reduceBneDiff,Option.toList,← Int.ofNat_tmod,← Int.ofNat_tdiv,Nat.reduceLT,z0,Int.cast_ofNat_Int,Int.reduceBEq,Int.reduceBNe,Int.reduceLT,Int.reduceLE,Int.reduceAdd,Int.reduceSub,Int.reduceMul,Int.reduceToNat,Int.reduceNeg,Int.reduceTMod,Int.reduceEq,not_false_eq_true,Int.reducePow,Int.reduceFDiv,Nat.reducePow,Nat.reduceSub,Nat.reduceMul,Nat.min_eq_left,Nat.reduceEqDiff,BEq.rfl,Int.tdiv_one,LN_succ,Col.const,List.getD_cons_zero,List.getD_cons_succ]
 refine ⟨by unfold inI64; omega,by unfold inI64; omega,by unfold inI64; omega,by unfold inI64; omega,RetOK.go [(nid,nid+768)] [] (.inl rfl) ?_⟩
 simp [a96,cvT,step,res,-List.getD_eq_getElem?_getD]
 trace_state
 refine ColEq.s fun i hi=>?_
 have:i=0∨i=1∨i=2:=by omega
 rcases this with rfl | rfl | rfl <;> decide
theorem counting_c (nid:Nat):ACall Try.prog 72 [.int .i64 3] [] nid (.tup [.sl nid 0 3,.int .i64 0]) [(nid,some (.arr 9 3 [.s fun i=>vecs.getD i []]))]:=by
 refine acall_run c72 (by simp [a72]) ?_
 simp -dsimp only [a72,aqT,aqU,aqN,aqP,aqM,↓seqK,↓blkK,↓loopK,step,stepBin,eqB,Nat.reduceBEq,Nat.reduceBeqDiff,Nat.add_assoc nid,Nat.reduceAdd,reduceCtorEq,↓reduceIte,Nat.reduceLeDiff,Nat.reduceBneDiff,Option.toList,← Int.ofNat_tmod,← Int.ofNat_tdiv,Nat.reduceLT,z0,Int.cast_ofNat_Int,Int.reduceBEq,Int.reduceBNe,Int.reduceLT,Int.reduceLE,Int.reduceAdd,Int.reduceSub,Int.reduceMul,Int.reduceToNat,Int.reduceNeg,Int.reduceTMod,Int.reduceEq,not_false_eq_true,Int.reducePow,Int.reduceFDiv,Nat.reducePow,Nat.reduceSub,Nat.reduceMul,Nat.min_eq_left,Nat.reduceEqDiff,BEq.rfl,Int.tdiv_one,LN_succ]
 refine CallO.pure (netsFault_c _) ?_
 simp -dsimp only [aqT,aqU,aqN,aqP,aqM,↓seqK,↓blkK,↓loopK,step,stepBin,eqB,Nat.reduceBEq,Nat.reduceBeqDiff,Nat.add_assoc nid,Nat.reduceAdd,reduceCtorEq,↓reduceIte,Nat.reduceLeDiff,Nat.reduceBneDiff,Option.toList,← Int.ofNat_tmod,← Int.ofNat_tdiv,Nat.reduceLT,z0,Int.cast_ofNat_Int,Int.reduceBEq,Int.reduceBNe,Int.reduceLT,Int.reduceLE,Int.reduceAdd,Int.reduceSub,Int.reduceMul,Int.reduceToNat,Int.reduceNeg,Int.reduceTMod,Int.reduceEq,not_false_eq_true,Int.reducePow,Int.reduceFDiv,Nat.reducePow,Nat.reduceSub,Nat.reduceMul,Nat.min_eq_left,Nat.reduceEqDiff,BEq.rfl,Int.tdiv_one,LN_succ]
 refine CallO.on (least_c nid _ (by omega)) (subH_get (by simp only [aqT,aqU,aqN,aqP,aqM,↓seqK,↓blkK,↓loopK,step,stepBin,eqB,Nat.reduceBEq,Nat.reduceBeqDiff,Nat.add_assoc nid,Nat.reduceAdd,reduceCtorEq,↓reduceIte,Nat.reduceLeDiff,Nat.reduceBneDiff,Option.toList,← Int.ofNat_tmod,← Int.ofNat_tdiv,Nat.reduceLT,z0])) ?_
 simp -dsimp only [aqT,aqU,aqN,aqP,aqM,↓seqK,↓blkK,↓loopK,step,stepBin,eqB,Nat.reduceBEq,Nat.reduceBeqDiff,Nat.add_assoc nid,Nat.reduceAdd,reduceCtorEq,↓reduceIte,Nat.reduceLeDiff,Nat.reduceBneDiff,Option.toList,← Int.ofNat_tmod,← Int.ofNat_tdiv,Nat.reduceLT,z0,Int.cast_ofNat_Int,Int.reduceBEq,Int.reduceBNe,Int.reduceLT,Int.reduceLE,Int.reduceAdd,Int.reduceSub,Int.reduceMul,Int.reduceToNat,Int.reduceNeg,Int.reduceTMod,Int.reduceEq,not_false_eq_true,Int.reducePow,Int.reduceFDiv,Nat.reducePow,Nat.reduceSub,Nat.reduceMul,Nat.min_eq_left,Nat.reduceEqDiff,BEq.rfl,Int.tdiv_one,LN_succ]
 refine LP.rounds 5 ?_
 simp -dsimp only [aqT,aqU,aqN,aqP,aqM,↓seqK,↓blkK,↓loopK,step,stepBin,eqB,Nat.reduceBEq,Nat.reduceBeqDiff,Nat.add_assoc nid,Nat.reduceAdd,reduceCtorEq,↓reduceIte,Nat.reduceLeDiff,Nat.reduceBneDiff,Option.toList,← Int.ofNat_tmod,← Int.ofNat_tdiv,Nat.reduceLT,z0,Int.cast_ofNat_Int,Int.reduceBEq,Int.reduceBNe,Int.reduceLT,Int.reduceLE,Int.reduceAdd,Int.reduceSub,Int.reduceMul,Int.reduceToNat,Int.reduceNeg,Int.reduceTMod,Int.reduceEq,not_false_eq_true,Int.reducePow,Int.reduceFDiv,Nat.reducePow,Nat.reduceSub,Nat.reduceMul,Nat.min_eq_left,Nat.reduceEqDiff,BEq.rfl,Int.tdiv_one,LN_succ]
 refine ⟨by unfold inI64; omega,CallO.pure (number_c 1 0 0 1 [48,48,49] (by decide) (by decide) (by decide) (by omega) (by decide) _) ?_⟩
 simp -dsimp only [aqT,aqU,aqN,aqP,aqM,↓seqK,↓blkK,↓loopK,step,stepBin,eqB,Nat.reduceBEq,Nat.reduceBeqDiff,Nat.add_assoc nid,Nat.reduceAdd,reduceCtorEq,↓reduceIte,Nat.reduceLeDiff,Nat.reduceBneDiff,Option.toList,← Int.ofNat_tmod,← Int.ofNat_tdiv,Nat.reduceLT,z0,Int.cast_ofNat_Int,Int.reduceBEq,Int.reduceBNe,Int.reduceLT,Int.reduceLE,Int.reduceAdd,Int.reduceSub,Int.reduceMul,Int.reduceToNat,Int.reduceNeg,Int.reduceTMod,Int.reduceEq,not_false_eq_true,Int.reducePow,Int.reduceFDiv,Nat.reducePow,Nat.reduceSub,Nat.reduceMul,Nat.min_eq_left,Nat.reduceEqDiff,BEq.rfl,Int.tdiv_one,LN_succ]
 refine ⟨by unfold inI64; omega,by unfold inI64; omega,CallO.pure (number_c 2 0 1 0 [48,49,48] (by decide) (by decide) (by decide) (by omega) (by decide) _) ?_⟩
 simp -dsimp only [aqT,aqU,aqN,aqP,aqM,↓seqK,↓blkK,↓loopK,step,stepBin,eqB,Nat.reduceBEq,Nat.reduceBeqDiff,Nat.add_assoc nid,Nat.reduceAdd,reduceCtorEq,↓reduceIte,Nat.reduceLeDiff,Nat.reduceBneDiff,Option.toList,← Int.ofNat_tmod,← Int.ofNat_tdiv,Nat.reduceLT,z0,Int.cast_ofNat_Int,Int.reduceBEq,Int.reduceBNe,Int.reduceLT,Int.reduceLE,Int.reduceAdd,Int.reduceSub,Int.reduceMul,Int.reduceToNat,Int.reduceNeg,Int.reduceTMod,Int.reduceEq,not_false_eq_true,Int.reducePow,Int.reduceFDiv,Nat.reducePow,Nat.reduceSub,Nat.reduceMul,Nat.min_eq_left,Nat.reduceEqDiff,BEq.rfl,Int.tdiv_one,LN_succ]
 refine ⟨by unfold inI64; omega,by unfold inI64; omega,CallO.pure (number_c 3 0 1 1 [48,49,49] (by decide) (by decide) (by decide) (by omega) (by decide) _) ?_⟩
 simp -dsimp only [aqT,aqU,aqN,aqP,aqM,↓seqK,↓blkK,↓loopK,step,stepBin,eqB,Nat.reduceBEq,Nat.reduceBeqDiff,Nat.add_assoc nid,Nat.reduceAdd,reduceCtorEq,↓reduceIte,Nat.reduceLeDiff,Nat.reduceBneDiff,Option.toList,← Int.ofNat_tmod,← Int.ofNat_tdiv,Nat.reduceLT,z0,Int.cast_ofNat_Int,Int.reduceBEq,Int.reduceBNe,Int.reduceLT,Int.reduceLE,Int.reduceAdd,Int.reduceSub,Int.reduceMul,Int.reduceToNat,Int.reduceNeg,Int.reduceTMod,Int.reduceEq,not_false_eq_true,Int.reducePow,Int.reduceFDiv,Nat.reducePow,Nat.reduceSub,Nat.reduceMul,Nat.min_eq_left,Nat.reduceEqDiff,BEq.rfl,Int.tdiv_one,LN_succ]
 refine ⟨by unfold inI64; omega,CallO.gave [nid+196] (fun nl'=>by
  simp only [lends,lend,aqT,aqU,aqN,aqP,aqM,↓seqK,↓blkK,↓loopK,step,stepBin,eqB,Nat.reduceBEq,Nat.reduceBeqDiff,Nat.add_assoc nid,Nat.reduceAdd,reduceCtorEq,↓reduceIte,Nat.reduceLeDiff,Nat.reduceBneDiff,Option.toList,← Int.ofNat_tmod,← Int.ofNat_tdiv,Nat.reduceLT,z0]
  exact (turned_c (nl' _) _).args ⟨⟨rfl,rfl,ColEq.s fun i hi=>by
   have:i=0∨i=1∨i=2:=by omega
   rcases this with rfl | rfl | rfl <;> rfl,trivial⟩,rfl,trivial⟩) (fun id hid=>by simp only [List.mem_singleton] at hid; subst hid; simp only [aqT,aqU,aqN,aqP,aqM,↓seqK,↓blkK,↓loopK,step,stepBin,eqB,Nat.reduceBEq,Nat.reduceBeqDiff,Nat.add_assoc nid,Nat.reduceAdd,reduceCtorEq,↓reduceIte,Nat.reduceLeDiff,Nat.reduceBneDiff,Option.toList,← Int.ofNat_tmod,← Int.ofNat_tdiv,Nat.reduceLT,z0]) ?_⟩
 simp -dsimp only [aqT,aqU,aqN,aqP,aqM,↓seqK,↓blkK,↓loopK,step,stepBin,eqB,Nat.reduceBEq,Nat.reduceBeqDiff,Nat.add_assoc nid,Nat.reduceAdd,reduceCtorEq,↓reduceIte,Nat.reduceLeDiff,Nat.reduceBneDiff,Option.toList,← Int.ofNat_tmod,← Int.ofNat_tdiv,Nat.reduceLT,z0,Int.cast_ofNat_Int,Int.reduceBEq,Int.reduceBNe,Int.reduceLT,Int.reduceLE,Int.reduceAdd,Int.reduceSub,Int.reduceMul,Int.reduceToNat,Int.reduceNeg,Int.reduceTMod,Int.reduceEq,not_false_eq_true,Int.reducePow,Int.reduceFDiv,Nat.reducePow,Nat.reduceSub,Nat.reduceMul,Nat.min_eq_left,Nat.reduceEqDiff,BEq.rfl,Int.tdiv_one,LN_succ,kill]
 refine RetOK.go [(nid,nid+224)] [] (.inl rfl) ?_
 simp [a72,cvT,step,res]
open Go.RowKit
theorem isState_c (n:Int) (nid:Nat):ACall Try.prog 90 [.int .i64 n] [] nid (.bool (!outB n 0 15)) []:=by
 refine acall_run c90 (by simp [a90]) ?_
 simp -dsimp only [a90,aqT,aqU,aqN,aqP,aqM,↓seqK,↓blkK,↓loopK,step,stepBin,eqB,Nat.reduceBEq,Nat.reduceBeqDiff,Nat.add_assoc nid,Nat.reduceAdd,reduceCtorEq,↓reduceIte,Nat.reduceLeDiff,Nat.reduceBneDiff,Option.toList,← Int.ofNat_tmod,← Int.ofNat_tdiv,Nat.reduceLT,z0]
 refine CallO.pure (out_c _ _ _ _) ?_
 simp -dsimp only [aqT,aqU,aqN,aqP,aqM,↓seqK,↓blkK,↓loopK,step,stepBin,eqB,Nat.reduceBEq,Nat.reduceBeqDiff,Nat.add_assoc nid,Nat.reduceAdd,reduceCtorEq,↓reduceIte,Nat.reduceLeDiff,Nat.reduceBneDiff,Option.toList,← Int.ofNat_tmod,← Int.ofNat_tdiv,Nat.reduceLT,z0]
 refine RetOK.pure (.inl rfl) rfl ?_
 simp [cvT,step,res]
theorem pathP (s t nid:Nat) (hs:s<16) (ht:t<16):ACall Try.prog 71 [.int .i64 (s:Nat),.int .i64 (t:Nat)] [] nid (.tup [.str (pathV s t),.int .i64 0]) []:=by
 have h1:outB (s:Nat) 0 15=false:=by unfold outB; simp; omega
 have h2:outB (t:Nat) 0 15=false:=by unfold outB; simp; omega
 refine acall_run c71 (by simp [a71]) ?_
 simp -dsimp only [a71,aqT,aqU,aqN,aqP,aqM,↓seqK,↓blkK,↓loopK,step,stepBin,eqB,Nat.reduceBEq,Nat.reduceBeqDiff,Nat.add_assoc nid,Nat.reduceAdd,reduceCtorEq,↓reduceIte,Nat.reduceLeDiff,Nat.reduceBneDiff,Option.toList,← Int.ofNat_tmod,← Int.ofNat_tdiv,Nat.reduceLT,z0]
 refine CallO.pure (isState_c _ _) ?_
 rw [h1]
 simp -dsimp only [aqT,aqU,aqN,aqP,aqM,↓seqK,↓blkK,↓loopK,step,stepBin,eqB,Nat.reduceBEq,Nat.reduceBeqDiff,Nat.add_assoc nid,Nat.reduceAdd,reduceCtorEq,↓reduceIte,Nat.reduceLeDiff,Nat.reduceBneDiff,Option.toList,← Int.ofNat_tmod,← Int.ofNat_tdiv,Nat.reduceLT,z0,Bool.not_false,Bool.not_true]
 refine CallO.pure (isState_c _ _) ?_
 rw [h2]
 simp -dsimp only [aqT,aqU,aqN,aqP,aqM,↓seqK,↓blkK,↓loopK,step,stepBin,eqB,Nat.reduceBEq,Nat.reduceBeqDiff,Nat.add_assoc nid,Nat.reduceAdd,reduceCtorEq,↓reduceIte,Nat.reduceLeDiff,Nat.reduceBneDiff,Option.toList,← Int.ofNat_tmod,← Int.ofNat_tdiv,Nat.reduceLT,z0,Bool.not_false,Bool.not_true]
 refine CallO.pure (path_st s t _ hs) ?_
 simp -dsimp only [aqT,aqU,aqN,aqP,aqM,↓seqK,↓blkK,↓loopK,step,stepBin,eqB,Nat.reduceBEq,Nat.reduceBeqDiff,Nat.add_assoc nid,Nat.reduceAdd,reduceCtorEq,↓reduceIte,Nat.reduceLeDiff,Nat.reduceBneDiff,Option.toList,← Int.ofNat_tmod,← Int.ofNat_tdiv,Nat.reduceLT,z0]
 refine RetOK.pure (.inl rfl) rfl ?_
 simp [cvT,step,res]
theorem path41:pathV 4 1=[49,49,48]:=by decide
theorem path41_c (nid:Nat):ACall Try.prog 71 [.int .i64 4,.int .i64 1] [] nid (.tup [.str [49,49,48],.int .i64 0]) []:=by
 have h:=pathP 4 1 nid (by omega) (by omega)
 rw [path41] at h
 exact h
theorem e110:(([49,49,48]:List UInt8)==[49,49,48])=true:=by decide
theorem ready_c (nid:Nat):ACall Try.prog 33 [] [] nid (.bool true) []:=by
 refine acall_run c33 (by simp [a33]) ?_
 simp -dsimp only [a33,aqT,aqU,aqN,aqP,aqM,↓seqK,↓blkK,↓loopK,step,stepBin,eqB,Nat.reduceBEq,Nat.reduceBeqDiff,Nat.add_assoc nid,Nat.reduceAdd,reduceCtorEq,↓reduceIte,Nat.reduceLeDiff,Nat.reduceBneDiff,Option.toList,← Int.ofNat_tmod,← Int.ofNat_tdiv,Nat.reduceLT,z0]
 refine CallO.pure (path41_c _) ?_
 simp -dsimp only [aqT,aqU,aqN,aqP,aqM,↓seqK,↓blkK,↓loopK,step,stepBin,eqB,Nat.reduceBEq,Nat.reduceBeqDiff,Nat.add_assoc nid,Nat.reduceAdd,reduceCtorEq,↓reduceIte,Nat.reduceLeDiff,Nat.reduceBneDiff,Option.toList,← Int.ofNat_tmod,← Int.ofNat_tdiv,Nat.reduceLT,z0]
 refine CallO.pure (counting_c _) ?_
 simp -dsimp only [aqT,aqU,aqN,aqP,aqM,↓seqK,↓blkK,↓loopK,step,stepBin,eqB,Nat.reduceBEq,Nat.reduceBeqDiff,Nat.add_assoc nid,Nat.reduceAdd,reduceCtorEq,↓reduceIte,Nat.reduceLeDiff,Nat.reduceBneDiff,Option.toList,← Int.ofNat_tmod,← Int.ofNat_tdiv,Nat.reduceLT,z0]
 refine CallO.gave [nid+52] (fun nl'=>by
  simp only [lends,lend,aqT,aqU,aqN,aqP,aqM,↓seqK,↓blkK,↓loopK,step,stepBin,eqB,Nat.reduceBEq,Nat.reduceBeqDiff,Nat.add_assoc nid,Nat.reduceAdd,reduceCtorEq,↓reduceIte,Nat.reduceLeDiff,Nat.reduceBneDiff,Option.toList,← Int.ofNat_tmod,← Int.ofNat_tdiv,Nat.reduceLT,z0]
  exact yield_c (nl' _) _) (by simp [getH]) ?_
 simp -dsimp only [aqT,aqU,aqN,aqP,aqM,↓seqK,↓blkK,↓loopK,step,stepBin,eqB,Nat.reduceBEq,Nat.reduceBeqDiff,Nat.add_assoc nid,Nat.reduceAdd,reduceCtorEq,↓reduceIte,Nat.reduceLeDiff,Nat.reduceBneDiff,Option.toList,← Int.ofNat_tmod,← Int.ofNat_tdiv,Nat.reduceLT,z0,kill,e110,-seqK]
 refine S2.yes (by decide) ?_
 simp -dsimp only [aqT,aqU,aqN,aqP,aqM,↓seqK,↓blkK,↓loopK,step,stepBin,eqB,Nat.reduceBEq,Nat.reduceBeqDiff,Nat.add_assoc nid,Nat.reduceAdd,reduceCtorEq,↓reduceIte,Nat.reduceLeDiff,Nat.reduceBneDiff,Option.toList,← Int.ofNat_tmod,← Int.ofNat_tdiv,Nat.reduceLT,z0,-seqK]
 refine RetOK.pure (.inl rfl) rfl ?_
 simp [cvT,step,res]
end Go.Proofs.Yteepabfepfehgaa
