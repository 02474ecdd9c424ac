/-
 A wafer with each place made anew out of another one's,by the abstract machine.
-/
import Derived.Test.YteepabfepfehgaaKWC5
import Derived.Test.YteepabfepfehgaaKWC3
import Derived.Test.YteepabfepfehgaaKWC4
set_option linter.unusedVariables false
set_option linter.unusedSimpArgs false
set_option maxRecDepth 100000
namespace Go.Proofs.Yteepabfepfehgaa
open Go.RowKit
def okTo (R T:List (List UInt8)) (y:Nat):Bool:=((List.zipWith okR R T).take y).all id
def okAt (r t:List UInt8) (x:Nat):Bool:=((List.zipWith mergeO r t).take x).all id
theorem okTo_succ {R T:List (List UInt8)} {y:Nat} (h1:y<R.length) (h2:y<T.length):okTo R T (y+1)=(okTo R T y && okR (R.getD y []) (T.getD y [])):=by
 unfold okTo
 rw [zip_take okR [] [] h1 h2,List.all_append]
 simp
theorem okAt_succ {r t:List UInt8} {x:Nat} (h1:x<r.length) (h2:x<t.length):okAt r t (x+1)=(okAt r t x && mergeO (r.getD x 0) (t.getD x 0)):=by
 unfold okAt
 rw [zip_take mergeO 0 0 h1 h2,List.all_append]
 simp
theorem okAt_all {r t:List UInt8} (h:r.length=t.length):okAt r t r.length=okR r t:=by
 unfold okAt okR
 rw [List.take_of_length_le (by rw [zip_len _ h]; omega)]
theorem okTo_all {R T:List (List UInt8)} (h:R.length=T.length):okTo R T R.length=okRs R T:=by
 unfold okTo okRs
 rw [List.take_of_length_le (by rw [zip_len _ h]; omega)]
theorem mergeRs_take {R T:List (List UInt8)} {y:Nat} (h1:y<R.length) (h2:y<T.length):(mergeRs R T).take (y+1)=(mergeRs R T).take y++[mergeR (R.getD y []) (T.getD y [])]:=zip_take mergeR [] [] h1 h2
theorem setD_byte {l:List UInt8} {k:Nat} (hk:k<l.length) (b:UInt8):(fun j=>if j=k then ((b.toNat:Nat):Int) else (((l.getD j 0).toNat:Nat):Int))=fun j=>((((l.set k b).getD j 0).toNat:Nat):Int):=by
 funext j
 simp only [List.getD_eq_getElem?_getD,List.getElem?_set]
 by_cases h:j=k
 ·subst h; simp [hk]
 ·rw [if_neg h,if_neg (fun e=>h e.symm)]
theorem bytes_back2 {l:List UInt8} {n:Nat} (h:l.length=n):(List.range n).map (fun i=>UInt8.ofNat (l.getD i 0).toNat)=l:=by
 subst h
 apply List.ext_getElem
 ·simp
 ·intro i h1 h2
  simp [List.getElem?_eq_getElem h2]
set_option maxHeartbeats 8000000 in
theorem changedMerge_c (ib io : Nat) (nl nlb : Bool) (A B : Waf) (nid : Nat) (hib : ib < nid) (hio : io < nid) (hne : ib ≠ io) (hA : WafOk A) (hB : WafOk B) (hr : A.rows.length = B.rows.length) (hw : wideOf A = wideOf B) :
    ACall Try.prog 55 [wafP nl A,.fn 56 [.ptr ib 0,.ptr io 0]] [(ib,boxW nlb B),(io,boxB true)] nid (.agg [.sl nid 0 A.rows.length,.str A.pass]) [(ib,boxW nlb B),(io,boxB (okRs A.rows B.rows)),(nid,arrS (mergeRs A.rows B.rows))] := by
  have hl := hA.len
  have hww := hA.wide.2
  obtain ⟨a1,a2,a3,a4,a5,a6,a7,a8,a9⟩ := id_all hib
  obtain ⟨b1,b2,b3,b4,b5,b6,b7,b8,b9⟩ := id_all hio
  have c1 : (ib == io) = false := by simpa using hne
  have c2 : (io == ib) = false := by simpa using fun h => hne h.symm
  have c3 : ¬ io = ib := fun h => hne h.symm
  have hml : (mergeRs A.rows B.rows).length = A.rows.length := zip_len _ hr
  refine acall_run c55 (by simp [a55]) ?_
  unfold wafP boxW boxB
  simp -dsimp only [a55,aqA,↓seqK,↓blkK,↓loopK,step,stepBin,eqB,Nat.add_assoc nid,simprocAttr,z0,Int.cast_ofNat_Int,Int.reduceBEq,Int.reduceBNe,Int.reduceLT,Int.reduceLE,Int.reduceAdd,Int.reduceSub,Int.reduceMul,Int.reduceToNat,Int.reduceNeg,Int.reduceTMod,Int.reduceEq,not_false_eq_true,Int.reducePow,Int.reduceFDiv,Nat.reducePow,Nat.reduceSub,Nat.reduceMul,Nat.min_eq_left,Nat.reduceEqDiff,BEq.rfl,Int.tdiv_one,LN_succ,a1,a2,a3,a4,a5,a6,a7,a8,a9,b1,b2,b3,b4,b5,b6,b7,b8,b9,c1,c2,c3,hne]
  refine LP.mkP (fun y : Nat => y ≤ A.rows.length) (fun y : Nat => ⟨[(16,.int .i64 y),(15,.int .i64 A.rows.length),(14,.lit nl A.rows.length [.s fun i => A.rows.getD i []]),(1,.fn 56 [.ptr ib 0,.ptr io 0]),(5,.ptr (nid + 20) 0),(4,.ptr (nid + 4) 0)],
    [(ib,boxW nlb B),(io,boxB (okTo A.rows B.rows y)),(nid + 4,some (.box 28 [.lit true 0 [],.str []])),(nid + 20,some (.box 28 [.sl (nid + 8) 0 y,.str A.pass])),(nid + 8,some (.arr 9 y [.s fun i => ((mergeRs A.rows B.rows).take y).getD i []]))],nid + 200,nid⟩) (fun y => A.rows.length + 1 - y) 0 (by omega) (Cov.go [] [(nid + 8,1)] ?_) (fun y hy => ?_)
  · simp [cvT,step,res,a1,a2,a3,a4,a5,a6,a7,a8,a9,b1,b2,b3,b4,b5,b6,b7,b8,b9,c1,c2,c3,hne,boxW,boxB,okTo]
  unfold boxW boxB
  simp -dsimp only [aqA,↓seqK,↓blkK,↓loopK,step,stepBin,eqB,Nat.add_assoc nid,simprocAttr,z0,Int.cast_ofNat_Int,Int.reduceBEq,Int.reduceBNe,Int.reduceLT,Int.reduceLE,Int.reduceAdd,Int.reduceSub,Int.reduceMul,Int.reduceToNat,Int.reduceNeg,Int.reduceTMod,Int.reduceEq,not_false_eq_true,Int.reducePow,Int.reduceFDiv,Nat.reducePow,Nat.reduceSub,Nat.reduceMul,Nat.min_eq_left,Nat.reduceEqDiff,BEq.rfl,Int.tdiv_one,LN_succ,a1,a2,a3,a4,a5,a6,a7,a8,a9,b1,b2,b3,b4,b5,b6,b7,b8,b9,c1,c2,c3,hne]
  refine S2.dec (fun h1 => ?_) (fun h1 => ?_) <;> simp -dsimp only [aqA,↓seqK,↓blkK,↓loopK,step,stepBin,eqB,Nat.add_assoc nid,simprocAttr,z0,Int.cast_ofNat_Int,Int.reduceBEq,Int.reduceBNe,Int.reduceLT,Int.reduceLE,Int.reduceAdd,Int.reduceSub,Int.reduceMul,Int.reduceToNat,Int.reduceNeg,Int.reduceTMod,Int.reduceEq,not_false_eq_true,Int.reducePow,Int.reduceFDiv,Nat.reducePow,Nat.reduceSub,Nat.reduceMul,Nat.min_eq_left,Nat.reduceEqDiff,BEq.rfl,Int.tdiv_one,LN_succ,a1,a2,a3,a4,a5,a6,a7,a8,a9,b1,b2,b3,b4,b5,b6,b7,b8,b9,c1,c2,c3,hne]
  · have hyl : y < A.rows.length := by omega
    have hra := (hA.at hyl).1
    have hrb := (hB.at (y := y) (by omega)).1
    have hok := okTo_succ hyl (T := B.rows) (by omega)
    have hmt := mergeRs_take (R := A.rows) (T := B.rows) hyl (by omega)
    have hmtl : ((mergeRs A.rows B.rows).take y).length = y := by rw [List.length_take]; omega
    have hdie : ∀ x : Nat,dieB B x y = (B.rows.getD y []).getD x 0 := fun x => rfl
    have hyB : y < B.rows.length := by omega
    generalize hAr : A.rows.getD y [] = r at *
    generalize hBt : B.rows.getD y [] = t at *
    have hrt : r.length = t.length := by rw [hra,hrb,hw]
    refine ⟨by omega,by omega,?_⟩
    refine LP.mkP (fun x : Nat => x ≤ r.length) (fun x : Nat => ⟨[(25,.int .i64 x),(24,.int .i64 r.length),(8,.sl (nid + 228) 0 r.length),(6,.int .i64 y),(16,.int .i64 y),(15,.int .i64 A.rows.length),(14,.lit nl A.rows.length [.s fun i => A.rows.getD i []]),(1,.fn 56 [.ptr ib 0,.ptr io 0]),(5,.ptr (nid + 20) 0),(4,.ptr (nid + 4) 0)],
      [(ib,boxW nlb B),(io,boxB (okTo A.rows B.rows y && okAt r t x)),(nid + 4,some (.box 28 [.lit true 0 [],.str []])),(nid + 20,some (.box 28 [.sl (nid + 8) 0 y,.str A.pass])),(nid + 8,some (.arr 9 y [.s fun i => ((mergeRs A.rows B.rows).take y).getD i []])),
       (nid + 228,some (.arr 4294967295 r.length [.i .u8 fun i => (((rowTo r t x).getD i 0).toNat : Nat)]))],nid + 400,nid⟩) (fun x => r.length + 1 - x) 0 (by omega) (Cov.go [] [] ?_) (fun x hx => ?_)
    · simp [cvT,step,res,a1,a2,a3,a4,a5,a6,a7,a8,a9,b1,b2,b3,b4,b5,b6,b7,b8,b9,c1,c2,c3,hne,boxW,boxB,okAt,rowTo,-List.getD_eq_getElem?_getD]
    unfold boxW boxB
    have hrl := rowTo_len hrt x
    have hra2 := rowTo_at hrt (k := x)
    have hrs := rowTo_set hrt (k := x)
    have hoa := okAt_succ (r := r) (t := t) (x := x)
    generalize hq : rowTo r t x = q at *
    simp -dsimp only [aqA,↓seqK,↓blkK,↓loopK,step,stepBin,eqB,Nat.add_assoc nid,simprocAttr,z0,Int.cast_ofNat_Int,Int.reduceBEq,Int.reduceBNe,Int.reduceLT,Int.reduceLE,Int.reduceAdd,Int.reduceSub,Int.reduceMul,Int.reduceToNat,Int.reduceNeg,Int.reduceTMod,Int.reduceEq,not_false_eq_true,Int.reducePow,Int.reduceFDiv,Nat.reducePow,Nat.reduceSub,Nat.reduceMul,Nat.min_eq_left,Nat.reduceEqDiff,BEq.rfl,Int.tdiv_one,LN_succ,a1,a2,a3,a4,a5,a6,a7,a8,a9,b1,b2,b3,b4,b5,b6,b7,b8,b9,c1,c2,c3,hne]
    refine S2.dec (fun h2 => ?_) (fun h2 => ?_) <;> simp -dsimp only [aqA,↓seqK,↓blkK,↓loopK,step,stepBin,eqB,Nat.add_assoc nid,simprocAttr,z0,Int.cast_ofNat_Int,Int.reduceBEq,Int.reduceBNe,Int.reduceLT,Int.reduceLE,Int.reduceAdd,Int.reduceSub,Int.reduceMul,Int.reduceToNat,Int.reduceNeg,Int.reduceTMod,Int.reduceEq,not_false_eq_true,Int.reducePow,Int.reduceFDiv,Nat.reducePow,Nat.reduceSub,Nat.reduceMul,Nat.min_eq_left,Nat.reduceEqDiff,BEq.rfl,Int.tdiv_one,LN_succ,a1,a2,a3,a4,a5,a6,a7,a8,a9,b1,b2,b3,b4,b5,b6,b7,b8,b9,c1,c2,c3,hne]
    · have hxl : x < r.length := by omega
      rw [hra2 hxl]
      refine ⟨by omega,CallO.on (mergeF_c ib io nlb B x y (r.getD x 0) (okTo A.rows B.rows y && okAt r t x) _ (by omega) (by omega) hne hB hyB (by omega)) (subH_cons (by simp only [aqA,↓seqK,↓blkK,↓loopK,step,stepBin,eqB,Nat.add_assoc nid,simprocAttr,z0,Int.cast_ofNat_Int,Int.reduceBEq,Int.reduceBNe,Int.reduceLT,Int.reduceLE,Int.reduceAdd,Int.reduceSub,Int.reduceMul,Int.reduceToNat,Int.reduceNeg,Int.reduceTMod,Int.reduceEq,not_false_eq_true,Int.reducePow,Int.reduceFDiv,Nat.reducePow,Nat.reduceSub,Nat.reduceMul,Nat.min_eq_left,Nat.reduceEqDiff,BEq.rfl,Int.tdiv_one,LN_succ,a1,a2,a3,a4,a5,a6,a7,a8,a9,b1,b2,b3,b4,b5,b6,b7,b8,b9,c1,c2,c3,hne,boxW]) (subH_get (by simp only [aqA,↓seqK,↓blkK,↓loopK,step,stepBin,eqB,Nat.add_assoc nid,simprocAttr,z0,Int.cast_ofNat_Int,Int.reduceBEq,Int.reduceBNe,Int.reduceLT,Int.reduceLE,Int.reduceAdd,Int.reduceSub,Int.reduceMul,Int.reduceToNat,Int.reduceNeg,Int.reduceTMod,Int.reduceEq,not_false_eq_true,Int.reducePow,Int.reduceFDiv,Nat.reducePow,Nat.reduceSub,Nat.reduceMul,Nat.min_eq_left,Nat.reduceEqDiff,BEq.rfl,Int.tdiv_one,LN_succ,a1,a2,a3,a4,a5,a6,a7,a8,a9,b1,b2,b3,b4,b5,b6,b7,b8,b9,c1,c2,c3,hne,boxB]))) ?_⟩
      rw [hdie x]
      unfold boxW boxB
      simp -dsimp only [aqA,↓seqK,↓blkK,↓loopK,step,stepBin,eqB,Nat.add_assoc nid,simprocAttr,z0,Int.cast_ofNat_Int,Int.reduceBEq,Int.reduceBNe,Int.reduceLT,Int.reduceLE,Int.reduceAdd,Int.reduceSub,Int.reduceMul,Int.reduceToNat,Int.reduceNeg,Int.reduceTMod,Int.reduceEq,not_false_eq_true,Int.reducePow,Int.reduceFDiv,Nat.reducePow,Nat.reduceSub,Nat.reduceMul,Nat.min_eq_left,Nat.reduceEqDiff,BEq.rfl,Int.tdiv_one,LN_succ,a1,a2,a3,a4,a5,a6,a7,a8,a9,b1,b2,b3,b4,b5,b6,b7,b8,b9,c1,c2,c3,hne]
      rw [setD_byte (by omega : x < q.length),hrs hxl,Bool.and_assoc,← hoa hxl (by omega)]
      refine ⟨by omega,by unfold inI64; omega,x + 1,⟨by omega,by omega⟩,Cov.go [] [] ?_⟩
      simp [cvT,step,res,a1,a2,a3,a4,a5,a6,a7,a8,a9,b1,b2,b3,b4,b5,b6,b7,b8,b9,c1,c2,c3,hne,boxW,boxB,-List.getD_eq_getElem?_getD]
    · have hxr : x = r.length := by omega
      subst hxr
      rw [rowTo_all hrt] at hq
      subst hq
      rw [okAt_all hrt,← hok]
      rw [bytes_back2 hrl,getD_app1 _ _ hmtl,← hmt]
      refine ⟨⟨by omega,by omega⟩,by unfold inI64; omega,y + 1,⟨by omega,by omega⟩,Cov.go [(nid + 8,nid + 424)] [] ?_⟩
      simp [cvT,step,res,a1,a2,a3,a4,a5,a6,a7,a8,a9,b1,b2,b3,b4,b5,b6,b7,b8,b9,c1,c2,c3,hne,boxW,boxB,-List.getD_eq_getElem?_getD]
  · have hyn : y = A.rows.length := by omega
    subst hyn
    rw [okTo_all hr,List.take_of_length_le (by omega)]
    refine RetOK.go [(nid,nid + 8)] [] (.inl rfl) ?_
    simp [cvT,step,res,a1,a2,a3,a4,a5,a6,a7,a8,a9,b1,b2,b3,b4,b5,b6,b7,b8,b9,c1,c2,c3,hne,a55,boxW,boxB,arrS,hml,-List.getD_eq_getElem?_getD]
open Go.RowKit
structure Pair2 (A B:Waf):Prop where
 a:waferV A=0
 b:waferV B=0
 rows:A.rows.length=B.rows.length
 wide:wideOf A=wideOf B
 pass:A.pass=B.pass
 bdA:WafBd A
 bdB:WafBd B
theorem bothFault_ok (nla nlb:Bool) (A B:Waf) (nid:Nat) (h:Pair2 A B):ACall Try.prog 54 [wafP nla A,wafP nlb B] [] nid (.int .i64 0) []:=by
 have hpa:=(waferV_ok h.a).pos
 have hpb:=(waferV_ok h.b).pos
 have hw:=h.wide
 have hwa:wideOf A=(A.rows.getD 0 []).length:=rfl
 have hwb:wideOf B=(B.rows.getD 0 []).length:=rfl
 rw [hwa,hwb] at hw
 have e1:(((A.rows.length:Nat):Int) != ((B.rows.length:Nat):Int))=false:=by rw [h.rows]; simp
 have e2:((((A.rows.getD 0 []).length:Nat):Int) != (((B.rows.getD 0 []).length:Nat):Int))=false:=by rw [hw]; simp
 have e3:(!(A.pass==B.pass))=false:=by rw [h.pass]; simp
 refine acall_sr c54 (by simp [a54]) ?_
 unfold a54 wafP
 refine SR.seq ?_
 simp -dsimp only [aqA,↓seqK,↓blkK,↓loopK,step,stepBin,eqB,Nat.add_assoc nid,simprocAttr,z0,Int.cast_ofNat_Int,Int.reduceBEq,Int.reduceBNe,Int.reduceLT,Int.reduceLE,Int.reduceAdd,Int.reduceSub,Int.reduceMul,Int.reduceToNat,Int.reduceNeg,Int.reduceTMod,Int.reduceEq,not_false_eq_true,Int.reducePow,Int.reduceFDiv,Nat.reducePow,Nat.reduceSub,Nat.reduceMul,Nat.min_eq_left,Nat.reduceEqDiff,BEq.rfl,Int.tdiv_one,LN_succ]
 refine SR.seqTo ⟨[(5,.int .i64 0),(2,.ptr nid 0),(3,.ptr (nid+4) 0)],[(nid,boxW nla A),(nid+4,boxW nlb B)],nid+100,nid⟩ ?_ ?_
 ·simp -dsimp only [aqA,↓seqK,↓blkK,↓loopK,step,stepBin,eqB,Nat.add_assoc nid,simprocAttr,z0,Int.cast_ofNat_Int,Int.reduceBEq,Int.reduceBNe,Int.reduceLT,Int.reduceLE,Int.reduceAdd,Int.reduceSub,Int.reduceMul,Int.reduceToNat,Int.reduceNeg,Int.reduceTMod,Int.reduceEq,not_false_eq_true,Int.reducePow,Int.reduceFDiv,Nat.reducePow,Nat.reduceSub,Nat.reduceMul,Nat.min_eq_left,Nat.reduceEqDiff,BEq.rfl,Int.tdiv_one,LN_succ]
  refine CallX.pure (checkWafer_all nla A _ h.bdA) ?_
  simp -dsimp only [aqA,↓seqK,↓blkK,↓loopK,step,stepBin,eqB,Nat.add_assoc nid,simprocAttr,z0,Int.cast_ofNat_Int,Int.reduceBEq,Int.reduceBNe,Int.reduceLT,Int.reduceLE,Int.reduceAdd,Int.reduceSub,Int.reduceMul,Int.reduceToNat,Int.reduceNeg,Int.reduceTMod,Int.reduceEq,not_false_eq_true,Int.reducePow,Int.reduceFDiv,Nat.reducePow,Nat.reduceSub,Nat.reduceMul,Nat.min_eq_left,Nat.reduceEqDiff,BEq.rfl,Int.tdiv_one,LN_succ]
  refine CallX.pure (checkWafer_all nlb B _ h.bdB) ?_
  simp -dsimp only [aqA,↓seqK,↓blkK,↓loopK,step,stepBin,eqB,Nat.add_assoc nid,simprocAttr,z0,Int.cast_ofNat_Int,Int.reduceBEq,Int.reduceBNe,Int.reduceLT,Int.reduceLE,Int.reduceAdd,Int.reduceSub,Int.reduceMul,Int.reduceToNat,Int.reduceNeg,Int.reduceTMod,Int.reduceEq,not_false_eq_true,Int.reducePow,Int.reduceFDiv,Nat.reducePow,Nat.reduceSub,Nat.reduceMul,Nat.min_eq_left,Nat.reduceEqDiff,BEq.rfl,Int.tdiv_one,LN_succ]
  rw [h.a,h.b]
  refine CallX.gave1 (by simp only [aqA,↓seqK,↓blkK,↓loopK,step,stepBin,eqB,Nat.add_assoc nid,simprocAttr,z0,Int.cast_ofNat_Int,Int.reduceBEq,Int.reduceBNe,Int.reduceLT,Int.reduceLE,Int.reduceAdd,Int.reduceSub,Int.reduceMul,Int.reduceToNat,Int.reduceNeg,Int.reduceTMod,Int.reduceEq,not_false_eq_true,Int.reducePow,Int.reduceFDiv,Nat.reducePow,Nat.reduceSub,Nat.reduceMul,Nat.min_eq_left,Nat.reduceEqDiff,BEq.rfl,Int.tdiv_one,LN_succ]; rfl) (fun nl'=>first_c nl' [0,0] _ (by simp)) rfl ?_
  simp -dsimp only [aqA,↓seqK,↓blkK,↓loopK,step,stepBin,eqB,Nat.add_assoc nid,simprocAttr,z0,Int.cast_ofNat_Int,Int.reduceBEq,Int.reduceBNe,Int.reduceLT,Int.reduceLE,Int.reduceAdd,Int.reduceSub,Int.reduceMul,Int.reduceToNat,Int.reduceNeg,Int.reduceTMod,Int.reduceEq,not_false_eq_true,Int.reducePow,Int.reduceFDiv,Nat.reducePow,Nat.reduceSub,Nat.reduceMul,Nat.min_eq_left,Nat.reduceEqDiff,BEq.rfl,Int.tdiv_one,LN_succ,firstBad2]
  refine Cov.go [] [] ?_
  simp [cvT,step,res,boxW]
 refine SR.seqTo ⟨[(5,.int .i64 0)],[],nid+400,nid⟩ ?_ ?_
 ·unfold boxW
  simp -dsimp only [aqA,↓seqK,↓blkK,↓loopK,step,stepBin,eqB,Nat.add_assoc nid,simprocAttr,z0,Int.cast_ofNat_Int,Int.reduceBEq,Int.reduceBNe,Int.reduceLT,Int.reduceLE,Int.reduceAdd,Int.reduceSub,Int.reduceMul,Int.reduceToNat,Int.reduceNeg,Int.reduceTMod,Int.reduceEq,not_false_eq_true,Int.reducePow,Int.reduceFDiv,Nat.reducePow,Nat.reduceSub,Nat.reduceMul,Nat.min_eq_left,Nat.reduceEqDiff,BEq.rfl,Int.tdiv_one,LN_succ,e1,e2,e3]
  refine ⟨by omega,by omega,Cov.go [] [] ?_⟩
  simp [cvT,step,res]
 refine SR.run (t:=.mk) ?_
 simp -dsimp only [aqA,↓seqK,↓blkK,↓loopK,step,stepBin,eqB,Nat.add_assoc nid,simprocAttr,z0,Int.cast_ofNat_Int,Int.reduceBEq,Int.reduceBNe,Int.reduceLT,Int.reduceLE,Int.reduceAdd,Int.reduceSub,Int.reduceMul,Int.reduceToNat,Int.reduceNeg,Int.reduceTMod,Int.reduceEq,not_false_eq_true,Int.reducePow,Int.reduceFDiv,Nat.reducePow,Nat.reduceSub,Nat.reduceMul,Nat.min_eq_left,Nat.reduceEqDiff,BEq.rfl,Int.tdiv_one,LN_succ]
 refine RetOK.pure (.inl rfl) rfl ?_
 simp [cvT,step,res]
set_option maxHeartbeats 4000000 in
theorem merge_ok (nla nlb:Bool) (A B:Waf) (nid:Nat) (h:Pair2 A B) (ho:okRs A.rows B.rows=true):ACall Try.prog 17 [wafP nla A,wafP nlb B] [] nid (.tup [.agg [.sl nid 0 A.rows.length,.str A.pass],.int .i64 0]) [(nid,arrS (mergeRs A.rows B.rows))]:=by
 have hA:=waferV_ok h.a
 have hB:=waferV_ok h.b
 have hml:(mergeRs A.rows B.rows).length=A.rows.length:=zip_len _ h.rows
 refine acall_sr c17 (by simp [a17]) ?_
 unfold a17 wafP
 refine SR.seq ?_
 simp -dsimp only [aqA,↓seqK,↓blkK,↓loopK,step,stepBin,eqB,Nat.add_assoc nid,simprocAttr,z0,Int.cast_ofNat_Int,Int.reduceBEq,Int.reduceBNe,Int.reduceLT,Int.reduceLE,Int.reduceAdd,Int.reduceSub,Int.reduceMul,Int.reduceToNat,Int.reduceNeg,Int.reduceTMod,Int.reduceEq,not_false_eq_true,Int.reducePow,Int.reduceFDiv,Nat.reducePow,Nat.reduceSub,Nat.reduceMul,Nat.min_eq_left,Nat.reduceEqDiff,BEq.rfl,Int.tdiv_one,LN_succ]
 refine SR.seqTo ⟨[(2,.ptr nid 0),(3,.ptr (nid+4) 0),(4,.ptr (nid+8) 0)],[(nid,boxW nla A),(nid+4,boxW nlb B),(nid+8,some (.box 28 [.lit true 0 [],.str []]))],nid+100,nid⟩ ?_ ?_
 ·simp -dsimp only [aqA,↓seqK,↓blkK,↓loopK,step,stepBin,eqB,Nat.add_assoc nid,simprocAttr,z0,Int.cast_ofNat_Int,Int.reduceBEq,Int.reduceBNe,Int.reduceLT,Int.reduceLE,Int.reduceAdd,Int.reduceSub,Int.reduceMul,Int.reduceToNat,Int.reduceNeg,Int.reduceTMod,Int.reduceEq,not_false_eq_true,Int.reducePow,Int.reduceFDiv,Nat.reducePow,Nat.reduceSub,Nat.reduceMul,Nat.min_eq_left,Nat.reduceEqDiff,BEq.rfl,Int.tdiv_one,LN_succ]
  refine CallO.pure (bothFault_ok nla nlb A B _ h) ?_
  simp -dsimp only [aqA,↓seqK,↓blkK,↓loopK,step,stepBin,eqB,Nat.add_assoc nid,simprocAttr,z0,Int.cast_ofNat_Int,Int.reduceBEq,Int.reduceBNe,Int.reduceLT,Int.reduceLE,Int.reduceAdd,Int.reduceSub,Int.reduceMul,Int.reduceToNat,Int.reduceNeg,Int.reduceTMod,Int.reduceEq,not_false_eq_true,Int.reducePow,Int.reduceFDiv,Nat.reducePow,Nat.reduceSub,Nat.reduceMul,Nat.min_eq_left,Nat.reduceEqDiff,BEq.rfl,Int.tdiv_one,LN_succ]
  refine Cov.go [] [] ?_
  simp [cvT,step,res,boxW]
 refine SR.seq ?_
 unfold boxW
 simp -dsimp only [aqA,↓seqK,↓blkK,↓loopK,step,stepBin,eqB,Nat.add_assoc nid,simprocAttr,z0,Int.cast_ofNat_Int,Int.reduceBEq,Int.reduceBNe,Int.reduceLT,Int.reduceLE,Int.reduceAdd,Int.reduceSub,Int.reduceMul,Int.reduceToNat,Int.reduceNeg,Int.reduceTMod,Int.reduceEq,not_false_eq_true,Int.reducePow,Int.reduceFDiv,Nat.reducePow,Nat.reduceSub,Nat.reduceMul,Nat.min_eq_left,Nat.reduceEqDiff,BEq.rfl,Int.tdiv_one,LN_succ]
 refine SR.seq ?_
 simp -dsimp only [aqA,↓seqK,↓blkK,↓loopK,step,stepBin,eqB,Nat.add_assoc nid,simprocAttr,z0,Int.cast_ofNat_Int,Int.reduceBEq,Int.reduceBNe,Int.reduceLT,Int.reduceLE,Int.reduceAdd,Int.reduceSub,Int.reduceMul,Int.reduceToNat,Int.reduceNeg,Int.reduceTMod,Int.reduceEq,not_false_eq_true,Int.reducePow,Int.reduceFDiv,Nat.reducePow,Nat.reduceSub,Nat.reduceMul,Nat.min_eq_left,Nat.reduceEqDiff,BEq.rfl,Int.tdiv_one,LN_succ]
 refine CallO.on (changedMerge_c (nid+4) (nid+100) nla nlb A B _ (by omega) (by omega) (by omega) hA hB h.rows h.wide) (subH_cons (by simp only [aqA,↓seqK,↓blkK,↓loopK,step,stepBin,eqB,Nat.add_assoc nid,simprocAttr,z0,Int.cast_ofNat_Int,Int.reduceBEq,Int.reduceBNe,Int.reduceLT,Int.reduceLE,Int.reduceAdd,Int.reduceSub,Int.reduceMul,Int.reduceToNat,Int.reduceNeg,Int.reduceTMod,Int.reduceEq,not_false_eq_true,Int.reducePow,Int.reduceFDiv,Nat.reducePow,Nat.reduceSub,Nat.reduceMul,Nat.min_eq_left,Nat.reduceEqDiff,BEq.rfl,Int.tdiv_one,LN_succ,boxW]) (subH_get (by simp only [aqA,↓seqK,↓blkK,↓loopK,step,stepBin,eqB,Nat.add_assoc nid,simprocAttr,z0,Int.cast_ofNat_Int,Int.reduceBEq,Int.reduceBNe,Int.reduceLT,Int.reduceLE,Int.reduceAdd,Int.reduceSub,Int.reduceMul,Int.reduceToNat,Int.reduceNeg,Int.reduceTMod,Int.reduceEq,not_false_eq_true,Int.reducePow,Int.reduceFDiv,Nat.reducePow,Nat.reduceSub,Nat.reduceMul,Nat.min_eq_left,Nat.reduceEqDiff,BEq.rfl,Int.tdiv_one,LN_succ,boxB]))) ?_
 rw [ho]
 unfold boxW boxB arrS
 simp -dsimp only [aqA,↓seqK,↓blkK,↓loopK,step,stepBin,eqB,Nat.add_assoc nid,simprocAttr,z0,Int.cast_ofNat_Int,Int.reduceBEq,Int.reduceBNe,Int.reduceLT,Int.reduceLE,Int.reduceAdd,Int.reduceSub,Int.reduceMul,Int.reduceToNat,Int.reduceNeg,Int.reduceTMod,Int.reduceEq,not_false_eq_true,Int.reducePow,Int.reduceFDiv,Nat.reducePow,Nat.reduceSub,Nat.reduceMul,Nat.min_eq_left,Nat.reduceEqDiff,BEq.rfl,Int.tdiv_one,LN_succ]
 refine SR.run (t:=.mk) ?_
 simp -dsimp only [aqA,↓seqK,↓blkK,↓loopK,step,stepBin,eqB,Nat.add_assoc nid,simprocAttr,z0,Int.cast_ofNat_Int,Int.reduceBEq,Int.reduceBNe,Int.reduceLT,Int.reduceLE,Int.reduceAdd,Int.reduceSub,Int.reduceMul,Int.reduceToNat,Int.reduceNeg,Int.reduceTMod,Int.reduceEq,not_false_eq_true,Int.reducePow,Int.reduceFDiv,Nat.reducePow,Nat.reduceSub,Nat.reduceMul,Nat.min_eq_left,Nat.reduceEqDiff,BEq.rfl,Int.tdiv_one,LN_succ]
 refine RetOK.go [(nid,nid+116)] [] (.inl rfl) ?_
 simp [a17,cvT,step,res,arrS,hml,-List.getD_eq_getElem?_getD]
open Go.RowKit
def sameDie (A B:Waf) (p:Pt):Bool:=dieV A p.1 p.2==dieV B p.1 p.2
theorem changesF_c (ia ib:Nat) (nla nlb:Bool) (A B:Waf) (p:Pt) (nid:Nat) (hia:ia<nid) (hib:ib<nid) (hne:ia≠ib) (hA:WafOk A) (hB:WafOk B) (hx:inI64 p.1) (hy:inI64 p.2) :
  ACall Try.prog 58 [.agg [.int .i64 p.1,.int .i64 p.2],.ptr ia 0,.ptr ib 0] [(ia,boxW nla A),(ib,boxW nlb B)] nid (.bool (sameDie A B p)) []:=by
 obtain ⟨a1,a2,a3,a4,a5,a6,a7,a8,a9⟩:=id_all hia
 obtain ⟨b1,b2,b3,b4,b5,b6,b7,b8,b9⟩:=id_all hib
 have c1:(ia==ib)=false:=by simpa using hne
 have c2:(ib==ia)=false:=by simpa using fun h=>hne h.symm
 have c3:¬ ib=ia:=fun h=>hne h.symm
 refine acall_run c58 (by simp [a58]) ?_
 unfold boxW
 simp -dsimp only [a58,aqA,↓seqK,↓blkK,↓loopK,step,stepBin,eqB,Nat.add_assoc nid,simprocAttr,z0,Int.cast_ofNat_Int,Int.reduceBEq,Int.reduceBNe,Int.reduceLT,Int.reduceLE,Int.reduceAdd,Int.reduceSub,Int.reduceMul,Int.reduceToNat,Int.reduceNeg,Int.reduceTMod,Int.reduceEq,not_false_eq_true,Int.reducePow,Int.reduceFDiv,Nat.reducePow,Nat.reduceSub,Nat.reduceMul,Nat.min_eq_left,Nat.reduceEqDiff,BEq.rfl,Int.tdiv_one,LN_succ,a1,a2,a3,a4,a5,a6,a7,a8,a9,b1,b2,b3,b4,b5,b6,b7,b8,b9,c1,c2,c3,hne]
 refine CallX.pure (at_all nla A _ _ _ hA hx hy) ?_
 simp -dsimp only [aqA,↓seqK,↓blkK,↓loopK,step,stepBin,eqB,Nat.add_assoc nid,simprocAttr,z0,Int.cast_ofNat_Int,Int.reduceBEq,Int.reduceBNe,Int.reduceLT,Int.reduceLE,Int.reduceAdd,Int.reduceSub,Int.reduceMul,Int.reduceToNat,Int.reduceNeg,Int.reduceTMod,Int.reduceEq,not_false_eq_true,Int.reducePow,Int.reduceFDiv,Nat.reducePow,Nat.reduceSub,Nat.reduceMul,Nat.min_eq_left,Nat.reduceEqDiff,BEq.rfl,Int.tdiv_one,LN_succ,a1,a2,a3,a4,a5,a6,a7,a8,a9,b1,b2,b3,b4,b5,b6,b7,b8,b9,c1,c2,c3,hne]
 refine CallX.pure (at_all nlb B _ _ _ hB hx hy) ?_
 simp -dsimp only [aqA,↓seqK,↓blkK,↓loopK,step,stepBin,eqB,Nat.add_assoc nid,simprocAttr,z0,Int.cast_ofNat_Int,Int.reduceBEq,Int.reduceBNe,Int.reduceLT,Int.reduceLE,Int.reduceAdd,Int.reduceSub,Int.reduceMul,Int.reduceToNat,Int.reduceNeg,Int.reduceTMod,Int.reduceEq,not_false_eq_true,Int.reducePow,Int.reduceFDiv,Nat.reducePow,Nat.reduceSub,Nat.reduceMul,Nat.min_eq_left,Nat.reduceEqDiff,BEq.rfl,Int.tdiv_one,LN_succ,a1,a2,a3,a4,a5,a6,a7,a8,a9,b1,b2,b3,b4,b5,b6,b7,b8,b9,c1,c2,c3,hne]
 refine RetOK.go [] [] (.inl rfl) ?_
 simp [a58,cvT,step,res,a1,a2,a3,a4,a5,a6,a7,a8,a9,b1,b2,b3,b4,b5,b6,b7,b8,b9,c1,c2,c3,hne,sameDie]
theorem plV_in {W:Waf} (hW:WafOk W) {p:Pt} (h:p∈plV W):inI64 p.1∧inI64 p.2:=by
 obtain ⟨x,y,rfl,h1,h2⟩:=plV_mem h
 have:=(hW.at h1).1
 have:=hW.wide.2
 have:=hW.len
 unfold inI64
 simp only
 omega
def chV (A B:Waf):List Pt:=keepP (sameDie A B) (plV A)
set_option maxHeartbeats 4000000 in
theorem changes_ok (nla nlb:Bool) (A B:Waf) (nid:Nat) (h:Pair2 A B):ACall Try.prog 18 [wafP nla A,wafP nlb B] [] nid (.tup [.sl nid 0 (chV A B).length,.int .i64 0]) [(nid,arrPl (doneP (sameDie A B) (plV A)))]:=by
 have hA:=waferV_ok h.a
 have hB:=waferV_ok h.b
 have hlb:=plTo_bd hA (Nat.le_refl _)
 refine acall_sr c18 (by simp [a18]) ?_
 unfold a18 wafP
 refine SR.seq ?_
 simp -dsimp only [aqA,↓seqK,↓blkK,↓loopK,step,stepBin,eqB,Nat.add_assoc nid,simprocAttr,z0,Int.cast_ofNat_Int,Int.reduceBEq,Int.reduceBNe,Int.reduceLT,Int.reduceLE,Int.reduceAdd,Int.reduceSub,Int.reduceMul,Int.reduceToNat,Int.reduceNeg,Int.reduceTMod,Int.reduceEq,not_false_eq_true,Int.reducePow,Int.reduceFDiv,Nat.reducePow,Nat.reduceSub,Nat.reduceMul,Nat.min_eq_left,Nat.reduceEqDiff,BEq.rfl,Int.tdiv_one,LN_succ]
 refine SR.seqTo ⟨[(2,.ptr nid 0),(3,.ptr (nid+4) 0)],[(nid,boxW nla A),(nid+4,boxW nlb B)],nid+100,nid⟩ ?_ ?_
 ·simp -dsimp only [aqA,↓seqK,↓blkK,↓loopK,step,stepBin,eqB,Nat.add_assoc nid,simprocAttr,z0,Int.cast_ofNat_Int,Int.reduceBEq,Int.reduceBNe,Int.reduceLT,Int.reduceLE,Int.reduceAdd,Int.reduceSub,Int.reduceMul,Int.reduceToNat,Int.reduceNeg,Int.reduceTMod,Int.reduceEq,not_false_eq_true,Int.reducePow,Int.reduceFDiv,Nat.reducePow,Nat.reduceSub,Nat.reduceMul,Nat.min_eq_left,Nat.reduceEqDiff,BEq.rfl,Int.tdiv_one,LN_succ]
  refine CallO.pure (bothFault_ok nla nlb A B _ h) ?_
  simp -dsimp only [aqA,↓seqK,↓blkK,↓loopK,step,stepBin,eqB,Nat.add_assoc nid,simprocAttr,z0,Int.cast_ofNat_Int,Int.reduceBEq,Int.reduceBNe,Int.reduceLT,Int.reduceLE,Int.reduceAdd,Int.reduceSub,Int.reduceMul,Int.reduceToNat,Int.reduceNeg,Int.reduceTMod,Int.reduceEq,not_false_eq_true,Int.reducePow,Int.reduceFDiv,Nat.reducePow,Nat.reduceSub,Nat.reduceMul,Nat.min_eq_left,Nat.reduceEqDiff,BEq.rfl,Int.tdiv_one,LN_succ]
  refine Cov.go [] [] ?_
  simp [cvT,step,res,boxW]
 refine SR.seq ?_
 unfold boxW
 simp -dsimp only [aqA,↓seqK,↓blkK,↓loopK,step,stepBin,eqB,Nat.add_assoc nid,simprocAttr,z0,Int.cast_ofNat_Int,Int.reduceBEq,Int.reduceBNe,Int.reduceLT,Int.reduceLE,Int.reduceAdd,Int.reduceSub,Int.reduceMul,Int.reduceToNat,Int.reduceNeg,Int.reduceTMod,Int.reduceEq,not_false_eq_true,Int.reducePow,Int.reduceFDiv,Nat.reducePow,Nat.reduceSub,Nat.reduceMul,Nat.min_eq_left,Nat.reduceEqDiff,BEq.rfl,Int.tdiv_one,LN_succ]
 refine CallO.pure (places_all nla A _ hA) ?_
 unfold arrPl
 simp -dsimp only [aqA,↓seqK,↓blkK,↓loopK,step,stepBin,eqB,Nat.add_assoc nid,simprocAttr,z0,Int.cast_ofNat_Int,Int.reduceBEq,Int.reduceBNe,Int.reduceLT,Int.reduceLE,Int.reduceAdd,Int.reduceSub,Int.reduceMul,Int.reduceToNat,Int.reduceNeg,Int.reduceTMod,Int.reduceEq,not_false_eq_true,Int.reducePow,Int.reduceFDiv,Nat.reducePow,Nat.reduceSub,Nat.reduceMul,Nat.min_eq_left,Nat.reduceEqDiff,BEq.rfl,Int.tdiv_one,LN_succ]
 refine CallO.on (deleteP_c 58 (nid+104) nid (nid+4) nla nlb A B (sameDie A B) (plV A) _ (by omega) (by omega) (by omega) (by omega) (by omega) (by omega) (by unfold plV; omega)
  (fun p hp nid' h1 h2=>changesF_c nid (nid+4) nla nlb A B p nid' h1 h2 (by omega) hA hB (plV_in hA hp).1 (plV_in hA hp).2)) (subH_cons (by simp only [aqA,↓seqK,↓blkK,↓loopK,step,stepBin,eqB,Nat.add_assoc nid,simprocAttr,z0,Int.cast_ofNat_Int,Int.reduceBEq,Int.reduceBNe,Int.reduceLT,Int.reduceLE,Int.reduceAdd,Int.reduceSub,Int.reduceMul,Int.reduceToNat,Int.reduceNeg,Int.reduceTMod,Int.reduceEq,not_false_eq_true,Int.reducePow,Int.reduceFDiv,Nat.reducePow,Nat.reduceSub,Nat.reduceMul,Nat.min_eq_left,Nat.reduceEqDiff,BEq.rfl,Int.tdiv_one,LN_succ,arrPl]) (subH_cons (by simp only [aqA,↓seqK,↓blkK,↓loopK,step,stepBin,eqB,Nat.add_assoc nid,simprocAttr,z0,Int.cast_ofNat_Int,Int.reduceBEq,Int.reduceBNe,Int.reduceLT,Int.reduceLE,Int.reduceAdd,Int.reduceSub,Int.reduceMul,Int.reduceToNat,Int.reduceNeg,Int.reduceTMod,Int.reduceEq,not_false_eq_true,Int.reducePow,Int.reduceFDiv,Nat.reducePow,Nat.reduceSub,Nat.reduceMul,Nat.min_eq_left,Nat.reduceEqDiff,BEq.rfl,Int.tdiv_one,LN_succ,boxW]) (subH_get (by simp only [aqA,↓seqK,↓blkK,↓loopK,step,stepBin,eqB,Nat.add_assoc nid,simprocAttr,z0,Int.cast_ofNat_Int,Int.reduceBEq,Int.reduceBNe,Int.reduceLT,Int.reduceLE,Int.reduceAdd,Int.reduceSub,Int.reduceMul,Int.reduceToNat,Int.reduceNeg,Int.reduceTMod,Int.reduceEq,not_false_eq_true,Int.reducePow,Int.reduceFDiv,Nat.reducePow,Nat.reduceSub,Nat.reduceMul,Nat.min_eq_left,Nat.reduceEqDiff,BEq.rfl,Int.tdiv_one,LN_succ,boxW])))) ?_
 unfold arrPl
 simp -dsimp only [aqA,↓seqK,↓blkK,↓loopK,step,stepBin,eqB,Nat.add_assoc nid,simprocAttr,z0,Int.cast_ofNat_Int,Int.reduceBEq,Int.reduceBNe,Int.reduceLT,Int.reduceLE,Int.reduceAdd,Int.reduceSub,Int.reduceMul,Int.reduceToNat,Int.reduceNeg,Int.reduceTMod,Int.reduceEq,not_false_eq_true,Int.reducePow,Int.reduceFDiv,Nat.reducePow,Nat.reduceSub,Nat.reduceMul,Nat.min_eq_left,Nat.reduceEqDiff,BEq.rfl,Int.tdiv_one,LN_succ]
 refine SR.run (t:=.mk) ?_
 simp -dsimp only [aqA,↓seqK,↓blkK,↓loopK,step,stepBin,eqB,Nat.add_assoc nid,simprocAttr,z0,Int.cast_ofNat_Int,Int.reduceBEq,Int.reduceBNe,Int.reduceLT,Int.reduceLE,Int.reduceAdd,Int.reduceSub,Int.reduceMul,Int.reduceToNat,Int.reduceNeg,Int.reduceTMod,Int.reduceEq,not_false_eq_true,Int.reducePow,Int.reduceFDiv,Nat.reducePow,Nat.reduceSub,Nat.reduceMul,Nat.min_eq_left,Nat.reduceEqDiff,BEq.rfl,Int.tdiv_one,LN_succ]
 refine RetOK.go [(nid,nid+104)] [] (.inl rfl) ?_
 simp [a18,cvT,step,res,arrPl,chV,-List.getD_eq_getElem?_getD]
open Go.RowKit
theorem wrapU_pos {a:Int} (h0:0≤a) (h1:a≤9223372036854775808):IntKind.u64.wrap a=(a.natAbs:Nat):=by
 have e:IntKind.u64.wrap a=a % 18446744073709551616:=rfl
 rw [e]
 omega
theorem wrapU_neg {a:Int} (h0:a<0) (h1 : -9223372036854775808≤a):IntKind.u64.wrap (0 - IntKind.u64.wrap a)=(a.natAbs:Nat):=by
 have e:∀ a,IntKind.u64.wrap a=a % 18446744073709551616:=fun a=>rfl
 rw [e,e]
 omega
set_option maxHeartbeats 4000000 in
theorem lowest_c (a b:Int) (nid:Nat) (ha : -9223372036854775808≤a) (ha2:a≤9223372036854775807) (hb:1≤b) (hb2:b≤9223372036854775807):ACall Try.prog 42 [.agg [.int .i64 a,.int .i64 b]] [] nid (.bool (lowV a b)) []:=by
 have wb:=wrapU_pos (a:=b) (by omega) (by omega)
 have hbn:b.natAbs=b.toNat:=by omega
 refine acall_sr c42 (by simp [a42]) ?_
 unfold a42
 refine SR.seq ?_
 simp -dsimp only [aqA,↓seqK,↓blkK,↓loopK,step,stepBin,eqB,Nat.add_assoc nid,simprocAttr,z0,Int.cast_ofNat_Int,Int.reduceBEq,Int.reduceBNe,Int.reduceLT,Int.reduceLE,Int.reduceAdd,Int.reduceSub,Int.reduceMul,Int.reduceToNat,Int.reduceNeg,Int.reduceTMod,Int.reduceEq,not_false_eq_true,Int.reducePow,Int.reduceFDiv,Nat.reducePow,Nat.reduceSub,Nat.reduceMul,Nat.min_eq_left,Nat.reduceEqDiff,BEq.rfl,Int.tdiv_one,LN_succ]
 refine SR.seqTo ⟨[(3,.int .u64 (IntKind.u64.wrap a)),(4,.int .u64 (b.toNat:Nat)),(1,.ptr nid 0)],[(nid,some (.box 35 [.int .i64 a,.int .i64 b]))],nid+100,nid⟩ ?_ ?_
 ·simp -dsimp only [aqA,↓seqK,↓blkK,↓loopK,step,stepBin,eqB,Nat.add_assoc nid,simprocAttr,z0,Int.cast_ofNat_Int,Int.reduceBEq,Int.reduceBNe,Int.reduceLT,Int.reduceLE,Int.reduceAdd,Int.reduceSub,Int.reduceMul,Int.reduceToNat,Int.reduceNeg,Int.reduceTMod,Int.reduceEq,not_false_eq_true,Int.reducePow,Int.reduceFDiv,Nat.reducePow,Nat.reduceSub,Nat.reduceMul,Nat.min_eq_left,Nat.reduceEqDiff,BEq.rfl,Int.tdiv_one,LN_succ]
  rw [wb,hbn]
  refine Cov.go [] [] ?_
  simp [cvT,step,res]
 refine SR.seqTo ⟨[(3,.int .u64 (a.natAbs:Nat)),(4,.int .u64 (b.toNat:Nat))],[],nid+200,nid⟩ ?_ ?_
 ·by_cases h:a<0
  ·have wa:=wrapU_neg (a:=a) h ha
   have d1:decide (a<0)=true:=decide_eq_true h
   simp -dsimp only [aqA,↓seqK,↓blkK,↓loopK,step,stepBin,eqB,Nat.add_assoc nid,simprocAttr,z0,Int.cast_ofNat_Int,Int.reduceBEq,Int.reduceBNe,Int.reduceLT,Int.reduceLE,Int.reduceAdd,Int.reduceSub,Int.reduceMul,Int.reduceToNat,Int.reduceNeg,Int.reduceTMod,Int.reduceEq,not_false_eq_true,Int.reducePow,Int.reduceFDiv,Nat.reducePow,Nat.reduceSub,Nat.reduceMul,Nat.min_eq_left,Nat.reduceEqDiff,BEq.rfl,Int.tdiv_one,LN_succ,d1]
   rw [wa]
   refine Cov.go [] [] ?_
   simp [cvT,step,res]
  ·have wa:=wrapU_pos (a:=a) (by omega) (by omega)
   have d1:decide (a<0)=false:=decide_eq_false h
   simp -dsimp only [aqA,↓seqK,↓blkK,↓loopK,step,stepBin,eqB,Nat.add_assoc nid,simprocAttr,z0,Int.cast_ofNat_Int,Int.reduceBEq,Int.reduceBNe,Int.reduceLT,Int.reduceLE,Int.reduceAdd,Int.reduceSub,Int.reduceMul,Int.reduceToNat,Int.reduceNeg,Int.reduceTMod,Int.reduceEq,not_false_eq_true,Int.reducePow,Int.reduceFDiv,Nat.reducePow,Nat.reduceSub,Nat.reduceMul,Nat.min_eq_left,Nat.reduceEqDiff,BEq.rfl,Int.tdiv_one,LN_succ,d1]
   rw [wa]
   refine Cov.go [] [] ?_
   simp [cvT,step,res]
 unfold lowV
 have hA:a.natAbs≤9223372036854775808:=by omega
 have hB:b.toNat≤9223372036854775808:=by omega
 generalize a.natAbs=A at *
 generalize b.toNat=B at *
 refine SR.seqW (ι:=Unit) (fun _=>⟨[(3,.int .u64 (Nat.gcd A B:Nat))],[],nid+400,nid⟩) ?_ (fun _=>?_)
 ·refine SR.block ?_
  refine SR.loopP (fun x:Nat × Nat=>Nat.gcd x.1 x.2=Nat.gcd A B∧x.1≤9223372036854775808∧x.2≤9223372036854775808) (fun x=>⟨[(3,.int .u64 (x.1:Nat)),(4,.int .u64 (x.2:Nat))],[],nid+300,nid⟩) (fun x=>x.2) (A,B) ⟨rfl,hA,hB⟩ (Cov.go [] [] ?_) (fun ⟨x,y⟩ hx=>?_)
  ·simp [cvT,step,res]
  obtain ⟨hg,h1,h2⟩:=hx
  simp only at hg h1 h2 ⊢
  refine SR.run (t:=.mk) ?_
  by_cases hy:y=0
  ·subst hy
   simp -dsimp only [aqA,↓seqK,↓blkK,↓loopK,step,stepBin,eqB,Nat.add_assoc nid,simprocAttr,z0,Int.cast_ofNat_Int,Int.reduceBEq,Int.reduceBNe,Int.reduceLT,Int.reduceLE,Int.reduceAdd,Int.reduceSub,Int.reduceMul,Int.reduceToNat,Int.reduceNeg,Int.reduceTMod,Int.reduceEq,not_false_eq_true,Int.reducePow,Int.reduceFDiv,Nat.reducePow,Nat.reduceSub,Nat.reduceMul,Nat.min_eq_left,Nat.reduceEqDiff,BEq.rfl,Int.tdiv_one,LN_succ]
   rw [Nat.gcd_zero_right] at hg
   refine ⟨(),?_⟩
   rw [← hg]
   refine Cov.go [] [] ?_
   simp [cvT,step,res]
  ·have d1:(((y:Nat):Int) != 0)=true:=by rw [bne_iff_ne]; omega
   simp -dsimp only [aqA,↓seqK,↓blkK,↓loopK,step,stepBin,eqB,Nat.add_assoc nid,simprocAttr,z0,Int.cast_ofNat_Int,Int.reduceBEq,Int.reduceBNe,Int.reduceLT,Int.reduceLE,Int.reduceAdd,Int.reduceSub,Int.reduceMul,Int.reduceToNat,Int.reduceNeg,Int.reduceTMod,Int.reduceEq,not_false_eq_true,Int.reducePow,Int.reduceFDiv,Nat.reducePow,Nat.reduceSub,Nat.reduceMul,Nat.min_eq_left,Nat.reduceEqDiff,BEq.rfl,Int.tdiv_one,LN_succ,d1]
   have hm:=Nat.mod_lt x (by omega:0<y)
   refine ⟨by omega,(y,x % y),⟨⟨?_,by omega,by simp only; omega⟩,by simp only; omega⟩,Cov.go [] [] ?_⟩
   ·simp only
    rw [← hg,Nat.gcd_comm x y,Nat.gcd_rec y x,Nat.gcd_comm]
   ·simp [cvT,step,res]
 have e:(((Nat.gcd A B:Nat):Int)==1)=decide (Nat.gcd A B=1):=by rw [Bool.eq_iff_iff]; simp; omega
 refine SR.run (t:=.mk) ?_
 simp -dsimp only [aqA,↓seqK,↓blkK,↓loopK,step,stepBin,eqB,Nat.add_assoc nid,simprocAttr,z0,Int.cast_ofNat_Int,Int.reduceBEq,Int.reduceBNe,Int.reduceLT,Int.reduceLE,Int.reduceAdd,Int.reduceSub,Int.reduceMul,Int.reduceToNat,Int.reduceNeg,Int.reduceTMod,Int.reduceEq,not_false_eq_true,Int.reducePow,Int.reduceFDiv,Nat.reducePow,Nat.reduceSub,Nat.reduceMul,Nat.min_eq_left,Nat.reduceEqDiff,BEq.rfl,Int.tdiv_one,LN_succ,e]
 refine RetOK.go [] [] (.inl rfl) ?_
 simp [a42,cvT,step,res]
set_option maxHeartbeats 4000000 in
theorem lowestR_c (a b:Int) (nid:Nat) (ha : -9223372036854775808≤a) (ha2:a≤9223372036854775807) (hb:1≤b) (hb2:b≤9223372036854775807):ACall Try.prog 48 [.agg [.int .i64 a,.int .i64 b]] [] nid (.bool (lowV a b)) []:=by
 have wb:=wrapU_pos (a:=b) (by omega) (by omega)
 have hbn:b.natAbs=b.toNat:=by omega
 refine acall_sr c48 (by simp [a48]) ?_
 unfold a48
 refine SR.seq ?_
 simp -dsimp only [aqA,↓seqK,↓blkK,↓loopK,step,stepBin,eqB,Nat.add_assoc nid,simprocAttr,z0,Int.cast_ofNat_Int,Int.reduceBEq,Int.reduceBNe,Int.reduceLT,Int.reduceLE,Int.reduceAdd,Int.reduceSub,Int.reduceMul,Int.reduceToNat,Int.reduceNeg,Int.reduceTMod,Int.reduceEq,not_false_eq_true,Int.reducePow,Int.reduceFDiv,Nat.reducePow,Nat.reduceSub,Nat.reduceMul,Nat.min_eq_left,Nat.reduceEqDiff,BEq.rfl,Int.tdiv_one,LN_succ]
 refine SR.seqTo ⟨[(3,.int .u64 (IntKind.u64.wrap a)),(4,.int .u64 (b.toNat:Nat)),(1,.ptr nid 0)],[(nid,some (.box 35 [.int .i64 a,.int .i64 b]))],nid+100,nid⟩ ?_ ?_
 ·simp -dsimp only [aqA,↓seqK,↓blkK,↓loopK,step,stepBin,eqB,Nat.add_assoc nid,simprocAttr,z0,Int.cast_ofNat_Int,Int.reduceBEq,Int.reduceBNe,Int.reduceLT,Int.reduceLE,Int.reduceAdd,Int.reduceSub,Int.reduceMul,Int.reduceToNat,Int.reduceNeg,Int.reduceTMod,Int.reduceEq,not_false_eq_true,Int.reducePow,Int.reduceFDiv,Nat.reducePow,Nat.reduceSub,Nat.reduceMul,Nat.min_eq_left,Nat.reduceEqDiff,BEq.rfl,Int.tdiv_one,LN_succ]
  rw [wb,hbn]
  refine Cov.go [] [] ?_
  simp [cvT,step,res]
 refine SR.seqTo ⟨[(3,.int .u64 (a.natAbs:Nat)),(4,.int .u64 (b.toNat:Nat))],[],nid+200,nid⟩ ?_ ?_
 ·by_cases h:a<0
  ·have wa:=wrapU_neg (a:=a) h ha
   have d1:decide (a<0)=true:=decide_eq_true h
   simp -dsimp only [aqA,↓seqK,↓blkK,↓loopK,step,stepBin,eqB,Nat.add_assoc nid,simprocAttr,z0,Int.cast_ofNat_Int,Int.reduceBEq,Int.reduceBNe,Int.reduceLT,Int.reduceLE,Int.reduceAdd,Int.reduceSub,Int.reduceMul,Int.reduceToNat,Int.reduceNeg,Int.reduceTMod,Int.reduceEq,not_false_eq_true,Int.reducePow,Int.reduceFDiv,Nat.reducePow,Nat.reduceSub,Nat.reduceMul,Nat.min_eq_left,Nat.reduceEqDiff,BEq.rfl,Int.tdiv_one,LN_succ,d1]
   rw [wa]
   refine Cov.go [] [] ?_
   simp [cvT,step,res]
  ·have wa:=wrapU_pos (a:=a) (by omega) (by omega)
   have d1:decide (a<0)=false:=decide_eq_false h
   simp -dsimp only [aqA,↓seqK,↓blkK,↓loopK,step,stepBin,eqB,Nat.add_assoc nid,simprocAttr,z0,Int.cast_ofNat_Int,Int.reduceBEq,Int.reduceBNe,Int.reduceLT,Int.reduceLE,Int.reduceAdd,Int.reduceSub,Int.reduceMul,Int.reduceToNat,Int.reduceNeg,Int.reduceTMod,Int.reduceEq,not_false_eq_true,Int.reducePow,Int.reduceFDiv,Nat.reducePow,Nat.reduceSub,Nat.reduceMul,Nat.min_eq_left,Nat.reduceEqDiff,BEq.rfl,Int.tdiv_one,LN_succ,d1]
   rw [wa]
   refine Cov.go [] [] ?_
   simp [cvT,step,res]
 unfold lowV
 have hA:a.natAbs≤9223372036854775808:=by omega
 have hB:b.toNat≤9223372036854775808:=by omega
 generalize a.natAbs=A at *
 generalize b.toNat=B at *
 refine SR.seqW (ι:=Unit) (fun _=>⟨[(3,.int .u64 (Nat.gcd A B:Nat))],[],nid+400,nid⟩) ?_ (fun _=>?_)
 ·refine SR.block ?_
  refine SR.loopP (fun x:Nat × Nat=>Nat.gcd x.1 x.2=Nat.gcd A B∧x.1≤9223372036854775808∧x.2≤9223372036854775808) (fun x=>⟨[(3,.int .u64 (x.1:Nat)),(4,.int .u64 (x.2:Nat))],[],nid+300,nid⟩) (fun x=>x.2) (A,B) ⟨rfl,hA,hB⟩ (Cov.go [] [] ?_) (fun ⟨x,y⟩ hx=>?_)
  ·simp [cvT,step,res]
  obtain ⟨hg,h1,h2⟩:=hx
  simp only at hg h1 h2 ⊢
  refine SR.run (t:=.mk) ?_
  by_cases hy:y=0
  ·subst hy
   simp -dsimp only [aqA,↓seqK,↓blkK,↓loopK,step,stepBin,eqB,Nat.add_assoc nid,simprocAttr,z0,Int.cast_ofNat_Int,Int.reduceBEq,Int.reduceBNe,Int.reduceLT,Int.reduceLE,Int.reduceAdd,Int.reduceSub,Int.reduceMul,Int.reduceToNat,Int.reduceNeg,Int.reduceTMod,Int.reduceEq,not_false_eq_true,Int.reducePow,Int.reduceFDiv,Nat.reducePow,Nat.reduceSub,Nat.reduceMul,Nat.min_eq_left,Nat.reduceEqDiff,BEq.rfl,Int.tdiv_one,LN_succ]
   rw [Nat.gcd_zero_right] at hg
   refine ⟨(),?_⟩
   rw [← hg]
   refine Cov.go [] [] ?_
   simp [cvT,step,res]
  ·have d1:(((y:Nat):Int) != 0)=true:=by rw [bne_iff_ne]; omega
   simp -dsimp only [aqA,↓seqK,↓blkK,↓loopK,step,stepBin,eqB,Nat.add_assoc nid,simprocAttr,z0,Int.cast_ofNat_Int,Int.reduceBEq,Int.reduceBNe,Int.reduceLT,Int.reduceLE,Int.reduceAdd,Int.reduceSub,Int.reduceMul,Int.reduceToNat,Int.reduceNeg,Int.reduceTMod,Int.reduceEq,not_false_eq_true,Int.reducePow,Int.reduceFDiv,Nat.reducePow,Nat.reduceSub,Nat.reduceMul,Nat.min_eq_left,Nat.reduceEqDiff,BEq.rfl,Int.tdiv_one,LN_succ,d1]
   have hm:=Nat.mod_lt x (by omega:0<y)
   refine ⟨by omega,(y,x % y),⟨⟨?_,by omega,by simp only; omega⟩,by simp only; omega⟩,Cov.go [] [] ?_⟩
   ·simp only
    rw [← hg,Nat.gcd_comm x y,Nat.gcd_rec y x,Nat.gcd_comm]
   ·simp [cvT,step,res]
 have e:(((Nat.gcd A B:Nat):Int)==1)=decide (Nat.gcd A B=1):=by rw [Bool.eq_iff_iff]; simp; omega
 refine SR.run (t:=.mk) ?_
 simp -dsimp only [aqA,↓seqK,↓blkK,↓loopK,step,stepBin,eqB,Nat.add_assoc nid,simprocAttr,z0,Int.cast_ofNat_Int,Int.reduceBEq,Int.reduceBNe,Int.reduceLT,Int.reduceLE,Int.reduceAdd,Int.reduceSub,Int.reduceMul,Int.reduceToNat,Int.reduceNeg,Int.reduceTMod,Int.reduceEq,not_false_eq_true,Int.reducePow,Int.reduceFDiv,Nat.reducePow,Nat.reduceSub,Nat.reduceMul,Nat.min_eq_left,Nat.reduceEqDiff,BEq.rfl,Int.tdiv_one,LN_succ,e]
 refine RetOK.go [] [] (.inl rfl) ?_
 simp [a48,cvT,step,res]
theorem inW_c (x lo hi:Int) (nid:Nat):ACall Try.prog 47 [.int .i64 x,.int .i64 lo,.int .i64 hi] [] nid (.bool (!outB x lo hi)) []:=by
 have e1:(!outB x lo hi)=(decide (lo≤x) && decide (x≤hi)):=by
  unfold outB
  rw [Bool.eq_iff_iff]
  simp
 rw [e1]
 refine acall_run c47 (by simp [a47]) ?_
 by_cases h1:lo≤x
 ·have d1:decide (lo≤x)=true:=decide_eq_true h1
  rw [d1]
  simp -dsimp only [aqA,↓seqK,↓blkK,↓loopK,step,stepBin,eqB,Nat.add_assoc nid,simprocAttr,z0,Int.cast_ofNat_Int,Int.reduceBEq,Int.reduceBNe,Int.reduceLT,Int.reduceLE,Int.reduceAdd,Int.reduceSub,Int.reduceMul,Int.reduceToNat,Int.reduceNeg,Int.reduceTMod,Int.reduceEq,not_false_eq_true,Int.reducePow,Int.reduceFDiv,Nat.reducePow,Nat.reduceSub,Nat.reduceMul,Nat.min_eq_left,Nat.reduceEqDiff,BEq.rfl,Int.tdiv_one,LN_succ,a47,d1]
  refine RetOK.go [] [] (.inl rfl) ?_
  simp [a47,cvT,step,res]
 ·have d1:decide (lo≤x)=false:=decide_eq_false h1
  rw [d1]
  simp -dsimp only [aqA,↓seqK,↓blkK,↓loopK,step,stepBin,eqB,Nat.add_assoc nid,simprocAttr,z0,Int.cast_ofNat_Int,Int.reduceBEq,Int.reduceBNe,Int.reduceLT,Int.reduceLE,Int.reduceAdd,Int.reduceSub,Int.reduceMul,Int.reduceToNat,Int.reduceNeg,Int.reduceTMod,Int.reduceEq,not_false_eq_true,Int.reducePow,Int.reduceFDiv,Nat.reducePow,Nat.reduceSub,Nat.reduceMul,Nat.min_eq_left,Nat.reduceEqDiff,BEq.rfl,Int.tdiv_one,LN_succ,a47,d1]
  refine RetOK.go [] [] (.inl rfl) ?_
  simp [a47,cvT,step,res]
theorem outW_c (x lo hi:Int) (nid:Nat):ACall Try.prog 41 [.int .i64 x,.int .i64 lo,.int .i64 hi] [] nid (.bool (outB x lo hi)) []:=by
 refine acall_run c41 (by simp [a41]) ?_
 by_cases h1:x<lo
 ·have e:outB x lo hi=true:=decide_eq_true (.inl h1)
  have b1:decide (x<lo)=true:=decide_eq_true h1
  rw [e]
  simp -dsimp only [aqA,↓seqK,↓blkK,↓loopK,step,stepBin,eqB,Nat.add_assoc nid,simprocAttr,z0,Int.cast_ofNat_Int,Int.reduceBEq,Int.reduceBNe,Int.reduceLT,Int.reduceLE,Int.reduceAdd,Int.reduceSub,Int.reduceMul,Int.reduceToNat,Int.reduceNeg,Int.reduceTMod,Int.reduceEq,not_false_eq_true,Int.reducePow,Int.reduceFDiv,Nat.reducePow,Nat.reduceSub,Nat.reduceMul,Nat.min_eq_left,Nat.reduceEqDiff,BEq.rfl,Int.tdiv_one,LN_succ,a41,b1]
  refine RetOK.go [] [] (.inl rfl) ?_
  simp [a41,cvT,step,res]
 ·have e:outB x lo hi=decide (hi<x):=by
   unfold outB
   rw [Bool.eq_iff_iff]
   simp only [decide_eq_true_eq]
   omega
  have b1:decide (x<lo)=false:=decide_eq_false h1
  rw [e]
  simp -dsimp only [aqA,↓seqK,↓blkK,↓loopK,step,stepBin,eqB,Nat.add_assoc nid,simprocAttr,z0,Int.cast_ofNat_Int,Int.reduceBEq,Int.reduceBNe,Int.reduceLT,Int.reduceLE,Int.reduceAdd,Int.reduceSub,Int.reduceMul,Int.reduceToNat,Int.reduceNeg,Int.reduceTMod,Int.reduceEq,not_false_eq_true,Int.reducePow,Int.reduceFDiv,Nat.reducePow,Nat.reduceSub,Nat.reduceMul,Nat.min_eq_left,Nat.reduceEqDiff,BEq.rfl,Int.tdiv_one,LN_succ,a41,b1]
  refine RetOK.go [] [] (.inl rfl) ?_
  simp [a41,cvT,step,res]
open Go.RowKit
def goodP (W:Waf) (p:Pt):Bool:=passedV W.pass (dieV W p.1 p.2)
def allP (W:Waf) (p:Pt):Bool:=testedV (dieV W p.1 p.2)
def cntTo (F:Pt→Bool) (l:List Pt) (k:Nat):Nat:=(l.take k).countP F
theorem cntTo_succ (F:Pt→Bool) {l:List Pt} {k:Nat} (h:k<l.length):cntTo F l (k+1)=cntTo F l k+(if F (l.getD k p0)=true then 1 else 0):=by
 unfold cntTo
 rw [take_snoc (x:=l.getD k p0) (by rw [List.getD_eq_getElem?_getD,List.getElem?_eq_getElem h]; rfl),List.countP_append,List.countP_cons,List.countP_nil,Nat.zero_add]
theorem ptMem' {l:List Pt} {k:Nat} (h:k<l.length):l.getD k p0∈l:=by
 rw [List.getD_eq_getElem?_getD,List.getElem?_eq_getElem h]; exact List.getElem_mem _
theorem WafOk.bd {W:Waf} (h:WafOk W) (hp:W.pass.length≤1000000):WafBd W:=⟨by have:=h.len; omega,fun r hr=>by have:=(h.row r hr).2.1; omega,hp⟩
open Go.RowKit
def neP (q p:Pt):Bool:=!(q.1==p.1 && q.2==p.2)
def rowAr (p:Pt) (j i:Nat):List Pt:=((List.range i).map fun i=>(p.1 - 1+((i:Nat):Int),p.2 - 1+((j:Nat):Int))).filter fun q=>neP q p
def arTo (p:Pt) (j:Nat):List Pt:=(List.range j).flatMap fun j=>rowAr p j 3
def arV (p:Pt):List Pt:=arTo p 3
def PtBd (p:Pt):Prop := -1000000≤p.1∧p.1≤1000000 ∧ -1000000≤p.2∧p.2≤1000000
theorem arV_mem {p q:Pt} (h:q∈arV p):p.1 - 1≤q.1∧q.1≤p.1+1∧p.2 - 1≤q.2∧q.2≤p.2+1:=by
 unfold arV arTo rowAr at h
 rw [List.mem_flatMap] at h
 obtain ⟨j,hj,h⟩:=h
 rw [List.mem_filter,List.mem_map] at h
 obtain ⟨⟨i,hi,rfl⟩,_⟩:=h
 have:=List.mem_range.1 hi
 have:=List.mem_range.1 hj
 simp only
 omega
theorem failed_c (nl:Bool) (W:Waf) (c:Int) (nid:Nat):ACall Try.prog 46 [wafP nl W,.int .u8 c] [] nid (.bool (failedV W.pass c)) []:=by
 refine acall_run c46 (by simp [a46]) ?_
 unfold wafP
 simp -dsimp only [a46,aqA,↓seqK,↓blkK,↓loopK,step,stepBin,eqB,Nat.add_assoc nid,simprocAttr,z0,Int.cast_ofNat_Int,Int.reduceBEq,Int.reduceBNe,Int.reduceLT,Int.reduceLE,Int.reduceAdd,Int.reduceSub,Int.reduceMul,Int.reduceToNat,Int.reduceNeg,Int.reduceTMod,Int.reduceEq,not_false_eq_true,Int.reducePow,Int.reduceFDiv,Nat.reducePow,Nat.reduceSub,Nat.reduceMul,Nat.min_eq_left,Nat.reduceEqDiff,BEq.rfl,Int.tdiv_one,LN_succ]
 refine CallO.pure (isBin_c _ _) ?_
 unfold failedV
 cases h:isBinV c <;> simp -dsimp only [aqA,↓seqK,↓blkK,↓loopK,step,stepBin,eqB,Nat.add_assoc nid,simprocAttr,z0,Int.cast_ofNat_Int,Int.reduceBEq,Int.reduceBNe,Int.reduceLT,Int.reduceLE,Int.reduceAdd,Int.reduceSub,Int.reduceMul,Int.reduceToNat,Int.reduceNeg,Int.reduceTMod,Int.reduceEq,not_false_eq_true,Int.reducePow,Int.reduceFDiv,Nat.reducePow,Nat.reduceSub,Nat.reduceMul,Nat.min_eq_left,Nat.reduceEqDiff,BEq.rfl,Int.tdiv_one,LN_succ]
 ·refine RetOK.go [] [] (.inl rfl) ?_
  simp [a46,cvT,step,res]
 ·refine CallO.pure (passed_c _ _ _ _ _ _ _ rfl) ?_
  simp -dsimp only [aqA,↓seqK,↓blkK,↓loopK,step,stepBin,eqB,Nat.add_assoc nid,simprocAttr,z0,Int.cast_ofNat_Int,Int.reduceBEq,Int.reduceBNe,Int.reduceLT,Int.reduceLE,Int.reduceAdd,Int.reduceSub,Int.reduceMul,Int.reduceToNat,Int.reduceNeg,Int.reduceTMod,Int.reduceEq,not_false_eq_true,Int.reducePow,Int.reduceFDiv,Nat.reducePow,Nat.reduceSub,Nat.reduceMul,Nat.min_eq_left,Nat.reduceEqDiff,BEq.rfl,Int.tdiv_one,LN_succ]
  refine RetOK.go [] [] (.inl rfl) ?_
  simp [a46,cvT,step,res]
def badP (W:Waf) (p:Pt):Bool:=failedV W.pass (dieV W p.1 p.2)
theorem PtBd.ar {p q:Pt} (h:PtBd p) (hq:q∈arV p):inI64 q.1∧inI64 q.2:=by
 obtain ⟨h1,h2,h3,h4⟩:=h
 have:=arV_mem hq
 unfold inI64
 omega
open Go.RowKit
def boxF (a b:Int):Option ABlk:=some (.box 35 [.int .i64 a,.int .i64 b])
def boxPt (x y:Int):Option ABlk:=some (.box 46 [.int .i64 x,.int .i64 y])
def mapC (F:Pt→Bool) (w h:Nat) (L:List Pt):Option ABlk:=some (.map .p (cDom F w h L) (.i .i64 (cVal F w h L)))
set_option maxHeartbeats 16000000 in
theorem repeats_ok (nl:Bool) (W:Waf) (w h:Nat) (a b:Int) (nid:Nat) (hW:WafOk W) (hv:waferV W=0) (hbd:WafBd W) (hf:repF w h a b=0) (R:List Pt) (hR:R=repTo (gC (cntC (allP W) w h (plV W)) (cntC (badP W) w h (plV W)) a b) w h) :
  ACall Try.prog 13 [wafP nl W,.int .i64 (w:Nat),.int .i64 (h:Nat),.agg [.int .i64 a,.int .i64 b]] [] nid (.tup [.sl nid 0 R.length,.int .i64 0]) [(nid,arrPl R)]:=by
 obtain ⟨hw,hh,hb,ha0,hab⟩:=repF_ok hf
 have hlow:lowV a b=true:=by
  unfold repF at hf
  split at hf
  ·cases hf
  ·split at hf
   ·cases hf
   ·rename_i h2
    cases e:lowV a b
    ·exact absurd (.inr e) h2
    ·rfl
 have hlb:=plTo_bd hW (Nat.le_refl _)
 have hlb2:(plV W).length≤60000:=hlb
 have ow:outB (w:Nat) 1 60=false:=decide_eq_false (by omega)
 have oh:outB (h:Nat) 1 60=false:=decide_eq_false (by omega)
 have oa:outB a 0 b=false:=decide_eq_false (by omega)
 have d1:decide (b<1)=false:=decide_eq_false (by omega)
 have d2:decide ((1000000:Int)<b)=false:=decide_eq_false (by omega)
 have cw:=fun m=>outW_c (w:Nat) 1 60 m
 have ch:=fun m=>outW_c (h:Nat) 1 60 m
 have ca:=fun m=>outW_c a 0 b m
 have cl:=fun m=>lowest_c a b m (by omega) (by omega) (by omega) (by omega)
 have cck:=fun m=>checkWafer_all nl W m hbd
 rw [ow] at cw
 rw [oh] at ch
 rw [oa] at ca
 rw [hlow] at cl
 rw [hv] at cck
 refine acall_sr c13 (by simp [a13]) ?_
 unfold a13 wafP
 unfold wafP at cck
 refine SR.seq ?_
 simp -dsimp only [aqA,↓seqK,↓blkK,↓loopK,step,stepBin,eqB,Nat.add_assoc nid,simprocAttr,z0,Int.cast_ofNat_Int,Int.reduceBEq,Int.reduceBNe,Int.reduceLT,Int.reduceLE,Int.reduceAdd,Int.reduceSub,Int.reduceMul,Int.reduceToNat,Int.reduceNeg,Int.reduceTMod,Int.reduceEq,not_false_eq_true,Int.reducePow,Int.reduceFDiv,Nat.reducePow,Nat.reduceSub,Nat.reduceMul,Nat.min_eq_left,Nat.reduceEqDiff,BEq.rfl,Int.tdiv_one,LN_succ]
 refine SR.seqTo ⟨[(4,.ptr nid 0),(7,.ptr (nid+4) 0),(1,.int .i64 (w:Nat)),(2,.int .i64 (h:Nat))],[(nid,boxW nl W),(nid+4,boxF a b)],nid+100,nid⟩ ?_ ?_
 ·simp -dsimp only [aqA,↓seqK,↓blkK,↓loopK,step,stepBin,eqB,Nat.add_assoc nid,simprocAttr,z0,Int.cast_ofNat_Int,Int.reduceBEq,Int.reduceBNe,Int.reduceLT,Int.reduceLE,Int.reduceAdd,Int.reduceSub,Int.reduceMul,Int.reduceToNat,Int.reduceNeg,Int.reduceTMod,Int.reduceEq,not_false_eq_true,Int.reducePow,Int.reduceFDiv,Nat.reducePow,Nat.reduceSub,Nat.reduceMul,Nat.min_eq_left,Nat.reduceEqDiff,BEq.rfl,Int.tdiv_one,LN_succ]
  refine CallO.pure (cck _) ?_
  simp -dsimp only [aqA,↓seqK,↓blkK,↓loopK,step,stepBin,eqB,Nat.add_assoc nid,simprocAttr,z0,Int.cast_ofNat_Int,Int.reduceBEq,Int.reduceBNe,Int.reduceLT,Int.reduceLE,Int.reduceAdd,Int.reduceSub,Int.reduceMul,Int.reduceToNat,Int.reduceNeg,Int.reduceTMod,Int.reduceEq,not_false_eq_true,Int.reducePow,Int.reduceFDiv,Nat.reducePow,Nat.reduceSub,Nat.reduceMul,Nat.min_eq_left,Nat.reduceEqDiff,BEq.rfl,Int.tdiv_one,LN_succ]
  refine Cov.go [] [] ?_
  simp [cvT,step,res,boxW,boxF]
 refine SR.seqTo ⟨[(4,.ptr nid 0),(7,.ptr (nid+4) 0),(1,.int .i64 (w:Nat)),(2,.int .i64 (h:Nat))],[(nid,boxW nl W),(nid+4,boxF a b)],nid+200,nid⟩ ?_ ?_
 ·unfold boxW boxF
  simp -dsimp only [aqA,↓seqK,↓blkK,↓loopK,step,stepBin,eqB,Nat.add_assoc nid,simprocAttr,z0,Int.cast_ofNat_Int,Int.reduceBEq,Int.reduceBNe,Int.reduceLT,Int.reduceLE,Int.reduceAdd,Int.reduceSub,Int.reduceMul,Int.reduceToNat,Int.reduceNeg,Int.reduceTMod,Int.reduceEq,not_false_eq_true,Int.reducePow,Int.reduceFDiv,Nat.reducePow,Nat.reduceSub,Nat.reduceMul,Nat.min_eq_left,Nat.reduceEqDiff,BEq.rfl,Int.tdiv_one,LN_succ]
  refine CallO.pure (cw _) ?_
  simp -dsimp only [aqA,↓seqK,↓blkK,↓loopK,step,stepBin,eqB,Nat.add_assoc nid,simprocAttr,z0,Int.cast_ofNat_Int,Int.reduceBEq,Int.reduceBNe,Int.reduceLT,Int.reduceLE,Int.reduceAdd,Int.reduceSub,Int.reduceMul,Int.reduceToNat,Int.reduceNeg,Int.reduceTMod,Int.reduceEq,not_false_eq_true,Int.reducePow,Int.reduceFDiv,Nat.reducePow,Nat.reduceSub,Nat.reduceMul,Nat.min_eq_left,Nat.reduceEqDiff,BEq.rfl,Int.tdiv_one,LN_succ]
  refine CallO.pure (ch _) ?_
  simp -dsimp only [aqA,↓seqK,↓blkK,↓loopK,step,stepBin,eqB,Nat.add_assoc nid,simprocAttr,z0,Int.cast_ofNat_Int,Int.reduceBEq,Int.reduceBNe,Int.reduceLT,Int.reduceLE,Int.reduceAdd,Int.reduceSub,Int.reduceMul,Int.reduceToNat,Int.reduceNeg,Int.reduceTMod,Int.reduceEq,not_false_eq_true,Int.reducePow,Int.reduceFDiv,Nat.reducePow,Nat.reduceSub,Nat.reduceMul,Nat.min_eq_left,Nat.reduceEqDiff,BEq.rfl,Int.tdiv_one,LN_succ,d1]
  refine CallO.pure (cl _) ?_
  simp -dsimp only [aqA,↓seqK,↓blkK,↓loopK,step,stepBin,eqB,Nat.add_assoc nid,simprocAttr,z0,Int.cast_ofNat_Int,Int.reduceBEq,Int.reduceBNe,Int.reduceLT,Int.reduceLE,Int.reduceAdd,Int.reduceSub,Int.reduceMul,Int.reduceToNat,Int.reduceNeg,Int.reduceTMod,Int.reduceEq,not_false_eq_true,Int.reducePow,Int.reduceFDiv,Nat.reducePow,Nat.reduceSub,Nat.reduceMul,Nat.min_eq_left,Nat.reduceEqDiff,BEq.rfl,Int.tdiv_one,LN_succ]
  refine CallO.pure (ca _) ?_
  simp -dsimp only [aqA,↓seqK,↓blkK,↓loopK,step,stepBin,eqB,Nat.add_assoc nid,simprocAttr,z0,Int.cast_ofNat_Int,Int.reduceBEq,Int.reduceBNe,Int.reduceLT,Int.reduceLE,Int.reduceAdd,Int.reduceSub,Int.reduceMul,Int.reduceToNat,Int.reduceNeg,Int.reduceTMod,Int.reduceEq,not_false_eq_true,Int.reducePow,Int.reduceFDiv,Nat.reducePow,Nat.reduceSub,Nat.reduceMul,Nat.min_eq_left,Nat.reduceEqDiff,BEq.rfl,Int.tdiv_one,LN_succ,d2]
  refine Cov.go [] [] ?_
  simp [cvT,step,res]
 refine SR.seqTo ⟨[(11,.mp (nid+300)),(12,.mp (nid+301)),(4,.ptr nid 0),(7,.ptr (nid+4) 0),(1,.int .i64 (w:Nat)),(2,.int .i64 (h:Nat))],[(nid,boxW nl W),(nid+4,boxF a b),(nid+300,mapC (badP W) w h []),(nid+301,mapC (allP W) w h [])],nid+400,nid⟩ ?_ ?_
 ·unfold boxW boxF
  simp -dsimp only [aqA,↓seqK,↓blkK,↓loopK,step,stepBin,eqB,Nat.add_assoc nid,simprocAttr,z0,Int.cast_ofNat_Int,Int.reduceBEq,Int.reduceBNe,Int.reduceLT,Int.reduceLE,Int.reduceAdd,Int.reduceSub,Int.reduceMul,Int.reduceToNat,Int.reduceNeg,Int.reduceTMod,Int.reduceEq,not_false_eq_true,Int.reducePow,Int.reduceFDiv,Nat.reducePow,Nat.reduceSub,Nat.reduceMul,Nat.min_eq_left,Nat.reduceEqDiff,BEq.rfl,Int.tdiv_one,LN_succ,mNew]
  refine Cov.go [(nid+300,nid+200),(nid+301,nid+204)] [] ?_
  simp [cvT,step,res,mapC,cDom,cVal,cntC_nil]
  first | refine ⟨?_,?_⟩ | skip
  all_goals (intro q _; cases q <;> rfl)
 generalize hP:plV W=P at *
 refine SR.seqW (ι:=Unit) (fun _=>⟨[(11,.mp (nid+300)),(12,.mp (nid+301)),(4,.ptr nid 0),(7,.ptr (nid+4) 0),(1,.int .i64 (w:Nat)),(2,.int .i64 (h:Nat))],[(nid,boxW nl W),(nid+4,boxF a b),(nid+300,mapC (badP W) w h (P)),(nid+301,mapC (allP W) w h (P))],nid+4000,nid⟩) ?_ (fun _=>?_)
 ·refine SR.seqTo ⟨[(58,.int .i64 0),(57,.int .i64 P.length),(56,.sl (nid+500) 0 P.length),(11,.mp (nid+300)),(12,.mp (nid+301)),(4,.ptr nid 0),(7,.ptr (nid+4) 0),(1,.int .i64 (w:Nat)),(2,.int .i64 (h:Nat))],[(nid,boxW nl W),(nid+4,boxF a b),(nid+300,mapC (badP W) w h ([])),(nid+301,mapC (allP W) w h ([])),(nid+500,arrPl P)],nid+600,nid⟩ ?_ ?_
  ·unfold boxW boxF mapC
   simp -dsimp only [aqA,↓seqK,↓blkK,↓loopK,step,stepBin,eqB,Nat.add_assoc nid,simprocAttr,z0,Int.cast_ofNat_Int,Int.reduceBEq,Int.reduceBNe,Int.reduceLT,Int.reduceLE,Int.reduceAdd,Int.reduceSub,Int.reduceMul,Int.reduceToNat,Int.reduceNeg,Int.reduceTMod,Int.reduceEq,not_false_eq_true,Int.reducePow,Int.reduceFDiv,Nat.reducePow,Nat.reduceSub,Nat.reduceMul,Nat.min_eq_left,Nat.reduceEqDiff,BEq.rfl,Int.tdiv_one,LN_succ]
   refine CallO.pure (places_all nl W _ hW) ?_
   rw [hP]
   unfold arrPl
   simp -dsimp only [aqA,↓seqK,↓blkK,↓loopK,step,stepBin,eqB,Nat.add_assoc nid,simprocAttr,z0,Int.cast_ofNat_Int,Int.reduceBEq,Int.reduceBNe,Int.reduceLT,Int.reduceLE,Int.reduceAdd,Int.reduceSub,Int.reduceMul,Int.reduceToNat,Int.reduceNeg,Int.reduceTMod,Int.reduceEq,not_false_eq_true,Int.reducePow,Int.reduceFDiv,Nat.reducePow,Nat.reduceSub,Nat.reduceMul,Nat.min_eq_left,Nat.reduceEqDiff,BEq.rfl,Int.tdiv_one,LN_succ]
   refine Cov.go [(nid+500,nid+404)] [] ?_
   simp [cvT,step,res,MEq.refl,arrPl,-List.getD_eq_getElem?_getD]
  refine SR.block ?_
  refine SR.loopP (fun k:Nat=>k≤P.length) (fun k=>⟨[(58,.int .i64 (k:Nat)),(57,.int .i64 P.length),(56,.sl (nid+500) 0 P.length),(11,.mp (nid+300)),(12,.mp (nid+301)),(4,.ptr nid 0),(7,.ptr (nid+4) 0),(1,.int .i64 (w:Nat)),(2,.int .i64 (h:Nat))],[(nid,boxW nl W),(nid+4,boxF a b),(nid+300,mapC (badP W) w h (P.take k)),(nid+301,mapC (allP W) w h (P.take k)),(nid+500,arrPl P)],nid+700,nid⟩) (fun k=>P.length+1 - k) 0 (by omega) (Cov.go [] [] ?_) (fun k hk=>?_)
  ·simp [cvT,step,res,mapC,boxW,boxF,arrPl,MEq.refl,-List.getD_eq_getElem?_getD]
  refine SR.seq ?_
  simp -dsimp only [aqA,↓seqK,↓blkK,↓loopK,step,stepBin,eqB,Nat.add_assoc nid,simprocAttr,z0,Int.cast_ofNat_Int,Int.reduceBEq,Int.reduceBNe,Int.reduceLT,Int.reduceLE,Int.reduceAdd,Int.reduceSub,Int.reduceMul,Int.reduceToNat,Int.reduceNeg,Int.reduceTMod,Int.reduceEq,not_false_eq_true,Int.reducePow,Int.reduceFDiv,Nat.reducePow,Nat.reduceSub,Nat.reduceMul,Nat.min_eq_left,Nat.reduceEqDiff,BEq.rfl,Int.tdiv_one,LN_succ]
  refine SR.seq ?_
  simp -dsimp only [aqA,↓seqK,↓blkK,↓loopK,step,stepBin,eqB,Nat.add_assoc nid,simprocAttr,z0,Int.cast_ofNat_Int,Int.reduceBEq,Int.reduceBNe,Int.reduceLT,Int.reduceLE,Int.reduceAdd,Int.reduceSub,Int.reduceMul,Int.reduceToNat,Int.reduceNeg,Int.reduceTMod,Int.reduceEq,not_false_eq_true,Int.reducePow,Int.reduceFDiv,Nat.reducePow,Nat.reduceSub,Nat.reduceMul,Nat.min_eq_left,Nat.reduceEqDiff,BEq.rfl,Int.tdiv_one,LN_succ]
  refine S2.dec (fun h3=>?_) (fun h3=>?_) <;> simp -dsimp only [aqA,↓seqK,↓blkK,↓loopK,step,stepBin,eqB,Nat.add_assoc nid,simprocAttr,z0,Int.cast_ofNat_Int,Int.reduceBEq,Int.reduceBNe,Int.reduceLT,Int.reduceLE,Int.reduceAdd,Int.reduceSub,Int.reduceMul,Int.reduceToNat,Int.reduceNeg,Int.reduceTMod,Int.reduceEq,not_false_eq_true,Int.reducePow,Int.reduceFDiv,Nat.reducePow,Nat.reduceSub,Nat.reduceMul,Nat.min_eq_left,Nat.reduceEqDiff,BEq.rfl,Int.tdiv_one,LN_succ]
  rotate_left
  ·have hkn:k=P.length:=by omega
   refine ⟨(),?_⟩
   rw [hkn,List.take_length]
   refine Cov.go [] [] ?_
   simp [cvT,step,res,mapC,boxW,boxF,MEq.refl]
  have hkl:k<P.length:=by omega
  have hmem:P.getD k p0∈plV W:=by rw [hP]; exact ptMem hkl
  obtain ⟨x,y,hxy,hy,hx⟩:=plV_mem hmem
  have hin:=plV_in hW hmem
  have htk:P.take (k+1)=P.take k++[P.getD k p0]:=by rw [List.take_add_one,List.getElem?_eq_getElem hkl,List.getD_eq_getElem?_getD,List.getElem?_eq_getElem hkl]; rfl
  rw [hxy] at hin htk
  simp only at hin
  have hcl:=fun F c=>cntC_le F w h (P.take k) c
  have hPl:(P.take k).length≤60000:=by rw [List.length_take]; omega
  generalize P.take k=L at *
  refine SR.seqW (ι:=Unit) (fun _=>⟨[(58,.int .i64 (k:Nat)),(57,.int .i64 P.length),(56,.sl (nid+500) 0 P.length),(11,.mp (nid+300)),(12,.mp (nid+301)),(4,.ptr nid 0),(7,.ptr (nid+4) 0),(1,.int .i64 (w:Nat)),(2,.int .i64 (h:Nat))],[(nid,boxW nl W),(nid+4,boxF a b),(nid+300,mapC (badP W) w h (P.take (k+1))),(nid+301,mapC (allP W) w h (P.take (k+1))),(nid+500,arrPl P)],nid+3000,nid⟩) ?_ (fun _=>?_)
  rotate_left
  ·refine SR.run (t:=.mk) ?_
   unfold boxW boxF mapC arrPl
   simp -dsimp only [aqA,↓seqK,↓blkK,↓loopK,step,stepBin,eqB,Nat.add_assoc nid,simprocAttr,z0,Int.cast_ofNat_Int,Int.reduceBEq,Int.reduceBNe,Int.reduceLT,Int.reduceLE,Int.reduceAdd,Int.reduceSub,Int.reduceMul,Int.reduceToNat,Int.reduceNeg,Int.reduceTMod,Int.reduceEq,not_false_eq_true,Int.reducePow,Int.reduceFDiv,Nat.reducePow,Nat.reduceSub,Nat.reduceMul,Nat.min_eq_left,Nat.reduceEqDiff,BEq.rfl,Int.tdiv_one,LN_succ]
   refine ⟨by unfold inI64; omega,k+1,⟨by omega,by omega⟩,Cov.go [] [] ?_⟩
   simp [cvT,step,res,MEq.refl,-List.getD_eq_getElem?_getD]
  refine SR.block ?_
  refine SR.seqTo ⟨[(14,.ptr (nid+800) 0),(58,.int .i64 (k:Nat)),(57,.int .i64 P.length),(56,.sl (nid+500) 0 P.length),(11,.mp (nid+300)),(12,.mp (nid+301)),(4,.ptr nid 0),(7,.ptr (nid+4) 0),(1,.int .i64 (w:Nat)),(2,.int .i64 (h:Nat))],[(nid,boxW nl W),(nid+4,boxF a b),(nid+300,mapC (badP W) w h (L)),(nid+301,mapC (allP W) w h (L)),(nid+500,arrPl P),(nid+800,boxPt (x:Nat) (y:Nat))],nid+900,nid⟩ ?_ ?_
  ·unfold boxW boxF mapC arrPl
   simp -dsimp only [aqA,↓seqK,↓blkK,↓loopK,step,stepBin,eqB,Nat.add_assoc nid,simprocAttr,z0,Int.cast_ofNat_Int,Int.reduceBEq,Int.reduceBNe,Int.reduceLT,Int.reduceLE,Int.reduceAdd,Int.reduceSub,Int.reduceMul,Int.reduceToNat,Int.reduceNeg,Int.reduceTMod,Int.reduceEq,not_false_eq_true,Int.reducePow,Int.reduceFDiv,Nat.reducePow,Nat.reduceSub,Nat.reduceMul,Nat.min_eq_left,Nat.reduceEqDiff,BEq.rfl,Int.tdiv_one,LN_succ]
   refine ⟨⟨by omega,by omega⟩,?_⟩
   rw [hxy]
   refine Cov.go [(nid+800,nid+712)] [] ?_
   simp [cvT,step,res,boxPt,MEq.refl,-List.getD_eq_getElem?_getD]
  refine SR.seqTo ⟨[(15,.ptr (nid+801) 0),(14,.ptr (nid+800) 0),(58,.int .i64 (k:Nat)),(57,.int .i64 P.length),(56,.sl (nid+500) 0 P.length),(11,.mp (nid+300)),(12,.mp (nid+301)),(4,.ptr nid 0),(7,.ptr (nid+4) 0),(1,.int .i64 (w:Nat)),(2,.int .i64 (h:Nat))],[(nid,boxW nl W),(nid+4,boxF a b),(nid+300,mapC (badP W) w h (L)),(nid+301,mapC (allP W) w h (L)),(nid+500,arrPl P),(nid+800,boxPt (x:Nat) (y:Nat)),(nid+801,boxPt ((x % w:Nat)) ((y % h:Nat)))],nid+1000,nid⟩ ?_ ?_
  ·unfold boxW boxF mapC arrPl boxPt
   simp -dsimp only [aqA,↓seqK,↓blkK,↓loopK,step,stepBin,eqB,Nat.add_assoc nid,simprocAttr,z0,Int.cast_ofNat_Int,Int.reduceBEq,Int.reduceBNe,Int.reduceLT,Int.reduceLE,Int.reduceAdd,Int.reduceSub,Int.reduceMul,Int.reduceToNat,Int.reduceNeg,Int.reduceTMod,Int.reduceEq,not_false_eq_true,Int.reducePow,Int.reduceFDiv,Nat.reducePow,Nat.reduceSub,Nat.reduceMul,Nat.min_eq_left,Nat.reduceEqDiff,BEq.rfl,Int.tdiv_one,LN_succ]
   refine ⟨by omega,by omega,Cov.go [(nid+801,nid+936)] [] ?_⟩
   simp [cvT,step,res,MEq.refl,-List.getD_eq_getElem?_getD]
  refine SR.seqTo ⟨[(16,.int .u8 (dieV W (x:Nat) (y:Nat))),(15,.ptr (nid+801) 0),(14,.ptr (nid+800) 0),(58,.int .i64 (k:Nat)),(57,.int .i64 P.length),(56,.sl (nid+500) 0 P.length),(11,.mp (nid+300)),(12,.mp (nid+301)),(4,.ptr nid 0),(7,.ptr (nid+4) 0),(1,.int .i64 (w:Nat)),(2,.int .i64 (h:Nat))],[(nid,boxW nl W),(nid+4,boxF a b),(nid+300,mapC (badP W) w h (L)),(nid+301,mapC (allP W) w h (L)),(nid+500,arrPl P),(nid+800,boxPt (x:Nat) (y:Nat)),(nid+801,boxPt ((x % w:Nat)) ((y % h:Nat)))],nid+1100,nid⟩ ?_ ?_
  ·have hat:=fun m=>at_all nl W (x:Nat) (y:Nat) m hW hin.1 hin.2
   unfold wafP at hat
   unfold boxW boxF mapC arrPl boxPt
   simp -dsimp only [aqA,↓seqK,↓blkK,↓loopK,step,stepBin,eqB,Nat.add_assoc nid,simprocAttr,z0,Int.cast_ofNat_Int,Int.reduceBEq,Int.reduceBNe,Int.reduceLT,Int.reduceLE,Int.reduceAdd,Int.reduceSub,Int.reduceMul,Int.reduceToNat,Int.reduceNeg,Int.reduceTMod,Int.reduceEq,not_false_eq_true,Int.reducePow,Int.reduceFDiv,Nat.reducePow,Nat.reduceSub,Nat.reduceMul,Nat.min_eq_left,Nat.reduceEqDiff,BEq.rfl,Int.tdiv_one,LN_succ]
   refine CallO.pure (hat _) ?_
   simp -dsimp only [aqA,↓seqK,↓blkK,↓loopK,step,stepBin,eqB,Nat.add_assoc nid,simprocAttr,z0,Int.cast_ofNat_Int,Int.reduceBEq,Int.reduceBNe,Int.reduceLT,Int.reduceLE,Int.reduceAdd,Int.reduceSub,Int.reduceMul,Int.reduceToNat,Int.reduceNeg,Int.reduceTMod,Int.reduceEq,not_false_eq_true,Int.reducePow,Int.reduceFDiv,Nat.reducePow,Nat.reduceSub,Nat.reduceMul,Nat.min_eq_left,Nat.reduceEqDiff,BEq.rfl,Int.tdiv_one,LN_succ]
   refine Cov.go [] [] ?_
   simp [cvT,step,res,MEq.refl,-List.getD_eq_getElem?_getD]
  refine SR.seqW (ι:=Unit) (fun _=>⟨[(16,.int .u8 (dieV W (x:Nat) (y:Nat))),(15,.ptr (nid+801) 0),(58,.int .i64 (k:Nat)),(57,.int .i64 P.length),(56,.sl (nid+500) 0 P.length),(11,.mp (nid+300)),(12,.mp (nid+301)),(4,.ptr nid 0),(7,.ptr (nid+4) 0),(1,.int .i64 (w:Nat)),(2,.int .i64 (h:Nat))],[(nid,boxW nl W),(nid+4,boxF a b),(nid+300,mapC (badP W) w h (L)),(nid+301,mapC (allP W) w h (P.take (k+1))),(nid+500,arrPl P),(nid+801,boxPt ((x % w:Nat)) ((y % h:Nat)))],nid+1300,nid⟩) ?_ (fun _=>?_)
  ·have hts:=fun m=>tested_c (dieV W (x:Nat) (y:Nat)) m
   have he:(isBinV (dieV W (x:Nat) (y:Nat)) || dieV W (x:Nat) (y:Nat)==42)=allP W ((x:Int),(y:Int)):=rfl
   rw [he] at hts
   rw [htk]
   unfold boxW boxF mapC arrPl boxPt
   refine SR.seq ?_
   simp -dsimp only [aqA,↓seqK,↓blkK,↓loopK,step,stepBin,eqB,Nat.add_assoc nid,simprocAttr,z0,Int.cast_ofNat_Int,Int.reduceBEq,Int.reduceBNe,Int.reduceLT,Int.reduceLE,Int.reduceAdd,Int.reduceSub,Int.reduceMul,Int.reduceToNat,Int.reduceNeg,Int.reduceTMod,Int.reduceEq,not_false_eq_true,Int.reducePow,Int.reduceFDiv,Nat.reducePow,Nat.reduceSub,Nat.reduceMul,Nat.min_eq_left,Nat.reduceEqDiff,BEq.rfl,Int.tdiv_one,LN_succ]
   refine CallO.pure (hts _) ?_
   simp -dsimp only [aqA,↓seqK,↓blkK,↓loopK,step,stepBin,eqB,Nat.add_assoc nid,simprocAttr,z0,Int.cast_ofNat_Int,Int.reduceBEq,Int.reduceBNe,Int.reduceLT,Int.reduceLE,Int.reduceAdd,Int.reduceSub,Int.reduceMul,Int.reduceToNat,Int.reduceNeg,Int.reduceTMod,Int.reduceEq,not_false_eq_true,Int.reducePow,Int.reduceFDiv,Nat.reducePow,Nat.reduceSub,Nat.reduceMul,Nat.min_eq_left,Nat.reduceEqDiff,BEq.rfl,Int.tdiv_one,LN_succ]
   refine SR.cond (b:=allP W ((x:Int),(y:Int))) (by simp [aqA,↓seqK,↓blkK,↓loopK,step,stepBin,eqB,Nat.add_assoc nid,simprocAttr,z0]) (fun hF=>?_) (fun hF=>?_)
   ·have hb1:=hcl (allP W) (((x % w:Nat):Int),((y % h:Nat):Int))
    have hxm:=Nat.mod_le x w
    have hym:=Nat.mod_le y h
    have hib:=hin
    unfold inI64 at hib
    have hh1:=cDom_hit (w:=w) (h:=h) (L:=L) hF
    have hh2:=cVal_hit (w:=w) (h:=h) (L:=L) hF
    refine SR.anyAll rfl ?_
    simp -dsimp only [aqA,↓seqK,↓blkK,↓loopK,step,stepBin,eqB,Nat.add_assoc nid,simprocAttr,z0,Int.cast_ofNat_Int,Int.reduceBEq,Int.reduceBNe,Int.reduceLT,Int.reduceLE,Int.reduceAdd,Int.reduceSub,Int.reduceMul,Int.reduceToNat,Int.reduceNeg,Int.reduceTMod,Int.reduceEq,not_false_eq_true,Int.reducePow,Int.reduceFDiv,Nat.reducePow,Nat.reduceSub,Nat.reduceMul,Nat.min_eq_left,Nat.reduceEqDiff,BEq.rfl,Int.tdiv_one,LN_succ,mGet,mPut,MCol.noL,rTree,conjR,readyB,List.range,List.range.loop,List.filter,List.length_cons,List.length_nil,List.getElem?_cons_zero,List.getElem?_cons_succ,Bool.not_false,Bool.not_true,Bool.true_and,Bool.and_true,Bool.false_and,Bool.and_false,Nat.reduceBEq,Nat.reduceAdd]
    simp only [cGet,hh1,hh2]
    repeat' apply And.intro
    all_goals first
     | (refine ⟨(),Cov.go [] [] ?_⟩; simp [cvT,step,res,MEq.refl,-List.getD_eq_getElem?_getD]; done)
     | omega
     | exact by unfold inI64; omega
   ·refine SR.run (t:=.mk) ?_
    simp -dsimp only [aqA,↓seqK,↓blkK,↓loopK,step,stepBin,eqB,Nat.add_assoc nid,simprocAttr,z0,Int.cast_ofNat_Int,Int.reduceBEq,Int.reduceBNe,Int.reduceLT,Int.reduceLE,Int.reduceAdd,Int.reduceSub,Int.reduceMul,Int.reduceToNat,Int.reduceNeg,Int.reduceTMod,Int.reduceEq,not_false_eq_true,Int.reducePow,Int.reduceFDiv,Nat.reducePow,Nat.reduceSub,Nat.reduceMul,Nat.min_eq_left,Nat.reduceEqDiff,BEq.rfl,Int.tdiv_one,LN_succ]
    rw [cDom_miss hF,cVal_miss hF]
    refine ⟨(),Cov.go [] [] ?_⟩
    simp [cvT,step,res,MEq.refl,-List.getD_eq_getElem?_getD]
  have hfl:=fun m=>failed_c nl W (dieV W (x:Nat) (y:Nat)) m
  have he:failedV W.pass (dieV W (x:Nat) (y:Nat))=badP W ((x:Int),(y:Int)):=rfl
  rw [he] at hfl
  unfold wafP at hfl
  rw [htk]
  unfold boxW boxF mapC arrPl boxPt
  refine SR.seq ?_
  simp -dsimp only [aqA,↓seqK,↓blkK,↓loopK,step,stepBin,eqB,Nat.add_assoc nid,simprocAttr,z0,Int.cast_ofNat_Int,Int.reduceBEq,Int.reduceBNe,Int.reduceLT,Int.reduceLE,Int.reduceAdd,Int.reduceSub,Int.reduceMul,Int.reduceToNat,Int.reduceNeg,Int.reduceTMod,Int.reduceEq,not_false_eq_true,Int.reducePow,Int.reduceFDiv,Nat.reducePow,Nat.reduceSub,Nat.reduceMul,Nat.min_eq_left,Nat.reduceEqDiff,BEq.rfl,Int.tdiv_one,LN_succ]
  refine CallO.pure (hfl _) ?_
  simp -dsimp only [aqA,↓seqK,↓blkK,↓loopK,step,stepBin,eqB,Nat.add_assoc nid,simprocAttr,z0,Int.cast_ofNat_Int,Int.reduceBEq,Int.reduceBNe,Int.reduceLT,Int.reduceLE,Int.reduceAdd,Int.reduceSub,Int.reduceMul,Int.reduceToNat,Int.reduceNeg,Int.reduceTMod,Int.reduceEq,not_false_eq_true,Int.reducePow,Int.reduceFDiv,Nat.reducePow,Nat.reduceSub,Nat.reduceMul,Nat.min_eq_left,Nat.reduceEqDiff,BEq.rfl,Int.tdiv_one,LN_succ]
  refine SR.cond (b:=badP W ((x:Int),(y:Int))) (by simp [aqA,↓seqK,↓blkK,↓loopK,step,stepBin,eqB,Nat.add_assoc nid,simprocAttr,z0]) (fun hF=>?_) (fun hF=>?_)
  ·have hb1:=hcl (badP W) (((x % w:Nat):Int),((y % h:Nat):Int))
   have hxm:=Nat.mod_le x w
   have hym:=Nat.mod_le y h
   have hib:=hin
   unfold inI64 at hib
   have hh1:=cDom_hit (w:=w) (h:=h) (L:=L) hF
   have hh2:=cVal_hit (w:=w) (h:=h) (L:=L) hF
   refine SR.anyAll rfl ?_
   simp -dsimp only [aqA,↓seqK,↓blkK,↓loopK,step,stepBin,eqB,Nat.add_assoc nid,simprocAttr,z0,Int.cast_ofNat_Int,Int.reduceBEq,Int.reduceBNe,Int.reduceLT,Int.reduceLE,Int.reduceAdd,Int.reduceSub,Int.reduceMul,Int.reduceToNat,Int.reduceNeg,Int.reduceTMod,Int.reduceEq,not_false_eq_true,Int.reducePow,Int.reduceFDiv,Nat.reducePow,Nat.reduceSub,Nat.reduceMul,Nat.min_eq_left,Nat.reduceEqDiff,BEq.rfl,Int.tdiv_one,LN_succ,mGet,mPut,MCol.noL,rTree,conjR,readyB,List.range,List.range.loop,List.filter,List.length_cons,List.length_nil,List.getElem?_cons_zero,List.getElem?_cons_succ,Bool.not_false,Bool.not_true,Bool.true_and,Bool.and_true,Bool.false_and,Bool.and_false,Nat.reduceBEq,Nat.reduceAdd]
   simp only [cGet,hh1,hh2]
   repeat' apply And.intro
   all_goals first
    | (refine ⟨(),Cov.go [] [] ?_⟩; simp [cvT,step,res,MEq.refl,-List.getD_eq_getElem?_getD]; done)
    | omega
    | exact by unfold inI64; omega
  ·refine SR.run (t:=.mk) ?_
   simp -dsimp only [aqA,↓seqK,↓blkK,↓loopK,step,stepBin,eqB,Nat.add_assoc nid,simprocAttr,z0,Int.cast_ofNat_Int,Int.reduceBEq,Int.reduceBNe,Int.reduceLT,Int.reduceLE,Int.reduceAdd,Int.reduceSub,Int.reduceMul,Int.reduceToNat,Int.reduceNeg,Int.reduceTMod,Int.reduceEq,not_false_eq_true,Int.reducePow,Int.reduceFDiv,Nat.reducePow,Nat.reduceSub,Nat.reduceMul,Nat.min_eq_left,Nat.reduceEqDiff,BEq.rfl,Int.tdiv_one,LN_succ]
   rw [cDom_miss hF,cVal_miss hF]
   refine ⟨(),Cov.go [] [] ?_⟩
   simp [cvT,step,res,MEq.refl,-List.getD_eq_getElem?_getD]
 generalize hG:gC (cntC (allP W) w h P) (cntC (badP W) w h P) a b=G at *
 refine SR.seqTo ⟨[(17,.sl (nid+4100) 0 ([]:List Pt).length),(11,.mp (nid+300)),(12,.mp (nid+301)),(7,.ptr (nid+4) 0),(1,.int .i64 (w:Nat)),(2,.int .i64 (h:Nat))],[(nid+4,boxF a b),(nid+300,mapC (badP W) w h P),(nid+301,mapC (allP W) w h P),(nid+4100,arrPl [])],nid+4200,nid⟩ ?_ ?_
 ·unfold boxF mapC
  simp -dsimp only [aqA,↓seqK,↓blkK,↓loopK,step,stepBin,eqB,Nat.add_assoc nid,simprocAttr,z0,Int.cast_ofNat_Int,Int.reduceBEq,Int.reduceBNe,Int.reduceLT,Int.reduceLE,Int.reduceAdd,Int.reduceSub,Int.reduceMul,Int.reduceToNat,Int.reduceNeg,Int.reduceTMod,Int.reduceEq,not_false_eq_true,Int.reducePow,Int.reduceFDiv,Nat.reducePow,Nat.reduceSub,Nat.reduceMul,Nat.min_eq_left,Nat.reduceEqDiff,BEq.rfl,Int.tdiv_one,LN_succ]
  refine Cov.go [] [(nid+4100,2)] ?_
  simp [cvT,step,res,MEq.refl,boxF,mapC,arrPl,-List.getD_eq_getElem?_getD]
 refine SR.seqW (ι:=Unit) (fun _=>⟨[(17,.sl (nid+4100) 0 R.length)],[(nid+4100,arrPl R)],nid+90000,nid⟩) ?_ (fun _=>?_)
 rotate_left
 ·refine SR.run (t:=.mk) ?_
  unfold arrPl
  simp -dsimp only [aqA,↓seqK,↓blkK,↓loopK,step,stepBin,eqB,Nat.add_assoc nid,simprocAttr,z0,Int.cast_ofNat_Int,Int.reduceBEq,Int.reduceBNe,Int.reduceLT,Int.reduceLE,Int.reduceAdd,Int.reduceSub,Int.reduceMul,Int.reduceToNat,Int.reduceNeg,Int.reduceTMod,Int.reduceEq,not_false_eq_true,Int.reducePow,Int.reduceFDiv,Nat.reducePow,Nat.reduceSub,Nat.reduceMul,Nat.min_eq_left,Nat.reduceEqDiff,BEq.rfl,Int.tdiv_one,LN_succ]
  refine RetOK.go [(nid,nid+4100)] [] (.inl rfl) ?_
  simp [a13,cvT,step,res,arrPl,-List.getD_eq_getElem?_getD]
 refine SR.seqTo ⟨[(93,.int .i64 (0:Nat)),(92,.int .i64 (h:Nat)),(17,.sl (nid+4100) 0 ([]:List Pt).length),(11,.mp (nid+300)),(12,.mp (nid+301)),(7,.ptr (nid+4) 0),(1,.int .i64 (w:Nat)),(2,.int .i64 (h:Nat))],[(nid+4,boxF a b),(nid+300,mapC (badP W) w h P),(nid+301,mapC (allP W) w h P),(nid+4100,arrPl [])],nid+4300,nid⟩ ?_ ?_
 ·unfold boxF mapC arrPl
  simp -dsimp only [aqA,↓seqK,↓blkK,↓loopK,step,stepBin,eqB,Nat.add_assoc nid,simprocAttr,z0,Int.cast_ofNat_Int,Int.reduceBEq,Int.reduceBNe,Int.reduceLT,Int.reduceLE,Int.reduceAdd,Int.reduceSub,Int.reduceMul,Int.reduceToNat,Int.reduceNeg,Int.reduceTMod,Int.reduceEq,not_false_eq_true,Int.reducePow,Int.reduceFDiv,Nat.reducePow,Nat.reduceSub,Nat.reduceMul,Nat.min_eq_left,Nat.reduceEqDiff,BEq.rfl,Int.tdiv_one,LN_succ]
  refine Cov.go [] [] ?_
  simp [cvT,step,res,MEq.refl,boxF,mapC,arrPl,-List.getD_eq_getElem?_getD]
 refine SR.block ?_
 refine SR.loopP (fun Y:Nat=>Y≤h) (fun Y=>⟨[(93,.int .i64 (Y:Nat)),(92,.int .i64 (h:Nat)),(17,.sl (nid+4100) 0 (repTo G w Y).length),(11,.mp (nid+300)),(12,.mp (nid+301)),(7,.ptr (nid+4) 0),(1,.int .i64 (w:Nat)),(2,.int .i64 (h:Nat))],[(nid+4,boxF a b),(nid+300,mapC (badP W) w h P),(nid+301,mapC (allP W) w h P),(nid+4100,arrPl (repTo G w Y))],nid+4400,nid⟩) (fun Y=>h+1 - Y) 0 (by omega) (Cov.go [] [] ?_) (fun Y hY=>?_)
 ·simp [cvT,step,res,MEq.refl,boxF,mapC,arrPl,repTo_zero,-List.getD_eq_getElem?_getD]
 refine SR.seq ?_
 simp -dsimp only [aqA,↓seqK,↓blkK,↓loopK,step,stepBin,eqB,Nat.add_assoc nid,simprocAttr,z0,Int.cast_ofNat_Int,Int.reduceBEq,Int.reduceBNe,Int.reduceLT,Int.reduceLE,Int.reduceAdd,Int.reduceSub,Int.reduceMul,Int.reduceToNat,Int.reduceNeg,Int.reduceTMod,Int.reduceEq,not_false_eq_true,Int.reducePow,Int.reduceFDiv,Nat.reducePow,Nat.reduceSub,Nat.reduceMul,Nat.min_eq_left,Nat.reduceEqDiff,BEq.rfl,Int.tdiv_one,LN_succ]
 refine SR.seq ?_
 simp -dsimp only [aqA,↓seqK,↓blkK,↓loopK,step,stepBin,eqB,Nat.add_assoc nid,simprocAttr,z0,Int.cast_ofNat_Int,Int.reduceBEq,Int.reduceBNe,Int.reduceLT,Int.reduceLE,Int.reduceAdd,Int.reduceSub,Int.reduceMul,Int.reduceToNat,Int.reduceNeg,Int.reduceTMod,Int.reduceEq,not_false_eq_true,Int.reducePow,Int.reduceFDiv,Nat.reducePow,Nat.reduceSub,Nat.reduceMul,Nat.min_eq_left,Nat.reduceEqDiff,BEq.rfl,Int.tdiv_one,LN_succ]
 refine S2.dec (fun h3=>?_) (fun h3=>?_) <;> simp -dsimp only [aqA,↓seqK,↓blkK,↓loopK,step,stepBin,eqB,Nat.add_assoc nid,simprocAttr,z0,Int.cast_ofNat_Int,Int.reduceBEq,Int.reduceBNe,Int.reduceLT,Int.reduceLE,Int.reduceAdd,Int.reduceSub,Int.reduceMul,Int.reduceToNat,Int.reduceNeg,Int.reduceTMod,Int.reduceEq,not_false_eq_true,Int.reducePow,Int.reduceFDiv,Nat.reducePow,Nat.reduceSub,Nat.reduceMul,Nat.min_eq_left,Nat.reduceEqDiff,BEq.rfl,Int.tdiv_one,LN_succ]
 rotate_left
 ·have e:Y=h:=by omega
  refine ⟨(),?_⟩
  rw [e,← hR]
  refine Cov.go [] [] ?_
  simp [cvT,step,res,MEq.refl,boxF,mapC,arrPl,-List.getD_eq_getElem?_getD]
 have hYl:Y<h:=by omega
 have hlY:=repTo_len G w Y
 have hYw:Y * w≤3600:=by
  have:Y * w≤60 * 60:=Nat.mul_le_mul (by omega) (by omega)
  omega
 have hsY:=repTo_succ G w Y
 refine SR.seqW (ι:=Unit) (fun _=>⟨[(93,.int .i64 (Y:Nat)),(92,.int .i64 (h:Nat)),(17,.sl (nid+4100) 0 (repTo G w (Y+1)).length),(11,.mp (nid+300)),(12,.mp (nid+301)),(7,.ptr (nid+4) 0),(1,.int .i64 (w:Nat)),(2,.int .i64 (h:Nat))],[(nid+4,boxF a b),(nid+300,mapC (badP W) w h P),(nid+301,mapC (allP W) w h P),(nid+4100,arrPl (repTo G w (Y+1)))],nid+80000,nid⟩) ?_ (fun _=>?_)
 rotate_left
 ·refine SR.run (t:=.mk) ?_
  unfold boxF mapC arrPl
  simp -dsimp only [aqA,↓seqK,↓blkK,↓loopK,step,stepBin,eqB,Nat.add_assoc nid,simprocAttr,z0,Int.cast_ofNat_Int,Int.reduceBEq,Int.reduceBNe,Int.reduceLT,Int.reduceLE,Int.reduceAdd,Int.reduceSub,Int.reduceMul,Int.reduceToNat,Int.reduceNeg,Int.reduceTMod,Int.reduceEq,not_false_eq_true,Int.reducePow,Int.reduceFDiv,Nat.reducePow,Nat.reduceSub,Nat.reduceMul,Nat.min_eq_left,Nat.reduceEqDiff,BEq.rfl,Int.tdiv_one,LN_succ]
  refine ⟨by unfold inI64; omega,Y+1,⟨by omega,by omega⟩,Cov.go [] [] ?_⟩
  simp [cvT,step,res,MEq.refl,boxF,mapC,arrPl,-List.getD_eq_getElem?_getD]
 rw [hsY]
 generalize repTo G w Y=L0 at *
 refine SR.block ?_
 refine SR.seqTo ⟨[(18,.int .i64 (Y:Nat)),(93,.int .i64 (Y:Nat)),(92,.int .i64 (h:Nat)),(17,.sl (nid+4100) 0 L0.length),(11,.mp (nid+300)),(12,.mp (nid+301)),(7,.ptr (nid+4) 0),(1,.int .i64 (w:Nat)),(2,.int .i64 (h:Nat))],[(nid+4,boxF a b),(nid+300,mapC (badP W) w h P),(nid+301,mapC (allP W) w h P),(nid+4100,arrPl L0)],nid+4500,nid⟩ ?_ ?_
 ·unfold boxF mapC arrPl
  simp -dsimp only [aqA,↓seqK,↓blkK,↓loopK,step,stepBin,eqB,Nat.add_assoc nid,simprocAttr,z0,Int.cast_ofNat_Int,Int.reduceBEq,Int.reduceBNe,Int.reduceLT,Int.reduceLE,Int.reduceAdd,Int.reduceSub,Int.reduceMul,Int.reduceToNat,Int.reduceNeg,Int.reduceTMod,Int.reduceEq,not_false_eq_true,Int.reducePow,Int.reduceFDiv,Nat.reducePow,Nat.reduceSub,Nat.reduceMul,Nat.min_eq_left,Nat.reduceEqDiff,BEq.rfl,Int.tdiv_one,LN_succ]
  refine Cov.go [] [] ?_
  simp [cvT,step,res,MEq.refl,boxF,mapC,arrPl,-List.getD_eq_getElem?_getD]
 refine SR.seqTo ⟨[(97,.int .i64 (0:Nat)),(96,.int .i64 (w:Nat)),(18,.int .i64 (Y:Nat)),(93,.int .i64 (Y:Nat)),(92,.int .i64 (h:Nat)),(17,.sl (nid+4100) 0 L0.length),(11,.mp (nid+300)),(12,.mp (nid+301)),(7,.ptr (nid+4) 0),(1,.int .i64 (w:Nat)),(2,.int .i64 (h:Nat))],[(nid+4,boxF a b),(nid+300,mapC (badP W) w h P),(nid+301,mapC (allP W) w h P),(nid+4100,arrPl L0)],nid+4600,nid⟩ ?_ ?_
 ·unfold boxF mapC arrPl
  simp -dsimp only [aqA,↓seqK,↓blkK,↓loopK,step,stepBin,eqB,Nat.add_assoc nid,simprocAttr,z0,Int.cast_ofNat_Int,Int.reduceBEq,Int.reduceBNe,Int.reduceLT,Int.reduceLE,Int.reduceAdd,Int.reduceSub,Int.reduceMul,Int.reduceToNat,Int.reduceNeg,Int.reduceTMod,Int.reduceEq,not_false_eq_true,Int.reducePow,Int.reduceFDiv,Nat.reducePow,Nat.reduceSub,Nat.reduceMul,Nat.min_eq_left,Nat.reduceEqDiff,BEq.rfl,Int.tdiv_one,LN_succ]
  refine Cov.go [] [] ?_
  simp [cvT,step,res,MEq.refl,boxF,mapC,arrPl,-List.getD_eq_getElem?_getD]
 refine SR.block ?_
 refine SR.loopP (fun X:Nat=>X≤w) (fun X=>⟨[(97,.int .i64 (X:Nat)),(96,.int .i64 (w:Nat)),(18,.int .i64 (Y:Nat)),(93,.int .i64 (Y:Nat)),(92,.int .i64 (h:Nat)),(17,.sl (nid+4100) 0 (L0++(rowPl Y X).filter G).length),(11,.mp (nid+300)),(12,.mp (nid+301)),(7,.ptr (nid+4) 0),(1,.int .i64 (w:Nat)),(2,.int .i64 (h:Nat))],[(nid+4,boxF a b),(nid+300,mapC (badP W) w h P),(nid+301,mapC (allP W) w h P),(nid+4100,arrPl (L0++(rowPl Y X).filter G))],nid+4700,nid⟩) (fun X=>w+1 - X) 0 (by omega) (Cov.go [] [] ?_) (fun X hX=>?_)
 ·simp [cvT,step,res,MEq.refl,boxF,mapC,arrPl,rowG_zero,-List.getD_eq_getElem?_getD]
 refine SR.seq ?_
 simp -dsimp only [aqA,↓seqK,↓blkK,↓loopK,step,stepBin,eqB,Nat.add_assoc nid,simprocAttr,z0,Int.cast_ofNat_Int,Int.reduceBEq,Int.reduceBNe,Int.reduceLT,Int.reduceLE,Int.reduceAdd,Int.reduceSub,Int.reduceMul,Int.reduceToNat,Int.reduceNeg,Int.reduceTMod,Int.reduceEq,not_false_eq_true,Int.reducePow,Int.reduceFDiv,Nat.reducePow,Nat.reduceSub,Nat.reduceMul,Nat.min_eq_left,Nat.reduceEqDiff,BEq.rfl,Int.tdiv_one,LN_succ]
 refine SR.seq ?_
 simp -dsimp only [aqA,↓seqK,↓blkK,↓loopK,step,stepBin,eqB,Nat.add_assoc nid,simprocAttr,z0,Int.cast_ofNat_Int,Int.reduceBEq,Int.reduceBNe,Int.reduceLT,Int.reduceLE,Int.reduceAdd,Int.reduceSub,Int.reduceMul,Int.reduceToNat,Int.reduceNeg,Int.reduceTMod,Int.reduceEq,not_false_eq_true,Int.reducePow,Int.reduceFDiv,Nat.reducePow,Nat.reduceSub,Nat.reduceMul,Nat.min_eq_left,Nat.reduceEqDiff,BEq.rfl,Int.tdiv_one,LN_succ]
 refine S2.dec (fun h4=>?_) (fun h4=>?_) <;> simp -dsimp only [aqA,↓seqK,↓blkK,↓loopK,step,stepBin,eqB,Nat.add_assoc nid,simprocAttr,z0,Int.cast_ofNat_Int,Int.reduceBEq,Int.reduceBNe,Int.reduceLT,Int.reduceLE,Int.reduceAdd,Int.reduceSub,Int.reduceMul,Int.reduceToNat,Int.reduceNeg,Int.reduceTMod,Int.reduceEq,not_false_eq_true,Int.reducePow,Int.reduceFDiv,Nat.reducePow,Nat.reduceSub,Nat.reduceMul,Nat.min_eq_left,Nat.reduceEqDiff,BEq.rfl,Int.tdiv_one,LN_succ]
 rotate_left
 ·have e:X=w:=by omega
  refine ⟨(),?_⟩
  rw [e]
  refine Cov.go [] [] ?_
  simp [cvT,step,res,MEq.refl,boxF,mapC,arrPl,-List.getD_eq_getElem?_getD]
 have hXl:X<w:=by omega
 have hlX:=rowG_len G Y X
 have hsX:=rowG_succ G Y X
 have hLL:(L0++(rowPl Y X).filter G).length≤5000:=by rw [List.length_append]; omega
 have hLs:L0++(rowPl Y (X+1)).filter G=(L0++(rowPl Y X).filter G)++(if G ((X:Int),(Y:Int))=true then [((X:Int),(Y:Int))] else []):=by rw [hsX,List.append_assoc]
 refine SR.seqW (ι:=Unit) (fun _=>⟨[(97,.int .i64 (X:Nat)),(96,.int .i64 (w:Nat)),(18,.int .i64 (Y:Nat)),(93,.int .i64 (Y:Nat)),(92,.int .i64 (h:Nat)),(17,.sl (nid+4100) 0 (L0++(rowPl Y (X+1)).filter G).length),(11,.mp (nid+300)),(12,.mp (nid+301)),(7,.ptr (nid+4) 0),(1,.int .i64 (w:Nat)),(2,.int .i64 (h:Nat))],[(nid+4,boxF a b),(nid+300,mapC (badP W) w h P),(nid+301,mapC (allP W) w h P),(nid+4100,arrPl (L0++(rowPl Y (X+1)).filter G))],nid+60000,nid⟩) ?_ (fun _=>?_)
 rotate_left
 ·refine SR.run (t:=.mk) ?_
  unfold boxF mapC arrPl
  simp -dsimp only [aqA,↓seqK,↓blkK,↓loopK,step,stepBin,eqB,Nat.add_assoc nid,simprocAttr,z0,Int.cast_ofNat_Int,Int.reduceBEq,Int.reduceBNe,Int.reduceLT,Int.reduceLE,Int.reduceAdd,Int.reduceSub,Int.reduceMul,Int.reduceToNat,Int.reduceNeg,Int.reduceTMod,Int.reduceEq,not_false_eq_true,Int.reducePow,Int.reduceFDiv,Nat.reducePow,Nat.reduceSub,Nat.reduceMul,Nat.min_eq_left,Nat.reduceEqDiff,BEq.rfl,Int.tdiv_one,LN_succ]
  refine ⟨by unfold inI64; omega,X+1,⟨by omega,by omega⟩,Cov.go [] [] ?_⟩
  simp [cvT,step,res,MEq.refl,boxF,mapC,arrPl,-List.getD_eq_getElem?_getD]
 rw [hLs]
 generalize L0++(rowPl Y X).filter G=L at *
 refine SR.block ?_
 refine SR.seqTo ⟨[(19,.int .i64 (X:Nat)),(97,.int .i64 (X:Nat)),(96,.int .i64 (w:Nat)),(18,.int .i64 (Y:Nat)),(93,.int .i64 (Y:Nat)),(92,.int .i64 (h:Nat)),(17,.sl (nid+4100) 0 L.length),(11,.mp (nid+300)),(12,.mp (nid+301)),(7,.ptr (nid+4) 0),(1,.int .i64 (w:Nat)),(2,.int .i64 (h:Nat))],[(nid+4,boxF a b),(nid+300,mapC (badP W) w h P),(nid+301,mapC (allP W) w h P),(nid+4100,arrPl L)],nid+4750,nid⟩ ?_ ?_
 ·unfold boxF mapC arrPl
  simp -dsimp only [aqA,↓seqK,↓blkK,↓loopK,step,stepBin,eqB,Nat.add_assoc nid,simprocAttr,z0,Int.cast_ofNat_Int,Int.reduceBEq,Int.reduceBNe,Int.reduceLT,Int.reduceLE,Int.reduceAdd,Int.reduceSub,Int.reduceMul,Int.reduceToNat,Int.reduceNeg,Int.reduceTMod,Int.reduceEq,not_false_eq_true,Int.reducePow,Int.reduceFDiv,Nat.reducePow,Nat.reduceSub,Nat.reduceMul,Nat.min_eq_left,Nat.reduceEqDiff,BEq.rfl,Int.tdiv_one,LN_succ]
  refine Cov.go [] [] ?_
  simp [cvT,step,res,MEq.refl,boxF,mapC,arrPl,boxPt,-List.getD_eq_getElem?_getD]
 refine SR.seqTo ⟨[(20,.ptr (nid+4780) 0),(97,.int .i64 (X:Nat)),(96,.int .i64 (w:Nat)),(18,.int .i64 (Y:Nat)),(93,.int .i64 (Y:Nat)),(92,.int .i64 (h:Nat)),(17,.sl (nid+4100) 0 L.length),(11,.mp (nid+300)),(12,.mp (nid+301)),(7,.ptr (nid+4) 0),(1,.int .i64 (w:Nat)),(2,.int .i64 (h:Nat))],[(nid+4,boxF a b),(nid+300,mapC (badP W) w h P),(nid+301,mapC (allP W) w h P),(nid+4100,arrPl L),(nid+4780,boxPt (X:Nat) (Y:Nat))],nid+4800,nid⟩ ?_ ?_
 ·unfold boxF mapC arrPl
  simp -dsimp only [aqA,↓seqK,↓blkK,↓loopK,step,stepBin,eqB,Nat.add_assoc nid,simprocAttr,z0,Int.cast_ofNat_Int,Int.reduceBEq,Int.reduceBNe,Int.reduceLT,Int.reduceLE,Int.reduceAdd,Int.reduceSub,Int.reduceMul,Int.reduceToNat,Int.reduceNeg,Int.reduceTMod,Int.reduceEq,not_false_eq_true,Int.reducePow,Int.reduceFDiv,Nat.reducePow,Nat.reduceSub,Nat.reduceMul,Nat.min_eq_left,Nat.reduceEqDiff,BEq.rfl,Int.tdiv_one,LN_succ]
  refine Cov.go [(nid+4780,nid+4762)] [] ?_
  simp [cvT,step,res,MEq.refl,boxF,mapC,arrPl,boxPt,-List.getD_eq_getElem?_getD]
 have hGx:G ((X:Int),(Y:Int))=decide (0<cntC (allP W) w h P ((X:Int),(Y:Int))∧a * (cntC (allP W) w h P ((X:Int),(Y:Int)):Int)≤(cntC (badP W) w h P ((X:Int),(Y:Int)):Int) * b):=by rw [← hG]; rfl
 have hA6:cntC (allP W) w h P ((X:Int),(Y:Int))≤60000:=by have:=cntC_le (allP W) w h P ((X:Int),(Y:Int)); omega
 have hB6:cntC (badP W) w h P ((X:Int),(Y:Int))≤60000:=by have:=cntC_le (badP W) w h P ((X:Int),(Y:Int)); omega
 have gA:=cGet (allP W) w h P (X:Int) (Y:Int)
 have gB:=cGet (badP W) w h P (X:Int) (Y:Int)
 generalize cntC (allP W) w h P ((X:Int),(Y:Int))=cA at *
 generalize cntC (badP W) w h P ((X:Int),(Y:Int))=cB at *
 have hm1:0≤(cB:Int) * b∧(cB:Int) * b≤60000000000:=by
  refine ⟨Int.mul_nonneg (by omega) (by omega),?_⟩
  have:=Int.mul_le_mul (a:=(cB:Int)) (b:=b) (c:=60000) (d:=1000000) (by omega) (by omega) (by omega) (by omega)
  omega
 have hm2:0≤a * (cA:Int)∧a * (cA:Int)≤60000000000:=by
  refine ⟨Int.mul_nonneg (by omega) (by omega),?_⟩
  have:=Int.mul_le_mul (a:=a) (b:=(cA:Int)) (c:=1000000) (d:=60000) (by omega) (by omega) (by omega) (by omega)
  omega
 refine SR.run (t:=.mk) ?_
 by_cases h6:0<cA
 rotate_left
 ·have d1:decide ((0:Int)<((cA:Nat):Int))=false:=decide_eq_false (by omega)
  rw [if_neg (by rw [hGx]; simp; omega),List.append_nil]
  unfold boxF mapC arrPl boxPt
  simp -dsimp only [aqA,↓seqK,↓blkK,↓loopK,step,stepBin,eqB,Nat.add_assoc nid,simprocAttr,z0,Int.cast_ofNat_Int,Int.reduceBEq,Int.reduceBNe,Int.reduceLT,Int.reduceLE,Int.reduceAdd,Int.reduceSub,Int.reduceMul,Int.reduceToNat,Int.reduceNeg,Int.reduceTMod,Int.reduceEq,not_false_eq_true,Int.reducePow,Int.reduceFDiv,Nat.reducePow,Nat.reduceSub,Nat.reduceMul,Nat.min_eq_left,Nat.reduceEqDiff,BEq.rfl,Int.tdiv_one,LN_succ,mGet,MCol.noL,gA,gB,d1]
  repeat' apply And.intro
  all_goals first
   | (refine ⟨(),Cov.go [] [] ?_⟩; simp [cvT,step,res,MEq.refl,boxF,mapC,arrPl,boxPt,-List.getD_eq_getElem?_getD]; done)
   | omega
   | exact by unfold inI64; omega
 have d1:decide ((0:Int)<((cA:Nat):Int))=true:=decide_eq_true (by omega)
 by_cases h7:a * (cA:Int)≤(cB:Int) * b
 rotate_left
 ·have d2:decide (a * (cA:Int)≤(cB:Int) * b)=false:=decide_eq_false h7
  rw [if_neg (by rw [hGx]; simp [h7]),List.append_nil]
  unfold boxF mapC arrPl boxPt
  simp -dsimp only [aqA,↓seqK,↓blkK,↓loopK,step,stepBin,eqB,Nat.add_assoc nid,simprocAttr,z0,Int.cast_ofNat_Int,Int.reduceBEq,Int.reduceBNe,Int.reduceLT,Int.reduceLE,Int.reduceAdd,Int.reduceSub,Int.reduceMul,Int.reduceToNat,Int.reduceNeg,Int.reduceTMod,Int.reduceEq,not_false_eq_true,Int.reducePow,Int.reduceFDiv,Nat.reducePow,Nat.reduceSub,Nat.reduceMul,Nat.min_eq_left,Nat.reduceEqDiff,BEq.rfl,Int.tdiv_one,LN_succ,mGet,MCol.noL,gA,gB,d1,d2]
  repeat' apply And.intro
  all_goals first
   | (refine ⟨(),Cov.go [] [] ?_⟩; simp [cvT,step,res,MEq.refl,boxF,mapC,arrPl,boxPt,-List.getD_eq_getElem?_getD]; done)
   | omega
   | exact by unfold inI64; omega
 have d2:decide (a * (cA:Int)≤(cB:Int) * b)=true:=decide_eq_true h7
 rw [if_pos (by rw [hGx]; simp [h6,h7])]
 have a1:=getD_appP L ((X:Int),(Y:Int)) rfl Prod.fst rfl (v:=(X:Int)) rfl
 have a2:=getD_appP L ((X:Int),(Y:Int)) rfl Prod.snd rfl (v:=(Y:Int)) rfl
 unfold boxF mapC arrPl boxPt
 simp -dsimp only [aqA,↓seqK,↓blkK,↓loopK,step,stepBin,eqB,Nat.add_assoc nid,simprocAttr,z0,Int.cast_ofNat_Int,Int.reduceBEq,Int.reduceBNe,Int.reduceLT,Int.reduceLE,Int.reduceAdd,Int.reduceSub,Int.reduceMul,Int.reduceToNat,Int.reduceNeg,Int.reduceTMod,Int.reduceEq,not_false_eq_true,Int.reducePow,Int.reduceFDiv,Nat.reducePow,Nat.reduceSub,Nat.reduceMul,Nat.min_eq_left,Nat.reduceEqDiff,BEq.rfl,Int.tdiv_one,LN_succ,mGet,MCol.noL,gA,gB,d1,d2]
 rw [a1,a2]
 refine ⟨⟨by unfold inI64; omega,by unfold inI64; omega⟩,⟨by unfold inI64; omega,by unfold inI64; omega⟩,by unfold inI64; omega,⟨by unfold inI64; omega,by unfold inI64; omega⟩,by unfold inI64; omega,⟨by omega,by omega⟩,(),Cov.go [(nid+4100,nid+4888)] [] ?_⟩
 simp [cvT,step,res,MEq.refl,boxF,mapC,arrPl,boxPt,-List.getD_eq_getElem?_getD]
open Go.RowKit
def repV (W:Waf) (w h a b:Int):Int:=if waferV W≠0 then waferV W else repF w h a b
set_option maxHeartbeats 16000000 in
theorem repeats_bad (nl:Bool) (W:Waf) (w h a b:Int) (nid:Nat) (hbd:WafBd W) (ha:inI64 a) (hb:inI64 b) (F:Int) (hF:repV W w h a b=F) (h0:F≠0) :
  ACall Try.prog 13 [wafP nl W,.int .i64 w,.int .i64 h,.agg [.int .i64 a,.int .i64 b]] [] nid (.tup [.lit true 0 [],.int .i64 F]) []:=by
 have cck:=fun m=>checkWafer_all nl W m hbd
 have cw:=fun m=>outW_c w 1 60 m
 have ch:=fun m=>outW_c h 1 60 m
 have ca:=fun m=>outW_c a 0 b m
 unfold inI64 at ha hb
 unfold repV at hF
 refine acall_sr c13 (by simp [a13]) ?_
 unfold a13 wafP
 unfold wafP at cck
 refine SR.seq ?_
 simp -dsimp only [aqA,↓seqK,↓blkK,↓loopK,step,stepBin,eqB,Nat.add_assoc nid,simprocAttr,z0,Int.cast_ofNat_Int,Int.reduceBEq,Int.reduceBNe,Int.reduceLT,Int.reduceLE,Int.reduceAdd,Int.reduceSub,Int.reduceMul,Int.reduceToNat,Int.reduceNeg,Int.reduceTMod,Int.reduceEq,not_false_eq_true,Int.reducePow,Int.reduceFDiv,Nat.reducePow,Nat.reduceSub,Nat.reduceMul,Nat.min_eq_left,Nat.reduceEqDiff,BEq.rfl,Int.tdiv_one,LN_succ]
 by_cases hv:waferV W=0
 rotate_left
 ·rw [if_pos hv] at hF
  rw [hF] at cck
  have d0:(F != 0)=true:=by rw [bne_iff_ne]; exact h0
  refine SR.run (t:=.mk) ?_
  simp -dsimp only [aqA,↓seqK,↓blkK,↓loopK,step,stepBin,eqB,Nat.add_assoc nid,simprocAttr,z0,Int.cast_ofNat_Int,Int.reduceBEq,Int.reduceBNe,Int.reduceLT,Int.reduceLE,Int.reduceAdd,Int.reduceSub,Int.reduceMul,Int.reduceToNat,Int.reduceNeg,Int.reduceTMod,Int.reduceEq,not_false_eq_true,Int.reducePow,Int.reduceFDiv,Nat.reducePow,Nat.reduceSub,Nat.reduceMul,Nat.min_eq_left,Nat.reduceEqDiff,BEq.rfl,Int.tdiv_one,LN_succ]
  refine CallO.pure (cck _) ?_
  simp -dsimp only [aqA,↓seqK,↓blkK,↓loopK,step,stepBin,eqB,Nat.add_assoc nid,simprocAttr,z0,Int.cast_ofNat_Int,Int.reduceBEq,Int.reduceBNe,Int.reduceLT,Int.reduceLE,Int.reduceAdd,Int.reduceSub,Int.reduceMul,Int.reduceToNat,Int.reduceNeg,Int.reduceTMod,Int.reduceEq,not_false_eq_true,Int.reducePow,Int.reduceFDiv,Nat.reducePow,Nat.reduceSub,Nat.reduceMul,Nat.min_eq_left,Nat.reduceEqDiff,BEq.rfl,Int.tdiv_one,LN_succ,d0]
  refine RetOK.go [] [] (.inl rfl) ?_
  simp [a13,cvT,step,res]
 rw [if_neg (by simp [hv])] at hF
 rw [hv] at cck
 refine SR.seqTo ⟨[(4,.ptr nid 0),(7,.ptr (nid+4) 0),(1,.int .i64 w),(2,.int .i64 h)],[(nid,boxW nl W),(nid+4,boxF a b)],nid+100,nid⟩ ?_ ?_
 ·simp -dsimp only [aqA,↓seqK,↓blkK,↓loopK,step,stepBin,eqB,Nat.add_assoc nid,simprocAttr,z0,Int.cast_ofNat_Int,Int.reduceBEq,Int.reduceBNe,Int.reduceLT,Int.reduceLE,Int.reduceAdd,Int.reduceSub,Int.reduceMul,Int.reduceToNat,Int.reduceNeg,Int.reduceTMod,Int.reduceEq,not_false_eq_true,Int.reducePow,Int.reduceFDiv,Nat.reducePow,Nat.reduceSub,Nat.reduceMul,Nat.min_eq_left,Nat.reduceEqDiff,BEq.rfl,Int.tdiv_one,LN_succ]
  refine CallO.pure (cck _) ?_
  simp -dsimp only [aqA,↓seqK,↓blkK,↓loopK,step,stepBin,eqB,Nat.add_assoc nid,simprocAttr,z0,Int.cast_ofNat_Int,Int.reduceBEq,Int.reduceBNe,Int.reduceLT,Int.reduceLE,Int.reduceAdd,Int.reduceSub,Int.reduceMul,Int.reduceToNat,Int.reduceNeg,Int.reduceTMod,Int.reduceEq,not_false_eq_true,Int.reducePow,Int.reduceFDiv,Nat.reducePow,Nat.reduceSub,Nat.reduceMul,Nat.min_eq_left,Nat.reduceEqDiff,BEq.rfl,Int.tdiv_one,LN_succ]
  refine Cov.go [] [] ?_
  simp [cvT,step,res,boxW,boxF]
 refine SR.run (t:=.mk) ?_
 unfold boxW boxF
 unfold repF at hF
 by_cases o1:outB w 1 60=true
 ·rw [if_pos (.inl o1)] at hF
  rw [o1] at cw
  subst hF
  simp -dsimp only [aqA,↓seqK,↓blkK,↓loopK,step,stepBin,eqB,Nat.add_assoc nid,simprocAttr,z0,Int.cast_ofNat_Int,Int.reduceBEq,Int.reduceBNe,Int.reduceLT,Int.reduceLE,Int.reduceAdd,Int.reduceSub,Int.reduceMul,Int.reduceToNat,Int.reduceNeg,Int.reduceTMod,Int.reduceEq,not_false_eq_true,Int.reducePow,Int.reduceFDiv,Nat.reducePow,Nat.reduceSub,Nat.reduceMul,Nat.min_eq_left,Nat.reduceEqDiff,BEq.rfl,Int.tdiv_one,LN_succ]
  refine CallO.pure (cw _) ?_
  simp -dsimp only [aqA,↓seqK,↓blkK,↓loopK,step,stepBin,eqB,Nat.add_assoc nid,simprocAttr,z0,Int.cast_ofNat_Int,Int.reduceBEq,Int.reduceBNe,Int.reduceLT,Int.reduceLE,Int.reduceAdd,Int.reduceSub,Int.reduceMul,Int.reduceToNat,Int.reduceNeg,Int.reduceTMod,Int.reduceEq,not_false_eq_true,Int.reducePow,Int.reduceFDiv,Nat.reducePow,Nat.reduceSub,Nat.reduceMul,Nat.min_eq_left,Nat.reduceEqDiff,BEq.rfl,Int.tdiv_one,LN_succ]
  refine RetOK.go [] [] (.inl rfl) ?_
  simp [a13,cvT,step,res]
 rw [Bool.not_eq_true] at o1
 rw [o1] at cw
 by_cases o2:outB h 1 60=true
 ·rw [if_pos (.inr o2)] at hF
  rw [o2] at ch
  subst hF
  simp -dsimp only [aqA,↓seqK,↓blkK,↓loopK,step,stepBin,eqB,Nat.add_assoc nid,simprocAttr,z0,Int.cast_ofNat_Int,Int.reduceBEq,Int.reduceBNe,Int.reduceLT,Int.reduceLE,Int.reduceAdd,Int.reduceSub,Int.reduceMul,Int.reduceToNat,Int.reduceNeg,Int.reduceTMod,Int.reduceEq,not_false_eq_true,Int.reducePow,Int.reduceFDiv,Nat.reducePow,Nat.reduceSub,Nat.reduceMul,Nat.min_eq_left,Nat.reduceEqDiff,BEq.rfl,Int.tdiv_one,LN_succ]
  refine CallO.pure (cw _) ?_
  simp -dsimp only [aqA,↓seqK,↓blkK,↓loopK,step,stepBin,eqB,Nat.add_assoc nid,simprocAttr,z0,Int.cast_ofNat_Int,Int.reduceBEq,Int.reduceBNe,Int.reduceLT,Int.reduceLE,Int.reduceAdd,Int.reduceSub,Int.reduceMul,Int.reduceToNat,Int.reduceNeg,Int.reduceTMod,Int.reduceEq,not_false_eq_true,Int.reducePow,Int.reduceFDiv,Nat.reducePow,Nat.reduceSub,Nat.reduceMul,Nat.min_eq_left,Nat.reduceEqDiff,BEq.rfl,Int.tdiv_one,LN_succ]
  refine CallO.pure (ch _) ?_
  simp -dsimp only [aqA,↓seqK,↓blkK,↓loopK,step,stepBin,eqB,Nat.add_assoc nid,simprocAttr,z0,Int.cast_ofNat_Int,Int.reduceBEq,Int.reduceBNe,Int.reduceLT,Int.reduceLE,Int.reduceAdd,Int.reduceSub,Int.reduceMul,Int.reduceToNat,Int.reduceNeg,Int.reduceTMod,Int.reduceEq,not_false_eq_true,Int.reducePow,Int.reduceFDiv,Nat.reducePow,Nat.reduceSub,Nat.reduceMul,Nat.min_eq_left,Nat.reduceEqDiff,BEq.rfl,Int.tdiv_one,LN_succ]
  refine RetOK.go [] [] (.inl rfl) ?_
  simp [a13,cvT,step,res]
 rw [Bool.not_eq_true] at o2
 rw [o2] at ch
 rw [if_neg (by rw [o1,o2]; simp)] at hF
 by_cases b1:b<1
 ·rw [if_pos (.inl b1)] at hF
  have d1:decide (b<1)=true:=decide_eq_true b1
  subst hF
  simp -dsimp only [aqA,↓seqK,↓blkK,↓loopK,step,stepBin,eqB,Nat.add_assoc nid,simprocAttr,z0,Int.cast_ofNat_Int,Int.reduceBEq,Int.reduceBNe,Int.reduceLT,Int.reduceLE,Int.reduceAdd,Int.reduceSub,Int.reduceMul,Int.reduceToNat,Int.reduceNeg,Int.reduceTMod,Int.reduceEq,not_false_eq_true,Int.reducePow,Int.reduceFDiv,Nat.reducePow,Nat.reduceSub,Nat.reduceMul,Nat.min_eq_left,Nat.reduceEqDiff,BEq.rfl,Int.tdiv_one,LN_succ]
  refine CallO.pure (cw _) ?_
  simp -dsimp only [aqA,↓seqK,↓blkK,↓loopK,step,stepBin,eqB,Nat.add_assoc nid,simprocAttr,z0,Int.cast_ofNat_Int,Int.reduceBEq,Int.reduceBNe,Int.reduceLT,Int.reduceLE,Int.reduceAdd,Int.reduceSub,Int.reduceMul,Int.reduceToNat,Int.reduceNeg,Int.reduceTMod,Int.reduceEq,not_false_eq_true,Int.reducePow,Int.reduceFDiv,Nat.reducePow,Nat.reduceSub,Nat.reduceMul,Nat.min_eq_left,Nat.reduceEqDiff,BEq.rfl,Int.tdiv_one,LN_succ]
  refine CallO.pure (ch _) ?_
  simp -dsimp only [aqA,↓seqK,↓blkK,↓loopK,step,stepBin,eqB,Nat.add_assoc nid,simprocAttr,z0,Int.cast_ofNat_Int,Int.reduceBEq,Int.reduceBNe,Int.reduceLT,Int.reduceLE,Int.reduceAdd,Int.reduceSub,Int.reduceMul,Int.reduceToNat,Int.reduceNeg,Int.reduceTMod,Int.reduceEq,not_false_eq_true,Int.reducePow,Int.reduceFDiv,Nat.reducePow,Nat.reduceSub,Nat.reduceMul,Nat.min_eq_left,Nat.reduceEqDiff,BEq.rfl,Int.tdiv_one,LN_succ,d1]
  refine RetOK.go [] [] (.inl rfl) ?_
  simp [a13,cvT,step,res]
 have d1:decide (b<1)=false:=decide_eq_false b1
 have cl:=fun m=>lowest_c a b m (by omega) (by omega) (by omega) (by omega)
 by_cases l1:lowV a b=false
 ·rw [if_pos (.inr l1)] at hF
  rw [l1] at cl
  subst hF
  simp -dsimp only [aqA,↓seqK,↓blkK,↓loopK,step,stepBin,eqB,Nat.add_assoc nid,simprocAttr,z0,Int.cast_ofNat_Int,Int.reduceBEq,Int.reduceBNe,Int.reduceLT,Int.reduceLE,Int.reduceAdd,Int.reduceSub,Int.reduceMul,Int.reduceToNat,Int.reduceNeg,Int.reduceTMod,Int.reduceEq,not_false_eq_true,Int.reducePow,Int.reduceFDiv,Nat.reducePow,Nat.reduceSub,Nat.reduceMul,Nat.min_eq_left,Nat.reduceEqDiff,BEq.rfl,Int.tdiv_one,LN_succ]
  refine CallO.pure (cw _) ?_
  simp -dsimp only [aqA,↓seqK,↓blkK,↓loopK,step,stepBin,eqB,Nat.add_assoc nid,simprocAttr,z0,Int.cast_ofNat_Int,Int.reduceBEq,Int.reduceBNe,Int.reduceLT,Int.reduceLE,Int.reduceAdd,Int.reduceSub,Int.reduceMul,Int.reduceToNat,Int.reduceNeg,Int.reduceTMod,Int.reduceEq,not_false_eq_true,Int.reducePow,Int.reduceFDiv,Nat.reducePow,Nat.reduceSub,Nat.reduceMul,Nat.min_eq_left,Nat.reduceEqDiff,BEq.rfl,Int.tdiv_one,LN_succ]
  refine CallO.pure (ch _) ?_
  simp -dsimp only [aqA,↓seqK,↓blkK,↓loopK,step,stepBin,eqB,Nat.add_assoc nid,simprocAttr,z0,Int.cast_ofNat_Int,Int.reduceBEq,Int.reduceBNe,Int.reduceLT,Int.reduceLE,Int.reduceAdd,Int.reduceSub,Int.reduceMul,Int.reduceToNat,Int.reduceNeg,Int.reduceTMod,Int.reduceEq,not_false_eq_true,Int.reducePow,Int.reduceFDiv,Nat.reducePow,Nat.reduceSub,Nat.reduceMul,Nat.min_eq_left,Nat.reduceEqDiff,BEq.rfl,Int.tdiv_one,LN_succ,d1]
  refine CallO.pure (cl _) ?_
  simp -dsimp only [aqA,↓seqK,↓blkK,↓loopK,step,stepBin,eqB,Nat.add_assoc nid,simprocAttr,z0,Int.cast_ofNat_Int,Int.reduceBEq,Int.reduceBNe,Int.reduceLT,Int.reduceLE,Int.reduceAdd,Int.reduceSub,Int.reduceMul,Int.reduceToNat,Int.reduceNeg,Int.reduceTMod,Int.reduceEq,not_false_eq_true,Int.reducePow,Int.reduceFDiv,Nat.reducePow,Nat.reduceSub,Nat.reduceMul,Nat.min_eq_left,Nat.reduceEqDiff,BEq.rfl,Int.tdiv_one,LN_succ]
  refine RetOK.go [] [] (.inl rfl) ?_
  simp [a13,cvT,step,res]
 rw [if_neg (by simp [b1,l1])] at hF
 rw [Bool.not_eq_false] at l1
 rw [l1] at cl
 by_cases o3:outB a 0 b=true
 ·rw [if_pos (.inl o3)] at hF
  rw [o3] at ca
  subst hF
  simp -dsimp only [aqA,↓seqK,↓blkK,↓loopK,step,stepBin,eqB,Nat.add_assoc nid,simprocAttr,z0,Int.cast_ofNat_Int,Int.reduceBEq,Int.reduceBNe,Int.reduceLT,Int.reduceLE,Int.reduceAdd,Int.reduceSub,Int.reduceMul,Int.reduceToNat,Int.reduceNeg,Int.reduceTMod,Int.reduceEq,not_false_eq_true,Int.reducePow,Int.reduceFDiv,Nat.reducePow,Nat.reduceSub,Nat.reduceMul,Nat.min_eq_left,Nat.reduceEqDiff,BEq.rfl,Int.tdiv_one,LN_succ]
  refine CallO.pure (cw _) ?_
  simp -dsimp only [aqA,↓seqK,↓blkK,↓loopK,step,stepBin,eqB,Nat.add_assoc nid,simprocAttr,z0,Int.cast_ofNat_Int,Int.reduceBEq,Int.reduceBNe,Int.reduceLT,Int.reduceLE,Int.reduceAdd,Int.reduceSub,Int.reduceMul,Int.reduceToNat,Int.reduceNeg,Int.reduceTMod,Int.reduceEq,not_false_eq_true,Int.reducePow,Int.reduceFDiv,Nat.reducePow,Nat.reduceSub,Nat.reduceMul,Nat.min_eq_left,Nat.reduceEqDiff,BEq.rfl,Int.tdiv_one,LN_succ]
  refine CallO.pure (ch _) ?_
  simp -dsimp only [aqA,↓seqK,↓blkK,↓loopK,step,stepBin,eqB,Nat.add_assoc nid,simprocAttr,z0,Int.cast_ofNat_Int,Int.reduceBEq,Int.reduceBNe,Int.reduceLT,Int.reduceLE,Int.reduceAdd,Int.reduceSub,Int.reduceMul,Int.reduceToNat,Int.reduceNeg,Int.reduceTMod,Int.reduceEq,not_false_eq_true,Int.reducePow,Int.reduceFDiv,Nat.reducePow,Nat.reduceSub,Nat.reduceMul,Nat.min_eq_left,Nat.reduceEqDiff,BEq.rfl,Int.tdiv_one,LN_succ,d1]
  refine CallO.pure (cl _) ?_
  simp -dsimp only [aqA,↓seqK,↓blkK,↓loopK,step,stepBin,eqB,Nat.add_assoc nid,simprocAttr,z0,Int.cast_ofNat_Int,Int.reduceBEq,Int.reduceBNe,Int.reduceLT,Int.reduceLE,Int.reduceAdd,Int.reduceSub,Int.reduceMul,Int.reduceToNat,Int.reduceNeg,Int.reduceTMod,Int.reduceEq,not_false_eq_true,Int.reducePow,Int.reduceFDiv,Nat.reducePow,Nat.reduceSub,Nat.reduceMul,Nat.min_eq_left,Nat.reduceEqDiff,BEq.rfl,Int.tdiv_one,LN_succ]
  refine CallO.pure (ca _) ?_
  simp -dsimp only [aqA,↓seqK,↓blkK,↓loopK,step,stepBin,eqB,Nat.add_assoc nid,simprocAttr,z0,Int.cast_ofNat_Int,Int.reduceBEq,Int.reduceBNe,Int.reduceLT,Int.reduceLE,Int.reduceAdd,Int.reduceSub,Int.reduceMul,Int.reduceToNat,Int.reduceNeg,Int.reduceTMod,Int.reduceEq,not_false_eq_true,Int.reducePow,Int.reduceFDiv,Nat.reducePow,Nat.reduceSub,Nat.reduceMul,Nat.min_eq_left,Nat.reduceEqDiff,BEq.rfl,Int.tdiv_one,LN_succ]
  refine RetOK.go [] [] (.inl rfl) ?_
  simp [a13,cvT,step,res]
 rw [Bool.not_eq_true] at o3
 rw [o3] at ca
 by_cases b2:1000000<b
 rotate_left
 ·rw [if_neg (by rw [o3]; simp [b2])] at hF
  exact absurd hF.symm h0
 rw [if_pos (.inr b2)] at hF
 have d2:decide ((1000000:Int)<b)=true:=decide_eq_true b2
 subst hF
 simp -dsimp only [aqA,↓seqK,↓blkK,↓loopK,step,stepBin,eqB,Nat.add_assoc nid,simprocAttr,z0,Int.cast_ofNat_Int,Int.reduceBEq,Int.reduceBNe,Int.reduceLT,Int.reduceLE,Int.reduceAdd,Int.reduceSub,Int.reduceMul,Int.reduceToNat,Int.reduceNeg,Int.reduceTMod,Int.reduceEq,not_false_eq_true,Int.reducePow,Int.reduceFDiv,Nat.reducePow,Nat.reduceSub,Nat.reduceMul,Nat.min_eq_left,Nat.reduceEqDiff,BEq.rfl,Int.tdiv_one,LN_succ]
 refine CallO.pure (cw _) ?_
 simp -dsimp only [aqA,↓seqK,↓blkK,↓loopK,step,stepBin,eqB,Nat.add_assoc nid,simprocAttr,z0,Int.cast_ofNat_Int,Int.reduceBEq,Int.reduceBNe,Int.reduceLT,Int.reduceLE,Int.reduceAdd,Int.reduceSub,Int.reduceMul,Int.reduceToNat,Int.reduceNeg,Int.reduceTMod,Int.reduceEq,not_false_eq_true,Int.reducePow,Int.reduceFDiv,Nat.reducePow,Nat.reduceSub,Nat.reduceMul,Nat.min_eq_left,Nat.reduceEqDiff,BEq.rfl,Int.tdiv_one,LN_succ]
 refine CallO.pure (ch _) ?_
 simp -dsimp only [aqA,↓seqK,↓blkK,↓loopK,step,stepBin,eqB,Nat.add_assoc nid,simprocAttr,z0,Int.cast_ofNat_Int,Int.reduceBEq,Int.reduceBNe,Int.reduceLT,Int.reduceLE,Int.reduceAdd,Int.reduceSub,Int.reduceMul,Int.reduceToNat,Int.reduceNeg,Int.reduceTMod,Int.reduceEq,not_false_eq_true,Int.reducePow,Int.reduceFDiv,Nat.reducePow,Nat.reduceSub,Nat.reduceMul,Nat.min_eq_left,Nat.reduceEqDiff,BEq.rfl,Int.tdiv_one,LN_succ,d1]
 refine CallO.pure (cl _) ?_
 simp -dsimp only [aqA,↓seqK,↓blkK,↓loopK,step,stepBin,eqB,Nat.add_assoc nid,simprocAttr,z0,Int.cast_ofNat_Int,Int.reduceBEq,Int.reduceBNe,Int.reduceLT,Int.reduceLE,Int.reduceAdd,Int.reduceSub,Int.reduceMul,Int.reduceToNat,Int.reduceNeg,Int.reduceTMod,Int.reduceEq,not_false_eq_true,Int.reducePow,Int.reduceFDiv,Nat.reducePow,Nat.reduceSub,Nat.reduceMul,Nat.min_eq_left,Nat.reduceEqDiff,BEq.rfl,Int.tdiv_one,LN_succ]
 refine CallO.pure (ca _) ?_
 simp -dsimp only [aqA,↓seqK,↓blkK,↓loopK,step,stepBin,eqB,Nat.add_assoc nid,simprocAttr,z0,Int.cast_ofNat_Int,Int.reduceBEq,Int.reduceBNe,Int.reduceLT,Int.reduceLE,Int.reduceAdd,Int.reduceSub,Int.reduceMul,Int.reduceToNat,Int.reduceNeg,Int.reduceTMod,Int.reduceEq,not_false_eq_true,Int.reducePow,Int.reduceFDiv,Nat.reducePow,Nat.reduceSub,Nat.reduceMul,Nat.min_eq_left,Nat.reduceEqDiff,BEq.rfl,Int.tdiv_one,LN_succ,d2]
 refine RetOK.go [] [] (.inl rfl) ?_
 simp [a13,cvT,step,res]
open Go.RowKit
def AscS (s:List UInt8):Prop:=∀ c∈s,c.toNat<128
def AscR (R:List (List UInt8)):Prop:=∀ r∈R,AscS r
theorem AscS.of {s:List UInt8} (h:s.all (fun c=>decide (c.toNat<128))=true):AscS s:=fun c hc=>of_decide_eq_true (List.all_eq_true.1 h c hc)
theorem AscS.app {s t:List UInt8} (h:AscS s) (h2:AscS t):AscS (s++t):=fun c hc=>by
 rcases List.mem_append.1 hc with h1 | h1
 ·exact h c h1
 ·exact h2 c h1
theorem AscS.at {s:List UInt8} (h:AscS s) (i:Nat):(s.getD i 0).toNat<128:=by
 rw [List.getD_eq_getElem?_getD]
 cases hg:s[i]? with
 | none=>simp
 | some c=>exact h c (List.mem_of_getElem? hg)
theorem AscR.at {R:List (List UInt8)} (h:AscR R) (i:Nat):AscS (R.getD i []):=by
 rw [List.getD_eq_getElem?_getD]
 cases hg:R[i]? with
 | none=>intro c hc; simp at hc
 | some c=>exact h c (List.mem_of_getElem? hg)
theorem AscR.set {R:List (List UInt8)} (h:AscR R) (i:Nat) {x:List UInt8} (hx:AscS x):AscR (R.set i x):=fun r hr=>by
 rcases List.mem_or_eq_of_mem_set hr with h1 | h1
 ·exact h r h1
 ·rw [h1]; exact hx
theorem AscR.snoc {R:List (List UInt8)} (h:AscR R) {x:List UInt8} (hx:AscS x):AscR (R++[x]):=fun r hr=>by
 rcases List.mem_append.1 hr with h1 | h1
 ·exact h r h1
 ·rw [List.mem_singleton.1 h1]; exact hx
set_option maxHeartbeats 4000000 in
theorem waferOfA (s nid:Nat) (nl:Bool) (A:List Int) (p:Nat) (h:s<nid) (hp:p≤1099510000000) (hA:A.length≤17592186044416) :
  ∃ x:Waf × Nat,((WafSmall x.1∧AscR x.1.rows)∧x.2≤p+60)∧ACall Try.prog 5 [.ptr s 0] [(s,strmC nl A p)] nid (.agg [.sl nid 0 x.1.rows.length,.str x.1.pass]) [(s,strmC nl A x.2),(nid,arrS x.1.rows)]:=by
 obtain ⟨e1,e2,e3,e4,e5,e6,e7,e8,e9⟩:=id_all h
 refine acall_ex c5 (by simp [a5]) ?_
 simp -dsimp only [aqT0,ROp0,aqA,↓seqK,↓blkK,↓loopK,step,stepBin,eqB,Nat.add_assoc nid,simprocAttr,z0,Int.cast_ofNat_Int,Int.reduceBEq,Int.reduceBNe,Int.reduceLT,Int.reduceLE,Int.reduceAdd,Int.reduceSub,Int.reduceMul,Int.reduceToNat,Int.reduceNeg,Int.reduceTMod,Int.reduceEq,not_false_eq_true,Int.reducePow,Int.reduceFDiv,Nat.reducePow,Nat.reduceSub,Nat.reduceMul,Nat.min_eq_left,Nat.reduceEqDiff,BEq.rfl,Int.tdiv_one,LN_succ,e1,e2,e3,e4,e5,e6,e7,e8,e9,a5,strmC_low]
 refine CallX.on (range_c s _ nl A p 1 6 (by omega) (by omega) hA (by omega) (by omega) (by omega)) (subH_get (by simp only [aqA,↓seqK,↓blkK,↓loopK,step,stepBin,eqB,Nat.add_assoc nid,simprocAttr,z0,e1,e2,e3,e4,e5,e6,e7,e8,e9])) ?_
 simp -dsimp only [aqT0,ROp0,aqA,↓seqK,↓blkK,↓loopK,step,stepBin,eqB,Nat.add_assoc nid,simprocAttr,z0,Int.cast_ofNat_Int,Int.reduceBEq,Int.reduceBNe,Int.reduceLT,Int.reduceLE,Int.reduceAdd,Int.reduceSub,Int.reduceMul,Int.reduceToNat,Int.reduceNeg,Int.reduceTMod,Int.reduceEq,not_false_eq_true,Int.reducePow,Int.reduceFDiv,Nat.reducePow,Nat.reduceSub,Nat.reduceMul,Nat.min_eq_left,Nat.reduceEqDiff,BEq.rfl,Int.tdiv_one,LN_succ,e1,e2,e3,e4,e5,e6,e7,e8,e9,strmC_low]
 have hwd:=rangeV_bd A p (lo:=1) (hi:=6) (by omega)
 obtain ⟨w,hw⟩:∃ w:Nat,rangeV A p 1 6=w:=⟨_,(Int.toNat_of_nonneg (by omega)).symm⟩
 rw [hw] at hwd ⊢
 clear hw
 refine CallX.some_go (T:=9) (nl:=nl) (A:=A) (p:=p+1) (g:=fun i=>[[49],[49],[49,50],[49,97],[]].getD i []) (by simp only [aqA,↓seqK,↓blkK,↓loopK,step,stepBin,eqB,Nat.add_assoc nid,simprocAttr,z0,e1,e2,e3,e4,e5,e6,e7,e8,e9]) (by simp only [aqA,↓seqK,↓blkK,↓loopK,step,stepBin,eqB,Nat.add_assoc nid,simprocAttr,z0,e1,e2,e3,e4,e5,e6,e7,e8,e9]) (by simp only [aqA,↓seqK,↓blkK,↓loopK,step,stepBin,eqB,Nat.add_assoc nid,simprocAttr,z0,e1,e2,e3,e4,e5,e6,e7,e8,e9]) (by omega) (by omega) hA (by omega) (by omega) ?_
 simp -dsimp only [aqT0,ROp0,aqA,↓seqK,↓blkK,↓loopK,step,stepBin,eqB,Nat.add_assoc nid,simprocAttr,z0,Int.cast_ofNat_Int,Int.reduceBEq,Int.reduceBNe,Int.reduceLT,Int.reduceLE,Int.reduceAdd,Int.reduceSub,Int.reduceMul,Int.reduceToNat,Int.reduceNeg,Int.reduceTMod,Int.reduceEq,not_false_eq_true,Int.reducePow,Int.reduceFDiv,Nat.reducePow,Nat.reduceSub,Nat.reduceMul,Nat.min_eq_left,Nat.reduceEqDiff,BEq.rfl,Int.tdiv_one,LN_succ,e1,e2,e3,e4,e5,e6,e7,e8,e9,strmC_low]
 have hps:=getD_all (P:=fun x:List UInt8=>x.length≤2) (l:=[[49],[49],[49,50],[49,97],[]]) (d:=[]) (by simp) (pickI_lt A (p+1) (n:=5) (by omega))
 generalize ([[49],[49],[49,50],[49,97],[]].getD (pickI A (p+1) 5) []:List UInt8)=pass at hps ⊢
 refine CallX.on (range_c s _ nl A (p+1+1) 1 6 (by omega) (by omega) hA (by omega) (by omega) (by omega)) (subH_get (by simp only [aqA,↓seqK,↓blkK,↓loopK,step,stepBin,eqB,Nat.add_assoc nid,simprocAttr,z0,e1,e2,e3,e4,e5,e6,e7,e8,e9])) ?_
 simp -dsimp only [aqT0,ROp0,aqA,↓seqK,↓blkK,↓loopK,step,stepBin,eqB,Nat.add_assoc nid,simprocAttr,z0,Int.cast_ofNat_Int,Int.reduceBEq,Int.reduceBNe,Int.reduceLT,Int.reduceLE,Int.reduceAdd,Int.reduceSub,Int.reduceMul,Int.reduceToNat,Int.reduceNeg,Int.reduceTMod,Int.reduceEq,not_false_eq_true,Int.reducePow,Int.reduceFDiv,Nat.reducePow,Nat.reduceSub,Nat.reduceMul,Nat.min_eq_left,Nat.reduceEqDiff,BEq.rfl,Int.tdiv_one,LN_succ,e1,e2,e3,e4,e5,e6,e7,e8,e9,strmC_low]
 have hmd:=rangeV_bd A (p+1+1) (lo:=1) (hi:=6) (by omega)
 obtain ⟨m,hm⟩:∃ w:Nat,rangeV A (p+1+1) 1 6=w:=⟨_,(Int.toNat_of_nonneg (by omega)).symm⟩
 rw [hm] at hmd ⊢
 clear hm
 refine LP0.mkP (fun x:List (List UInt8) × Nat=>x.1.length≤m∧(ShortRows 6 x.1∧AscR x.1)∧x.2≤p+3+6 * x.1.length) (fun x=>⟨[(14,.int .i64 x.1.length),(13,.int .i64 m),(4,.ptr (nid+32) 0),(3,.int .i64 w),(2,.ptr nid 0),(0,.ptr s 0)],
  [(s,strmC nl A x.2),(nid,some (.box 28 [.lit true 0 [],.str []])),(nid+32,some (.box 28 [.sl (nid+36) 0 x.1.length,.str pass])),(nid+36,arrS x.1)],nid+200,nid⟩) (fun x=>m+1 - x.1.length) ([],p+1+1+1) ⟨by simp,⟨fun r hr=>by simp at hr,fun r hr=>by simp at hr⟩,by simp⟩ (Cov.go [] [(nid+36,1)] ?_) (fun x hx=>?_)
 ·simp [cvT,step,res,e1,e2,e3,e4,e5,e6,e7,e8,e9,strmC,arrS]
 obtain ⟨R,q⟩:=x
 obtain ⟨hR1,⟨hR2,hRa⟩,hq⟩:=hx
 simp only at hR1 hR2 hq
 unfold arrS
 simp -dsimp only [aqT0,ROp0,aqA,↓seqK,↓blkK,↓loopK,step,stepBin,eqB,Nat.add_assoc nid,simprocAttr,z0,Int.cast_ofNat_Int,Int.reduceBEq,Int.reduceBNe,Int.reduceLT,Int.reduceLE,Int.reduceAdd,Int.reduceSub,Int.reduceMul,Int.reduceToNat,Int.reduceNeg,Int.reduceTMod,Int.reduceEq,not_false_eq_true,Int.reducePow,Int.reduceFDiv,Nat.reducePow,Nat.reduceSub,Nat.reduceMul,Nat.min_eq_left,Nat.reduceEqDiff,BEq.rfl,Int.tdiv_one,LN_succ,e1,e2,e3,e4,e5,e6,e7,e8,e9,strmC_low]
 refine S2.dec (fun h2=>?_) (fun h2=>?_) <;> simp -dsimp only [aqT0,ROp0,aqA,↓seqK,↓blkK,↓loopK,step,stepBin,eqB,Nat.add_assoc nid,simprocAttr,z0,Int.cast_ofNat_Int,Int.reduceBEq,Int.reduceBNe,Int.reduceLT,Int.reduceLE,Int.reduceAdd,Int.reduceSub,Int.reduceMul,Int.reduceToNat,Int.reduceNeg,Int.reduceTMod,Int.reduceEq,not_false_eq_true,Int.reducePow,Int.reduceFDiv,Nat.reducePow,Nat.reduceSub,Nat.reduceMul,Nat.min_eq_left,Nat.reduceEqDiff,BEq.rfl,Int.tdiv_one,LN_succ,e1,e2,e3,e4,e5,e6,e7,e8,e9,strmC_low]
 ·refine LP0.mkP (fun x:List UInt8 × Nat=>(x.1.length≤w∧AscS x.1)∧x.2≤q+x.1.length) (fun x=>⟨[(17,.int .i64 x.1.length),(16,.int .i64 w),(5,.str x.1),(14,.int .i64 R.length),(13,.int .i64 m),(4,.ptr (nid+32) 0),(3,.int .i64 w),(2,.ptr nid 0),(0,.ptr s 0)],
   [(s,strmC nl A x.2),(nid,some (.box 28 [.lit true 0 [],.str []])),(nid+32,some (.box 28 [.sl (nid+36) 0 R.length,.str pass])),(nid+36,arrS R)],nid+400,nid⟩) (fun x=>w+1 - x.1.length) ([],q) ⟨⟨by simp,fun c hc=>by simp at hc⟩,by simp⟩ (Cov.go [] [] ?_) (fun x hx=>?_)
  ·simp [cvT,step,res,e1,e2,e3,e4,e5,e6,e7,e8,e9,strmC,arrS]
  obtain ⟨t,r⟩:=x
  obtain ⟨⟨ht1,hta⟩,hr⟩:=hx
  simp only at ht1 hr
  unfold arrS
  simp -dsimp only [aqT0,ROp0,aqA,↓seqK,↓blkK,↓loopK,step,stepBin,eqB,Nat.add_assoc nid,simprocAttr,z0,Int.cast_ofNat_Int,Int.reduceBEq,Int.reduceBNe,Int.reduceLT,Int.reduceLE,Int.reduceAdd,Int.reduceSub,Int.reduceMul,Int.reduceToNat,Int.reduceNeg,Int.reduceTMod,Int.reduceEq,not_false_eq_true,Int.reducePow,Int.reduceFDiv,Nat.reducePow,Nat.reduceSub,Nat.reduceMul,Nat.min_eq_left,Nat.reduceEqDiff,BEq.rfl,Int.tdiv_one,LN_succ,e1,e2,e3,e4,e5,e6,e7,e8,e9,strmC_low]
  refine S2.dec (fun h3=>?_) (fun h3=>?_) <;> simp -dsimp only [aqT0,ROp0,aqA,↓seqK,↓blkK,↓loopK,step,stepBin,eqB,Nat.add_assoc nid,simprocAttr,z0,Int.cast_ofNat_Int,Int.reduceBEq,Int.reduceBNe,Int.reduceLT,Int.reduceLE,Int.reduceAdd,Int.reduceSub,Int.reduceMul,Int.reduceToNat,Int.reduceNeg,Int.reduceTMod,Int.reduceEq,not_false_eq_true,Int.reducePow,Int.reduceFDiv,Nat.reducePow,Nat.reduceSub,Nat.reduceMul,Nat.min_eq_left,Nat.reduceEqDiff,BEq.rfl,Int.tdiv_one,LN_succ,e1,e2,e3,e4,e5,e6,e7,e8,e9,strmC_low]
  ·refine CallX.some_go (T:=9) (nl:=nl) (A:=A) (p:=r) (g:=fun i=>[[49],[49],[49],[120],[120],[63],[46],[42],[50],[97]].getD i []) (by simp only [aqA,↓seqK,↓blkK,↓loopK,step,stepBin,eqB,Nat.add_assoc nid,simprocAttr,z0,e1,e2,e3,e4,e5,e6,e7,e8,e9]) (by simp only [aqA,↓seqK,↓blkK,↓loopK,step,stepBin,eqB,Nat.add_assoc nid,simprocAttr,z0,e1,e2,e3,e4,e5,e6,e7,e8,e9]) (by simp only [aqA,↓seqK,↓blkK,↓loopK,step,stepBin,eqB,Nat.add_assoc nid,simprocAttr,z0,e1,e2,e3,e4,e5,e6,e7,e8,e9]) (by omega) (by omega) hA (by omega) (by omega) ?_
   simp -dsimp only [aqT0,ROp0,aqA,↓seqK,↓blkK,↓loopK,step,stepBin,eqB,Nat.add_assoc nid,simprocAttr,z0,Int.cast_ofNat_Int,Int.reduceBEq,Int.reduceBNe,Int.reduceLT,Int.reduceLE,Int.reduceAdd,Int.reduceSub,Int.reduceMul,Int.reduceToNat,Int.reduceNeg,Int.reduceTMod,Int.reduceEq,not_false_eq_true,Int.reducePow,Int.reduceFDiv,Nat.reducePow,Nat.reduceSub,Nat.reduceMul,Nat.min_eq_left,Nat.reduceEqDiff,BEq.rfl,Int.tdiv_one,LN_succ,e1,e2,e3,e4,e5,e6,e7,e8,e9,strmC_low]
   have hb:=getD_all (P:=fun x:List UInt8=>x.length=1∧x.all (fun c=>decide (c.toNat<128))=true) (l:=[[49],[49],[49],[120],[120],[63],[46],[42],[50],[97]]) (d:=[]) (by decide) (pickI_lt A r (n:=10) (by omega))
   generalize ([[49],[49],[49],[120],[120],[63],[46],[42],[50],[97]].getD (pickI A r 10) []:List UInt8)=b at hb ⊢
   obtain ⟨hb,hba⟩:=hb
   have hba:AscS b:=AscS.of hba
   have e:(t++b).length=t.length+1:=by rw [List.length_append,hb]
   have e2:((t++b).length:Int)=(t.length:Int)+1:=by omega
   refine ⟨by omega,by unfold inI64; omega,(t++b,r+1),⟨⟨⟨by simp only; omega,by simp only; exact hta.app hba⟩,by simp only; omega⟩,by simp only; omega⟩,Cov.go [] [] ?_⟩
   simp [cvT,step,res,e1,e2,e3,e4,e5,e6,e7,e8,e9,strmC,arrS,e,e2,-List.length_append]
  ·have hl:(R++[t]).length=R.length+1:=by simp
   rw [getD_app1 R t rfl]
   refine ⟨by omega,by unfold inI64; omega,(R++[t],r),⟨⟨by simp only; omega,by simp only; exact ⟨hR2.snoc (by omega),hRa.snoc hta⟩,by simp only; omega⟩,by simp only; omega⟩,Cov.go [(nid+36,nid+420)] [] ?_⟩
   simp [cvT,step,res,e1,e2,e3,e4,e5,e6,e7,e8,e9,strmC,arrS,hl]
 have hRm:R.length=m:=by omega
 refine CallX.on (flip_c s _ nl A q 12 (by omega) (by omega) hA (by omega)) (subH_get (by simp only [aqA,↓seqK,↓blkK,↓loopK,step,stepBin,eqB,Nat.add_assoc nid,simprocAttr,z0,e1,e2,e3,e4,e5,e6,e7,e8,e9])) ?_
 simp -dsimp only [aqT0,ROp0,aqA,↓seqK,↓blkK,↓loopK,step,stepBin,eqB,Nat.add_assoc nid,simprocAttr,z0,Int.cast_ofNat_Int,Int.reduceBEq,Int.reduceBNe,Int.reduceLT,Int.reduceLE,Int.reduceAdd,Int.reduceSub,Int.reduceMul,Int.reduceToNat,Int.reduceNeg,Int.reduceTMod,Int.reduceEq,not_false_eq_true,Int.reducePow,Int.reduceFDiv,Nat.reducePow,Nat.reduceSub,Nat.reduceMul,Nat.min_eq_left,Nat.reduceEqDiff,BEq.rfl,Int.tdiv_one,LN_succ,e1,e2,e3,e4,e5,e6,e7,e8,e9,strmC_low]
 refine S2.intro (fun h3=>?_) (fun h3=>?_) <;> simp -dsimp only [aqT0,ROp0,aqA,↓seqK,↓blkK,↓loopK,step,stepBin,eqB,Nat.add_assoc nid,simprocAttr,z0,Int.cast_ofNat_Int,Int.reduceBEq,Int.reduceBNe,Int.reduceLT,Int.reduceLE,Int.reduceAdd,Int.reduceSub,Int.reduceMul,Int.reduceToNat,Int.reduceNeg,Int.reduceTMod,Int.reduceEq,not_false_eq_true,Int.reducePow,Int.reduceFDiv,Nat.reducePow,Nat.reduceSub,Nat.reduceMul,Nat.min_eq_left,Nat.reduceEqDiff,BEq.rfl,Int.tdiv_one,LN_succ,e1,e2,e3,e4,e5,e6,e7,e8,e9,strmC_low]
 ·refine CallX.on (next_c s _ nl A (q+1) 3 (by omega) (by omega) hA (by omega)) (subH_get (by simp only [aqA,↓seqK,↓blkK,↓loopK,step,stepBin,eqB,Nat.add_assoc nid,simprocAttr,z0,e1,e2,e3,e4,e5,e6,e7,e8,e9])) ?_
  simp -dsimp only [aqT0,ROp0,aqA,↓seqK,↓blkK,↓loopK,step,stepBin,eqB,Nat.add_assoc nid,simprocAttr,z0,Int.cast_ofNat_Int,Int.reduceBEq,Int.reduceBNe,Int.reduceLT,Int.reduceLE,Int.reduceAdd,Int.reduceSub,Int.reduceMul,Int.reduceToNat,Int.reduceNeg,Int.reduceTMod,Int.reduceEq,not_false_eq_true,Int.reducePow,Int.reduceFDiv,Nat.reducePow,Nat.reduceSub,Nat.reduceMul,Nat.min_eq_left,Nat.reduceEqDiff,BEq.rfl,Int.tdiv_one,LN_succ,e1,e2,e3,e4,e5,e6,e7,e8,e9,strmC_low]
  refine S2.intro (fun h4=>?_) (fun h4=>?_) <;> simp -dsimp only [aqT0,ROp0,aqA,↓seqK,↓blkK,↓loopK,step,stepBin,eqB,Nat.add_assoc nid,simprocAttr,z0,Int.cast_ofNat_Int,Int.reduceBEq,Int.reduceBNe,Int.reduceLT,Int.reduceLE,Int.reduceAdd,Int.reduceSub,Int.reduceMul,Int.reduceToNat,Int.reduceNeg,Int.reduceTMod,Int.reduceEq,not_false_eq_true,Int.reducePow,Int.reduceFDiv,Nat.reducePow,Nat.reduceSub,Nat.reduceMul,Nat.min_eq_left,Nat.reduceEqDiff,BEq.rfl,Int.tdiv_one,LN_succ,e1,e2,e3,e4,e5,e6,e7,e8,e9,strmC_low]
  ·refine CallX.on (next_c s _ nl A (q+1+1) _ (by omega) (by omega) hA (by omega)) (subH_get (by simp only [aqA,↓seqK,↓blkK,↓loopK,step,stepBin,eqB,Nat.add_assoc nid,simprocAttr,z0,e1,e2,e3,e4,e5,e6,e7,e8,e9])) ?_
   simp -dsimp only [aqT0,ROp0,aqA,↓seqK,↓blkK,↓loopK,step,stepBin,eqB,Nat.add_assoc nid,simprocAttr,z0,Int.cast_ofNat_Int,Int.reduceBEq,Int.reduceBNe,Int.reduceLT,Int.reduceLE,Int.reduceAdd,Int.reduceSub,Int.reduceMul,Int.reduceToNat,Int.reduceNeg,Int.reduceTMod,Int.reduceEq,not_false_eq_true,Int.reducePow,Int.reduceFDiv,Nat.reducePow,Nat.reduceSub,Nat.reduceMul,Nat.min_eq_left,Nat.reduceEqDiff,BEq.rfl,Int.tdiv_one,LN_succ,e1,e2,e3,e4,e5,e6,e7,e8,e9,strmC_low]
   have hI0:=nextV_bd A (q+1+1) (n:=(R.length:Int)) (by omega)
   obtain ⟨I,hI⟩:∃ I:Nat,nextV A (q+1+1) (R.length:Int)=I:=⟨_,(Int.toNat_of_nonneg hI0.1).symm⟩
   rw [hI] at hI0 ⊢
   have hIR:I<R.length:=by omega
   refine ⟨by omega,?_⟩
   refine CallX.some_go (T:=9) (nl:=nl) (A:=A) (p:=q+1+1+1) (g:=fun i=>[[49],[65]].getD i []) (by simp only [aqA,↓seqK,↓blkK,↓loopK,step,stepBin,eqB,Nat.add_assoc nid,simprocAttr,z0,e1,e2,e3,e4,e5,e6,e7,e8,e9]) (by simp only [aqA,↓seqK,↓blkK,↓loopK,step,stepBin,eqB,Nat.add_assoc nid,simprocAttr,z0,e1,e2,e3,e4,e5,e6,e7,e8,e9]) (by simp only [aqA,↓seqK,↓blkK,↓loopK,step,stepBin,eqB,Nat.add_assoc nid,simprocAttr,z0,e1,e2,e3,e4,e5,e6,e7,e8,e9]) (by omega) (by omega) hA (by omega) (by omega) ?_
   simp -dsimp only [aqT0,ROp0,aqA,↓seqK,↓blkK,↓loopK,step,stepBin,eqB,Nat.add_assoc nid,simprocAttr,z0,Int.cast_ofNat_Int,Int.reduceBEq,Int.reduceBNe,Int.reduceLT,Int.reduceLE,Int.reduceAdd,Int.reduceSub,Int.reduceMul,Int.reduceToNat,Int.reduceNeg,Int.reduceTMod,Int.reduceEq,not_false_eq_true,Int.reducePow,Int.reduceFDiv,Nat.reducePow,Nat.reduceSub,Nat.reduceMul,Nat.min_eq_left,Nat.reduceEqDiff,BEq.rfl,Int.tdiv_one,LN_succ,e1,e2,e3,e4,e5,e6,e7,e8,e9,strmC_low]
   have hb:=getD_all (P:=fun x:List UInt8=>x.length≤1∧x.all (fun c=>decide (c.toNat<128))=true) (l:=[[49],[65]]) (d:=[]) (by decide) (pickI_lt A (q+1+1+1) (n:=2) (by omega))
   generalize ([[49],[65]].getD (pickI A (q+1+1+1) 2) []:List UInt8)=b at hb ⊢
   obtain ⟨hb,hba⟩:=hb
   have hba:AscS b:=AscS.of hba
   have hRI:=hR2.at I
   have hlb:(R.getD I []++b).length≤7:=by rw [List.length_append]; omega
   rw [getD_setS R _ hIR]
   refine ⟨by rw [← List.length_append]; omega,by omega,?_⟩
   refine CallX.on (flip_c s _ nl A (q+1+1+1+1) 60 (by omega) (by omega) hA (by omega)) (subH_get (by simp only [aqA,↓seqK,↓blkK,↓loopK,step,stepBin,eqB,Nat.add_assoc nid,simprocAttr,z0,e1,e2,e3,e4,e5,e6,e7,e8,e9])) ?_
   simp -dsimp only [aqT0,ROp0,aqA,↓seqK,↓blkK,↓loopK,step,stepBin,eqB,Nat.add_assoc nid,simprocAttr,z0,Int.cast_ofNat_Int,Int.reduceBEq,Int.reduceBNe,Int.reduceLT,Int.reduceLE,Int.reduceAdd,Int.reduceSub,Int.reduceMul,Int.reduceToNat,Int.reduceNeg,Int.reduceTMod,Int.reduceEq,not_false_eq_true,Int.reducePow,Int.reduceFDiv,Nat.reducePow,Nat.reduceSub,Nat.reduceMul,Nat.min_eq_left,Nat.reduceEqDiff,BEq.rfl,Int.tdiv_one,LN_succ,e1,e2,e3,e4,e5,e6,e7,e8,e9,strmC_low]
   refine S2.intro (fun h7=>?_) (fun h7=>?_) <;> simp -dsimp only [aqT0,ROp0,aqA,↓seqK,↓blkK,↓loopK,step,stepBin,eqB,Nat.add_assoc nid,simprocAttr,z0,Int.cast_ofNat_Int,Int.reduceBEq,Int.reduceBNe,Int.reduceLT,Int.reduceLE,Int.reduceAdd,Int.reduceSub,Int.reduceMul,Int.reduceToNat,Int.reduceNeg,Int.reduceTMod,Int.reduceEq,not_false_eq_true,Int.reducePow,Int.reduceFDiv,Nat.reducePow,Nat.reduceSub,Nat.reduceMul,Nat.min_eq_left,Nat.reduceEqDiff,BEq.rfl,Int.tdiv_one,LN_succ,e1,e2,e3,e4,e5,e6,e7,e8,e9,strmC_low]
   ·refine EndOK.mk (⟨[],pass⟩,(q+1+1+1+1)+1) ⟨⟨⟨by simp,fun r hr=>by simp at hr,by simp only; omega⟩,fun r hr=>by simp at hr⟩,by simp only; omega⟩ ?_
    refine RetOK.go [] [(nid,1)] (.inl rfl) ?_
    simp [a5,cvT,step,res,e1,e2,e3,e4,e5,e6,e7,e8,e9,strmC,arrS]
   ·refine EndOK.mk (⟨R.set I (R.getD I []++b),pass⟩,(q+1+1+1+1)+1) ⟨⟨⟨by simp only [List.length_set]; omega,(hR2.mono (by omega)).set I hlb,by simp only; omega⟩,hRa.set I ((hRa.at I).app hba)⟩,by simp only; omega⟩ ?_
    refine RetOK.go [(nid,nid+36)] [] (.inl rfl) ?_
    simp [a5,cvT,step,res,e1,e2,e3,e4,e5,e6,e7,e8,e9,strmC,arrS,-List.getD_eq_getElem?_getD]
  refine S2.intro (fun h5=>?_) (fun h5=>?_) <;> simp -dsimp only [aqT0,ROp0,aqA,↓seqK,↓blkK,↓loopK,step,stepBin,eqB,Nat.add_assoc nid,simprocAttr,z0,Int.cast_ofNat_Int,Int.reduceBEq,Int.reduceBNe,Int.reduceLT,Int.reduceLE,Int.reduceAdd,Int.reduceSub,Int.reduceMul,Int.reduceToNat,Int.reduceNeg,Int.reduceTMod,Int.reduceEq,not_false_eq_true,Int.reducePow,Int.reduceFDiv,Nat.reducePow,Nat.reduceSub,Nat.reduceMul,Nat.min_eq_left,Nat.reduceEqDiff,BEq.rfl,Int.tdiv_one,LN_succ,e1,e2,e3,e4,e5,e6,e7,e8,e9,strmC_low]
  ·refine CallX.on (next_c s _ nl A (q+1+1) _ (by omega) (by omega) hA (by omega)) (subH_get (by simp only [aqA,↓seqK,↓blkK,↓loopK,step,stepBin,eqB,Nat.add_assoc nid,simprocAttr,z0,e1,e2,e3,e4,e5,e6,e7,e8,e9])) ?_
   simp -dsimp only [aqT0,ROp0,aqA,↓seqK,↓blkK,↓loopK,step,stepBin,eqB,Nat.add_assoc nid,simprocAttr,z0,Int.cast_ofNat_Int,Int.reduceBEq,Int.reduceBNe,Int.reduceLT,Int.reduceLE,Int.reduceAdd,Int.reduceSub,Int.reduceMul,Int.reduceToNat,Int.reduceNeg,Int.reduceTMod,Int.reduceEq,not_false_eq_true,Int.reducePow,Int.reduceFDiv,Nat.reducePow,Nat.reduceSub,Nat.reduceMul,Nat.min_eq_left,Nat.reduceEqDiff,BEq.rfl,Int.tdiv_one,LN_succ,e1,e2,e3,e4,e5,e6,e7,e8,e9,strmC_low]
   have hI0:=nextV_bd A (q+1+1) (n:=(R.length:Int)) (by omega)
   obtain ⟨I,hI⟩:∃ I:Nat,nextV A (q+1+1) (R.length:Int)=I:=⟨_,(Int.toNat_of_nonneg hI0.1).symm⟩
   rw [hI] at hI0 ⊢
   have hIR:I<R.length:=by omega
   refine CallX.some_go (T:=9) (nl:=nl) (A:=A) (p:=q+1+1+1) (g:=fun i=>[[],[65],[32]].getD i []) (by simp only [aqA,↓seqK,↓blkK,↓loopK,step,stepBin,eqB,Nat.add_assoc nid,simprocAttr,z0,e1,e2,e3,e4,e5,e6,e7,e8,e9]) (by simp only [aqA,↓seqK,↓blkK,↓loopK,step,stepBin,eqB,Nat.add_assoc nid,simprocAttr,z0,e1,e2,e3,e4,e5,e6,e7,e8,e9]) (by simp only [aqA,↓seqK,↓blkK,↓loopK,step,stepBin,eqB,Nat.add_assoc nid,simprocAttr,z0,e1,e2,e3,e4,e5,e6,e7,e8,e9]) (by omega) (by omega) hA (by omega) (by omega) ?_
   simp -dsimp only [aqT0,ROp0,aqA,↓seqK,↓blkK,↓loopK,step,stepBin,eqB,Nat.add_assoc nid,simprocAttr,z0,Int.cast_ofNat_Int,Int.reduceBEq,Int.reduceBNe,Int.reduceLT,Int.reduceLE,Int.reduceAdd,Int.reduceSub,Int.reduceMul,Int.reduceToNat,Int.reduceNeg,Int.reduceTMod,Int.reduceEq,not_false_eq_true,Int.reducePow,Int.reduceFDiv,Nat.reducePow,Nat.reduceSub,Nat.reduceMul,Nat.min_eq_left,Nat.reduceEqDiff,BEq.rfl,Int.tdiv_one,LN_succ,e1,e2,e3,e4,e5,e6,e7,e8,e9,strmC_low]
   have hb:=getD_all (P:=fun x:List UInt8=>x.length≤1∧x.all (fun c=>decide (c.toNat<128))=true) (l:=[[],[65],[32]]) (d:=[]) (by decide) (pickI_lt A (q+1+1+1) (n:=3) (by omega))
   generalize ([[],[65],[32]].getD (pickI A (q+1+1+1) 3) []:List UInt8)=b at hb ⊢
   obtain ⟨hb,hba⟩:=hb
   have hba:AscS b:=AscS.of hba
   rw [getD_setS R _ hIR]
   refine ⟨by omega,?_⟩
   refine CallX.on (flip_c s _ nl A (q+1+1+1+1) 60 (by omega) (by omega) hA (by omega)) (subH_get (by simp only [aqA,↓seqK,↓blkK,↓loopK,step,stepBin,eqB,Nat.add_assoc nid,simprocAttr,z0,e1,e2,e3,e4,e5,e6,e7,e8,e9])) ?_
   simp -dsimp only [aqT0,ROp0,aqA,↓seqK,↓blkK,↓loopK,step,stepBin,eqB,Nat.add_assoc nid,simprocAttr,z0,Int.cast_ofNat_Int,Int.reduceBEq,Int.reduceBNe,Int.reduceLT,Int.reduceLE,Int.reduceAdd,Int.reduceSub,Int.reduceMul,Int.reduceToNat,Int.reduceNeg,Int.reduceTMod,Int.reduceEq,not_false_eq_true,Int.reducePow,Int.reduceFDiv,Nat.reducePow,Nat.reduceSub,Nat.reduceMul,Nat.min_eq_left,Nat.reduceEqDiff,BEq.rfl,Int.tdiv_one,LN_succ,e1,e2,e3,e4,e5,e6,e7,e8,e9,strmC_low]
   refine S2.intro (fun h7=>?_) (fun h7=>?_) <;> simp -dsimp only [aqT0,ROp0,aqA,↓seqK,↓blkK,↓loopK,step,stepBin,eqB,Nat.add_assoc nid,simprocAttr,z0,Int.cast_ofNat_Int,Int.reduceBEq,Int.reduceBNe,Int.reduceLT,Int.reduceLE,Int.reduceAdd,Int.reduceSub,Int.reduceMul,Int.reduceToNat,Int.reduceNeg,Int.reduceTMod,Int.reduceEq,not_false_eq_true,Int.reducePow,Int.reduceFDiv,Nat.reducePow,Nat.reduceSub,Nat.reduceMul,Nat.min_eq_left,Nat.reduceEqDiff,BEq.rfl,Int.tdiv_one,LN_succ,e1,e2,e3,e4,e5,e6,e7,e8,e9,strmC_low]
   ·refine EndOK.mk (⟨[],pass⟩,(q+1+1+1+1)+1) ⟨⟨⟨by simp,fun r hr=>by simp at hr,by simp only; omega⟩,fun r hr=>by simp at hr⟩,by simp only; omega⟩ ?_
    refine RetOK.go [] [(nid,1)] (.inl rfl) ?_
    simp [a5,cvT,step,res,e1,e2,e3,e4,e5,e6,e7,e8,e9,strmC,arrS]
   ·refine EndOK.mk (⟨R.set I b,pass⟩,(q+1+1+1+1)+1) ⟨⟨⟨by simp only [List.length_set]; omega,(hR2.mono (by omega)).set I (by omega),by simp only; omega⟩,hRa.set I hba⟩,by simp only; omega⟩ ?_
    refine RetOK.go [(nid,nid+36)] [] (.inl rfl) ?_
    simp [a5,cvT,step,res,e1,e2,e3,e4,e5,e6,e7,e8,e9,strmC,arrS,-List.getD_eq_getElem?_getD]
  ·refine CallX.some_go (T:=9) (nl:=nl) (A:=A) (p:=q+1+1) (g:=fun i=>[[50,49],[49,49],[65],[63]].getD i []) (by simp only [aqA,↓seqK,↓blkK,↓loopK,step,stepBin,eqB,Nat.add_assoc nid,simprocAttr,z0,e1,e2,e3,e4,e5,e6,e7,e8,e9]) (by simp only [aqA,↓seqK,↓blkK,↓loopK,step,stepBin,eqB,Nat.add_assoc nid,simprocAttr,z0,e1,e2,e3,e4,e5,e6,e7,e8,e9]) (by simp only [aqA,↓seqK,↓blkK,↓loopK,step,stepBin,eqB,Nat.add_assoc nid,simprocAttr,z0,e1,e2,e3,e4,e5,e6,e7,e8,e9]) (by omega) (by omega) hA (by omega) (by omega) ?_
   simp -dsimp only [aqT0,ROp0,aqA,↓seqK,↓blkK,↓loopK,step,stepBin,eqB,Nat.add_assoc nid,simprocAttr,z0,Int.cast_ofNat_Int,Int.reduceBEq,Int.reduceBNe,Int.reduceLT,Int.reduceLE,Int.reduceAdd,Int.reduceSub,Int.reduceMul,Int.reduceToNat,Int.reduceNeg,Int.reduceTMod,Int.reduceEq,not_false_eq_true,Int.reducePow,Int.reduceFDiv,Nat.reducePow,Nat.reduceSub,Nat.reduceMul,Nat.min_eq_left,Nat.reduceEqDiff,BEq.rfl,Int.tdiv_one,LN_succ,e1,e2,e3,e4,e5,e6,e7,e8,e9,strmC_low]
   have hb:=getD_all (P:=fun x:List UInt8=>x.length≤2) (l:=[[50,49],[49,49],[65],[63]]) (d:=[]) (by simp) (pickI_lt A (q+1+1) (n:=4) (by omega))
   generalize ([[50,49],[49,49],[65],[63]].getD (pickI A (q+1+1) 4) []:List UInt8)=b at hb ⊢
   refine CallX.on (flip_c s _ nl A (q+1+1+1) 60 (by omega) (by omega) hA (by omega)) (subH_get (by simp only [aqA,↓seqK,↓blkK,↓loopK,step,stepBin,eqB,Nat.add_assoc nid,simprocAttr,z0,e1,e2,e3,e4,e5,e6,e7,e8,e9])) ?_
   simp -dsimp only [aqT0,ROp0,aqA,↓seqK,↓blkK,↓loopK,step,stepBin,eqB,Nat.add_assoc nid,simprocAttr,z0,Int.cast_ofNat_Int,Int.reduceBEq,Int.reduceBNe,Int.reduceLT,Int.reduceLE,Int.reduceAdd,Int.reduceSub,Int.reduceMul,Int.reduceToNat,Int.reduceNeg,Int.reduceTMod,Int.reduceEq,not_false_eq_true,Int.reducePow,Int.reduceFDiv,Nat.reducePow,Nat.reduceSub,Nat.reduceMul,Nat.min_eq_left,Nat.reduceEqDiff,BEq.rfl,Int.tdiv_one,LN_succ,e1,e2,e3,e4,e5,e6,e7,e8,e9,strmC_low]
   refine S2.intro (fun h7=>?_) (fun h7=>?_) <;> simp -dsimp only [aqT0,ROp0,aqA,↓seqK,↓blkK,↓loopK,step,stepBin,eqB,Nat.add_assoc nid,simprocAttr,z0,Int.cast_ofNat_Int,Int.reduceBEq,Int.reduceBNe,Int.reduceLT,Int.reduceLE,Int.reduceAdd,Int.reduceSub,Int.reduceMul,Int.reduceToNat,Int.reduceNeg,Int.reduceTMod,Int.reduceEq,not_false_eq_true,Int.reducePow,Int.reduceFDiv,Nat.reducePow,Nat.reduceSub,Nat.reduceMul,Nat.min_eq_left,Nat.reduceEqDiff,BEq.rfl,Int.tdiv_one,LN_succ,e1,e2,e3,e4,e5,e6,e7,e8,e9,strmC_low]
   ·refine EndOK.mk (⟨[],b⟩,(q+1+1+1)+1) ⟨⟨⟨by simp,fun r hr=>by simp at hr,by simp only; omega⟩,fun r hr=>by simp at hr⟩,by simp only; omega⟩ ?_
    refine RetOK.go [] [(nid,1)] (.inl rfl) ?_
    simp [a5,cvT,step,res,e1,e2,e3,e4,e5,e6,e7,e8,e9,strmC,arrS]
   ·refine EndOK.mk (⟨R,b⟩,(q+1+1+1)+1) ⟨⟨⟨by simp only [List.length_set]; omega,hR2.mono (by omega),by simp only; omega⟩,hRa⟩,by simp only; omega⟩ ?_
    refine RetOK.go [(nid,nid+36)] [] (.inl rfl) ?_
    simp [a5,cvT,step,res,e1,e2,e3,e4,e5,e6,e7,e8,e9,strmC,arrS,-List.getD_eq_getElem?_getD]
 ·refine CallX.on (flip_c s _ nl A (q+1) 60 (by omega) (by omega) hA (by omega)) (subH_get (by simp only [aqA,↓seqK,↓blkK,↓loopK,step,stepBin,eqB,Nat.add_assoc nid,simprocAttr,z0,e1,e2,e3,e4,e5,e6,e7,e8,e9])) ?_
  simp -dsimp only [aqT0,ROp0,aqA,↓seqK,↓blkK,↓loopK,step,stepBin,eqB,Nat.add_assoc nid,simprocAttr,z0,Int.cast_ofNat_Int,Int.reduceBEq,Int.reduceBNe,Int.reduceLT,Int.reduceLE,Int.reduceAdd,Int.reduceSub,Int.reduceMul,Int.reduceToNat,Int.reduceNeg,Int.reduceTMod,Int.reduceEq,not_false_eq_true,Int.reducePow,Int.reduceFDiv,Nat.reducePow,Nat.reduceSub,Nat.reduceMul,Nat.min_eq_left,Nat.reduceEqDiff,BEq.rfl,Int.tdiv_one,LN_succ,e1,e2,e3,e4,e5,e6,e7,e8,e9,strmC_low]
  refine S2.intro (fun h7=>?_) (fun h7=>?_) <;> simp -dsimp only [aqT0,ROp0,aqA,↓seqK,↓blkK,↓loopK,step,stepBin,eqB,Nat.add_assoc nid,simprocAttr,z0,Int.cast_ofNat_Int,Int.reduceBEq,Int.reduceBNe,Int.reduceLT,Int.reduceLE,Int.reduceAdd,Int.reduceSub,Int.reduceMul,Int.reduceToNat,Int.reduceNeg,Int.reduceTMod,Int.reduceEq,not_false_eq_true,Int.reducePow,Int.reduceFDiv,Nat.reducePow,Nat.reduceSub,Nat.reduceMul,Nat.min_eq_left,Nat.reduceEqDiff,BEq.rfl,Int.tdiv_one,LN_succ,e1,e2,e3,e4,e5,e6,e7,e8,e9,strmC_low]
  ·refine EndOK.mk (⟨[],pass⟩,(q+1)+1) ⟨⟨⟨by simp,fun r hr=>by simp at hr,by simp only; omega⟩,fun r hr=>by simp at hr⟩,by simp only; omega⟩ ?_
   refine RetOK.go [] [(nid,1)] (.inl rfl) ?_
   simp [a5,cvT,step,res,e1,e2,e3,e4,e5,e6,e7,e8,e9,strmC,arrS]
  ·refine EndOK.mk (⟨R,pass⟩,(q+1)+1) ⟨⟨⟨by simp only [List.length_set]; omega,hR2.mono (by omega),by simp only; omega⟩,hRa⟩,by simp only; omega⟩ ?_
   refine RetOK.go [(nid,nid+36)] [] (.inl rfl) ?_
   simp [a5,cvT,step,res,e1,e2,e3,e4,e5,e6,e7,e8,e9,strmC,arrS,-List.getD_eq_getElem?_getD]
open Go.RowKit
open Go.RowKit
open Go.RowKit
set_option maxHeartbeats 4000000 in
theorem dieR_all (nl:Bool) (W:Waf) (x y:Int) (nid:Nat) (hW:WafOk W) (hx:inI64 x) (hy:inI64 y):ACall Try.prog 61 [wafP nl W,.agg [.int .i64 x,.int .i64 y]] [] nid (.int .u8 (dieV W x y)) []:=by
 have hp:=hW.pos
 have hl:=hW.len
 obtain ⟨hw1,hw2⟩:=hW.wide
 have hw0:wideOf W=(W.rows.getD 0 []).length:=rfl
 refine acall_run c61 (by simp [a61]) ?_
 unfold wafP
 simp -dsimp only [a61,aqA,↓seqK,↓blkK,↓loopK,step,stepBin,eqB,Nat.add_assoc nid,simprocAttr,z0,Int.cast_ofNat_Int,Int.reduceBEq,Int.reduceBNe,Int.reduceLT,Int.reduceLE,Int.reduceAdd,Int.reduceSub,Int.reduceMul,Int.reduceToNat,Int.reduceNeg,Int.reduceTMod,Int.reduceEq,not_false_eq_true,Int.reducePow,Int.reduceFDiv,Nat.reducePow,Nat.reduceSub,Nat.reduceMul,Nat.min_eq_left,Nat.reduceEqDiff,BEq.rfl,Int.tdiv_one,LN_succ]
 refine ⟨by unfold inI64; omega,CallX.pure (in_c _ _ _ _) ?_⟩
 simp -dsimp only [aqA,↓seqK,↓blkK,↓loopK,step,stepBin,eqB,Nat.add_assoc nid,simprocAttr,z0,Int.cast_ofNat_Int,Int.reduceBEq,Int.reduceBNe,Int.reduceLT,Int.reduceLE,Int.reduceAdd,Int.reduceSub,Int.reduceMul,Int.reduceToNat,Int.reduceNeg,Int.reduceTMod,Int.reduceEq,not_false_eq_true,Int.reducePow,Int.reduceFDiv,Nat.reducePow,Nat.reduceSub,Nat.reduceMul,Nat.min_eq_left,Nat.reduceEqDiff,BEq.rfl,Int.tdiv_one,LN_succ,Bool.not_not]
 cases h1:outB y 0 ((W.rows.length:Int) - 1) <;> simp -dsimp only [aqA,↓seqK,↓blkK,↓loopK,step,stepBin,eqB,Nat.add_assoc nid,simprocAttr,z0,Int.cast_ofNat_Int,Int.reduceBEq,Int.reduceBNe,Int.reduceLT,Int.reduceLE,Int.reduceAdd,Int.reduceSub,Int.reduceMul,Int.reduceToNat,Int.reduceNeg,Int.reduceTMod,Int.reduceEq,not_false_eq_true,Int.reducePow,Int.reduceFDiv,Nat.reducePow,Nat.reduceSub,Nat.reduceMul,Nat.min_eq_left,Nat.reduceEqDiff,BEq.rfl,Int.tdiv_one,LN_succ]
 ·refine ⟨by omega,by unfold inI64; omega,CallX.pure (in_c _ _ _ _) ?_⟩
  simp -dsimp only [aqA,↓seqK,↓blkK,↓loopK,step,stepBin,eqB,Nat.add_assoc nid,simprocAttr,z0,Int.cast_ofNat_Int,Int.reduceBEq,Int.reduceBNe,Int.reduceLT,Int.reduceLE,Int.reduceAdd,Int.reduceSub,Int.reduceMul,Int.reduceToNat,Int.reduceNeg,Int.reduceTMod,Int.reduceEq,not_false_eq_true,Int.reducePow,Int.reduceFDiv,Nat.reducePow,Nat.reduceSub,Nat.reduceMul,Nat.min_eq_left,Nat.reduceEqDiff,BEq.rfl,Int.tdiv_one,LN_succ,Bool.not_not]
  rw [← hw0]
  cases h2:outB x 0 ((wideOf W:Int) - 1) <;> simp -dsimp only [aqA,↓seqK,↓blkK,↓loopK,step,stepBin,eqB,Nat.add_assoc nid,simprocAttr,z0,Int.cast_ofNat_Int,Int.reduceBEq,Int.reduceBNe,Int.reduceLT,Int.reduceLE,Int.reduceAdd,Int.reduceSub,Int.reduceMul,Int.reduceToNat,Int.reduceNeg,Int.reduceTMod,Int.reduceEq,not_false_eq_true,Int.reducePow,Int.reduceFDiv,Nat.reducePow,Nat.reduceSub,Nat.reduceMul,Nat.min_eq_left,Nat.reduceEqDiff,BEq.rfl,Int.tdiv_one,LN_succ]
  ·have hy1:0≤y∧y<W.rows.length:=by unfold outB at h1; simp at h1; omega
   have hx1:0≤x∧x<wideOf W:=by unfold outB at h2; simp at h2; omega
   have hr:=(hW.at (y:=y.toNat) (by omega)).1
   have e:dieV W x y=byteI ((W.rows.getD y.toNat []).getD x.toNat 0):=by unfold dieV; rw [h1,h2,if_neg (by simp),if_neg (by simp)]
   rw [e]
   refine ⟨by omega,by omega,?_⟩
   refine RetOK.pure (.inl rfl) rfl ?_
   simp [cvT,step,res,byteI]
  ·have e:dieV W x y=46:=by unfold dieV; rw [h1,h2,if_neg (by simp),if_pos rfl]
   rw [e]
   refine RetOK.pure (.inl rfl) rfl ?_
   simp [cvT,step,res]
 ·have e:dieV W x y=46:=by unfold dieV; rw [h1,if_pos rfl]
  rw [e]
  refine RetOK.pure (.inl rfl) rfl ?_
  simp [cvT,step,res]
theorem dieN (W:Waf) (x y:Int):∃ n:Nat,n<256∧dieV W x y=(n:Int):=by
 unfold dieV
 split
 ·exact ⟨46,by omega,rfl⟩
 split
 ·exact ⟨46,by omega,rfl⟩
 ·exact ⟨_,UInt8.toNat_lt _,rfl⟩
theorem passedR_all (nl:Bool) (W:Waf) (p:Pt) (nid:Nat) (hW:WafOk W) (hp:inI64 p.1∧inI64 p.2):ACall Try.prog 78 [wafP nl W,.agg [.int .i64 p.1,.int .i64 p.2]] [] nid (.bool (goodP W p)) []:=by
 obtain ⟨n,hn,e⟩:=dieN W p.1 p.2
 have hd:=fun k=>dieR_all nl W p.1 p.2 k hW hp.1 hp.2
 have hpa:=hW.passed hn
 have hg:goodP W p=decide (0≤Lib.indexByte W.pass n.toUInt8):=by unfold goodP; rw [e,hpa]
 rw [e] at hd
 rw [hg]
 refine acall_run c78 (by simp [a78]) ?_
 unfold wafP at *
 simp -dsimp only [aqA,↓seqK,↓blkK,↓loopK,step,stepBin,eqB,Nat.add_assoc nid,simprocAttr,z0,Int.cast_ofNat_Int,Int.reduceBEq,Int.reduceBNe,Int.reduceLT,Int.reduceLE,Int.reduceAdd,Int.reduceSub,Int.reduceMul,Int.reduceToNat,Int.reduceNeg,Int.reduceTMod,Int.reduceEq,not_false_eq_true,Int.reducePow,Int.reduceFDiv,Nat.reducePow,Nat.reduceSub,Nat.reduceMul,Nat.min_eq_left,Nat.reduceEqDiff,BEq.rfl,Int.tdiv_one,LN_succ,a78]
 refine CallX.pure (hd _) ?_
 simp -dsimp only [aqA,↓seqK,↓blkK,↓loopK,step,stepBin,eqB,Nat.add_assoc nid,simprocAttr,z0,Int.cast_ofNat_Int,Int.reduceBEq,Int.reduceBNe,Int.reduceLT,Int.reduceLE,Int.reduceAdd,Int.reduceSub,Int.reduceMul,Int.reduceToNat,Int.reduceNeg,Int.reduceTMod,Int.reduceEq,not_false_eq_true,Int.reducePow,Int.reduceFDiv,Nat.reducePow,Nat.reduceSub,Nat.reduceMul,Nat.min_eq_left,Nat.reduceEqDiff,BEq.rfl,Int.tdiv_one,LN_succ]
 refine CallX.pure (indexB_c W.pass (n:Int) _) ?_
 simp -dsimp only [aqA,↓seqK,↓blkK,↓loopK,step,stepBin,eqB,Nat.add_assoc nid,simprocAttr,z0,Int.cast_ofNat_Int,Int.reduceBEq,Int.reduceBNe,Int.reduceLT,Int.reduceLE,Int.reduceAdd,Int.reduceSub,Int.reduceMul,Int.reduceToNat,Int.reduceNeg,Int.reduceTMod,Int.reduceEq,not_false_eq_true,Int.reducePow,Int.reduceFDiv,Nat.reducePow,Nat.reduceSub,Nat.reduceMul,Nat.min_eq_left,Nat.reduceEqDiff,BEq.rfl,Int.tdiv_one,LN_succ]
 generalize Lib.indexByte W.pass n.toUInt8=q
 refine RetOK.pure (.inl rfl) rfl ?_
 simp [cvT,step,res]
theorem failedR_all (nl:Bool) (W:Waf) (p:Pt) (nid:Nat) (hW:WafOk W) (hp:inI64 p.1∧inI64 p.2):ACall Try.prog 52 [wafP nl W,.agg [.int .i64 p.1,.int .i64 p.2]] [] nid (.bool (badP W p)) []:=by
 obtain ⟨n,hn,e⟩:=dieN W p.1 p.2
 have hd:=fun k=>dieR_all nl W p.1 p.2 k hW hp.1 hp.2
 have hpp:=fun k=>passedR_all nl W p k hW hp
 have hb:=bins_ok n hn
 have hg:badP W p=(isBinV (n:Int) && !goodP W p):=by unfold badP failedV goodP; rw [e]
 rw [e] at hd
 rw [hg,← hb]
 refine acall_run c52 (by simp [a52]) ?_
 unfold wafP at *
 simp -dsimp only [aqA,↓seqK,↓blkK,↓loopK,step,stepBin,eqB,Nat.add_assoc nid,simprocAttr,z0,Int.cast_ofNat_Int,Int.reduceBEq,Int.reduceBNe,Int.reduceLT,Int.reduceLE,Int.reduceAdd,Int.reduceSub,Int.reduceMul,Int.reduceToNat,Int.reduceNeg,Int.reduceTMod,Int.reduceEq,not_false_eq_true,Int.reducePow,Int.reduceFDiv,Nat.reducePow,Nat.reduceSub,Nat.reduceMul,Nat.min_eq_left,Nat.reduceEqDiff,BEq.rfl,Int.tdiv_one,LN_succ,a52]
 refine CallO.pure (hd _) ?_
 simp -dsimp only [aqA,↓seqK,↓blkK,↓loopK,step,stepBin,eqB,Nat.add_assoc nid,simprocAttr,z0,Int.cast_ofNat_Int,Int.reduceBEq,Int.reduceBNe,Int.reduceLT,Int.reduceLE,Int.reduceAdd,Int.reduceSub,Int.reduceMul,Int.reduceToNat,Int.reduceNeg,Int.reduceTMod,Int.reduceEq,not_false_eq_true,Int.reducePow,Int.reduceFDiv,Nat.reducePow,Nat.reduceSub,Nat.reduceMul,Nat.min_eq_left,Nat.reduceEqDiff,BEq.rfl,Int.tdiv_one,LN_succ]
 refine CallO.pure (indexB_c binsL (n:Int) _) ?_
 simp -dsimp only [aqA,↓seqK,↓blkK,↓loopK,step,stepBin,eqB,Nat.add_assoc nid,simprocAttr,z0,Int.cast_ofNat_Int,Int.reduceBEq,Int.reduceBNe,Int.reduceLT,Int.reduceLE,Int.reduceAdd,Int.reduceSub,Int.reduceMul,Int.reduceToNat,Int.reduceNeg,Int.reduceTMod,Int.reduceEq,not_false_eq_true,Int.reducePow,Int.reduceFDiv,Nat.reducePow,Nat.reduceSub,Nat.reduceMul,Nat.min_eq_left,Nat.reduceEqDiff,BEq.rfl,Int.tdiv_one,LN_succ]
 generalize Lib.indexByte binsL n.toUInt8=q
 refine S2.dec (fun h=>?_) (fun h=>?_) <;> simp -dsimp only [aqA,↓seqK,↓blkK,↓loopK,step,stepBin,eqB,Nat.add_assoc nid,simprocAttr,z0,Int.cast_ofNat_Int,Int.reduceBEq,Int.reduceBNe,Int.reduceLT,Int.reduceLE,Int.reduceAdd,Int.reduceSub,Int.reduceMul,Int.reduceToNat,Int.reduceNeg,Int.reduceTMod,Int.reduceEq,not_false_eq_true,Int.reducePow,Int.reduceFDiv,Nat.reducePow,Nat.reduceSub,Nat.reduceMul,Nat.min_eq_left,Nat.reduceEqDiff,BEq.rfl,Int.tdiv_one,LN_succ]
 ·refine CallO.pure (hpp _) ?_
  simp -dsimp only [aqA,↓seqK,↓blkK,↓loopK,step,stepBin,eqB,Nat.add_assoc nid,simprocAttr,z0,Int.cast_ofNat_Int,Int.reduceBEq,Int.reduceBNe,Int.reduceLT,Int.reduceLE,Int.reduceAdd,Int.reduceSub,Int.reduceMul,Int.reduceToNat,Int.reduceNeg,Int.reduceTMod,Int.reduceEq,not_false_eq_true,Int.reducePow,Int.reduceFDiv,Nat.reducePow,Nat.reduceSub,Nat.reduceMul,Nat.min_eq_left,Nat.reduceEqDiff,BEq.rfl,Int.tdiv_one,LN_succ]
  have h':0≤q:=h
  refine RetOK.pure (.inl rfl) rfl ?_
  simp [cvT,step,res,h']
 ·have h':¬ 0≤q:=h
  refine RetOK.pure (.inl rfl) rfl ?_
  simp [cvT,step,res,h']
theorem testedR_all (nl:Bool) (W:Waf) (p:Pt) (nid:Nat) (hW:WafOk W) (hp:inI64 p.1∧inI64 p.2):ACall Try.prog 53 [wafP nl W,.agg [.int .i64 p.1,.int .i64 p.2]] [] nid (.bool (allP W p)) []:=by
 obtain ⟨n,hn,e⟩:=dieN W p.1 p.2
 have hd:=fun k=>dieR_all nl W p.1 p.2 k hW hp.1 hp.2
 have hb:=binsS_ok n hn
 have hg:allP W p=decide (0≤Lib.indexByte (binsL++[42]) n.toUInt8):=by unfold allP testedV; rw [e,hb]
 rw [e] at hd
 rw [hg]
 refine acall_run c53 (by simp [a53]) ?_
 unfold wafP at *
 simp -dsimp only [aqA,↓seqK,↓blkK,↓loopK,step,stepBin,eqB,Nat.add_assoc nid,simprocAttr,z0,Int.cast_ofNat_Int,Int.reduceBEq,Int.reduceBNe,Int.reduceLT,Int.reduceLE,Int.reduceAdd,Int.reduceSub,Int.reduceMul,Int.reduceToNat,Int.reduceNeg,Int.reduceTMod,Int.reduceEq,not_false_eq_true,Int.reducePow,Int.reduceFDiv,Nat.reducePow,Nat.reduceSub,Nat.reduceMul,Nat.min_eq_left,Nat.reduceEqDiff,BEq.rfl,Int.tdiv_one,LN_succ,a53]
 refine CallO.pure (hd _) ?_
 simp -dsimp only [aqA,↓seqK,↓blkK,↓loopK,step,stepBin,eqB,Nat.add_assoc nid,simprocAttr,z0,Int.cast_ofNat_Int,Int.reduceBEq,Int.reduceBNe,Int.reduceLT,Int.reduceLE,Int.reduceAdd,Int.reduceSub,Int.reduceMul,Int.reduceToNat,Int.reduceNeg,Int.reduceTMod,Int.reduceEq,not_false_eq_true,Int.reducePow,Int.reduceFDiv,Nat.reducePow,Nat.reduceSub,Nat.reduceMul,Nat.min_eq_left,Nat.reduceEqDiff,BEq.rfl,Int.tdiv_one,LN_succ]
 refine CallO.pure (indexB_c (binsL++[42]) (n:Int) _) ?_
 simp -dsimp only [aqA,↓seqK,↓blkK,↓loopK,step,stepBin,eqB,Nat.add_assoc nid,simprocAttr,z0,Int.cast_ofNat_Int,Int.reduceBEq,Int.reduceBNe,Int.reduceLT,Int.reduceLE,Int.reduceAdd,Int.reduceSub,Int.reduceMul,Int.reduceToNat,Int.reduceNeg,Int.reduceTMod,Int.reduceEq,not_false_eq_true,Int.reducePow,Int.reduceFDiv,Nat.reducePow,Nat.reduceSub,Nat.reduceMul,Nat.min_eq_left,Nat.reduceEqDiff,BEq.rfl,Int.tdiv_one,LN_succ]
 generalize Lib.indexByte (binsL++[42]) n.toUInt8=q
 refine RetOK.pure (.inl rfl) rfl ?_
 simp [cvT,step,res]
theorem truthW_c (b:Bool) (nid:Nat):ACall Try.prog 51 [.bool b] [] nid (.int .i64 (if b=true then 1 else 0)) []:=by
 refine acall_run c51 (by simp [a51]) ?_
 simp -dsimp only [aqA,↓seqK,↓blkK,↓loopK,step,stepBin,eqB,Nat.add_assoc nid,simprocAttr,z0,a51]
 refine S2.intro (fun h=>?_) (fun h=>?_) <;> simp -dsimp only [aqA,↓seqK,↓blkK,↓loopK,step,stepBin,eqB,Nat.add_assoc nid,simprocAttr,z0]
 ·refine RetOK.pure (.inl rfl) rfl ?_
  simp [cvT,step,res,h]
 ·refine RetOK.pure (.inl rfl) rfl ?_
  simp [cvT,step,res,h]
theorem filter_snoc (F:Pt→Bool) (l:List Pt) (p:Pt):(l++[p]).filter F=l.filter F++(if F p=true then [p] else []):=by
 rw [List.filter_append]
 congr 1
 cases h:F p <;> simp [h]
set_option maxHeartbeats 4000000 in
theorem placesR_h (f:Nat) (caps:List PV) (Hs:Heap) (F:Pt→Bool) (nl:Bool) (W:Waf) (nid:Nat) (hW:WafOk W) (hs:Scoped nid Hs) (hcap:lowAll nid (idsOfs caps)=true)
  (hf:∀ p,p∈plV W→∀ nid',nid≤nid'→ACall Try.prog f (.agg [.int .i64 p.1,.int .i64 p.2]::caps) Hs nid' (.bool (F p)) []) :
  ACall Try.prog 49 [wafP nl W,.fn f caps] Hs nid (.sl nid 0 ((plV W).filter F).length) [(nid,arrPl ((plV W).filter F))]:=by
 have hcv:=capsC hcap
 have hl:=hW.len
 refine acall_run c49 (by simp [a49]) ?_
 unfold wafP
 simp -dsimp only [a49,aqA,↓seqK,↓blkK,↓loopK,step,stepBin,eqB,Nat.add_assoc nid,simprocAttr,z0,Int.cast_ofNat_Int,Int.reduceBEq,Int.reduceBNe,Int.reduceLT,Int.reduceLE,Int.reduceAdd,Int.reduceSub,Int.reduceMul,Int.reduceToNat,Int.reduceNeg,Int.reduceTMod,Int.reduceEq,not_false_eq_true,Int.reducePow,Int.reduceFDiv,Nat.reducePow,Nat.reduceSub,Nat.reduceMul,Nat.min_eq_left,Nat.reduceEqDiff,BEq.rfl,Int.tdiv_one,LN_succ]
 refine LP.mkP (fun y:Nat=>y≤W.rows.length) (fun y:Nat=>⟨[(13,.int .i64 y),(12,.int .i64 W.rows.length),(11,.lit nl W.rows.length [.s fun i=>W.rows.getD i []]),(5,.sl (nid+8) 0 ((plTo W y).filter F).length),(1,.fn f caps)],(nid+8,arrPl ((plTo W y).filter F))::Hs,nid+100,nid⟩) (fun y=>W.rows.length+1 - y) 0 (by omega) ?_ (fun y hy=>?_)
 ·first | refine Cov.goF Hs [_] [_] [] [(nid+8,2)] hs (by simp [kOK]) (by simp) ?_ | refine Cov.goF Hs [_,_] [_] [] [(nid+8,2)] hs (by simp [kOK]) (by simp) ?_ | refine Cov.goF Hs [_,_,_] [_] [] [(nid+8,2)] hs (by simp [kOK]) (by simp) ?_ | refine Cov.goF Hs [_,_,_,_] [_] [] [(nid+8,2)] hs (by simp [kOK]) (by simp) ?_ | refine Cov.goF Hs [_,_,_,_,_] [_] [] [(nid+8,2)] hs (by simp [kOK]) (by simp) ?_ | refine Cov.goF Hs [_,_,_,_,_,_] [_] [] [(nid+8,2)] hs (by simp [kOK]) (by simp) ?_ | refine Cov.goF Hs [_,_,_,_,_,_,_] [_] [] [(nid+8,2)] hs (by simp [kOK]) (by simp) ?_ | refine Cov.goF Hs [_,_,_,_,_,_,_,_] [_] [] [(nid+8,2)] hs (by simp [kOK]) (by simp) ?_ | refine Cov.goF Hs [] [_] [] [(nid+8,2)] hs (by simp [kOK]) (by simp) ?_
  simp [cvT,step,res,PVCovs.self (b:=nid) (hi:=nid+100) (ren:=[]) (nils:=[(nid+8,2)]) rfl (by simp [inRange]) (by omega) caps hcap,arrPl,plTo]
 have hTm:∀ p,p∈plTo W y→p∈plV W:=fun p hp=>by
  unfold plV plTo at *
  rw [List.mem_flatMap] at *
  obtain ⟨a,ha,hb⟩:=hp
  exact ⟨a,List.mem_range.2 (by have:=List.mem_range.1 ha; omega),hb⟩
 unfold arrPl
 simp -dsimp only [aqA,↓seqK,↓blkK,↓loopK,step,stepBin,eqB,Nat.add_assoc nid,simprocAttr,z0,Int.cast_ofNat_Int,Int.reduceBEq,Int.reduceBNe,Int.reduceLT,Int.reduceLE,Int.reduceAdd,Int.reduceSub,Int.reduceMul,Int.reduceToNat,Int.reduceNeg,Int.reduceTMod,Int.reduceEq,not_false_eq_true,Int.reducePow,Int.reduceFDiv,Nat.reducePow,Nat.reduceSub,Nat.reduceMul,Nat.min_eq_left,Nat.reduceEqDiff,BEq.rfl,Int.tdiv_one,LN_succ]
 refine S2.dec (fun h1=>?_) (fun h1=>?_) <;> simp -dsimp only [aqA,↓seqK,↓blkK,↓loopK,step,stepBin,eqB,Nat.add_assoc nid,simprocAttr,z0,Int.cast_ofNat_Int,Int.reduceBEq,Int.reduceBNe,Int.reduceLT,Int.reduceLE,Int.reduceAdd,Int.reduceSub,Int.reduceMul,Int.reduceToNat,Int.reduceNeg,Int.reduceTMod,Int.reduceEq,not_false_eq_true,Int.reducePow,Int.reduceFDiv,Nat.reducePow,Nat.reduceSub,Nat.reduceMul,Nat.min_eq_left,Nat.reduceEqDiff,BEq.rfl,Int.tdiv_one,LN_succ]
 ·have hyl:y<W.rows.length:=by omega
  have hrl:=(hW.at hyl).1
  have hw2:=hW.wide.2
  have hts:=plTo_succ W y
  have htb:=plTo_bd hW (y:=y) (by omega)
  have hpl:∀ x:Nat,x<(W.rows.getD y []).length→(((x:Nat):Int),((y:Nat):Int))∈plV W:=fun x hx=>by
   unfold plV plTo rowPl
   rw [List.mem_flatMap]
   exact ⟨y,List.mem_range.2 hyl,List.mem_map.2 ⟨x,List.mem_range.2 hx,rfl⟩⟩
  generalize hr:W.rows.getD y []=r at *
  generalize plTo W y=T at *
  refine ⟨by omega,LP.mkP (fun x:Nat=>x≤r.length) (fun x:Nat=>⟨[(20,.int .i64 x),(19,.int .i64 r.length),(6,.int .i64 y),(13,.int .i64 y),(12,.int .i64 W.rows.length),(11,.lit nl W.rows.length [.s fun i=>W.rows.getD i []]),(5,.sl (nid+8) 0 ((T++rowPl y x).filter F).length),(1,.fn f caps)],(nid+8,arrPl ((T++rowPl y x).filter F))::Hs,nid+300,nid⟩) (fun x=>r.length+1 - x) 0 (by omega) ?_ (fun x hx=>?_)⟩
  ·first | refine Cov.goF Hs [_] [_] [] [] hs (by simp [kOK]) (by simp) ?_ | refine Cov.goF Hs [_,_] [_] [] [] hs (by simp [kOK]) (by simp) ?_ | refine Cov.goF Hs [_,_,_] [_] [] [] hs (by simp [kOK]) (by simp) ?_ | refine Cov.goF Hs [_,_,_,_] [_] [] [] hs (by simp [kOK]) (by simp) ?_ | refine Cov.goF Hs [_,_,_,_,_] [_] [] [] hs (by simp [kOK]) (by simp) ?_ | refine Cov.goF Hs [_,_,_,_,_,_] [_] [] [] hs (by simp [kOK]) (by simp) ?_ | refine Cov.goF Hs [_,_,_,_,_,_,_] [_] [] [] hs (by simp [kOK]) (by simp) ?_ | refine Cov.goF Hs [_,_,_,_,_,_,_,_] [_] [] [] hs (by simp [kOK]) (by simp) ?_ | refine Cov.goF Hs [] [_] [] [] hs (by simp [kOK]) (by simp) ?_
   simp [cvT,step,res,hcv,arrPl,rowPl]
  have hrs:=rowPl_succ y x
  have hrx:=rowPl_len y x
  have hTs:T++rowPl y (x+1)=(T++rowPl y x)++[((x:Int),(y:Int))]:=by rw [hrs,List.append_assoc]
  have hfs:=filter_snoc F (T++rowPl y x) ((x:Int),(y:Int))
  rw [← hTs] at hfs
  have hfl:((T++rowPl y x).filter F).length≤61000:=by
   have h1:=List.length_filter_le F (T++rowPl y x)
   rw [List.length_append,hrx] at h1
   omega
  generalize hLd:(T++rowPl y x).filter F=L at *
  unfold arrPl
  simp -dsimp only [aqA,↓seqK,↓blkK,↓loopK,step,stepBin,eqB,Nat.add_assoc nid,simprocAttr,z0,Int.cast_ofNat_Int,Int.reduceBEq,Int.reduceBNe,Int.reduceLT,Int.reduceLE,Int.reduceAdd,Int.reduceSub,Int.reduceMul,Int.reduceToNat,Int.reduceNeg,Int.reduceTMod,Int.reduceEq,not_false_eq_true,Int.reducePow,Int.reduceFDiv,Nat.reducePow,Nat.reduceSub,Nat.reduceMul,Nat.min_eq_left,Nat.reduceEqDiff,BEq.rfl,Int.tdiv_one,LN_succ]
  refine S2.dec (fun h2=>?_) (fun h2=>?_) <;> simp -dsimp only [aqA,↓seqK,↓blkK,↓loopK,step,stepBin,eqB,Nat.add_assoc nid,simprocAttr,z0,Int.cast_ofNat_Int,Int.reduceBEq,Int.reduceBNe,Int.reduceLT,Int.reduceLE,Int.reduceAdd,Int.reduceSub,Int.reduceMul,Int.reduceToNat,Int.reduceNeg,Int.reduceTMod,Int.reduceEq,not_false_eq_true,Int.reducePow,Int.reduceFDiv,Nat.reducePow,Nat.reduceSub,Nat.reduceMul,Nat.min_eq_left,Nat.reduceEqDiff,BEq.rfl,Int.tdiv_one,LN_succ]
  ·have hxl:x<r.length:=by omega
   refine CallO.on (hf _ (hpl x hxl) _ (by omega)) (by first | exact subH_frame (X:=[_]) hs (by simp [kOK]) | exact subH_frame (X:=[_,_]) hs (by simp [kOK]) | exact subH_frame (X:=[_,_,_]) hs (by simp [kOK]) | exact subH_frame (X:=[_,_,_,_]) hs (by simp [kOK]) | exact subH_frame (X:=[_,_,_,_,_]) hs (by simp [kOK]) | exact subH_frame (X:=[_,_,_,_,_,_]) hs (by simp [kOK]) | exact subH_frame (X:=[_,_,_,_,_,_,_]) hs (by simp [kOK]) | exact subH_frame (X:=[_,_,_,_,_,_,_,_]) hs (by simp [kOK]) | exact subH_frame (X:=[]) hs (by simp [kOK])) ?_
   cases hF:F ((x:Int),(y:Int)) <;> rw [hF] at hfs <;> simp -dsimp only [aqA,↓seqK,↓blkK,↓loopK,step,stepBin,eqB,Nat.add_assoc nid,simprocAttr,z0,Int.cast_ofNat_Int,Int.reduceBEq,Int.reduceBNe,Int.reduceLT,Int.reduceLE,Int.reduceAdd,Int.reduceSub,Int.reduceMul,Int.reduceToNat,Int.reduceNeg,Int.reduceTMod,Int.reduceEq,not_false_eq_true,Int.reducePow,Int.reduceFDiv,Nat.reducePow,Nat.reduceSub,Nat.reduceMul,Nat.min_eq_left,Nat.reduceEqDiff,BEq.rfl,Int.tdiv_one,LN_succ]
   ·rw [if_neg (by simp),List.append_nil] at hfs
    refine ⟨by unfold inI64; omega,x+1,⟨by omega,by omega⟩,?_⟩
    first | refine Cov.goF Hs [_] [_] [] [] hs (by simp [kOK]) (by simp) ?_ | refine Cov.goF Hs [_,_] [_] [] [] hs (by simp [kOK]) (by simp) ?_ | refine Cov.goF Hs [_,_,_] [_] [] [] hs (by simp [kOK]) (by simp) ?_ | refine Cov.goF Hs [_,_,_,_] [_] [] [] hs (by simp [kOK]) (by simp) ?_ | refine Cov.goF Hs [_,_,_,_,_] [_] [] [] hs (by simp [kOK]) (by simp) ?_ | refine Cov.goF Hs [_,_,_,_,_,_] [_] [] [] hs (by simp [kOK]) (by simp) ?_ | refine Cov.goF Hs [_,_,_,_,_,_,_] [_] [] [] hs (by simp [kOK]) (by simp) ?_ | refine Cov.goF Hs [_,_,_,_,_,_,_,_] [_] [] [] hs (by simp [kOK]) (by simp) ?_ | refine Cov.goF Hs [] [_] [] [] hs (by simp [kOK]) (by simp) ?_
    simp [cvT,step,res,hcv,arrPl,hfs,-List.getD_eq_getElem?_getD]
   ·rw [if_pos rfl] at hfs
    rw [getD_appP L ((x:Int),(y:Int)) rfl (fun q=>q.1) rfl rfl,getD_appP L ((x:Int),(y:Int)) rfl (fun q=>q.2) rfl rfl,← hfs]
    have hl3:((T++rowPl y (x+1)).filter F).length=L.length+1:=by rw [hfs]; simp
    refine ⟨⟨by omega,by omega⟩,by unfold inI64; omega,x+1,⟨by omega,by omega⟩,?_⟩
    first | refine Cov.goF Hs [_] [_] [(nid+8,nid+356)] [] hs (by simp [kOK]) (by simp) ?_ | refine Cov.goF Hs [_,_] [_] [(nid+8,nid+356)] [] hs (by simp [kOK]) (by simp) ?_ | refine Cov.goF Hs [_,_,_] [_] [(nid+8,nid+356)] [] hs (by simp [kOK]) (by simp) ?_ | refine Cov.goF Hs [_,_,_,_] [_] [(nid+8,nid+356)] [] hs (by simp [kOK]) (by simp) ?_ | refine Cov.goF Hs [_,_,_,_,_] [_] [(nid+8,nid+356)] [] hs (by simp [kOK]) (by simp) ?_ | refine Cov.goF Hs [_,_,_,_,_,_] [_] [(nid+8,nid+356)] [] hs (by simp [kOK]) (by simp) ?_ | refine Cov.goF Hs [_,_,_,_,_,_,_] [_] [(nid+8,nid+356)] [] hs (by simp [kOK]) (by simp) ?_ | refine Cov.goF Hs [_,_,_,_,_,_,_,_] [_] [(nid+8,nid+356)] [] hs (by simp [kOK]) (by simp) ?_ | refine Cov.goF Hs [] [_] [(nid+8,nid+356)] [] hs (by simp [kOK]) (by simp) ?_
    simp [cvT,step,res,PVCovs.self (b:=nid) (hi:=nid+300) (ren:=[(nid+8,nid+356)]) (nils:=[]) (by simp [inRange]) rfl (by omega) caps hcap,arrPl,hl3,-List.getD_eq_getElem?_getD,-List.length_append,-List.filter_append]
  ·obtain rfl:x=r.length:=by omega
   have e:(plTo W (y+1)).filter F=L:=by rw [hts,hLd]
   refine ⟨by unfold inI64; omega,y+1,⟨by omega,by omega⟩,?_⟩
   rw [e]
   first | refine Cov.goF Hs [_] [_] [] [] hs (by simp [kOK]) (by simp) ?_ | refine Cov.goF Hs [_,_] [_] [] [] hs (by simp [kOK]) (by simp) ?_ | refine Cov.goF Hs [_,_,_] [_] [] [] hs (by simp [kOK]) (by simp) ?_ | refine Cov.goF Hs [_,_,_,_] [_] [] [] hs (by simp [kOK]) (by simp) ?_ | refine Cov.goF Hs [_,_,_,_,_] [_] [] [] hs (by simp [kOK]) (by simp) ?_ | refine Cov.goF Hs [_,_,_,_,_,_] [_] [] [] hs (by simp [kOK]) (by simp) ?_ | refine Cov.goF Hs [_,_,_,_,_,_,_] [_] [] [] hs (by simp [kOK]) (by simp) ?_ | refine Cov.goF Hs [_,_,_,_,_,_,_,_] [_] [] [] hs (by simp [kOK]) (by simp) ?_ | refine Cov.goF Hs [] [_] [] [] hs (by simp [kOK]) (by simp) ?_
   simp [cvT,step,res,hcv,arrPl,-List.getD_eq_getElem?_getD,-List.filter_append]
 ·obtain rfl:y=W.rows.length:=by omega
  refine RetOK.goF Hs [] [_] [(nid,arrPl ((plV W).filter F))] [(nid,nid+8)] [] (.inl rfl) hs (by simp [kOK]) (by simp) ?_
  simp [cvT,step,res,a49,arrPl,plV,-List.getD_eq_getElem?_getD]
open Go.RowKit
def boxI (n:Int):Option ABlk:=some (.box 3 [.int .i64 n])
def boxFr (a b:Int):Option ABlk:=some (.box 35 [.int .i64 a,.int .i64 b])
def boxPn (x y:Int):Option ABlk:=some (.box 46 [.int .i64 x,.int .i64 y])
def inCell (w h X Y:Nat) (p:Pt):Bool:=decide (cellOf w h p=((X:Int),(Y:Int)))
set_option maxHeartbeats 4000000 in
theorem repF1_c (i:Nat) (w h X Y x y:Nat) (nid:Nat) (hn:i+20≤nid) (hw:1≤w) (hh:1≤h) :
  ACall Try.prog 50 [.agg [.int .i64 (x:Nat),.int .i64 (y:Nat)],.ptr i 0,.ptr (i+1) 0,.ptr (i+2) 0,.ptr (i+3) 0] [(i,boxI (w:Nat)),(i+1,boxI (X:Nat)),(i+2,boxI (h:Nat)),(i+3,boxI (Y:Nat))] nid (.bool (inCell w h X Y ((x:Int),(y:Int)))) []:=by
 have f0:(nid==i)=false:=by simp; omega
 have f1:(nid==i+1)=false:=by simp; omega
 have f2:(nid==i+2)=false:=by simp; omega
 have f3:(nid==i+3)=false:=by simp; omega
 have g:i<nid∧i+1<nid∧i+2<nid∧i+3<nid:=by omega
 have g':∀ k,i<nid+k∧i+1<nid+k∧i+2<nid+k∧i+3<nid+k:=fun k=>by omega
 have e:inCell w h X Y ((x:Int),(y:Int))=(decide (x % w=X) && decide (y % h=Y)):=by
  unfold inCell
  rw [cellOf_nat,Bool.eq_iff_iff]
  simp
  omega
 have e1:(((x % w:Nat):Int)==(X:Nat))=decide (x % w=X):=by rw [Bool.eq_iff_iff]; simp; omega
 have e2:(((y % h:Nat):Int)==(Y:Nat))=decide (y % h=Y):=by rw [Bool.eq_iff_iff]; simp; omega
 have n1:((i:Nat)==i+1)=false:=by simp
 have n2:((i:Nat)==i+2)=false:=by simp
 have n3:((i:Nat)==i+3)=false:=by simp
 have n4:((i+1:Nat)==i+2)=false:=by simp
 have n5:((i+1:Nat)==i+3)=false:=by simp
 have n6:((i+2:Nat)==i+3)=false:=by simp
 rw [e]
 refine acall_sr c50 (by simp [a50]) ?_
 unfold a50 boxI
 refine SR.seq ?_
 simp -dsimp only [aqA,↓seqK,↓blkK,↓loopK,step,stepBin,eqB,Nat.add_assoc nid,simprocAttr,z0,Int.cast_ofNat_Int,Int.reduceBEq,Int.reduceBNe,Int.reduceLT,Int.reduceLE,Int.reduceAdd,Int.reduceSub,Int.reduceMul,Int.reduceToNat,Int.reduceNeg,Int.reduceTMod,Int.reduceEq,not_false_eq_true,Int.reducePow,Int.reduceFDiv,Nat.reducePow,Nat.reduceSub,Nat.reduceMul,Nat.min_eq_left,Nat.reduceEqDiff,BEq.rfl,Int.tdiv_one,LN_succ]
 by_cases h1:x % w=X
 ·rw [decide_eq_true h1] at e1 ⊢
  refine SR.run (t:=.mk) ?_
  simp -dsimp only [aqA,↓seqK,↓blkK,↓loopK,step,stepBin,eqB,Nat.add_assoc nid,simprocAttr,z0,Int.cast_ofNat_Int,Int.reduceBEq,Int.reduceBNe,Int.reduceLT,Int.reduceLE,Int.reduceAdd,Int.reduceSub,Int.reduceMul,Int.reduceToNat,Int.reduceNeg,Int.reduceTMod,Int.reduceEq,not_false_eq_true,Int.reducePow,Int.reduceFDiv,Nat.reducePow,Nat.reduceSub,Nat.reduceMul,Nat.min_eq_left,Nat.reduceEqDiff,BEq.rfl,Int.tdiv_one,LN_succ,f0,f1,f2,f3,g,g',e1,e2,n1,n2,n3,n4,n5,n6]
  refine ⟨by omega,by omega,?_⟩
  refine RetOK.go [] [] (.inl rfl) ?_
  simp [a50,cvT,step,res,f0,f1,f2,f3,n1,n2,n3,n4,n5,n6]
  omega
 ·rw [decide_eq_false h1] at e1 ⊢
  refine SR.run (t:=.mk) ?_
  simp -dsimp only [aqA,↓seqK,↓blkK,↓loopK,step,stepBin,eqB,Nat.add_assoc nid,simprocAttr,z0,Int.cast_ofNat_Int,Int.reduceBEq,Int.reduceBNe,Int.reduceLT,Int.reduceLE,Int.reduceAdd,Int.reduceSub,Int.reduceMul,Int.reduceToNat,Int.reduceNeg,Int.reduceTMod,Int.reduceEq,not_false_eq_true,Int.reducePow,Int.reduceFDiv,Nat.reducePow,Nat.reduceSub,Nat.reduceMul,Nat.min_eq_left,Nat.reduceEqDiff,BEq.rfl,Int.tdiv_one,LN_succ,f0,f1,f2,f3,g,g',e1,e2,n1,n2,n3,n4,n5,n6]
  refine ⟨by omega,?_⟩
  refine RetOK.go [] [] (.inl rfl) ?_
  simp [a50,cvT,step,res,f0,f1,f2,f3,n1,n2,n3,n4,n5,n6]
  omega
set_option maxHeartbeats 16000000 in
theorem repeatsOf_ok (nl:Bool) (W:Waf) (w h:Nat) (a b:Int) (nid:Nat) (hW:WafOk W) (hf:repF w h a b=0) (R:List Pt) (hR:R=repTo (gC (cntC (allP W) w h (plV W)) (cntC (badP W) w h (plV W)) a b) w h) :
  ACall Try.prog 16 [wafP nl W,.int .i64 (w:Nat),.int .i64 (h:Nat),.agg [.int .i64 a,.int .i64 b]] [] nid (.sl nid 0 R.length) [(nid,arrPl R)]:=by
 obtain ⟨hw,hh,hb,ha0,hab⟩:=repF_ok hf
 have hlb2:(plV W).length≤60000:=plTo_bd hW (Nat.le_refl _)
 generalize hG:gC (cntC (allP W) w h (plV W)) (cntC (badP W) w h (plV W)) a b=G at *
 refine acall_sr c16 (by simp [a16]) ?_
 unfold a16 wafP
 refine SR.seq ?_
 simp -dsimp only [aqA,↓seqK,↓blkK,↓loopK,step,stepBin,eqB,Nat.add_assoc nid,simprocAttr,z0,Int.cast_ofNat_Int,Int.reduceBEq,Int.reduceBNe,Int.reduceLT,Int.reduceLE,Int.reduceAdd,Int.reduceSub,Int.reduceMul,Int.reduceToNat,Int.reduceNeg,Int.reduceTMod,Int.reduceEq,not_false_eq_true,Int.reducePow,Int.reduceFDiv,Nat.reducePow,Nat.reduceSub,Nat.reduceMul,Nat.min_eq_left,Nat.reduceEqDiff,BEq.rfl,Int.tdiv_one,LN_succ]
 refine SR.seqTo ⟨[(9,.sl (nid+300) 0 0),(4,.ptr nid 0),(5,.ptr (nid+20) 0),(6,.ptr (nid+22) 0),(7,.ptr (nid+4) 0)],[(nid,boxW nl W),(nid+4,boxFr a b),(nid+20,boxI (w:Nat)),(nid+22,boxI (h:Nat)),(nid+300,arrPl [])],nid+400,nid⟩ ?_ ?_
 ·simp -dsimp only [aqA,↓seqK,↓blkK,↓loopK,step,stepBin,eqB,Nat.add_assoc nid,simprocAttr,z0,Int.cast_ofNat_Int,Int.reduceBEq,Int.reduceBNe,Int.reduceLT,Int.reduceLE,Int.reduceAdd,Int.reduceSub,Int.reduceMul,Int.reduceToNat,Int.reduceNeg,Int.reduceTMod,Int.reduceEq,not_false_eq_true,Int.reducePow,Int.reduceFDiv,Nat.reducePow,Nat.reduceSub,Nat.reduceMul,Nat.min_eq_left,Nat.reduceEqDiff,BEq.rfl,Int.tdiv_one,LN_succ]
  refine Cov.go [(nid+20,nid+4),(nid+22,nid+8),(nid+4,nid+12)] [(nid+300,2)] ?_
  simp [cvT,step,res,boxW,boxFr,boxI,arrPl,-List.getD_eq_getElem?_getD]
 refine SR.seqW (ι:=Unit) (fun _=>⟨[(9,.sl (nid+300) 0 R.length)],[(nid+300,arrPl R)],nid+90000,nid⟩) ?_ (fun _=>?_)
 rotate_left
 ·refine SR.run (t:=.mk) ?_
  unfold arrPl
  simp -dsimp only [aqA,↓seqK,↓blkK,↓loopK,step,stepBin,eqB,Nat.add_assoc nid,simprocAttr,z0,Int.cast_ofNat_Int,Int.reduceBEq,Int.reduceBNe,Int.reduceLT,Int.reduceLE,Int.reduceAdd,Int.reduceSub,Int.reduceMul,Int.reduceToNat,Int.reduceNeg,Int.reduceTMod,Int.reduceEq,not_false_eq_true,Int.reducePow,Int.reduceFDiv,Nat.reducePow,Nat.reduceSub,Nat.reduceMul,Nat.min_eq_left,Nat.reduceEqDiff,BEq.rfl,Int.tdiv_one,LN_succ]
  refine RetOK.go [(nid,nid+300)] [] (.inl rfl) ?_
  simp [a16,cvT,step,res,arrPl,-List.getD_eq_getElem?_getD]
 refine SR.seqTo ⟨[(17,.int .i64 (0:Nat)),(16,.int .i64 (h:Nat)),(9,.sl (nid+300) 0 ([]:List Pt).length),(4,.ptr nid 0),(5,.ptr (nid+20) 0),(6,.ptr (nid+22) 0),(7,.ptr (nid+4) 0)],[(nid,boxW nl W),(nid+4,boxFr a b),(nid+20,boxI (w:Nat)),(nid+22,boxI (h:Nat)),(nid+300,arrPl [])],nid+450,nid⟩ ?_ ?_
 ·unfold boxW boxFr boxI arrPl
  simp -dsimp only [aqA,↓seqK,↓blkK,↓loopK,step,stepBin,eqB,Nat.add_assoc nid,simprocAttr,z0,Int.cast_ofNat_Int,Int.reduceBEq,Int.reduceBNe,Int.reduceLT,Int.reduceLE,Int.reduceAdd,Int.reduceSub,Int.reduceMul,Int.reduceToNat,Int.reduceNeg,Int.reduceTMod,Int.reduceEq,not_false_eq_true,Int.reducePow,Int.reduceFDiv,Nat.reducePow,Nat.reduceSub,Nat.reduceMul,Nat.min_eq_left,Nat.reduceEqDiff,BEq.rfl,Int.tdiv_one,LN_succ]
  refine Cov.go [] [] ?_
  simp [cvT,step,res,boxW,boxFr,boxI,arrPl,-List.getD_eq_getElem?_getD]
 refine SR.block ?_
 refine SR.loopP (fun Y:Nat=>Y≤h) (fun Y=>⟨[(17,.int .i64 (Y:Nat)),(16,.int .i64 (h:Nat)),(9,.sl (nid+300) 0 (repTo G w Y).length),(4,.ptr nid 0),(5,.ptr (nid+20) 0),(6,.ptr (nid+22) 0),(7,.ptr (nid+4) 0)],[(nid,boxW nl W),(nid+4,boxFr a b),(nid+20,boxI (w:Nat)),(nid+22,boxI (h:Nat)),(nid+300,arrPl (repTo G w Y))],nid+500,nid⟩) (fun Y=>h+1 - Y) 0 (by omega) (Cov.go [] [] ?_) (fun Y hY=>?_)
 ·simp [cvT,step,res,boxW,boxFr,boxI,arrPl,repTo_zero,-List.getD_eq_getElem?_getD]
 refine SR.seq ?_
 simp -dsimp only [aqA,↓seqK,↓blkK,↓loopK,step,stepBin,eqB,Nat.add_assoc nid,simprocAttr,z0,Int.cast_ofNat_Int,Int.reduceBEq,Int.reduceBNe,Int.reduceLT,Int.reduceLE,Int.reduceAdd,Int.reduceSub,Int.reduceMul,Int.reduceToNat,Int.reduceNeg,Int.reduceTMod,Int.reduceEq,not_false_eq_true,Int.reducePow,Int.reduceFDiv,Nat.reducePow,Nat.reduceSub,Nat.reduceMul,Nat.min_eq_left,Nat.reduceEqDiff,BEq.rfl,Int.tdiv_one,LN_succ]
 refine SR.seq ?_
 simp -dsimp only [aqA,↓seqK,↓blkK,↓loopK,step,stepBin,eqB,Nat.add_assoc nid,simprocAttr,z0,Int.cast_ofNat_Int,Int.reduceBEq,Int.reduceBNe,Int.reduceLT,Int.reduceLE,Int.reduceAdd,Int.reduceSub,Int.reduceMul,Int.reduceToNat,Int.reduceNeg,Int.reduceTMod,Int.reduceEq,not_false_eq_true,Int.reducePow,Int.reduceFDiv,Nat.reducePow,Nat.reduceSub,Nat.reduceMul,Nat.min_eq_left,Nat.reduceEqDiff,BEq.rfl,Int.tdiv_one,LN_succ]
 refine S2.dec (fun h3=>?_) (fun h3=>?_) <;> simp -dsimp only [aqA,↓seqK,↓blkK,↓loopK,step,stepBin,eqB,Nat.add_assoc nid,simprocAttr,z0,Int.cast_ofNat_Int,Int.reduceBEq,Int.reduceBNe,Int.reduceLT,Int.reduceLE,Int.reduceAdd,Int.reduceSub,Int.reduceMul,Int.reduceToNat,Int.reduceNeg,Int.reduceTMod,Int.reduceEq,not_false_eq_true,Int.reducePow,Int.reduceFDiv,Nat.reducePow,Nat.reduceSub,Nat.reduceMul,Nat.min_eq_left,Nat.reduceEqDiff,BEq.rfl,Int.tdiv_one,LN_succ]
 rotate_left
 ·have e:Y=h:=by omega
  refine ⟨(),?_⟩
  rw [e,← hR]
  refine Cov.go [] [] ?_
  simp [cvT,step,res,boxW,boxFr,boxI,arrPl,-List.getD_eq_getElem?_getD]
 have hYl:Y<h:=by omega
 have hlY:=repTo_len G w Y
 have hYw:Y * w≤3600:=by
  have:Y * w≤60 * 60:=Nat.mul_le_mul (by omega) (by omega)
  omega
 have hsY:=repTo_succ G w Y
 refine SR.seqW (ι:=Unit) (fun _=>⟨[(17,.int .i64 (Y:Nat)),(16,.int .i64 (h:Nat)),(9,.sl (nid+300) 0 (repTo G w (Y+1)).length),(4,.ptr nid 0),(5,.ptr (nid+20) 0),(6,.ptr (nid+22) 0),(7,.ptr (nid+4) 0)],[(nid,boxW nl W),(nid+4,boxFr a b),(nid+20,boxI (w:Nat)),(nid+22,boxI (h:Nat)),(nid+300,arrPl (repTo G w (Y+1)))],nid+80000,nid⟩) ?_ (fun _=>?_)
 rotate_left
 ·refine SR.run (t:=.mk) ?_
  unfold boxW boxFr boxI arrPl
  simp -dsimp only [aqA,↓seqK,↓blkK,↓loopK,step,stepBin,eqB,Nat.add_assoc nid,simprocAttr,z0,Int.cast_ofNat_Int,Int.reduceBEq,Int.reduceBNe,Int.reduceLT,Int.reduceLE,Int.reduceAdd,Int.reduceSub,Int.reduceMul,Int.reduceToNat,Int.reduceNeg,Int.reduceTMod,Int.reduceEq,not_false_eq_true,Int.reducePow,Int.reduceFDiv,Nat.reducePow,Nat.reduceSub,Nat.reduceMul,Nat.min_eq_left,Nat.reduceEqDiff,BEq.rfl,Int.tdiv_one,LN_succ]
  refine ⟨by unfold inI64; omega,Y+1,⟨by omega,by omega⟩,Cov.go [] [] ?_⟩
  simp [cvT,step,res,boxW,boxFr,boxI,arrPl,-List.getD_eq_getElem?_getD]
 rw [hsY]
 generalize repTo G w Y=L0 at *
 refine SR.block ?_
 refine SR.seqTo ⟨[(10,.ptr (nid+23) 0),(17,.int .i64 (Y:Nat)),(16,.int .i64 (h:Nat)),(9,.sl (nid+300) 0 L0.length),(4,.ptr nid 0),(5,.ptr (nid+20) 0),(6,.ptr (nid+22) 0),(7,.ptr (nid+4) 0)],[(nid,boxW nl W),(nid+4,boxFr a b),(nid+20,boxI (w:Nat)),(nid+22,boxI (h:Nat)),(nid+23,boxI (Y:Nat)),(nid+300,arrPl L0)],nid+550,nid⟩ ?_ ?_
 ·unfold boxW boxFr boxI arrPl
  simp -dsimp only [aqA,↓seqK,↓blkK,↓loopK,step,stepBin,eqB,Nat.add_assoc nid,simprocAttr,z0,Int.cast_ofNat_Int,Int.reduceBEq,Int.reduceBNe,Int.reduceLT,Int.reduceLE,Int.reduceAdd,Int.reduceSub,Int.reduceMul,Int.reduceToNat,Int.reduceNeg,Int.reduceTMod,Int.reduceEq,not_false_eq_true,Int.reducePow,Int.reduceFDiv,Nat.reducePow,Nat.reduceSub,Nat.reduceMul,Nat.min_eq_left,Nat.reduceEqDiff,BEq.rfl,Int.tdiv_one,LN_succ]
  refine Cov.go [(nid+23,nid+508)] [] ?_
  simp [cvT,step,res,boxW,boxFr,boxI,arrPl,-List.getD_eq_getElem?_getD]
 refine SR.seqTo ⟨[(21,.int .i64 (0:Nat)),(20,.int .i64 (w:Nat)),(10,.ptr (nid+23) 0),(17,.int .i64 (Y:Nat)),(16,.int .i64 (h:Nat)),(9,.sl (nid+300) 0 L0.length),(4,.ptr nid 0),(5,.ptr (nid+20) 0),(6,.ptr (nid+22) 0),(7,.ptr (nid+4) 0)],[(nid,boxW nl W),(nid+4,boxFr a b),(nid+20,boxI (w:Nat)),(nid+22,boxI (h:Nat)),(nid+23,boxI (Y:Nat)),(nid+300,arrPl L0)],nid+600,nid⟩ ?_ ?_
 ·unfold boxW boxFr boxI arrPl
  simp -dsimp only [aqA,↓seqK,↓blkK,↓loopK,step,stepBin,eqB,Nat.add_assoc nid,simprocAttr,z0,Int.cast_ofNat_Int,Int.reduceBEq,Int.reduceBNe,Int.reduceLT,Int.reduceLE,Int.reduceAdd,Int.reduceSub,Int.reduceMul,Int.reduceToNat,Int.reduceNeg,Int.reduceTMod,Int.reduceEq,not_false_eq_true,Int.reducePow,Int.reduceFDiv,Nat.reducePow,Nat.reduceSub,Nat.reduceMul,Nat.min_eq_left,Nat.reduceEqDiff,BEq.rfl,Int.tdiv_one,LN_succ]
  refine Cov.go [] [] ?_
  simp [cvT,step,res,boxW,boxFr,boxI,arrPl,-List.getD_eq_getElem?_getD]
 refine SR.block ?_
 refine SR.loopP (fun X:Nat=>X≤w) (fun X=>⟨[(21,.int .i64 (X:Nat)),(20,.int .i64 (w:Nat)),(10,.ptr (nid+23) 0),(17,.int .i64 (Y:Nat)),(16,.int .i64 (h:Nat)),(9,.sl (nid+300) 0 (L0++(rowPl Y X).filter G).length),(4,.ptr nid 0),(5,.ptr (nid+20) 0),(6,.ptr (nid+22) 0),(7,.ptr (nid+4) 0)],[(nid,boxW nl W),(nid+4,boxFr a b),(nid+20,boxI (w:Nat)),(nid+22,boxI (h:Nat)),(nid+23,boxI (Y:Nat)),(nid+300,arrPl (L0++(rowPl Y X).filter G))],nid+700,nid⟩) (fun X=>w+1 - X) 0 (by omega) (Cov.go [] [] ?_) (fun X hX=>?_)
 ·simp [cvT,step,res,boxW,boxFr,boxI,arrPl,rowG_zero,-List.getD_eq_getElem?_getD]
 refine SR.seq ?_
 simp -dsimp only [aqA,↓seqK,↓blkK,↓loopK,step,stepBin,eqB,Nat.add_assoc nid,simprocAttr,z0,Int.cast_ofNat_Int,Int.reduceBEq,Int.reduceBNe,Int.reduceLT,Int.reduceLE,Int.reduceAdd,Int.reduceSub,Int.reduceMul,Int.reduceToNat,Int.reduceNeg,Int.reduceTMod,Int.reduceEq,not_false_eq_true,Int.reducePow,Int.reduceFDiv,Nat.reducePow,Nat.reduceSub,Nat.reduceMul,Nat.min_eq_left,Nat.reduceEqDiff,BEq.rfl,Int.tdiv_one,LN_succ]
 refine SR.seq ?_
 simp -dsimp only [aqA,↓seqK,↓blkK,↓loopK,step,stepBin,eqB,Nat.add_assoc nid,simprocAttr,z0,Int.cast_ofNat_Int,Int.reduceBEq,Int.reduceBNe,Int.reduceLT,Int.reduceLE,Int.reduceAdd,Int.reduceSub,Int.reduceMul,Int.reduceToNat,Int.reduceNeg,Int.reduceTMod,Int.reduceEq,not_false_eq_true,Int.reducePow,Int.reduceFDiv,Nat.reducePow,Nat.reduceSub,Nat.reduceMul,Nat.min_eq_left,Nat.reduceEqDiff,BEq.rfl,Int.tdiv_one,LN_succ]
 refine S2.dec (fun h4=>?_) (fun h4=>?_) <;> simp -dsimp only [aqA,↓seqK,↓blkK,↓loopK,step,stepBin,eqB,Nat.add_assoc nid,simprocAttr,z0,Int.cast_ofNat_Int,Int.reduceBEq,Int.reduceBNe,Int.reduceLT,Int.reduceLE,Int.reduceAdd,Int.reduceSub,Int.reduceMul,Int.reduceToNat,Int.reduceNeg,Int.reduceTMod,Int.reduceEq,not_false_eq_true,Int.reducePow,Int.reduceFDiv,Nat.reducePow,Nat.reduceSub,Nat.reduceMul,Nat.min_eq_left,Nat.reduceEqDiff,BEq.rfl,Int.tdiv_one,LN_succ]
 rotate_left
 ·have e:X=w:=by omega
  refine ⟨(),?_⟩
  rw [e]
  refine Cov.go [] [] ?_
  simp [cvT,step,res,boxW,boxFr,boxI,arrPl,-List.getD_eq_getElem?_getD]
 have hXl:X<w:=by omega
 have hlX:=rowG_len G Y X
 have hsX:=rowG_succ G Y X
 have hLL:(L0++(rowPl Y X).filter G).length≤5000:=by rw [List.length_append]; omega
 have hLs:L0++(rowPl Y (X+1)).filter G=(L0++(rowPl Y X).filter G)++(if G ((X:Int),(Y:Int))=true then [((X:Int),(Y:Int))] else []):=by rw [hsX,List.append_assoc]
 refine SR.seqW (ι:=Unit) (fun _=>⟨[(21,.int .i64 (X:Nat)),(20,.int .i64 (w:Nat)),(10,.ptr (nid+23) 0),(17,.int .i64 (Y:Nat)),(16,.int .i64 (h:Nat)),(9,.sl (nid+300) 0 (L0++(rowPl Y (X+1)).filter G).length),(4,.ptr nid 0),(5,.ptr (nid+20) 0),(6,.ptr (nid+22) 0),(7,.ptr (nid+4) 0)],[(nid,boxW nl W),(nid+4,boxFr a b),(nid+20,boxI (w:Nat)),(nid+22,boxI (h:Nat)),(nid+23,boxI (Y:Nat)),(nid+300,arrPl (L0++(rowPl Y (X+1)).filter G))],nid+60000,nid⟩) ?_ (fun _=>?_)
 rotate_left
 ·refine SR.run (t:=.mk) ?_
  unfold boxW boxFr boxI arrPl
  simp -dsimp only [aqA,↓seqK,↓blkK,↓loopK,step,stepBin,eqB,Nat.add_assoc nid,simprocAttr,z0,Int.cast_ofNat_Int,Int.reduceBEq,Int.reduceBNe,Int.reduceLT,Int.reduceLE,Int.reduceAdd,Int.reduceSub,Int.reduceMul,Int.reduceToNat,Int.reduceNeg,Int.reduceTMod,Int.reduceEq,not_false_eq_true,Int.reducePow,Int.reduceFDiv,Nat.reducePow,Nat.reduceSub,Nat.reduceMul,Nat.min_eq_left,Nat.reduceEqDiff,BEq.rfl,Int.tdiv_one,LN_succ]
  refine ⟨by unfold inI64; omega,X+1,⟨by omega,by omega⟩,Cov.go [] [] ?_⟩
  simp [cvT,step,res,boxW,boxFr,boxI,arrPl,-List.getD_eq_getElem?_getD]
 rw [hLs]
 generalize L0++(rowPl Y X).filter G=L at *
 refine SR.block ?_
 refine SR.seqTo ⟨[(11,.ptr (nid+21) 0),(21,.int .i64 (X:Nat)),(20,.int .i64 (w:Nat)),(10,.ptr (nid+23) 0),(17,.int .i64 (Y:Nat)),(16,.int .i64 (h:Nat)),(9,.sl (nid+300) 0 L.length),(4,.ptr nid 0),(5,.ptr (nid+20) 0),(6,.ptr (nid+22) 0),(7,.ptr (nid+4) 0)],[(nid,boxW nl W),(nid+4,boxFr a b),(nid+20,boxI (w:Nat)),(nid+22,boxI (h:Nat)),(nid+23,boxI (Y:Nat)),(nid+21,boxI (X:Nat)),(nid+300,arrPl L)],nid+750,nid⟩ ?_ ?_
 ·unfold boxW boxFr boxI arrPl
  simp -dsimp only [aqA,↓seqK,↓blkK,↓loopK,step,stepBin,eqB,Nat.add_assoc nid,simprocAttr,z0,Int.cast_ofNat_Int,Int.reduceBEq,Int.reduceBNe,Int.reduceLT,Int.reduceLE,Int.reduceAdd,Int.reduceSub,Int.reduceMul,Int.reduceToNat,Int.reduceNeg,Int.reduceTMod,Int.reduceEq,not_false_eq_true,Int.reducePow,Int.reduceFDiv,Nat.reducePow,Nat.reduceSub,Nat.reduceMul,Nat.min_eq_left,Nat.reduceEqDiff,BEq.rfl,Int.tdiv_one,LN_succ]
  refine Cov.go [(nid+21,nid+708)] [] ?_
  simp [cvT,step,res,boxW,boxFr,boxI,arrPl,-List.getD_eq_getElem?_getD]
 refine SR.seqTo ⟨[(12,.int .i64 0),(13,.int .i64 0),(11,.ptr (nid+21) 0),(21,.int .i64 (X:Nat)),(20,.int .i64 (w:Nat)),(10,.ptr (nid+23) 0),(17,.int .i64 (Y:Nat)),(16,.int .i64 (h:Nat)),(9,.sl (nid+300) 0 L.length),(4,.ptr nid 0),(5,.ptr (nid+20) 0),(6,.ptr (nid+22) 0),(7,.ptr (nid+4) 0)],[(nid,boxW nl W),(nid+4,boxFr a b),(nid+20,boxI (w:Nat)),(nid+22,boxI (h:Nat)),(nid+23,boxI (Y:Nat)),(nid+21,boxI (X:Nat)),(nid+300,arrPl L)],nid+800,nid⟩ ?_ ?_
 ·unfold boxW boxFr boxI arrPl
  simp -dsimp only [aqA,↓seqK,↓blkK,↓loopK,step,stepBin,eqB,Nat.add_assoc nid,simprocAttr,z0,Int.cast_ofNat_Int,Int.reduceBEq,Int.reduceBNe,Int.reduceLT,Int.reduceLE,Int.reduceAdd,Int.reduceSub,Int.reduceMul,Int.reduceToNat,Int.reduceNeg,Int.reduceTMod,Int.reduceEq,not_false_eq_true,Int.reducePow,Int.reduceFDiv,Nat.reducePow,Nat.reduceSub,Nat.reduceMul,Nat.min_eq_left,Nat.reduceEqDiff,BEq.rfl,Int.tdiv_one,LN_succ]
  refine Cov.go [] [] ?_
  simp [cvT,step,res,boxW,boxFr,boxI,arrPl,-List.getD_eq_getElem?_getD]
 have hcA:=cntC_of (allP W) w h (plV W) ((X:Int),(Y:Int))
 have hcB:=cntC_of (badP W) w h (plV W) ((X:Int),(Y:Int))
 have hGx:G ((X:Int),(Y:Int))=decide (0<cntC (allP W) w h (plV W) ((X:Int),(Y:Int))∧a * (cntC (allP W) w h (plV W) ((X:Int),(Y:Int)):Int)≤(cntC (badP W) w h (plV W) ((X:Int),(Y:Int)):Int) * b):=by rw [← hG]; rfl
 have hpl:∀ m,nid+50≤m→ACall Try.prog 49 [wafP nl W,.fn 50 [.ptr (nid+20) 0,.ptr (nid+21) 0,.ptr (nid+22) 0,.ptr (nid+23) 0]] [(nid+20,boxI (w:Nat)),(nid+21,boxI (X:Nat)),(nid+22,boxI (h:Nat)),(nid+23,boxI (Y:Nat))] m (.sl m 0 ((plV W).filter (inCell w h X Y)).length) [(m,arrPl ((plV W).filter (inCell w h X Y)))]:=fun m hm =>
  placesR_h 50 _ _ (inCell w h X Y) nl W m hW (scoped_list fun z hz=>by
   simp only [List.mem_cons,List.not_mem_nil,or_false] at hz
   rcases hz with rfl | rfl | rfl | rfl <;> exact ⟨by simp only; omega,rfl⟩) (by simp [lowAll,idsOfs,idsOf]; omega) (fun p hp nid' hn=>by
   obtain ⟨x,y,rfl,_,_⟩:=plV_mem hp
   exact repF1_c (nid+20) w h X Y x y nid' (by omega) (by omega) (by omega))
 have hQm:∀ p∈(plV W).filter (inCell w h X Y),p∈plV W:=fun p hp=>(List.mem_filter.1 hp).1
 have hQl:((plV W).filter (inCell w h X Y)).length≤60000:=by have:=List.length_filter_le (inCell w h X Y) (plV W); omega
 have hQA:((plV W).filter (inCell w h X Y)).countP (allP W)=cntC (allP W) w h (plV W) ((X:Int),(Y:Int)):=hcA
 have hQB:((plV W).filter (inCell w h X Y)).countP (badP W)=cntC (badP W) w h (plV W) ((X:Int),(Y:Int)):=hcB
 generalize hQ:(plV W).filter (inCell w h X Y)=Q at *
 refine SR.seqW (ι:=Unit) (fun _=>⟨[(12,.int .i64 (cntC (badP W) w h (plV W) ((X:Int),(Y:Int)):Nat)),(13,.int .i64 (cntC (allP W) w h (plV W) ((X:Int),(Y:Int)):Nat)),(11,.ptr (nid+21) 0),(21,.int .i64 (X:Nat)),(20,.int .i64 (w:Nat)),(10,.ptr (nid+23) 0),(17,.int .i64 (Y:Nat)),(16,.int .i64 (h:Nat)),(9,.sl (nid+300) 0 L.length),(4,.ptr nid 0),(5,.ptr (nid+20) 0),(6,.ptr (nid+22) 0),(7,.ptr (nid+4) 0)],[(nid,boxW nl W),(nid+4,boxFr a b),(nid+20,boxI (w:Nat)),(nid+22,boxI (h:Nat)),(nid+23,boxI (Y:Nat)),(nid+21,boxI (X:Nat)),(nid+300,arrPl L)],nid+50000,nid⟩) ?_ (fun _=>?_)
 ·refine SR.seqTo ⟨[(28,.int .i64 0),(27,.int .i64 Q.length),(26,.sl (nid+400) 0 Q.length),(12,.int .i64 0),(13,.int .i64 0),(11,.ptr (nid+21) 0),(21,.int .i64 (X:Nat)),(20,.int .i64 (w:Nat)),(10,.ptr (nid+23) 0),(17,.int .i64 (Y:Nat)),(16,.int .i64 (h:Nat)),(9,.sl (nid+300) 0 L.length),(4,.ptr nid 0),(5,.ptr (nid+20) 0),(6,.ptr (nid+22) 0),(7,.ptr (nid+4) 0)],[(nid,boxW nl W),(nid+4,boxFr a b),(nid+20,boxI (w:Nat)),(nid+22,boxI (h:Nat)),(nid+23,boxI (Y:Nat)),(nid+21,boxI (X:Nat)),(nid+300,arrPl L),(nid+400,arrPl Q)],nid+900,nid⟩ ?_ ?_
  ·unfold wafP at hpl
   unfold boxW boxFr boxI arrPl at *
   simp -dsimp only [aqA,↓seqK,↓blkK,↓loopK,step,stepBin,eqB,Nat.add_assoc nid,simprocAttr,z0,Int.cast_ofNat_Int,Int.reduceBEq,Int.reduceBNe,Int.reduceLT,Int.reduceLE,Int.reduceAdd,Int.reduceSub,Int.reduceMul,Int.reduceToNat,Int.reduceNeg,Int.reduceTMod,Int.reduceEq,not_false_eq_true,Int.reducePow,Int.reduceFDiv,Nat.reducePow,Nat.reduceSub,Nat.reduceMul,Nat.min_eq_left,Nat.reduceEqDiff,BEq.rfl,Int.tdiv_one,LN_succ]
   refine CallO.on (hpl _ (by omega)) (subH_cons (by simp only [aqA,↓seqK,↓blkK,↓loopK,step,stepBin,eqB,Nat.add_assoc nid,simprocAttr,z0,Int.cast_ofNat_Int,Int.reduceBEq,Int.reduceBNe,Int.reduceLT,Int.reduceLE,Int.reduceAdd,Int.reduceSub,Int.reduceMul,Int.reduceToNat,Int.reduceNeg,Int.reduceTMod,Int.reduceEq,not_false_eq_true,Int.reducePow,Int.reduceFDiv,Nat.reducePow,Nat.reduceSub,Nat.reduceMul,Nat.min_eq_left,Nat.reduceEqDiff,BEq.rfl,Int.tdiv_one,LN_succ]) (subH_cons (by simp only [aqA,↓seqK,↓blkK,↓loopK,step,stepBin,eqB,Nat.add_assoc nid,simprocAttr,z0,Int.cast_ofNat_Int,Int.reduceBEq,Int.reduceBNe,Int.reduceLT,Int.reduceLE,Int.reduceAdd,Int.reduceSub,Int.reduceMul,Int.reduceToNat,Int.reduceNeg,Int.reduceTMod,Int.reduceEq,not_false_eq_true,Int.reducePow,Int.reduceFDiv,Nat.reducePow,Nat.reduceSub,Nat.reduceMul,Nat.min_eq_left,Nat.reduceEqDiff,BEq.rfl,Int.tdiv_one,LN_succ]) (subH_cons (by simp only [aqA,↓seqK,↓blkK,↓loopK,step,stepBin,eqB,Nat.add_assoc nid,simprocAttr,z0,Int.cast_ofNat_Int,Int.reduceBEq,Int.reduceBNe,Int.reduceLT,Int.reduceLE,Int.reduceAdd,Int.reduceSub,Int.reduceMul,Int.reduceToNat,Int.reduceNeg,Int.reduceTMod,Int.reduceEq,not_false_eq_true,Int.reducePow,Int.reduceFDiv,Nat.reducePow,Nat.reduceSub,Nat.reduceMul,Nat.min_eq_left,Nat.reduceEqDiff,BEq.rfl,Int.tdiv_one,LN_succ]) (subH_get (by simp only [aqA,↓seqK,↓blkK,↓loopK,step,stepBin,eqB,Nat.add_assoc nid,simprocAttr,z0,Int.cast_ofNat_Int,Int.reduceBEq,Int.reduceBNe,Int.reduceLT,Int.reduceLE,Int.reduceAdd,Int.reduceSub,Int.reduceMul,Int.reduceToNat,Int.reduceNeg,Int.reduceTMod,Int.reduceEq,not_false_eq_true,Int.reducePow,Int.reduceFDiv,Nat.reducePow,Nat.reduceSub,Nat.reduceMul,Nat.min_eq_left,Nat.reduceEqDiff,BEq.rfl,Int.tdiv_one,LN_succ]))))) ?_
   simp -dsimp only [aqA,↓seqK,↓blkK,↓loopK,step,stepBin,eqB,Nat.add_assoc nid,simprocAttr,z0,Int.cast_ofNat_Int,Int.reduceBEq,Int.reduceBNe,Int.reduceLT,Int.reduceLE,Int.reduceAdd,Int.reduceSub,Int.reduceMul,Int.reduceToNat,Int.reduceNeg,Int.reduceTMod,Int.reduceEq,not_false_eq_true,Int.reducePow,Int.reduceFDiv,Nat.reducePow,Nat.reduceSub,Nat.reduceMul,Nat.min_eq_left,Nat.reduceEqDiff,BEq.rfl,Int.tdiv_one,LN_succ]
   refine Cov.go [(nid+400,nid+808)] [] ?_
   simp [cvT,step,res,boxW,boxFr,boxI,arrPl,-List.getD_eq_getElem?_getD]
  refine SR.block ?_
  refine SR.loopP (fun k:Nat=>k≤Q.length) (fun k=>⟨[(28,.int .i64 (k:Nat)),(27,.int .i64 Q.length),(26,.sl (nid+400) 0 Q.length),(12,.int .i64 (cntTo (badP W) Q k:Nat)),(13,.int .i64 (cntTo (allP W) Q k:Nat)),(11,.ptr (nid+21) 0),(21,.int .i64 (X:Nat)),(20,.int .i64 (w:Nat)),(10,.ptr (nid+23) 0),(17,.int .i64 (Y:Nat)),(16,.int .i64 (h:Nat)),(9,.sl (nid+300) 0 L.length),(4,.ptr nid 0),(5,.ptr (nid+20) 0),(6,.ptr (nid+22) 0),(7,.ptr (nid+4) 0)],[(nid,boxW nl W),(nid+4,boxFr a b),(nid+20,boxI (w:Nat)),(nid+22,boxI (h:Nat)),(nid+23,boxI (Y:Nat)),(nid+21,boxI (X:Nat)),(nid+300,arrPl L),(nid+400,arrPl Q)],nid+1000,nid⟩) (fun k=>Q.length+1 - k) 0 (by omega) (Cov.go [] [] ?_) (fun k hk=>?_)
  ·simp [cvT,step,res,boxW,boxFr,boxI,arrPl,cntTo,-List.getD_eq_getElem?_getD]
  refine SR.seq ?_
  simp -dsimp only [aqA,↓seqK,↓blkK,↓loopK,step,stepBin,eqB,Nat.add_assoc nid,simprocAttr,z0,Int.cast_ofNat_Int,Int.reduceBEq,Int.reduceBNe,Int.reduceLT,Int.reduceLE,Int.reduceAdd,Int.reduceSub,Int.reduceMul,Int.reduceToNat,Int.reduceNeg,Int.reduceTMod,Int.reduceEq,not_false_eq_true,Int.reducePow,Int.reduceFDiv,Nat.reducePow,Nat.reduceSub,Nat.reduceMul,Nat.min_eq_left,Nat.reduceEqDiff,BEq.rfl,Int.tdiv_one,LN_succ]
  refine SR.seq ?_
  simp -dsimp only [aqA,↓seqK,↓blkK,↓loopK,step,stepBin,eqB,Nat.add_assoc nid,simprocAttr,z0,Int.cast_ofNat_Int,Int.reduceBEq,Int.reduceBNe,Int.reduceLT,Int.reduceLE,Int.reduceAdd,Int.reduceSub,Int.reduceMul,Int.reduceToNat,Int.reduceNeg,Int.reduceTMod,Int.reduceEq,not_false_eq_true,Int.reducePow,Int.reduceFDiv,Nat.reducePow,Nat.reduceSub,Nat.reduceMul,Nat.min_eq_left,Nat.reduceEqDiff,BEq.rfl,Int.tdiv_one,LN_succ]
  refine S2.dec (fun h5=>?_) (fun h5=>?_) <;> simp -dsimp only [aqA,↓seqK,↓blkK,↓loopK,step,stepBin,eqB,Nat.add_assoc nid,simprocAttr,z0,Int.cast_ofNat_Int,Int.reduceBEq,Int.reduceBNe,Int.reduceLT,Int.reduceLE,Int.reduceAdd,Int.reduceSub,Int.reduceMul,Int.reduceToNat,Int.reduceNeg,Int.reduceTMod,Int.reduceEq,not_false_eq_true,Int.reducePow,Int.reduceFDiv,Nat.reducePow,Nat.reduceSub,Nat.reduceMul,Nat.min_eq_left,Nat.reduceEqDiff,BEq.rfl,Int.tdiv_one,LN_succ]
  rotate_left
  ·have e:k=Q.length:=by omega
   have eB:cntTo (badP W) Q Q.length=cntC (badP W) w h (plV W) ((X:Int),(Y:Int)):=by unfold cntTo; rw [List.take_length]; exact hQB
   have eA:cntTo (allP W) Q Q.length=cntC (allP W) w h (plV W) ((X:Int),(Y:Int)):=by unfold cntTo; rw [List.take_length]; exact hQA
   refine ⟨(),?_⟩
   rw [e,eA,eB]
   refine Cov.go [] [] ?_
   simp [cvT,step,res,boxW,boxFr,boxI,arrPl,-List.getD_eq_getElem?_getD]
  have hkl:k<Q.length:=by omega
  have hpm:=hQm _ (ptMem hkl)
  have hpi:=plV_in hW hpm
  have hfB:=fun m=>failedR_all nl W (Q.getD k p0) m hW hpi
  have htA:=fun m=>testedR_all nl W (Q.getD k p0) m hW hpi
  have sB:=cntTo_succ (badP W) hkl
  have sA:=cntTo_succ (allP W) hkl
  have lB:cntTo (badP W) Q k≤60000:=by
   have h1:cntTo (badP W) Q k≤(Q.take k).length:=List.countP_le_length
   rw [List.length_take] at h1
   omega
  have lA:cntTo (allP W) Q k≤60000:=by
   have h1:cntTo (allP W) Q k≤(Q.take k).length:=List.countP_le_length
   rw [List.length_take] at h1
   omega
  refine SR.run (t:=.mk) ?_
  unfold wafP at hfB htA
  unfold boxW boxFr boxI arrPl
  simp -dsimp only [aqA,↓seqK,↓blkK,↓loopK,step,stepBin,eqB,Nat.add_assoc nid,simprocAttr,z0,Int.cast_ofNat_Int,Int.reduceBEq,Int.reduceBNe,Int.reduceLT,Int.reduceLE,Int.reduceAdd,Int.reduceSub,Int.reduceMul,Int.reduceToNat,Int.reduceNeg,Int.reduceTMod,Int.reduceEq,not_false_eq_true,Int.reducePow,Int.reduceFDiv,Nat.reducePow,Nat.reduceSub,Nat.reduceMul,Nat.min_eq_left,Nat.reduceEqDiff,BEq.rfl,Int.tdiv_one,LN_succ]
  refine ⟨⟨by omega,by omega⟩,?_⟩
  refine CallO.pure (hfB _) ?_
  simp -dsimp only [aqA,↓seqK,↓blkK,↓loopK,step,stepBin,eqB,Nat.add_assoc nid,simprocAttr,z0,Int.cast_ofNat_Int,Int.reduceBEq,Int.reduceBNe,Int.reduceLT,Int.reduceLE,Int.reduceAdd,Int.reduceSub,Int.reduceMul,Int.reduceToNat,Int.reduceNeg,Int.reduceTMod,Int.reduceEq,not_false_eq_true,Int.reducePow,Int.reduceFDiv,Nat.reducePow,Nat.reduceSub,Nat.reduceMul,Nat.min_eq_left,Nat.reduceEqDiff,BEq.rfl,Int.tdiv_one,LN_succ]
  refine CallO.pure (truthW_c _ _) ?_
  simp -dsimp only [aqA,↓seqK,↓blkK,↓loopK,step,stepBin,eqB,Nat.add_assoc nid,simprocAttr,z0,Int.cast_ofNat_Int,Int.reduceBEq,Int.reduceBNe,Int.reduceLT,Int.reduceLE,Int.reduceAdd,Int.reduceSub,Int.reduceMul,Int.reduceToNat,Int.reduceNeg,Int.reduceTMod,Int.reduceEq,not_false_eq_true,Int.reducePow,Int.reduceFDiv,Nat.reducePow,Nat.reduceSub,Nat.reduceMul,Nat.min_eq_left,Nat.reduceEqDiff,BEq.rfl,Int.tdiv_one,LN_succ]
  have hB1:((cntTo (badP W) Q k:Nat):Int)+(if badP W (Q.getD k p0)=true then 1 else 0)=(cntTo (badP W) Q (k+1):Nat):=by
   rw [sB]
   split <;> simp
  have hA1:((cntTo (allP W) Q k:Nat):Int)+(if allP W (Q.getD k p0)=true then 1 else 0)=(cntTo (allP W) Q (k+1):Nat):=by
   rw [sA]
   split <;> simp
  have lB1:cntTo (badP W) Q (k+1)≤60001:=by rw [sB]; split <;> omega
  have lA1:cntTo (allP W) Q (k+1)≤60001:=by rw [sA]; split <;> omega
  rw [hB1]
  refine ⟨by unfold inI64; omega,CallO.pure (htA _) ?_⟩
  simp -dsimp only [aqA,↓seqK,↓blkK,↓loopK,step,stepBin,eqB,Nat.add_assoc nid,simprocAttr,z0,Int.cast_ofNat_Int,Int.reduceBEq,Int.reduceBNe,Int.reduceLT,Int.reduceLE,Int.reduceAdd,Int.reduceSub,Int.reduceMul,Int.reduceToNat,Int.reduceNeg,Int.reduceTMod,Int.reduceEq,not_false_eq_true,Int.reducePow,Int.reduceFDiv,Nat.reducePow,Nat.reduceSub,Nat.reduceMul,Nat.min_eq_left,Nat.reduceEqDiff,BEq.rfl,Int.tdiv_one,LN_succ]
  refine CallO.pure (truthW_c _ _) ?_
  simp -dsimp only [aqA,↓seqK,↓blkK,↓loopK,step,stepBin,eqB,Nat.add_assoc nid,simprocAttr,z0,Int.cast_ofNat_Int,Int.reduceBEq,Int.reduceBNe,Int.reduceLT,Int.reduceLE,Int.reduceAdd,Int.reduceSub,Int.reduceMul,Int.reduceToNat,Int.reduceNeg,Int.reduceTMod,Int.reduceEq,not_false_eq_true,Int.reducePow,Int.reduceFDiv,Nat.reducePow,Nat.reduceSub,Nat.reduceMul,Nat.min_eq_left,Nat.reduceEqDiff,BEq.rfl,Int.tdiv_one,LN_succ]
  rw [hA1]
  refine ⟨by unfold inI64; omega,by unfold inI64; omega,k+1,⟨by omega,by omega⟩,Cov.go [] [] ?_⟩
  simp [cvT,step,res,boxW,boxFr,boxI,arrPl,-List.getD_eq_getElem?_getD]
 clear hpl hQm hQA hQB hcA hcB
 have hA6:cntC (allP W) w h (plV W) ((X:Int),(Y:Int))≤60000:=by have:=cntC_le (allP W) w h (plV W) ((X:Int),(Y:Int)); omega
 have hB6:cntC (badP W) w h (plV W) ((X:Int),(Y:Int))≤60000:=by have:=cntC_le (badP W) w h (plV W) ((X:Int),(Y:Int)); omega
 generalize cntC (allP W) w h (plV W) ((X:Int),(Y:Int))=cA at *
 generalize cntC (badP W) w h (plV W) ((X:Int),(Y:Int))=cB at *
 have hm1:0≤(cB:Int) * b∧(cB:Int) * b≤60000000000:=by
  refine ⟨Int.mul_nonneg (by omega) (by omega),?_⟩
  have:=Int.mul_le_mul (a:=(cB:Int)) (b:=b) (c:=60000) (d:=1000000) (by omega) (by omega) (by omega) (by omega)
  omega
 have hm2:0≤a * (cA:Int)∧a * (cA:Int)≤60000000000:=by
  refine ⟨Int.mul_nonneg (by omega) (by omega),?_⟩
  have:=Int.mul_le_mul (a:=a) (b:=(cA:Int)) (c:=1000000) (d:=60000) (by omega) (by omega) (by omega) (by omega)
  omega
 refine SR.run (t:=.mk) ?_
 by_cases h6:0<cA
 rotate_left
 ·have d1:decide ((0:Int)<((cA:Nat):Int))=false:=decide_eq_false (by omega)
  rw [if_neg (by rw [hGx]; simp; omega),List.append_nil]
  unfold boxW boxFr boxI arrPl
  simp -dsimp only [aqA,↓seqK,↓blkK,↓loopK,step,stepBin,eqB,Nat.add_assoc nid,simprocAttr,z0,Int.cast_ofNat_Int,Int.reduceBEq,Int.reduceBNe,Int.reduceLT,Int.reduceLE,Int.reduceAdd,Int.reduceSub,Int.reduceMul,Int.reduceToNat,Int.reduceNeg,Int.reduceTMod,Int.reduceEq,not_false_eq_true,Int.reducePow,Int.reduceFDiv,Nat.reducePow,Nat.reduceSub,Nat.reduceMul,Nat.min_eq_left,Nat.reduceEqDiff,BEq.rfl,Int.tdiv_one,LN_succ,d1]
  refine ⟨(),Cov.go [] [] ?_⟩
  simp [cvT,step,res,boxW,boxFr,boxI,arrPl,-List.getD_eq_getElem?_getD]
 have d1:decide ((0:Int)<((cA:Nat):Int))=true:=decide_eq_true (by omega)
 by_cases h7:a * (cA:Int)≤(cB:Int) * b
 rotate_left
 ·have d2:decide (a * (cA:Int)≤(cB:Int) * b)=false:=decide_eq_false h7
  rw [if_neg (by rw [hGx]; simp [h7]),List.append_nil]
  unfold boxW boxFr boxI arrPl
  simp -dsimp only [aqA,↓seqK,↓blkK,↓loopK,step,stepBin,eqB,Nat.add_assoc nid,simprocAttr,z0,Int.cast_ofNat_Int,Int.reduceBEq,Int.reduceBNe,Int.reduceLT,Int.reduceLE,Int.reduceAdd,Int.reduceSub,Int.reduceMul,Int.reduceToNat,Int.reduceNeg,Int.reduceTMod,Int.reduceEq,not_false_eq_true,Int.reducePow,Int.reduceFDiv,Nat.reducePow,Nat.reduceSub,Nat.reduceMul,Nat.min_eq_left,Nat.reduceEqDiff,BEq.rfl,Int.tdiv_one,LN_succ,d1]
  refine ⟨by unfold inI64; omega,by unfold inI64; omega,S2.dec (fun h=>absurd h h7) (fun _=>?_)⟩
  simp -dsimp only [aqA,↓seqK,↓blkK,↓loopK,step,stepBin,eqB,Nat.add_assoc nid,simprocAttr,z0,Int.cast_ofNat_Int,Int.reduceBEq,Int.reduceBNe,Int.reduceLT,Int.reduceLE,Int.reduceAdd,Int.reduceSub,Int.reduceMul,Int.reduceToNat,Int.reduceNeg,Int.reduceTMod,Int.reduceEq,not_false_eq_true,Int.reducePow,Int.reduceFDiv,Nat.reducePow,Nat.reduceSub,Nat.reduceMul,Nat.min_eq_left,Nat.reduceEqDiff,BEq.rfl,Int.tdiv_one,LN_succ]
  refine ⟨(),Cov.go [] [] ?_⟩
  simp [cvT,step,res,boxW,boxFr,boxI,arrPl,-List.getD_eq_getElem?_getD]
 rw [if_pos (by rw [hGx]; simp [h6,h7])]
 unfold boxW boxFr boxI arrPl
 simp -dsimp only [aqA,↓seqK,↓blkK,↓loopK,step,stepBin,eqB,Nat.add_assoc nid,simprocAttr,z0,Int.cast_ofNat_Int,Int.reduceBEq,Int.reduceBNe,Int.reduceLT,Int.reduceLE,Int.reduceAdd,Int.reduceSub,Int.reduceMul,Int.reduceToNat,Int.reduceNeg,Int.reduceTMod,Int.reduceEq,not_false_eq_true,Int.reducePow,Int.reduceFDiv,Nat.reducePow,Nat.reduceSub,Nat.reduceMul,Nat.min_eq_left,Nat.reduceEqDiff,BEq.rfl,Int.tdiv_one,LN_succ,d1]
 refine ⟨by unfold inI64; omega,by unfold inI64; omega,S2.dec (fun _=>?_) (fun h=>absurd h7 h)⟩
 simp -dsimp only [aqA,↓seqK,↓blkK,↓loopK,step,stepBin,eqB,Nat.add_assoc nid,simprocAttr,z0,Int.cast_ofNat_Int,Int.reduceBEq,Int.reduceBNe,Int.reduceLT,Int.reduceLE,Int.reduceAdd,Int.reduceSub,Int.reduceMul,Int.reduceToNat,Int.reduceNeg,Int.reduceTMod,Int.reduceEq,not_false_eq_true,Int.reducePow,Int.reduceFDiv,Nat.reducePow,Nat.reduceSub,Nat.reduceMul,Nat.min_eq_left,Nat.reduceEqDiff,BEq.rfl,Int.tdiv_one,LN_succ]
 have a1:=getD_appP L ((X:Int),(Y:Int)) rfl Prod.fst rfl (v:=(X:Int)) rfl
 have a2:=getD_appP L ((X:Int),(Y:Int)) rfl Prod.snd rfl (v:=(Y:Int)) rfl
 rw [a1,a2]
 refine ⟨⟨by omega,by omega⟩,(),?_⟩
 refine Cov.go [(nid+300,nid+50072)] [] ?_
 simp [cvT,step,res,boxW,boxFr,boxI,arrPl,-List.getD_eq_getElem?_getD]
open Go.RowKit
set_option maxHeartbeats 4000000 in
theorem repFault_c (w h a b:Int) (nid:Nat) (ha : -9223372036854775808≤a) (ha2:a≤9223372036854775807) (hb : -9223372036854775808≤b) (hb2:b≤9223372036854775807) :
  ACall Try.prog 14 [.int .i64 w,.int .i64 h,.agg [.int .i64 a,.int .i64 b]] [] nid (.int .i64 (repF w h a b)) []:=by
 have cw:=fun m=>inW_c w 1 60 m
 have ch:=fun m=>inW_c h 1 60 m
 have ca:=fun m=>inW_c a 0 b m
 unfold repF
 refine acall_sr c14 (by simp [a14]) ?_
 unfold a14
 refine SR.seq ?_
 simp -dsimp only [aqA,↓seqK,↓blkK,↓loopK,step,stepBin,eqB,Nat.add_assoc nid,simprocAttr,z0,Int.cast_ofNat_Int,Int.reduceBEq,Int.reduceBNe,Int.reduceLT,Int.reduceLE,Int.reduceAdd,Int.reduceSub,Int.reduceMul,Int.reduceToNat,Int.reduceNeg,Int.reduceTMod,Int.reduceEq,not_false_eq_true,Int.reducePow,Int.reduceFDiv,Nat.reducePow,Nat.reduceSub,Nat.reduceMul,Nat.min_eq_left,Nat.reduceEqDiff,BEq.rfl,Int.tdiv_one,LN_succ]
 refine SR.run (t:=.mk) ?_
 simp -dsimp only [aqA,↓seqK,↓blkK,↓loopK,step,stepBin,eqB,Nat.add_assoc nid,simprocAttr,z0,Int.cast_ofNat_Int,Int.reduceBEq,Int.reduceBNe,Int.reduceLT,Int.reduceLE,Int.reduceAdd,Int.reduceSub,Int.reduceMul,Int.reduceToNat,Int.reduceNeg,Int.reduceTMod,Int.reduceEq,not_false_eq_true,Int.reducePow,Int.reduceFDiv,Nat.reducePow,Nat.reduceSub,Nat.reduceMul,Nat.min_eq_left,Nat.reduceEqDiff,BEq.rfl,Int.tdiv_one,LN_succ]
 cases ow:outB w 1 60
 rotate_left
 ·rw [ow] at cw
  rw [if_pos (.inl rfl)]
  refine CallO.pure (cw _) ?_
  simp -dsimp only [aqA,↓seqK,↓blkK,↓loopK,step,stepBin,eqB,Nat.add_assoc nid,simprocAttr,z0,Int.cast_ofNat_Int,Int.reduceBEq,Int.reduceBNe,Int.reduceLT,Int.reduceLE,Int.reduceAdd,Int.reduceSub,Int.reduceMul,Int.reduceToNat,Int.reduceNeg,Int.reduceTMod,Int.reduceEq,not_false_eq_true,Int.reducePow,Int.reduceFDiv,Nat.reducePow,Nat.reduceSub,Nat.reduceMul,Nat.min_eq_left,Nat.reduceEqDiff,BEq.rfl,Int.tdiv_one,LN_succ]
  refine RetOK.go [] [] (.inl rfl) ?_
  simp [a14,cvT,step,res]
 rw [ow] at cw
 refine CallO.pure (cw _) ?_
 simp -dsimp only [aqA,↓seqK,↓blkK,↓loopK,step,stepBin,eqB,Nat.add_assoc nid,simprocAttr,z0,Int.cast_ofNat_Int,Int.reduceBEq,Int.reduceBNe,Int.reduceLT,Int.reduceLE,Int.reduceAdd,Int.reduceSub,Int.reduceMul,Int.reduceToNat,Int.reduceNeg,Int.reduceTMod,Int.reduceEq,not_false_eq_true,Int.reducePow,Int.reduceFDiv,Nat.reducePow,Nat.reduceSub,Nat.reduceMul,Nat.min_eq_left,Nat.reduceEqDiff,BEq.rfl,Int.tdiv_one,LN_succ]
 cases oh:outB h 1 60
 rotate_left
 ·rw [oh] at ch
  rw [if_pos (.inr rfl)]
  refine CallO.pure (ch _) ?_
  simp -dsimp only [aqA,↓seqK,↓blkK,↓loopK,step,stepBin,eqB,Nat.add_assoc nid,simprocAttr,z0,Int.cast_ofNat_Int,Int.reduceBEq,Int.reduceBNe,Int.reduceLT,Int.reduceLE,Int.reduceAdd,Int.reduceSub,Int.reduceMul,Int.reduceToNat,Int.reduceNeg,Int.reduceTMod,Int.reduceEq,not_false_eq_true,Int.reducePow,Int.reduceFDiv,Nat.reducePow,Nat.reduceSub,Nat.reduceMul,Nat.min_eq_left,Nat.reduceEqDiff,BEq.rfl,Int.tdiv_one,LN_succ]
  refine RetOK.go [] [] (.inl rfl) ?_
  simp [a14,cvT,step,res]
 rw [oh] at ch
 rw [if_neg (by simp)]
 refine CallO.pure (ch _) ?_
 simp -dsimp only [aqA,↓seqK,↓blkK,↓loopK,step,stepBin,eqB,Nat.add_assoc nid,simprocAttr,z0,Int.cast_ofNat_Int,Int.reduceBEq,Int.reduceBNe,Int.reduceLT,Int.reduceLE,Int.reduceAdd,Int.reduceSub,Int.reduceMul,Int.reduceToNat,Int.reduceNeg,Int.reduceTMod,Int.reduceEq,not_false_eq_true,Int.reducePow,Int.reduceFDiv,Nat.reducePow,Nat.reduceSub,Nat.reduceMul,Nat.min_eq_left,Nat.reduceEqDiff,BEq.rfl,Int.tdiv_one,LN_succ]
 by_cases h1:b<1
 ·have d1:decide (b<1)=true:=decide_eq_true h1
  rw [if_pos (.inl h1)]
  simp -dsimp only [aqA,↓seqK,↓blkK,↓loopK,step,stepBin,eqB,Nat.add_assoc nid,simprocAttr,z0,Int.cast_ofNat_Int,Int.reduceBEq,Int.reduceBNe,Int.reduceLT,Int.reduceLE,Int.reduceAdd,Int.reduceSub,Int.reduceMul,Int.reduceToNat,Int.reduceNeg,Int.reduceTMod,Int.reduceEq,not_false_eq_true,Int.reducePow,Int.reduceFDiv,Nat.reducePow,Nat.reduceSub,Nat.reduceMul,Nat.min_eq_left,Nat.reduceEqDiff,BEq.rfl,Int.tdiv_one,LN_succ,d1]
  refine RetOK.go [] [] (.inl rfl) ?_
  simp [a14,cvT,step,res]
 have d1:decide (b<1)=false:=decide_eq_false h1
 have cl:=fun m=>lowestR_c a b m ha ha2 (by omega) hb2
 simp -dsimp only [aqA,↓seqK,↓blkK,↓loopK,step,stepBin,eqB,Nat.add_assoc nid,simprocAttr,z0,Int.cast_ofNat_Int,Int.reduceBEq,Int.reduceBNe,Int.reduceLT,Int.reduceLE,Int.reduceAdd,Int.reduceSub,Int.reduceMul,Int.reduceToNat,Int.reduceNeg,Int.reduceTMod,Int.reduceEq,not_false_eq_true,Int.reducePow,Int.reduceFDiv,Nat.reducePow,Nat.reduceSub,Nat.reduceMul,Nat.min_eq_left,Nat.reduceEqDiff,BEq.rfl,Int.tdiv_one,LN_succ,d1]
 refine CallO.pure (cl _) ?_
 cases hl:lowV a b
 ·rw [if_pos (.inr rfl)]
  simp -dsimp only [aqA,↓seqK,↓blkK,↓loopK,step,stepBin,eqB,Nat.add_assoc nid,simprocAttr,z0,Int.cast_ofNat_Int,Int.reduceBEq,Int.reduceBNe,Int.reduceLT,Int.reduceLE,Int.reduceAdd,Int.reduceSub,Int.reduceMul,Int.reduceToNat,Int.reduceNeg,Int.reduceTMod,Int.reduceEq,not_false_eq_true,Int.reducePow,Int.reduceFDiv,Nat.reducePow,Nat.reduceSub,Nat.reduceMul,Nat.min_eq_left,Nat.reduceEqDiff,BEq.rfl,Int.tdiv_one,LN_succ]
  refine RetOK.go [] [] (.inl rfl) ?_
  simp [a14,cvT,step,res]
 rw [if_neg (by simp [h1])]
 simp -dsimp only [aqA,↓seqK,↓blkK,↓loopK,step,stepBin,eqB,Nat.add_assoc nid,simprocAttr,z0,Int.cast_ofNat_Int,Int.reduceBEq,Int.reduceBNe,Int.reduceLT,Int.reduceLE,Int.reduceAdd,Int.reduceSub,Int.reduceMul,Int.reduceToNat,Int.reduceNeg,Int.reduceTMod,Int.reduceEq,not_false_eq_true,Int.reducePow,Int.reduceFDiv,Nat.reducePow,Nat.reduceSub,Nat.reduceMul,Nat.min_eq_left,Nat.reduceEqDiff,BEq.rfl,Int.tdiv_one,LN_succ]
 refine CallO.pure (ca _) ?_
 cases oa:outB a 0 b
 rotate_left
 ·rw [if_pos (.inl rfl)]
  simp -dsimp only [aqA,↓seqK,↓blkK,↓loopK,step,stepBin,eqB,Nat.add_assoc nid,simprocAttr,z0,Int.cast_ofNat_Int,Int.reduceBEq,Int.reduceBNe,Int.reduceLT,Int.reduceLE,Int.reduceAdd,Int.reduceSub,Int.reduceMul,Int.reduceToNat,Int.reduceNeg,Int.reduceTMod,Int.reduceEq,not_false_eq_true,Int.reducePow,Int.reduceFDiv,Nat.reducePow,Nat.reduceSub,Nat.reduceMul,Nat.min_eq_left,Nat.reduceEqDiff,BEq.rfl,Int.tdiv_one,LN_succ]
  refine RetOK.go [] [] (.inl rfl) ?_
  simp [a14,cvT,step,res]
 by_cases h2:1000000<b
 ·have d2:decide ((1000000:Int)<b)=true:=decide_eq_true h2
  rw [if_pos (.inr h2)]
  simp -dsimp only [aqA,↓seqK,↓blkK,↓loopK,step,stepBin,eqB,Nat.add_assoc nid,simprocAttr,z0,Int.cast_ofNat_Int,Int.reduceBEq,Int.reduceBNe,Int.reduceLT,Int.reduceLE,Int.reduceAdd,Int.reduceSub,Int.reduceMul,Int.reduceToNat,Int.reduceNeg,Int.reduceTMod,Int.reduceEq,not_false_eq_true,Int.reducePow,Int.reduceFDiv,Nat.reducePow,Nat.reduceSub,Nat.reduceMul,Nat.min_eq_left,Nat.reduceEqDiff,BEq.rfl,Int.tdiv_one,LN_succ,d2]
  refine RetOK.go [] [] (.inl rfl) ?_
  simp [a14,cvT,step,res]
 ·have d2:decide ((1000000:Int)<b)=false:=decide_eq_false h2
  rw [if_neg (by simp [h2])]
  simp -dsimp only [aqA,↓seqK,↓blkK,↓loopK,step,stepBin,eqB,Nat.add_assoc nid,simprocAttr,z0,Int.cast_ofNat_Int,Int.reduceBEq,Int.reduceBNe,Int.reduceLT,Int.reduceLE,Int.reduceAdd,Int.reduceSub,Int.reduceMul,Int.reduceToNat,Int.reduceNeg,Int.reduceTMod,Int.reduceEq,not_false_eq_true,Int.reducePow,Int.reduceFDiv,Nat.reducePow,Nat.reduceSub,Nat.reduceMul,Nat.min_eq_left,Nat.reduceEqDiff,BEq.rfl,Int.tdiv_one,LN_succ,d2]
  refine RetOK.go [] [] (.inl rfl) ?_
  simp [a14,cvT,step,res]
set_option maxHeartbeats 8000000 in
theorem portion_I (s nid:Nat) (nl:Bool) (A:List Int) (p:Nat) (h:s<nid) (hp:p≤1099400000000) (hA:A.length≤17592186044416) :
  ACallI Try.prog 10 [.ptr s 0] [(s,strmC nl A p)] nid (fun x:(Int × Int) × Nat=>(inI64 x.1.1∧inI64 x.1.2)∧x.2≤p+3) (fun x=>.agg [.int .i64 x.1.1,.int .i64 x.1.2]) (fun x=>[(s,strmC nl A x.2)]):=by
 obtain ⟨e1,e2,e3,e4,e5,e6,e7,e8,e9⟩:=id_all h
 refine acallI_sr c10 (by simp [a10]) ?_
 unfold a10
 refine SR.seq ?_
 simp -dsimp only [aqA,↓seqK,↓blkK,↓loopK,step,stepBin,eqB,Nat.add_assoc nid,simprocAttr,z0,Int.cast_ofNat_Int,Int.reduceBEq,Int.reduceBNe,Int.reduceLT,Int.reduceLE,Int.reduceAdd,Int.reduceSub,Int.reduceMul,Int.reduceToNat,Int.reduceNeg,Int.reduceTMod,Int.reduceEq,not_false_eq_true,Int.reducePow,Int.reduceFDiv,Nat.reducePow,Nat.reduceSub,Nat.reduceMul,Nat.min_eq_left,Nat.reduceEqDiff,BEq.rfl,Int.tdiv_one,LN_succ,e1,e2,e3,e4,e5,e6,e7,e8,e9,strmC_low]
 refine SR.seqEx (ι:={x:Int × Int // inI64 x.1∧inI64 x.2}) (fun x=>⟨[(3,.ptr (nid+100) 0),(2,.ptr nid 0),(0,.ptr s 0)],[(s,strmC nl A (p+1)),(nid,boxFr 0 0),(nid+100,boxFr x.1.1 x.1.2)],nid+200,nid⟩) ?_ (fun ⟨⟨v1,v2⟩,hv⟩=>?_)
 ·have hb:=nextV_bd A p (n:=4) (by omega)
  have hx1:∀ i,inI64 (([0,1,2,1]:List Int).getD i 0):=fun i=>by
   rcases i with _ | _ | _ | _ | i <;> simp [inI64]
  have hx2:∀ i,inI64 (([1,2,3,1]:List Int).getD i 0):=fun i=>by
   rcases i with _ | _ | _ | _ | i <;> simp [inI64]
  simp -dsimp only [aqA,↓seqK,↓blkK,↓loopK,step,stepBin,eqB,Nat.add_assoc nid,simprocAttr,z0,Int.cast_ofNat_Int,Int.reduceBEq,Int.reduceBNe,Int.reduceLT,Int.reduceLE,Int.reduceAdd,Int.reduceSub,Int.reduceMul,Int.reduceToNat,Int.reduceNeg,Int.reduceTMod,Int.reduceEq,not_false_eq_true,Int.reducePow,Int.reduceFDiv,Nat.reducePow,Nat.reduceSub,Nat.reduceMul,Nat.min_eq_left,Nat.reduceEqDiff,BEq.rfl,Int.tdiv_one,LN_succ,e1,e2,e3,e4,e5,e6,e7,e8,e9,strmC_low]
  refine CallO.on (next_c s _ nl A p 4 (by omega) (by omega) hA (by omega)) (subH_get (by simp only [aqA,↓seqK,↓blkK,↓loopK,step,stepBin,eqB,Nat.add_assoc nid,simprocAttr,z0,Int.cast_ofNat_Int,Int.reduceBEq,Int.reduceBNe,Int.reduceLT,Int.reduceLE,Int.reduceAdd,Int.reduceSub,Int.reduceMul,Int.reduceToNat,Int.reduceNeg,Int.reduceTMod,Int.reduceEq,not_false_eq_true,Int.reducePow,Int.reduceFDiv,Nat.reducePow,Nat.reduceSub,Nat.reduceMul,Nat.min_eq_left,Nat.reduceEqDiff,BEq.rfl,Int.tdiv_one,LN_succ,e1,e2,e3,e4,e5,e6,e7,e8,e9])) ?_
  obtain ⟨K,hK⟩:∃ K:Nat,nextV A p 4=K:=⟨_,(Int.toNat_of_nonneg hb.1).symm⟩
  rw [hK] at hb ⊢
  simp -dsimp only [aqA,↓seqK,↓blkK,↓loopK,step,stepBin,eqB,Nat.add_assoc nid,simprocAttr,z0,Int.cast_ofNat_Int,Int.reduceBEq,Int.reduceBNe,Int.reduceLT,Int.reduceLE,Int.reduceAdd,Int.reduceSub,Int.reduceMul,Int.reduceToNat,Int.reduceNeg,Int.reduceTMod,Int.reduceEq,not_false_eq_true,Int.reducePow,Int.reduceFDiv,Nat.reducePow,Nat.reduceSub,Nat.reduceMul,Nat.min_eq_left,Nat.reduceEqDiff,BEq.rfl,Int.tdiv_one,LN_succ,e1,e2,e3,e4,e5,e6,e7,e8,e9,strmC_low]
  have hk1:=hx1 K
  have hk2:=hx2 K
  generalize ([0,1,2,1]:List Int).getD K 0=v1 at *
  generalize ([1,2,3,1]:List Int).getD K 0=v2 at *
  refine ⟨⟨by omega,by omega⟩,⟨(v1,v2),hk1,hk2⟩,Cov.go [(nid+100,nid+40)] [] ?_⟩
  simp [cvT,step,res,e1,e2,e3,e4,e5,e6,e7,e8,e9,strmC,boxFr]
 simp only at hv ⊢
 refine SR.seqEx (ι:={x:(Int × Int) × Nat // (inI64 x.1.1∧inI64 x.1.2)∧x.2≤p+3}) (fun x=>⟨[(3,.ptr (nid+100) 0),(2,.ptr nid 0)],[(s,strmC nl A x.1.2),(nid,boxFr 0 0),(nid+100,boxFr x.1.1.1 x.1.1.2)],nid+400,nid⟩) ?_ (fun ⟨⟨⟨u1,u2⟩,q⟩,hu,hq⟩=>?_)
 ·unfold boxFr
  simp -dsimp only [aqA,↓seqK,↓blkK,↓loopK,step,stepBin,eqB,Nat.add_assoc nid,simprocAttr,z0,Int.cast_ofNat_Int,Int.reduceBEq,Int.reduceBNe,Int.reduceLT,Int.reduceLE,Int.reduceAdd,Int.reduceSub,Int.reduceMul,Int.reduceToNat,Int.reduceNeg,Int.reduceTMod,Int.reduceEq,not_false_eq_true,Int.reducePow,Int.reduceFDiv,Nat.reducePow,Nat.reduceSub,Nat.reduceMul,Nat.min_eq_left,Nat.reduceEqDiff,BEq.rfl,Int.tdiv_one,LN_succ,e1,e2,e3,e4,e5,e6,e7,e8,e9,strmC_low]
  refine CallO.on (flip_c s _ nl A (p+1) 10 (by omega) (by omega) hA (by omega)) (subH_get (by simp only [aqA,↓seqK,↓blkK,↓loopK,step,stepBin,eqB,Nat.add_assoc nid,simprocAttr,z0,Int.cast_ofNat_Int,Int.reduceBEq,Int.reduceBNe,Int.reduceLT,Int.reduceLE,Int.reduceAdd,Int.reduceSub,Int.reduceMul,Int.reduceToNat,Int.reduceNeg,Int.reduceTMod,Int.reduceEq,not_false_eq_true,Int.reducePow,Int.reduceFDiv,Nat.reducePow,Nat.reduceSub,Nat.reduceMul,Nat.min_eq_left,Nat.reduceEqDiff,BEq.rfl,Int.tdiv_one,LN_succ,e1,e2,e3,e4,e5,e6,e7,e8,e9])) ?_
  simp -dsimp only [aqA,↓seqK,↓blkK,↓loopK,step,stepBin,eqB,Nat.add_assoc nid,simprocAttr,z0,Int.cast_ofNat_Int,Int.reduceBEq,Int.reduceBNe,Int.reduceLT,Int.reduceLE,Int.reduceAdd,Int.reduceSub,Int.reduceMul,Int.reduceToNat,Int.reduceNeg,Int.reduceTMod,Int.reduceEq,not_false_eq_true,Int.reducePow,Int.reduceFDiv,Nat.reducePow,Nat.reduceSub,Nat.reduceMul,Nat.min_eq_left,Nat.reduceEqDiff,BEq.rfl,Int.tdiv_one,LN_succ,e1,e2,e3,e4,e5,e6,e7,e8,e9,strmC_low]
  refine S2.intro (fun h2=>?_) (fun h2=>?_) <;> simp -dsimp only [aqA,↓seqK,↓blkK,↓loopK,step,stepBin,eqB,Nat.add_assoc nid,simprocAttr,z0,Int.cast_ofNat_Int,Int.reduceBEq,Int.reduceBNe,Int.reduceLT,Int.reduceLE,Int.reduceAdd,Int.reduceSub,Int.reduceMul,Int.reduceToNat,Int.reduceNeg,Int.reduceTMod,Int.reduceEq,not_false_eq_true,Int.reducePow,Int.reduceFDiv,Nat.reducePow,Nat.reduceSub,Nat.reduceMul,Nat.min_eq_left,Nat.reduceEqDiff,BEq.rfl,Int.tdiv_one,LN_succ,e1,e2,e3,e4,e5,e6,e7,e8,e9,strmC_low]
  ·have hb:=nextV_bd A (p+1+1) (n:=6) (by omega)
   have hx1:∀ i,inI64 (([2,1,-1,3,1,-9223372036854775808]:List Int).getD i 0):=fun i=>by
    rcases i with _ | _ | _ | _ | _ | _ | i <;> simp [inI64]
   have hx2:∀ i,inI64 (([4,0,2,2,1000001,3]:List Int).getD i 0):=fun i=>by
    rcases i with _ | _ | _ | _ | _ | _ | i <;> simp [inI64]
   refine CallO.on (next_c s _ nl A (p+1+1) 6 (by omega) (by omega) hA (by omega)) (subH_get (by simp only [aqA,↓seqK,↓blkK,↓loopK,step,stepBin,eqB,Nat.add_assoc nid,simprocAttr,z0,Int.cast_ofNat_Int,Int.reduceBEq,Int.reduceBNe,Int.reduceLT,Int.reduceLE,Int.reduceAdd,Int.reduceSub,Int.reduceMul,Int.reduceToNat,Int.reduceNeg,Int.reduceTMod,Int.reduceEq,not_false_eq_true,Int.reducePow,Int.reduceFDiv,Nat.reducePow,Nat.reduceSub,Nat.reduceMul,Nat.min_eq_left,Nat.reduceEqDiff,BEq.rfl,Int.tdiv_one,LN_succ,e1,e2,e3,e4,e5,e6,e7,e8,e9])) ?_
   obtain ⟨K,hK⟩:∃ K:Nat,nextV A (p+1+1) 6=K:=⟨_,(Int.toNat_of_nonneg hb.1).symm⟩
   rw [hK] at hb ⊢
   simp -dsimp only [aqA,↓seqK,↓blkK,↓loopK,step,stepBin,eqB,Nat.add_assoc nid,simprocAttr,z0,Int.cast_ofNat_Int,Int.reduceBEq,Int.reduceBNe,Int.reduceLT,Int.reduceLE,Int.reduceAdd,Int.reduceSub,Int.reduceMul,Int.reduceToNat,Int.reduceNeg,Int.reduceTMod,Int.reduceEq,not_false_eq_true,Int.reducePow,Int.reduceFDiv,Nat.reducePow,Nat.reduceSub,Nat.reduceMul,Nat.min_eq_left,Nat.reduceEqDiff,BEq.rfl,Int.tdiv_one,LN_succ,e1,e2,e3,e4,e5,e6,e7,e8,e9,strmC_low]
   have hk1:=hx1 K
   have hk2:=hx2 K
   generalize ([2,1,-1,3,1,-9223372036854775808]:List Int).getD K 0=w1 at *
   generalize ([4,0,2,2,1000001,3]:List Int).getD K 0=w2 at *
   refine ⟨⟨by omega,by omega⟩,⟨((w1,w2),p+3),⟨hk1,hk2⟩,Nat.le_refl _⟩,Cov.go [] [] ?_⟩
   simp [cvT,step,res,e1,e2,e3,e4,e5,e6,e7,e8,e9,strmC]
   omega
  ·refine ⟨⟨((v1,v2),p+2),hv,by simp only; omega⟩,Cov.go [] [] ?_⟩
   simp [cvT,step,res,e1,e2,e3,e4,e5,e6,e7,e8,e9,strmC]
   omega
 simp only at hu hq ⊢
 refine SR.run (t:=.mk) ?_
 unfold boxFr
 simp -dsimp only [aqA,↓seqK,↓blkK,↓loopK,step,stepBin,eqB,Nat.add_assoc nid,simprocAttr,z0,Int.cast_ofNat_Int,Int.reduceBEq,Int.reduceBNe,Int.reduceLT,Int.reduceLE,Int.reduceAdd,Int.reduceSub,Int.reduceMul,Int.reduceToNat,Int.reduceNeg,Int.reduceTMod,Int.reduceEq,not_false_eq_true,Int.reducePow,Int.reduceFDiv,Nat.reducePow,Nat.reduceSub,Nat.reduceMul,Nat.min_eq_left,Nat.reduceEqDiff,BEq.rfl,Int.tdiv_one,LN_succ,e1,e2,e3,e4,e5,e6,e7,e8,e9,strmC_low]
 refine ⟨((u1,u2),q),⟨hu,hq⟩,?_⟩
 refine RetOK.go [] [] (.inl rfl) ?_
 simp [a10,cvT,step,res,e1,e2,e3,e4,e5,e6,e7,e8,e9,strmC]
def pairV (A B:Waf):Int:=if A.rows.length≠B.rows.length∨wideOf A≠wideOf B∨A.pass≠B.pass then 3 else 0
def bothV (A B:Waf):Int:=if waferV A≠0 then waferV A else if waferV B≠0 then waferV B else pairV A B
theorem neqN (a b:Nat):(((a:Nat):Int) != ((b:Nat):Int))=decide (a≠b):=by rw [Bool.eq_iff_iff]; simp; omega
theorem neqS (a b:List UInt8):(!(a==b))=decide (a≠b):=by rw [Bool.eq_iff_iff]; simp
set_option maxHeartbeats 4000000 in
theorem pairFault_c (nla nlb:Bool) (A B:Waf) (nid:Nat) (hA:0<A.rows.length) (hB:0<B.rows.length):ACall Try.prog 19 [wafP nla A,wafP nlb B] [] nid (.int .i64 (pairV A B)) []:=by
 have n1:=neqN A.rows.length B.rows.length
 have n2:=neqN (A.rows.getD 0 []).length (B.rows.getD 0 []).length
 have n3:=neqS A.pass B.pass
 have e1:(nid==nid+4)=false:=by simp
 have e2:(nid+4==nid)=false:=by simp
 unfold pairV
 refine acall_sr c19 (by simp [a19]) ?_
 unfold a19 wafP
 refine SR.seq ?_
 simp -dsimp only [aqA,↓seqK,↓blkK,↓loopK,step,stepBin,eqB,Nat.add_assoc nid,simprocAttr,z0,Int.cast_ofNat_Int,Int.reduceBEq,Int.reduceBNe,Int.reduceLT,Int.reduceLE,Int.reduceAdd,Int.reduceSub,Int.reduceMul,Int.reduceToNat,Int.reduceNeg,Int.reduceTMod,Int.reduceEq,not_false_eq_true,Int.reducePow,Int.reduceFDiv,Nat.reducePow,Nat.reduceSub,Nat.reduceMul,Nat.min_eq_left,Nat.reduceEqDiff,BEq.rfl,Int.tdiv_one,LN_succ]
 refine SR.run (t:=.mk) ?_
 by_cases h1:A.rows.length=B.rows.length
 rotate_left
 ·rw [decide_eq_true h1] at n1
  rw [if_pos (.inl h1)]
  simp -dsimp only [aqA,↓seqK,↓blkK,↓loopK,step,stepBin,eqB,Nat.add_assoc nid,simprocAttr,z0,Int.cast_ofNat_Int,Int.reduceBEq,Int.reduceBNe,Int.reduceLT,Int.reduceLE,Int.reduceAdd,Int.reduceSub,Int.reduceMul,Int.reduceToNat,Int.reduceNeg,Int.reduceTMod,Int.reduceEq,not_false_eq_true,Int.reducePow,Int.reduceFDiv,Nat.reducePow,Nat.reduceSub,Nat.reduceMul,Nat.min_eq_left,Nat.reduceEqDiff,BEq.rfl,Int.tdiv_one,LN_succ,n1,e1,e2]
  refine RetOK.go [] [] (.inl rfl) ?_
  simp [a19,cvT,step,res]
 rw [decide_eq_false (by simp [h1])] at n1
 by_cases h2:wideOf A=wideOf B
 rotate_left
 ·rw [decide_eq_true (show (A.rows.getD 0 []).length≠(B.rows.getD 0 []).length from h2)] at n2
  rw [if_pos (.inr (.inl h2))]
  simp -dsimp only [aqA,↓seqK,↓blkK,↓loopK,step,stepBin,eqB,Nat.add_assoc nid,simprocAttr,z0,Int.cast_ofNat_Int,Int.reduceBEq,Int.reduceBNe,Int.reduceLT,Int.reduceLE,Int.reduceAdd,Int.reduceSub,Int.reduceMul,Int.reduceToNat,Int.reduceNeg,Int.reduceTMod,Int.reduceEq,not_false_eq_true,Int.reducePow,Int.reduceFDiv,Nat.reducePow,Nat.reduceSub,Nat.reduceMul,Nat.min_eq_left,Nat.reduceEqDiff,BEq.rfl,Int.tdiv_one,LN_succ,n1,n2,e1,e2]
  refine ⟨by omega,by omega,?_⟩
  refine RetOK.go [] [] (.inl rfl) ?_
  simp [a19,cvT,step,res]
 rw [decide_eq_false (show ¬ (A.rows.getD 0 []).length≠(B.rows.getD 0 []).length from fun h=>h h2)] at n2
 by_cases h3:A.pass=B.pass
 rotate_left
 ·rw [decide_eq_true h3] at n3
  rw [if_pos (.inr (.inr h3))]
  simp -dsimp only [aqA,↓seqK,↓blkK,↓loopK,step,stepBin,eqB,Nat.add_assoc nid,simprocAttr,z0,Int.cast_ofNat_Int,Int.reduceBEq,Int.reduceBNe,Int.reduceLT,Int.reduceLE,Int.reduceAdd,Int.reduceSub,Int.reduceMul,Int.reduceToNat,Int.reduceNeg,Int.reduceTMod,Int.reduceEq,not_false_eq_true,Int.reducePow,Int.reduceFDiv,Nat.reducePow,Nat.reduceSub,Nat.reduceMul,Nat.min_eq_left,Nat.reduceEqDiff,BEq.rfl,Int.tdiv_one,LN_succ,n1,n2,n3,e1,e2]
  refine ⟨by omega,by omega,?_⟩
  refine RetOK.go [] [] (.inl rfl) ?_
  simp [a19,cvT,step,res]
 rw [decide_eq_false (by simp [h3])] at n3
 rw [if_neg (by simp [h1,h2,h3])]
 simp -dsimp only [aqA,↓seqK,↓blkK,↓loopK,step,stepBin,eqB,Nat.add_assoc nid,simprocAttr,z0,Int.cast_ofNat_Int,Int.reduceBEq,Int.reduceBNe,Int.reduceLT,Int.reduceLE,Int.reduceAdd,Int.reduceSub,Int.reduceMul,Int.reduceToNat,Int.reduceNeg,Int.reduceTMod,Int.reduceEq,not_false_eq_true,Int.reducePow,Int.reduceFDiv,Nat.reducePow,Nat.reduceSub,Nat.reduceMul,Nat.min_eq_left,Nat.reduceEqDiff,BEq.rfl,Int.tdiv_one,LN_succ,n1,n2,n3,e1,e2]
 refine ⟨by omega,by omega,?_⟩
 refine RetOK.go [] [] (.inl rfl) ?_
 simp [a19,cvT,step,res]
theorem waferV_pos {W:Waf} (h:waferV W=0):0<W.rows.length:=(waferV_ok h).pos
set_option maxHeartbeats 8000000 in
theorem bothFault_all (nla nlb:Bool) (A B:Waf) (nid:Nat) (hA:WafBd A) (hB:WafBd B):ACall Try.prog 54 [wafP nla A,wafP nlb B] [] nid (.int .i64 (bothV A B)) []:=by
 have e1:(nid==nid+4)=false:=by simp
 have e2:(nid+4==nid)=false:=by simp
 have n1:=neqN A.rows.length B.rows.length
 have n2:=neqN (A.rows.getD 0 []).length (B.rows.getD 0 []).length
 have n3:=neqS A.pass B.pass
 have hck:=fun m=>checkWafer_all nla A m hA
 have hck2:=fun m=>checkWafer_all nlb B m hB
 unfold wafP at hck hck2
 refine acall_sr c54 (by simp [a54]) ?_
 unfold a54 wafP
 refine SR.seq ?_
 simp -dsimp only [aqA,↓seqK,↓blkK,↓loopK,step,stepBin,eqB,Nat.add_assoc nid,simprocAttr,z0,Int.cast_ofNat_Int,Int.reduceBEq,Int.reduceBNe,Int.reduceLT,Int.reduceLE,Int.reduceAdd,Int.reduceSub,Int.reduceMul,Int.reduceToNat,Int.reduceNeg,Int.reduceTMod,Int.reduceEq,not_false_eq_true,Int.reducePow,Int.reduceFDiv,Nat.reducePow,Nat.reduceSub,Nat.reduceMul,Nat.min_eq_left,Nat.reduceEqDiff,BEq.rfl,Int.tdiv_one,LN_succ]
 refine SR.seqTo ⟨[(5,.int .i64 (firstBad (fun x:Int=>x) [waferV A,waferV B])),(2,.ptr nid 0),(3,.ptr (nid+4) 0)],[(nid,boxW nla A),(nid+4,boxW nlb B)],nid+100,nid⟩ ?_ ?_
 ·simp -dsimp only [aqA,↓seqK,↓blkK,↓loopK,step,stepBin,eqB,Nat.add_assoc nid,simprocAttr,z0,Int.cast_ofNat_Int,Int.reduceBEq,Int.reduceBNe,Int.reduceLT,Int.reduceLE,Int.reduceAdd,Int.reduceSub,Int.reduceMul,Int.reduceToNat,Int.reduceNeg,Int.reduceTMod,Int.reduceEq,not_false_eq_true,Int.reducePow,Int.reduceFDiv,Nat.reducePow,Nat.reduceSub,Nat.reduceMul,Nat.min_eq_left,Nat.reduceEqDiff,BEq.rfl,Int.tdiv_one,LN_succ]
  refine CallX.pure (hck _) ?_
  simp -dsimp only [aqA,↓seqK,↓blkK,↓loopK,step,stepBin,eqB,Nat.add_assoc nid,simprocAttr,z0,Int.cast_ofNat_Int,Int.reduceBEq,Int.reduceBNe,Int.reduceLT,Int.reduceLE,Int.reduceAdd,Int.reduceSub,Int.reduceMul,Int.reduceToNat,Int.reduceNeg,Int.reduceTMod,Int.reduceEq,not_false_eq_true,Int.reducePow,Int.reduceFDiv,Nat.reducePow,Nat.reduceSub,Nat.reduceMul,Nat.min_eq_left,Nat.reduceEqDiff,BEq.rfl,Int.tdiv_one,LN_succ]
  refine CallX.pure (hck2 _) ?_
  simp -dsimp only [aqA,↓seqK,↓blkK,↓loopK,step,stepBin,eqB,Nat.add_assoc nid,simprocAttr,z0,Int.cast_ofNat_Int,Int.reduceBEq,Int.reduceBNe,Int.reduceLT,Int.reduceLE,Int.reduceAdd,Int.reduceSub,Int.reduceMul,Int.reduceToNat,Int.reduceNeg,Int.reduceTMod,Int.reduceEq,not_false_eq_true,Int.reducePow,Int.reduceFDiv,Nat.reducePow,Nat.reduceSub,Nat.reduceMul,Nat.min_eq_left,Nat.reduceEqDiff,BEq.rfl,Int.tdiv_one,LN_succ]
  refine CallX.gave1 (by simp only [aqA,↓seqK,↓blkK,↓loopK,step,stepBin,eqB,Nat.add_assoc nid,simprocAttr,z0,Int.cast_ofNat_Int,Int.reduceBEq,Int.reduceBNe,Int.reduceLT,Int.reduceLE,Int.reduceAdd,Int.reduceSub,Int.reduceMul,Int.reduceToNat,Int.reduceNeg,Int.reduceTMod,Int.reduceEq,not_false_eq_true,Int.reducePow,Int.reduceFDiv,Nat.reducePow,Nat.reduceSub,Nat.reduceMul,Nat.min_eq_left,Nat.reduceEqDiff,BEq.rfl,Int.tdiv_one,LN_succ]; rfl) (fun nl'=>first_c nl' [waferV A,waferV B] _ (by simp)) rfl ?_
  simp -dsimp only [aqA,↓seqK,↓blkK,↓loopK,step,stepBin,eqB,Nat.add_assoc nid,simprocAttr,z0,Int.cast_ofNat_Int,Int.reduceBEq,Int.reduceBNe,Int.reduceLT,Int.reduceLE,Int.reduceAdd,Int.reduceSub,Int.reduceMul,Int.reduceToNat,Int.reduceNeg,Int.reduceTMod,Int.reduceEq,not_false_eq_true,Int.reducePow,Int.reduceFDiv,Nat.reducePow,Nat.reduceSub,Nat.reduceMul,Nat.min_eq_left,Nat.reduceEqDiff,BEq.rfl,Int.tdiv_one,LN_succ]
  refine Cov.go [] [] ?_
  simp [cvT,step,res,boxW]
 have hF:firstBad (fun x:Int=>x) [waferV A,waferV B]=if waferV A≠0 then waferV A else waferV B:=by
  unfold firstBad
  by_cases h:waferV A=0
  ·rw [if_pos h,if_neg (by simp [h])]
   unfold firstBad
   by_cases h2:waferV B=0
   ·rw [if_pos h2,h2]; rfl
   ·rw [if_neg h2]
  ·rw [if_neg h,if_pos h]
 rw [hF]
 refine SR.seqTo ⟨[(5,.int .i64 (bothV A B))],[],nid+400,nid⟩ ?_ ?_
 rotate_left
 ·refine SR.run (t:=.mk) ?_
  simp -dsimp only [aqA,↓seqK,↓blkK,↓loopK,step,stepBin,eqB,Nat.add_assoc nid,simprocAttr,z0,Int.cast_ofNat_Int,Int.reduceBEq,Int.reduceBNe,Int.reduceLT,Int.reduceLE,Int.reduceAdd,Int.reduceSub,Int.reduceMul,Int.reduceToNat,Int.reduceNeg,Int.reduceTMod,Int.reduceEq,not_false_eq_true,Int.reducePow,Int.reduceFDiv,Nat.reducePow,Nat.reduceSub,Nat.reduceMul,Nat.min_eq_left,Nat.reduceEqDiff,BEq.rfl,Int.tdiv_one,LN_succ]
  refine RetOK.go [] [] (.inl rfl) ?_
  simp [a54,cvT,step,res]
 by_cases h0:waferV A≠0∨waferV B≠0
 ·have e:bothV A B=if waferV A≠0 then waferV A else waferV B:=by
   unfold bothV
   rcases h0 with h | h
   ·rw [if_pos h,if_pos h]
   ·by_cases h':waferV A≠0
    ·rw [if_pos h',if_pos h']
    ·rw [if_neg h',if_neg h',if_pos h]
  have hne:(if waferV A≠0 then waferV A else waferV B)≠0:=by
   rcases h0 with h | h
   ·rw [if_pos h]; exact h
   ·split
    ·assumption
    ·exact h
  rw [e]
  generalize (if waferV A≠0 then waferV A else waferV B)=F at *
  have d0:(F==0)=false:=by rw [beq_eq_false_iff_ne]; exact hne
  unfold boxW
  simp -dsimp only [aqA,↓seqK,↓blkK,↓loopK,step,stepBin,eqB,Nat.add_assoc nid,simprocAttr,z0,Int.cast_ofNat_Int,Int.reduceBEq,Int.reduceBNe,Int.reduceLT,Int.reduceLE,Int.reduceAdd,Int.reduceSub,Int.reduceMul,Int.reduceToNat,Int.reduceNeg,Int.reduceTMod,Int.reduceEq,not_false_eq_true,Int.reducePow,Int.reduceFDiv,Nat.reducePow,Nat.reduceSub,Nat.reduceMul,Nat.min_eq_left,Nat.reduceEqDiff,BEq.rfl,Int.tdiv_one,LN_succ,d0,e1,e2]
  refine Cov.go [] [] ?_
  simp [cvT,step,res]
 have ha:waferV A=0:=by
  rcases Classical.em (waferV A=0) with h | h
  ·exact h
  ·exact absurd (.inl h) h0
 have hb:waferV B=0:=by
  rcases Classical.em (waferV B=0) with h | h
  ·exact h
  ·exact absurd (.inr h) h0
 have pA:=waferV_pos ha
 have pB:=waferV_pos hb
 rw [if_neg (by simp [ha]),hb]
 have e:bothV A B=pairV A B:=by unfold bothV; rw [if_neg (by simp [ha]),if_neg (by simp [hb])]
 rw [e]
 unfold pairV
 by_cases h1:A.rows.length=B.rows.length
 rotate_left
 ·rw [decide_eq_true h1] at n1
  rw [if_pos (.inl h1)]
  unfold boxW
  simp -dsimp only [aqA,↓seqK,↓blkK,↓loopK,step,stepBin,eqB,Nat.add_assoc nid,simprocAttr,z0,Int.cast_ofNat_Int,Int.reduceBEq,Int.reduceBNe,Int.reduceLT,Int.reduceLE,Int.reduceAdd,Int.reduceSub,Int.reduceMul,Int.reduceToNat,Int.reduceNeg,Int.reduceTMod,Int.reduceEq,not_false_eq_true,Int.reducePow,Int.reduceFDiv,Nat.reducePow,Nat.reduceSub,Nat.reduceMul,Nat.min_eq_left,Nat.reduceEqDiff,BEq.rfl,Int.tdiv_one,LN_succ,n1,e1,e2]
  refine Cov.go [] [] ?_
  simp [cvT,step,res]
 rw [decide_eq_false (by simp [h1])] at n1
 by_cases h2:wideOf A=wideOf B
 rotate_left
 ·rw [decide_eq_true (show (A.rows.getD 0 []).length≠(B.rows.getD 0 []).length from h2)] at n2
  rw [if_pos (.inr (.inl h2))]
  unfold boxW
  simp -dsimp only [aqA,↓seqK,↓blkK,↓loopK,step,stepBin,eqB,Nat.add_assoc nid,simprocAttr,z0,Int.cast_ofNat_Int,Int.reduceBEq,Int.reduceBNe,Int.reduceLT,Int.reduceLE,Int.reduceAdd,Int.reduceSub,Int.reduceMul,Int.reduceToNat,Int.reduceNeg,Int.reduceTMod,Int.reduceEq,not_false_eq_true,Int.reducePow,Int.reduceFDiv,Nat.reducePow,Nat.reduceSub,Nat.reduceMul,Nat.min_eq_left,Nat.reduceEqDiff,BEq.rfl,Int.tdiv_one,LN_succ,n1,n2,e1,e2]
  refine ⟨by omega,by omega,?_⟩
  refine Cov.go [] [] ?_
  simp [cvT,step,res]
 rw [decide_eq_false (show ¬ (A.rows.getD 0 []).length≠(B.rows.getD 0 []).length from fun h=>h h2)] at n2
 by_cases h3:A.pass=B.pass
 rotate_left
 ·rw [decide_eq_true h3] at n3
  rw [if_pos (.inr (.inr h3))]
  unfold boxW
  simp -dsimp only [aqA,↓seqK,↓blkK,↓loopK,step,stepBin,eqB,Nat.add_assoc nid,simprocAttr,z0,Int.cast_ofNat_Int,Int.reduceBEq,Int.reduceBNe,Int.reduceLT,Int.reduceLE,Int.reduceAdd,Int.reduceSub,Int.reduceMul,Int.reduceToNat,Int.reduceNeg,Int.reduceTMod,Int.reduceEq,not_false_eq_true,Int.reducePow,Int.reduceFDiv,Nat.reducePow,Nat.reduceSub,Nat.reduceMul,Nat.min_eq_left,Nat.reduceEqDiff,BEq.rfl,Int.tdiv_one,LN_succ,n1,n2,n3,e1,e2]
  refine ⟨by omega,by omega,?_⟩
  refine Cov.go [] [] ?_
  simp [cvT,step,res]
 rw [decide_eq_false (by simp [h3])] at n3
 rw [if_neg (by simp [h1,h2,h3])]
 unfold boxW
 simp -dsimp only [aqA,↓seqK,↓blkK,↓loopK,step,stepBin,eqB,Nat.add_assoc nid,simprocAttr,z0,Int.cast_ofNat_Int,Int.reduceBEq,Int.reduceBNe,Int.reduceLT,Int.reduceLE,Int.reduceAdd,Int.reduceSub,Int.reduceMul,Int.reduceToNat,Int.reduceNeg,Int.reduceTMod,Int.reduceEq,not_false_eq_true,Int.reducePow,Int.reduceFDiv,Nat.reducePow,Nat.reduceSub,Nat.reduceMul,Nat.min_eq_left,Nat.reduceEqDiff,BEq.rfl,Int.tdiv_one,LN_succ,n1,n2,n3,e1,e2]
 refine ⟨by omega,by omega,?_⟩
 refine Cov.go [] [] ?_
 simp [cvT,step,res]
theorem merge_bad (nla nlb:Bool) (A B:Waf) (nid:Nat) (hA:WafBd A) (hB:WafBd B) (h:bothV A B≠0):ACall Try.prog 17 [wafP nla A,wafP nlb B] [] nid (.tup [.agg [.lit true 0 [],.str []],.int .i64 (bothV A B)]) []:=by
 have hbf:=fun m=>bothFault_all nla nlb A B m hA hB
 unfold wafP at hbf
 generalize bothV A B=F at *
 have d0:(F != 0)=true:=by rw [bne_iff_ne]; exact h
 refine acall_sr c17 (by simp [a17]) ?_
 unfold a17 wafP
 refine SR.seq ?_
 simp -dsimp only [aqA,↓seqK,↓blkK,↓loopK,step,stepBin,eqB,Nat.add_assoc nid,simprocAttr,z0,Int.cast_ofNat_Int,Int.reduceBEq,Int.reduceBNe,Int.reduceLT,Int.reduceLE,Int.reduceAdd,Int.reduceSub,Int.reduceMul,Int.reduceToNat,Int.reduceNeg,Int.reduceTMod,Int.reduceEq,not_false_eq_true,Int.reducePow,Int.reduceFDiv,Nat.reducePow,Nat.reduceSub,Nat.reduceMul,Nat.min_eq_left,Nat.reduceEqDiff,BEq.rfl,Int.tdiv_one,LN_succ]
 refine SR.run (t:=.mk) ?_
 simp -dsimp only [aqA,↓seqK,↓blkK,↓loopK,step,stepBin,eqB,Nat.add_assoc nid,simprocAttr,z0,Int.cast_ofNat_Int,Int.reduceBEq,Int.reduceBNe,Int.reduceLT,Int.reduceLE,Int.reduceAdd,Int.reduceSub,Int.reduceMul,Int.reduceToNat,Int.reduceNeg,Int.reduceTMod,Int.reduceEq,not_false_eq_true,Int.reducePow,Int.reduceFDiv,Nat.reducePow,Nat.reduceSub,Nat.reduceMul,Nat.min_eq_left,Nat.reduceEqDiff,BEq.rfl,Int.tdiv_one,LN_succ]
 refine CallO.pure (hbf _) ?_
 simp -dsimp only [aqA,↓seqK,↓blkK,↓loopK,step,stepBin,eqB,Nat.add_assoc nid,simprocAttr,z0,Int.cast_ofNat_Int,Int.reduceBEq,Int.reduceBNe,Int.reduceLT,Int.reduceLE,Int.reduceAdd,Int.reduceSub,Int.reduceMul,Int.reduceToNat,Int.reduceNeg,Int.reduceTMod,Int.reduceEq,not_false_eq_true,Int.reducePow,Int.reduceFDiv,Nat.reducePow,Nat.reduceSub,Nat.reduceMul,Nat.min_eq_left,Nat.reduceEqDiff,BEq.rfl,Int.tdiv_one,LN_succ,d0]
 refine RetOK.go [] [] (.inl rfl) ?_
 simp [a17,cvT,step,res]
theorem changes_bad (nla nlb:Bool) (A B:Waf) (nid:Nat) (hA:WafBd A) (hB:WafBd B) (h:bothV A B≠0):ACall Try.prog 18 [wafP nla A,wafP nlb B] [] nid (.tup [.lit true 0 [],.int .i64 (bothV A B)]) []:=by
 have hbf:=fun m=>bothFault_all nla nlb A B m hA hB
 unfold wafP at hbf
 generalize bothV A B=F at *
 have d0:(F != 0)=true:=by rw [bne_iff_ne]; exact h
 refine acall_sr c18 (by simp [a18]) ?_
 unfold a18 wafP
 refine SR.seq ?_
 simp -dsimp only [aqA,↓seqK,↓blkK,↓loopK,step,stepBin,eqB,Nat.add_assoc nid,simprocAttr,z0,Int.cast_ofNat_Int,Int.reduceBEq,Int.reduceBNe,Int.reduceLT,Int.reduceLE,Int.reduceAdd,Int.reduceSub,Int.reduceMul,Int.reduceToNat,Int.reduceNeg,Int.reduceTMod,Int.reduceEq,not_false_eq_true,Int.reducePow,Int.reduceFDiv,Nat.reducePow,Nat.reduceSub,Nat.reduceMul,Nat.min_eq_left,Nat.reduceEqDiff,BEq.rfl,Int.tdiv_one,LN_succ]
 refine SR.run (t:=.mk) ?_
 simp -dsimp only [aqA,↓seqK,↓blkK,↓loopK,step,stepBin,eqB,Nat.add_assoc nid,simprocAttr,z0,Int.cast_ofNat_Int,Int.reduceBEq,Int.reduceBNe,Int.reduceLT,Int.reduceLE,Int.reduceAdd,Int.reduceSub,Int.reduceMul,Int.reduceToNat,Int.reduceNeg,Int.reduceTMod,Int.reduceEq,not_false_eq_true,Int.reducePow,Int.reduceFDiv,Nat.reducePow,Nat.reduceSub,Nat.reduceMul,Nat.min_eq_left,Nat.reduceEqDiff,BEq.rfl,Int.tdiv_one,LN_succ]
 refine CallO.pure (hbf _) ?_
 simp -dsimp only [aqA,↓seqK,↓blkK,↓loopK,step,stepBin,eqB,Nat.add_assoc nid,simprocAttr,z0,Int.cast_ofNat_Int,Int.reduceBEq,Int.reduceBNe,Int.reduceLT,Int.reduceLE,Int.reduceAdd,Int.reduceSub,Int.reduceMul,Int.reduceToNat,Int.reduceNeg,Int.reduceTMod,Int.reduceEq,not_false_eq_true,Int.reducePow,Int.reduceFDiv,Nat.reducePow,Nat.reduceSub,Nat.reduceMul,Nat.min_eq_left,Nat.reduceEqDiff,BEq.rfl,Int.tdiv_one,LN_succ,d0]
 refine RetOK.go [] [] (.inl rfl) ?_
 simp [a18,cvT,step,res]
open Go.RowKit
theorem die_mem {W:Waf} (hW:WafOk W) {q:Pt} (h:dieV W q.1 q.2≠46):q∈plV W:=by
 obtain ⟨x,y⟩:=q
 unfold dieV outB at h
 simp only at h
 split at h
 ·contradiction
 split at h
 ·contradiction
 rename_i h1 h2
 simp at h1 h2
 have hp:=hW.pos
 have hr:=(hW.at (y:=y.toNat) (by omega)).1
 have hw:=hW.wide.1
 unfold plV plTo rowPl
 rw [List.mem_flatMap]
 refine ⟨y.toNat,List.mem_range.2 (by omega),?_⟩
 rw [List.mem_map]
 refine ⟨x.toNat,List.mem_range.2 (by omega),?_⟩
 ext <;> simp <;> omega
inductive Rch (W:Waf):Pt→Pt→Prop
 | refl {p:Pt} (h:badP W p=true):Rch W p p
 | step {p q r:Pt} (h:Rch W p q) (hr:r∈arV q) (hb:badP W r=true):Rch W p r
theorem arV_iff {p q:Pt}:q∈arV p↔q≠p∧p.1 - 1≤q.1∧q.1≤p.1+1∧p.2 - 1≤q.2∧q.2≤p.2+1:=by
 obtain ⟨x,y⟩:=p
 obtain ⟨a,b⟩:=q
 unfold arV arTo rowAr neP
 simp only [List.mem_flatMap,List.mem_filter,List.mem_map,List.mem_range,Prod.mk.injEq,ne_eq,Bool.not_eq_true',Bool.and_eq_false_iff,beq_eq_false_iff_ne]
 constructor
 ·rintro ⟨j,hj,⟨i,hi,h1,h2⟩,h3⟩
  omega
 ·rintro ⟨h1,h2,h3,h4,h5⟩
  refine ⟨(b - (y - 1)).toNat,by omega,⟨(a - (x - 1)).toNat,by omega,by omega,by omega⟩,by omega⟩
theorem arV_symm {p q:Pt} (h:q∈arV p):p∈arV q:=by
 rw [arV_iff] at *
 obtain ⟨h1,h2⟩:=h
 exact ⟨fun e=>h1 e.symm,by omega⟩
theorem Rch.bad {W:Waf} {p q:Pt} (h:Rch W p q):badP W q=true:=by
 cases h with
 | refl h=>exact h
 | step _ _ hb=>exact hb
theorem Rch.trans {W:Waf} {p q r:Pt} (h:Rch W p q) (h':Rch W q r):Rch W p r:=by
 induction h' with
 | refl _=>exact h
 | step _ hr hb ih=>exact .step ih hr hb
theorem Rch.symm {W:Waf} {p q:Pt} (h:Rch W p q):Rch W q p:=by
 induction h with
 | refl h=>exact .refl h
 | step h hr hb ih=>exact (Rch.step (.refl hb) (arV_symm hr) h.bad).trans ih
theorem badP_die {W:Waf} {p:Pt} (h:badP W p=true):dieV W p.1 p.2≠46:=by
 intro e
 unfold badP failedV at h
 rw [e] at h
 have:isBinV 46=false:=by decide
 rw [this] at h
 cases h
theorem badP_mem {W:Waf} (hW:WafOk W) {p:Pt} (h:badP W p=true):p∈plV W:=die_mem hW (badP_die h)
def ltP (p q:Pt):Prop:=p.2<q.2∨(p.2=q.2∧p.1<q.1)
instance (p q:Pt):Decidable (ltP p q):=by unfold ltP; exact inferInstance
open Classical in
noncomputable def compL (W:Waf) (p:Pt):List Pt:=(plV W).filter fun q=>decide (Rch W p q)
theorem compL_mem {W:Waf} (hW:WafOk W) {p q:Pt}:q∈compL W p↔Rch W p q:=by
 unfold compL
 rw [List.mem_filter]
 constructor
 ·intro h; simpa using h.2
 ·intro h; exact ⟨badP_mem hW h.bad,by simpa using h⟩
open Classical in
noncomputable def clNext (W:Waf) (c:List (List Pt)) (p:Pt):List (List Pt):=if badP W p=true∧∀ g∈c,p ∉ g then c++[compL W p] else c
structure ClOk (W:Waf) (c:List (List Pt)):Prop where
 comp:∀ g∈c,∃ p,badP W p=true∧g=compL W p
 apart:c.Pairwise fun g h=>∀ p,p∈g→p ∉ h
theorem ClOk.nil (W:Waf):ClOk W []:=⟨by simp,by simp⟩
theorem ClOk.next {W:Waf} (hW:WafOk W) {c:List (List Pt)} (h:ClOk W c) (p:Pt):ClOk W (clNext W c p):=by
 unfold clNext
 split
 ·rename_i hp
  refine ⟨fun g hg=>?_,?_⟩
  ·rcases List.mem_append.1 hg with hg | hg
   ·exact h.comp g hg
   ·rw [List.mem_singleton.1 hg]; exact ⟨p,hp.1,rfl⟩
  ·rw [List.pairwise_append]
   refine ⟨h.apart,by simp,fun g hg g' hg' q hq hq'=>?_⟩
   rw [List.mem_singleton.1 hg'] at hq'
   obtain ⟨p',_,rfl⟩:=h.comp g hg
   have h1:=(compL_mem hW).1 hq
   have h2:=(compL_mem hW).1 hq'
   exact hp.2 _ hg ((compL_mem hW).2 (h1.trans h2.symm))
 ·exact h
open Go.RowKit
def boxS (nm:Nat) (l:List (List UInt8)) (pass:List UInt8):Option ABlk:=some (.box 28 [.sl nm 0 l.length,.str pass])
open Go.RowKit
def setPt (R:List (List UInt8)) (c:UInt8) (p:Pt):List (List UInt8):=R.set p.2.toNat ((R.getD p.2.toNat []).set p.1.toNat c)
def withTo (R:List (List UInt8)) (l:List Pt) (c:UInt8) (k:Nat):List (List UInt8):=(l.take k).foldl (fun R p=>setPt R c p) R
theorem withTo_succ (R:List (List UInt8)) {l:List Pt} (c:UInt8) {k:Nat} (h:k<l.length):withTo R l c (k+1)=setPt (withTo R l c k) c (l.getD k p0):=by
 unfold withTo
 rw [take_snoc (x:=l.getD k p0) (by rw [List.getD_eq_getElem?_getD,List.getElem?_eq_getElem h]; rfl),List.foldl_append]
 rfl
theorem setPt_len (R:List (List UInt8)) (c:UInt8) (p:Pt):(setPt R c p).length=R.length:=by simp [setPt]
theorem setPt_row (R:List (List UInt8)) (c:UInt8) (p:Pt) (y:Nat):((setPt R c p).getD y []).length=(R.getD y []).length:=by
 unfold setPt
 rw [List.getD_eq_getElem?_getD,List.getElem?_set]
 by_cases h:p.2.toNat=y
 ·subst h
  by_cases h2:p.2.toNat<R.length
  ·simp [h2]
  ·simp [h2]
 ·rw [if_neg h,List.getD_eq_getElem?_getD]
theorem setPt_at (R:List (List UInt8)) (c:UInt8) (p:Pt) {y x:Nat} (hy:y<R.length) (hx:x<(R.getD y []).length):((setPt R c p).getD y []).getD x 0=if p.1.toNat=x∧p.2.toNat=y then c else (R.getD y []).getD x 0:=by
 unfold setPt
 rw [List.getD_eq_getElem?_getD (l:=R.set _ _),List.getElem?_set]
 by_cases h:p.2.toNat=y
 ·subst h
  rw [if_pos rfl,if_pos hy]
  simp only [Option.getD_some]
  rw [List.getD_eq_getElem?_getD,List.getElem?_set]
  by_cases h2:p.1.toNat=x
  ·subst h2
   rw [if_pos rfl,if_pos hx,if_pos (by simp)]
   rfl
  ·rw [if_neg h2,if_neg (fun e=>h2 e.1),List.getD_eq_getElem?_getD (i:=x)]
 ·rw [if_neg h,if_neg (fun e=>h e.2),List.getD_eq_getElem?_getD (l:=R)]
theorem withTo_len (R:List (List UInt8)) (l:List Pt) (c:UInt8):∀ k,k≤l.length→(withTo R l c k).length=R.length
 | 0,_=>by simp [withTo]
 | k+1,h=>by rw [withTo_succ R c (by omega),setPt_len,withTo_len R l c k (by omega)]
theorem withTo_row (R:List (List UInt8)) (l:List Pt) (c:UInt8) (y:Nat):∀ k,k≤l.length→((withTo R l c k).getD y []).length=(R.getD y []).length
 | 0,_=>by simp [withTo]
 | k+1,h=>by rw [withTo_succ R c (by omega),setPt_row,withTo_row R l c y k (by omega)]
theorem map_setB (r:List UInt8) (x:Nat) (c:UInt8):((List.range r.length).map fun i=>UInt8.ofNat (if i=x then ((c.toNat:Nat):Int) else (((r.getD i 0).toNat:Nat):Int)).toNat)=r.set x c:=by
 apply List.ext_getElem
 ·simp
 ·intro i h1 h2
  simp only [List.length_set] at h2
  rw [List.getElem_map,List.getElem_range,List.getElem_set]
  by_cases h:i=x
  ·subst h; simp
  ·rw [if_neg h,if_neg (fun e=>h e.symm)]
   simp [List.getElem?_eq_getElem h2]
set_option maxHeartbeats 8000000 in
theorem with_all (nl nlp:Bool) (W:Waf) (l:List Pt) (c:UInt8) (nid:Nat) (hW:WafOk W) (hl:l.length≤1000000) (hp:∀ p∈l,p∈plV W):ACall Try.prog 62 [wafP nl W,litPl nlp l,.int .u8 (c.toNat:Nat)] [] nid (.agg [.sl nid 0 W.rows.length,.str W.pass]) [(nid,arrS (withTo W.rows l c l.length))]:=by
 have hwl:=hW.len
 have hww:=hW.wide.2
 have hnn:nl=true∨nl=false:=by cases nl <;> simp
 have hcl:=fun m=>ACall.nonnil (i:=0) (nl:=nl) (n:=W.rows.length) (cols:=[.s fun i=>W.rows.getD i []]) rfl (fun h=>cloneS_c nl W.rows m (by omega) (fun e=>List.length_eq_zero_iff.1 (h e)))
 refine acall_sr c62 (by simp [a62]) ?_
 unfold a62 wafP litPl
 refine SR.seq ?_
 simp -dsimp only [aqA,↓seqK,↓blkK,↓loopK,step,stepBin,eqB,Nat.add_assoc nid,simprocAttr,z0,Int.cast_ofNat_Int,Int.reduceBEq,Int.reduceBNe,Int.reduceLT,Int.reduceLE,Int.reduceAdd,Int.reduceSub,Int.reduceMul,Int.reduceToNat,Int.reduceNeg,Int.reduceTMod,Int.reduceEq,not_false_eq_true,Int.reducePow,Int.reduceFDiv,Nat.reducePow,Nat.reduceSub,Nat.reduceMul,Nat.min_eq_left,Nat.reduceEqDiff,BEq.rfl,Int.tdiv_one,LN_succ]
 refine SR.seqTo ⟨[(7,.ptr (nid+8) 0),(6,.ptr (nid+4) 0),(1,litPl nlp l),(2,.int .u8 (c.toNat:Nat))],[(nid+4,some (.box 28 [.lit true 0 [],.str []])),(nid+8,boxS (nid+12) W.rows W.pass),(nid+12,arrS W.rows)],nid+100,nid⟩ ?_ ?_
 ·simp -dsimp only [aqA,↓seqK,↓blkK,↓loopK,step,stepBin,eqB,Nat.add_assoc nid,simprocAttr,z0,Int.cast_ofNat_Int,Int.reduceBEq,Int.reduceBNe,Int.reduceLT,Int.reduceLE,Int.reduceAdd,Int.reduceSub,Int.reduceMul,Int.reduceToNat,Int.reduceNeg,Int.reduceTMod,Int.reduceEq,not_false_eq_true,Int.reducePow,Int.reduceFDiv,Nat.reducePow,Nat.reduceSub,Nat.reduceMul,Nat.min_eq_left,Nat.reduceEqDiff,BEq.rfl,Int.tdiv_one,LN_succ]
  refine CallX.pure (hcl _) ?_
  unfold arrS
  simp -dsimp only [aqA,↓seqK,↓blkK,↓loopK,step,stepBin,eqB,Nat.add_assoc nid,simprocAttr,z0,Int.cast_ofNat_Int,Int.reduceBEq,Int.reduceBNe,Int.reduceLT,Int.reduceLE,Int.reduceAdd,Int.reduceSub,Int.reduceMul,Int.reduceToNat,Int.reduceNeg,Int.reduceTMod,Int.reduceEq,not_false_eq_true,Int.reducePow,Int.reduceFDiv,Nat.reducePow,Nat.reduceSub,Nat.reduceMul,Nat.min_eq_left,Nat.reduceEqDiff,BEq.rfl,Int.tdiv_one,LN_succ]
  refine Cov.go [(nid+8,nid+32),(nid+12,nid+16)] [] ?_
  simp [cvT,step,res,boxS,arrS,litPl,-List.getD_eq_getElem?_getD]
 refine SR.seqTo ⟨[(7,.ptr (nid+8) 0),(6,.ptr (nid+4) 0)],[(nid+4,some (.box 28 [.lit true 0 [],.str []])),(nid+8,boxS (nid+12) (withTo W.rows l c l.length) W.pass),(nid+12,arrS (withTo W.rows l c l.length))],nid+9000,nid⟩ ?_ ?_
 ·unfold boxS arrS litPl
  simp -dsimp only [aqA,↓seqK,↓blkK,↓loopK,step,stepBin,eqB,Nat.add_assoc nid,simprocAttr,z0,Int.cast_ofNat_Int,Int.reduceBEq,Int.reduceBNe,Int.reduceLT,Int.reduceLE,Int.reduceAdd,Int.reduceSub,Int.reduceMul,Int.reduceToNat,Int.reduceNeg,Int.reduceTMod,Int.reduceEq,not_false_eq_true,Int.reducePow,Int.reduceFDiv,Nat.reducePow,Nat.reduceSub,Nat.reduceMul,Nat.min_eq_left,Nat.reduceEqDiff,BEq.rfl,Int.tdiv_one,LN_succ]
  refine LP.mkP (fun k:Nat=>k≤l.length) (fun k:Nat=>⟨[(19,.int .i64 k),(18,.int .i64 l.length),(17,litPl nlp l),(7,.ptr (nid+8) 0),(6,.ptr (nid+4) 0),(2,.int .u8 (c.toNat:Nat))],[(nid+4,some (.box 28 [.lit true 0 [],.str []])),(nid+8,boxS (nid+12) (withTo W.rows l c k) W.pass),(nid+12,arrS (withTo W.rows l c k))],nid+1000,nid⟩) (fun k=>l.length+1 - k) 0 (by omega) (Cov.go [] [] ?_) (fun k hk=>?_)
  ·simp [cvT,step,res,boxS,arrS,litPl,withTo,-List.getD_eq_getElem?_getD]
  have hRl:=withTo_len W.rows l c k hk
  have hRr:=fun y=>withTo_row W.rows l c y k hk
  have hsu:=fun h=>withTo_succ W.rows (l:=l) c (k:=k) h
  generalize hRe:withTo W.rows l c k=R at *
  unfold boxS arrS litPl
  simp -dsimp only [aqA,↓seqK,↓blkK,↓loopK,step,stepBin,eqB,Nat.add_assoc nid,simprocAttr,z0,Int.cast_ofNat_Int,Int.reduceBEq,Int.reduceBNe,Int.reduceLT,Int.reduceLE,Int.reduceAdd,Int.reduceSub,Int.reduceMul,Int.reduceToNat,Int.reduceNeg,Int.reduceTMod,Int.reduceEq,not_false_eq_true,Int.reducePow,Int.reduceFDiv,Nat.reducePow,Nat.reduceSub,Nat.reduceMul,Nat.min_eq_left,Nat.reduceEqDiff,BEq.rfl,Int.tdiv_one,LN_succ]
  refine S2.dec (fun h1=>?_) (fun h1=>?_) <;> simp -dsimp only [aqA,↓seqK,↓blkK,↓loopK,step,stepBin,eqB,Nat.add_assoc nid,simprocAttr,z0,Int.cast_ofNat_Int,Int.reduceBEq,Int.reduceBNe,Int.reduceLT,Int.reduceLE,Int.reduceAdd,Int.reduceSub,Int.reduceMul,Int.reduceToNat,Int.reduceNeg,Int.reduceTMod,Int.reduceEq,not_false_eq_true,Int.reducePow,Int.reduceFDiv,Nat.reducePow,Nat.reduceSub,Nat.reduceMul,Nat.min_eq_left,Nat.reduceEqDiff,BEq.rfl,Int.tdiv_one,LN_succ]
  ·have hkl:k<l.length:=by omega
   obtain ⟨x,y,hxy,hy,hx⟩:=plV_mem (hp _ (ptMem' hkl))
   have hs:=hsu hkl
   have hrl:=(hW.at hy).1
   have hrr:=hRr y
   rw [hxy] at hs ⊢
   simp only [setPt,Int.toNat_natCast] at hs
   have hR2:(withTo W.rows l c (k+1)).length=R.length:=by rw [hs,List.length_set]
   simp only [Int.toNat_natCast]
   generalize hrw:R.getD y []=r at *
   have hm:=map_setB r x c
   rw [hm,getD_setS R (r.set x c) (by omega),← hs]
   refine ⟨by omega,⟨by omega,by omega⟩,by omega,⟨by omega,by omega⟩,⟨by omega,by omega⟩,by unfold inI64; omega,k+1,⟨by omega,by omega⟩,Cov.go [] [] ?_⟩
   simp [cvT,step,res,boxS,arrS,litPl,hR2,-List.getD_eq_getElem?_getD]
  ·obtain rfl:k=l.length:=by omega
   refine Cov.go [] [] ?_
   have hk':=hk
   simp [cvT,step,res,boxS,arrS,litPl,hRl,hRe,-List.getD_eq_getElem?_getD]
 refine SR.run (t:=.mk) ?_
 have hLl:=withTo_len W.rows l c l.length (Nat.le_refl _)
 unfold boxS arrS
 rw [hLl]
 simp -dsimp only [aqA,↓seqK,↓blkK,↓loopK,step,stepBin,eqB,Nat.add_assoc nid,simprocAttr,z0,Int.cast_ofNat_Int,Int.reduceBEq,Int.reduceBNe,Int.reduceLT,Int.reduceLE,Int.reduceAdd,Int.reduceSub,Int.reduceMul,Int.reduceToNat,Int.reduceNeg,Int.reduceTMod,Int.reduceEq,not_false_eq_true,Int.reducePow,Int.reduceFDiv,Nat.reducePow,Nat.reduceSub,Nat.reduceMul,Nat.min_eq_left,Nat.reduceEqDiff,BEq.rfl,Int.tdiv_one,LN_succ]
 refine RetOK.go [(nid,nid+12)] [] (.inl rfl) ?_
 simp [cvT,step,res,a62,arrS,hLl,-List.getD_eq_getElem?_getD]
end Go.Proofs.Yteepabfepfehgaa
