/-
 What is wrong with a wafer,by the program and by the document,by the abstract machine.
-/
import Derived.Test.YteepabfepfehgaaGreatDoorKWB1
import Derived.Test.YteepabfepfehgaaGreatDoorKWB5
import Derived.Test.YteepabfepfehgaaGreatDoorKWB3
import Derived.Test.YteepabfepfehgaaGreatDoorKWB4
import Derived.Test.YteepabfepfehgaaGreatDoorProg
import Derived.WalkKit
import Derived.Ground.NamesProg
import Derived.Shelf.Strings.Split
import Derived.Shelf.Strings.Cut
import Derived.Lib.IndexBytes
import Derived.Lib.Agree
set_option linter.unusedVariables false
set_option linter.unusedSimpArgs false
set_option maxRecDepth 100000
namespace Go.Proofs.YteepabfepfehgaaGreatDoor
open Go.RowKit
theorem any_range {s:List UInt8} {F:UInt8→Bool}:(List.range s.length).any (fun i=>F (s.getD i 0))=s.any F:=by
 rw [Bool.eq_iff_iff,List.any_eq_true,List.any_eq_true]
 constructor
 ·rintro ⟨i,hi,h⟩
  have hi':=List.mem_range.1 hi
  refine ⟨s[i],List.getElem_mem _,?_⟩
  rwa [List.getD_eq_getElem?_getD,List.getElem?_eq_getElem hi'] at h
 ·rintro ⟨x,hx,h⟩
  obtain ⟨i,hi,rfl⟩:=List.getElem_of_mem hx
  refine ⟨i,List.mem_range.2 hi,?_⟩
  rw [List.getD_eq_getElem?_getD,List.getElem?_eq_getElem hi]
  exact h
theorem indexFB (f:Nat) (F:UInt8→Bool) (hf:∀ (b:UInt8) nid,ACall Tryz.prog f [.int .u8 ((b.toNat:Nat))] [] nid (.bool (F b)) []) (nl:Bool) (n:Nat) (g:Nat→UInt8) (nid:Nat) (hn:n≤1000000000) :
  ∃ r:Int,(-1≤r∧(0≤r↔(List.range n).any (fun i=>F (g i))=true))∧ACall Tryz.prog 93 [.lit nl n [.i .u8 fun i=>((g i).toNat:Nat)],.fn f []] [] nid (.int .i64 r) []:=by
 refine acall_ex c93 (by simp [a93]) ?_
 simp -dsimp only [aqT0,ROp0,aqA,↓seqK,↓blkK,↓loopK,step,stepBin,eqB,Nat.add_assoc nid,simprocAttr,z0,Int.cast_ofNat_Int,Int.reduceBEq,Int.reduceBNe,Int.reduceLT,Int.reduceLE,Int.reduceAdd,Int.reduceSub,Int.reduceMul,Int.reduceToNat,Int.reduceNeg,Int.reduceTMod,Int.reduceEq,not_false_eq_true,Int.reducePow,Int.reduceFDiv,Nat.reducePow,Nat.reduceSub,Nat.reduceMul,Nat.min_eq_left,Nat.reduceEqDiff,BEq.rfl,Int.tdiv_one,LN_succ,a93]
 refine LP0.mkP (fun k:Nat=>k≤n∧∀ j,j<k→F (g j)=false) (fun k:Nat=>⟨[(8,.int .i64 k),(7,.int .i64 n),(0,.lit nl n [.i .u8 fun i=>((g i).toNat:Nat)]),(1,.fn f [])],[],nid+100,nid⟩) (fun k=>n+1 - k) 0 ⟨by omega,fun j hj=>by omega⟩ (Cov.go [] [] ?_) (fun k hk=>?_)
 ·simp [cvT,step,res]
 obtain ⟨hk,hall⟩:=hk
 simp -dsimp only [aqT0,ROp0,aqA,↓seqK,↓blkK,↓loopK,step,stepBin,eqB,Nat.add_assoc nid,simprocAttr,z0,Int.cast_ofNat_Int,Int.reduceBEq,Int.reduceBNe,Int.reduceLT,Int.reduceLE,Int.reduceAdd,Int.reduceSub,Int.reduceMul,Int.reduceToNat,Int.reduceNeg,Int.reduceTMod,Int.reduceEq,not_false_eq_true,Int.reducePow,Int.reduceFDiv,Nat.reducePow,Nat.reduceSub,Nat.reduceMul,Nat.min_eq_left,Nat.reduceEqDiff,BEq.rfl,Int.tdiv_one,LN_succ]
 refine S2.dec (fun h3=>?_) (fun h3=>?_) <;> simp -dsimp only [aqT0,ROp0,aqA,↓seqK,↓blkK,↓loopK,step,stepBin,eqB,Nat.add_assoc nid,simprocAttr,z0,Int.cast_ofNat_Int,Int.reduceBEq,Int.reduceBNe,Int.reduceLT,Int.reduceLE,Int.reduceAdd,Int.reduceSub,Int.reduceMul,Int.reduceToNat,Int.reduceNeg,Int.reduceTMod,Int.reduceEq,not_false_eq_true,Int.reducePow,Int.reduceFDiv,Nat.reducePow,Nat.reduceSub,Nat.reduceMul,Nat.min_eq_left,Nat.reduceEqDiff,BEq.rfl,Int.tdiv_one,LN_succ]
 ·have hkl:k<n:=by omega
  refine ⟨by omega,CallX.pure (hf _ _) ?_⟩
  simp -dsimp only [aqT0,ROp0,aqA,↓seqK,↓blkK,↓loopK,step,stepBin,eqB,Nat.add_assoc nid,simprocAttr,z0,Int.cast_ofNat_Int,Int.reduceBEq,Int.reduceBNe,Int.reduceLT,Int.reduceLE,Int.reduceAdd,Int.reduceSub,Int.reduceMul,Int.reduceToNat,Int.reduceNeg,Int.reduceTMod,Int.reduceEq,not_false_eq_true,Int.reducePow,Int.reduceFDiv,Nat.reducePow,Nat.reduceSub,Nat.reduceMul,Nat.min_eq_left,Nat.reduceEqDiff,BEq.rfl,Int.tdiv_one,LN_succ]
  refine S2.intro (fun h4=>?_) (fun h4=>?_) <;> simp -dsimp only [aqT0,ROp0,aqA,↓seqK,↓blkK,↓loopK,step,stepBin,eqB,Nat.add_assoc nid,simprocAttr,z0,Int.cast_ofNat_Int,Int.reduceBEq,Int.reduceBNe,Int.reduceLT,Int.reduceLE,Int.reduceAdd,Int.reduceSub,Int.reduceMul,Int.reduceToNat,Int.reduceNeg,Int.reduceTMod,Int.reduceEq,not_false_eq_true,Int.reducePow,Int.reduceFDiv,Nat.reducePow,Nat.reduceSub,Nat.reduceMul,Nat.min_eq_left,Nat.reduceEqDiff,BEq.rfl,Int.tdiv_one,LN_succ]
  ·refine EndOK.mk (k:Int) ⟨by omega,⟨fun _=>List.any_eq_true.2 ⟨k,List.mem_range.2 hkl,h4⟩,fun _=>by omega⟩⟩ ?_
   refine RetOK.pure (.inl rfl) rfl ?_
   simp [cvT,step,res]
  ·refine ⟨by unfold inI64; omega,k+1,⟨⟨by omega,fun j hj=>?_⟩,by omega⟩,Cov.go [] [] ?_⟩
   ·rcases (by omega:j<k∨j=k) with hj | hj
    ·exact hall j hj
    ·rw [hj]; exact h4
   ·simp [cvT,step,res]
 ·have hkn:k=n:=by omega
  subst hkn
  refine EndOK.mk (-1:Int) ⟨by omega,⟨fun h=>by omega,fun h=>?_⟩⟩ ?_
  ·obtain ⟨i,hi,h⟩:=List.any_eq_true.1 h
   rw [hall i (List.mem_range.1 hi)] at h
   cases h
  ·refine RetOK.pure (.inl rfl) rfl ?_
   simp [cvT,step,res]
theorem containsFB (f:Nat) (F:UInt8→Bool) (hf:∀ (b:UInt8) nid,ACall Tryz.prog f [.int .u8 ((b.toNat:Nat))] [] nid (.bool (F b)) []) (nl:Bool) (n:Nat) (g:Nat→UInt8) (nid:Nat) (hn:n≤1000000000) :
  ACall Tryz.prog 45 [.lit nl n [.i .u8 fun i=>((g i).toNat:Nat)],.fn f []] [] nid (.bool ((List.range n).any (fun i=>F (g i)))) []:=by
 refine acall_run c45 (by simp [a45]) ?_
 simp -dsimp only [aqA,↓seqK,↓blkK,↓loopK,step,stepBin,eqB,Nat.add_assoc nid,simprocAttr,z0,a45]
 refine CallO.onE (Hs:=[]) (indexFB f F hf nl n g _ hn) (subH_nil _) (fun r hr=>?_)
 simp -dsimp only [aqA,↓seqK,↓blkK,↓loopK,step,stepBin,eqB,Nat.add_assoc nid,simprocAttr,z0,Int.cast_ofNat_Int,Int.reduceBEq,Int.reduceBNe,Int.reduceLT,Int.reduceLE,Int.reduceAdd,Int.reduceSub,Int.reduceMul,Int.reduceToNat,Int.reduceNeg,Int.reduceTMod,Int.reduceEq,not_false_eq_true,Int.reducePow,Int.reduceFDiv,Nat.reducePow,Nat.reduceSub,Nat.reduceMul,Nat.min_eq_left,Nat.reduceEqDiff,BEq.rfl,Int.tdiv_one,LN_succ]
 have e:decide (0≤r)=(List.range n).any (fun i=>F (g i)):=by
  rw [Bool.eq_iff_iff,decide_eq_true_eq]; exact hr.2
 rw [e]
 refine RetOK.pure (.inl rfl) rfl ?_
 simp [cvT,step,res]
theorem isDie_c (n:Nat) (hn:n<256) (nid:Nat):ACall Tryz.prog 47 [.int .u8 (n:Nat)] [] nid (.bool (placeB (n:Nat))) []:=by
 refine acall_run c47 (by simp [a47]) ?_
 simp -dsimp only [aqA,↓seqK,↓blkK,↓loopK,step,stepBin,eqB,Nat.add_assoc nid,simprocAttr,z0,a47]
 refine CallO.pure (indexB_c binsL (n:Nat) _) ?_
 have hb:=bins_ok n hn
 rw [Int.toNat_natCast]
 simp -dsimp only [aqA,↓seqK,↓blkK,↓loopK,step,stepBin,eqB,Nat.add_assoc nid,simprocAttr,z0,hb]
 unfold placeB
 cases h0:isBinV (n:Nat) <;> simp -dsimp only [aqA,↓seqK,↓blkK,↓loopK,step,stepBin,eqB,Nat.add_assoc nid,simprocAttr,z0]
 ·cases h1:(((n:Nat):Int)==46) <;> simp -dsimp only [aqA,↓seqK,↓blkK,↓loopK,step,stepBin,eqB,Nat.add_assoc nid,simprocAttr,z0,h1]
  ·cases h2:(((n:Nat):Int)==63) <;> simp -dsimp only [aqA,↓seqK,↓blkK,↓loopK,step,stepBin,eqB,Nat.add_assoc nid,simprocAttr,z0,h2] <;> refine RetOK.pure (.inl rfl) rfl ?_ <;> simp [cvT,step,res,h1,h2]
  ·refine RetOK.pure (.inl rfl) rfl ?_
   simp [cvT,step,res]
 ·refine RetOK.pure (.inl rfl) rfl ?_
  simp [cvT,step,res]
def wafP (nl:Bool) (W:Waf):PV:=.agg [.lit nl W.rows.length [.s fun i=>W.rows.getD i []],.str W.pass]
theorem odd_c2 (s:List UInt8) (nid:Nat) (hs:s.length≤1000000000):ACall Tryz.prog 49 [.str s] [] nid (.bool (oddB s)) []:=by
 refine acall_run c49 (by simp [a49]) ?_
 simp -dsimp only [aqA,↓seqK,↓blkK,↓loopK,step,stepBin,eqB,Nat.add_assoc nid,simprocAttr,z0,a49]
 refine CallO.pure (containsFB 95 (fun c=>!placeB (byteI c)) (fun c nid=>oddF_c _ nid) false s.length (fun i=>s.getD i 0) _ hs) ?_
 have e:(List.range s.length).any (fun i=>!placeB (byteI (s.getD i 0)))=oddB s:=any_range (F:=fun c=>!placeB (byteI c))
 rw [e]
 simp -dsimp only [aqA,↓seqK,↓blkK,↓loopK,step,stepBin,eqB,Nat.add_assoc nid,simprocAttr,z0,Int.cast_ofNat_Int,Int.reduceBEq,Int.reduceBNe,Int.reduceLT,Int.reduceLE,Int.reduceAdd,Int.reduceSub,Int.reduceMul,Int.reduceToNat,Int.reduceNeg,Int.reduceTMod,Int.reduceEq,not_false_eq_true,Int.reducePow,Int.reduceFDiv,Nat.reducePow,Nat.reduceSub,Nat.reduceMul,Nat.min_eq_left,Nat.reduceEqDiff,BEq.rfl,Int.tdiv_one,LN_succ]
 refine RetOK.pure (.inl rfl) rfl ?_
 simp [cvT,step,res]
structure WafBd (W:Waf):Prop where
 rows:W.rows.length≤1000000
 row:∀ r∈W.rows,r.length≤1000000
 pass:W.pass.length≤1000000
theorem WafBd.at {W:Waf} (h:WafBd W) (k:Nat):(W.rows.getD k []).length≤1000000:=by
 rw [List.getD_eq_getElem?_getD]
 cases hg:W.rows[k]? with
 | none=>simp
 | some x=>exact h.row x (List.mem_of_getElem? hg)
theorem waferV_row {W:Waf} (h0:W.rows.length≠0) (h1:W.rows.length≤60) {e:Int} (h:firstBad (rowBad (wideOf W)) W.rows=e) (he:e≠0):waferV W=e:=by
 unfold waferV; rw [if_neg h0,if_neg (by omega),h,if_pos he]
theorem waferV_pass {W:Waf} (h0:W.rows.length≠0) (h1:W.rows.length≤60) (h:firstBad (rowBad (wideOf W)) W.rows=0):waferV W=passV W.pass:=by
 unfold waferV; rw [if_neg h0,if_neg (by omega),h,if_neg (by simp)]
set_option maxHeartbeats 4000000 in
theorem checkWafer_all (nl:Bool) (W:Waf) (nid:Nat) (hW:WafBd W):ACall Tryz.prog 14 [wafP nl W] [] nid (.int .i64 (waferV W)) []:=by
 have hR:=hW.rows
 have hP:=hW.pass
 refine acall_run c14 (by simp [a14]) ?_
 unfold wafP
 simp -dsimp only [a14,aqA,↓seqK,↓blkK,↓loopK,step,stepBin,eqB,Nat.add_assoc nid,simprocAttr,z0,Int.cast_ofNat_Int,Int.reduceBEq,Int.reduceBNe,Int.reduceLT,Int.reduceLE,Int.reduceAdd,Int.reduceSub,Int.reduceMul,Int.reduceToNat,Int.reduceNeg,Int.reduceTMod,Int.reduceEq,not_false_eq_true,Int.reducePow,Int.reduceFDiv,Nat.reducePow,Nat.reduceSub,Nat.reduceMul,Nat.min_eq_left,Nat.reduceEqDiff,BEq.rfl,Int.tdiv_one,LN_succ]
 refine S2.intro (fun h0=>?_) (fun h0=>?_) <;> simp -dsimp only [aqA,↓seqK,↓blkK,↓loopK,step,stepBin,eqB,Nat.add_assoc nid,simprocAttr,z0,Int.cast_ofNat_Int,Int.reduceBEq,Int.reduceBNe,Int.reduceLT,Int.reduceLE,Int.reduceAdd,Int.reduceSub,Int.reduceMul,Int.reduceToNat,Int.reduceNeg,Int.reduceTMod,Int.reduceEq,not_false_eq_true,Int.reducePow,Int.reduceFDiv,Nat.reducePow,Nat.reduceSub,Nat.reduceMul,Nat.min_eq_left,Nat.reduceEqDiff,BEq.rfl,Int.tdiv_one,LN_succ]
 ·have e:waferV W=8:=by unfold waferV; rw [if_pos (by simpa using h0)]
  rw [e]
  refine RetOK.pure (.inl rfl) rfl ?_
  simp [cvT,step,res]
 have h0':W.rows.length≠0:=by simpa using h0
 refine S2.dec (fun h1=>?_) (fun h1=>?_) <;> simp -dsimp only [aqA,↓seqK,↓blkK,↓loopK,step,stepBin,eqB,Nat.add_assoc nid,simprocAttr,z0,Int.cast_ofNat_Int,Int.reduceBEq,Int.reduceBNe,Int.reduceLT,Int.reduceLE,Int.reduceAdd,Int.reduceSub,Int.reduceMul,Int.reduceToNat,Int.reduceNeg,Int.reduceTMod,Int.reduceEq,not_false_eq_true,Int.reducePow,Int.reduceFDiv,Nat.reducePow,Nat.reduceSub,Nat.reduceMul,Nat.min_eq_left,Nat.reduceEqDiff,BEq.rfl,Int.tdiv_one,LN_succ]
 ·have e:waferV W=2:=by unfold waferV; rw [if_neg h0',if_pos (by omega)]
  rw [e]
  refine RetOK.pure (.inl rfl) rfl ?_
  simp [cvT,step,res]
 have h1':W.rows.length≤60:=by omega
 refine LP.mkP (fun k:Nat=>k≤W.rows.length∧firstBad (rowBad (wideOf W)) (W.rows.take k)=0) (fun k:Nat=>⟨[(19,.int .i64 k),(18,.int .i64 W.rows.length),(17,.lit nl W.rows.length [.s fun i=>W.rows.getD i []]),(1,.ptr nid 0)],[(nid,some (.box 28 [.lit nl W.rows.length [.s fun i=>W.rows.getD i []],.str W.pass]))],nid+100,nid⟩) (fun k=>W.rows.length+1 - k) 0 ⟨by omega,rfl⟩ (Cov.go [] [] ?_) (fun k hk=>?_)
 ·simp [cvT,step,res]
 obtain ⟨hk,hb⟩:=hk
 simp -dsimp only [aqA,↓seqK,↓blkK,↓loopK,step,stepBin,eqB,Nat.add_assoc nid,simprocAttr,z0,Int.cast_ofNat_Int,Int.reduceBEq,Int.reduceBNe,Int.reduceLT,Int.reduceLE,Int.reduceAdd,Int.reduceSub,Int.reduceMul,Int.reduceToNat,Int.reduceNeg,Int.reduceTMod,Int.reduceEq,not_false_eq_true,Int.reducePow,Int.reduceFDiv,Nat.reducePow,Nat.reduceSub,Nat.reduceMul,Nat.min_eq_left,Nat.reduceEqDiff,BEq.rfl,Int.tdiv_one,LN_succ]
 refine S2.dec (fun h2=>?_) (fun h2=>?_) <;> simp -dsimp only [aqA,↓seqK,↓blkK,↓loopK,step,stepBin,eqB,Nat.add_assoc nid,simprocAttr,z0,Int.cast_ofNat_Int,Int.reduceBEq,Int.reduceBNe,Int.reduceLT,Int.reduceLE,Int.reduceAdd,Int.reduceSub,Int.reduceMul,Int.reduceToNat,Int.reduceNeg,Int.reduceTMod,Int.reduceEq,not_false_eq_true,Int.reducePow,Int.reduceFDiv,Nat.reducePow,Nat.reduceSub,Nat.reduceMul,Nat.min_eq_left,Nat.reduceEqDiff,BEq.rfl,Int.tdiv_one,LN_succ]
 ·have hkl:k<W.rows.length:=by omega
  obtain ⟨bad,good⟩:=rowsFB (d:=[]) hkl hb
  have hrl:=hW.at k
  have hw0:wideOf W=(W.rows.getD 0 []).length:=rfl
  generalize hr:W.rows.getD k []=r at *
  rw [beq_nil]
  have bad':∀ e:Int,rowBad (wideOf W) r=e→e≠0→waferV W=e:=fun e h3 he=>waferV_row h0' h1' (by rw [bad (by rw [h3]; exact he),h3]) he
  refine ⟨by omega,S2.dec (fun h3=>?_) (fun h3=>?_)⟩ <;> simp -dsimp only [aqA,↓seqK,↓blkK,↓loopK,step,stepBin,eqB,Nat.add_assoc nid,simprocAttr,z0,Int.cast_ofNat_Int,Int.reduceBEq,Int.reduceBNe,Int.reduceLT,Int.reduceLE,Int.reduceAdd,Int.reduceSub,Int.reduceMul,Int.reduceToNat,Int.reduceNeg,Int.reduceTMod,Int.reduceEq,not_false_eq_true,Int.reducePow,Int.reduceFDiv,Nat.reducePow,Nat.reduceSub,Nat.reduceMul,Nat.min_eq_left,Nat.reduceEqDiff,BEq.rfl,Int.tdiv_one,LN_succ]
  ·rw [bad' 8 (by unfold rowBad; rw [if_pos h3]) (by decide)]
   refine RetOK.pure (.inl rfl) rfl ?_
   simp [cvT,step,res]
  refine S2.dec (fun h4=>?_) (fun h4=>?_) <;> simp -dsimp only [aqA,↓seqK,↓blkK,↓loopK,step,stepBin,eqB,Nat.add_assoc nid,simprocAttr,z0,Int.cast_ofNat_Int,Int.reduceBEq,Int.reduceBNe,Int.reduceLT,Int.reduceLE,Int.reduceAdd,Int.reduceSub,Int.reduceMul,Int.reduceToNat,Int.reduceNeg,Int.reduceTMod,Int.reduceEq,not_false_eq_true,Int.reducePow,Int.reduceFDiv,Nat.reducePow,Nat.reduceSub,Nat.reduceMul,Nat.min_eq_left,Nat.reduceEqDiff,BEq.rfl,Int.tdiv_one,LN_succ]
  ·rw [bad' 2 (by unfold rowBad; rw [if_neg h3,if_pos (by omega)]) (by decide)]
   refine RetOK.pure (.inl rfl) rfl ?_
   simp [cvT,step,res]
  refine ⟨by omega,S2.intro (fun h5=>?_) (fun h5=>?_)⟩ <;> simp -dsimp only [aqA,↓seqK,↓blkK,↓loopK,step,stepBin,eqB,Nat.add_assoc nid,simprocAttr,z0,Int.cast_ofNat_Int,Int.reduceBEq,Int.reduceBNe,Int.reduceLT,Int.reduceLE,Int.reduceAdd,Int.reduceSub,Int.reduceMul,Int.reduceToNat,Int.reduceNeg,Int.reduceTMod,Int.reduceEq,not_false_eq_true,Int.reducePow,Int.reduceFDiv,Nat.reducePow,Nat.reduceSub,Nat.reduceMul,Nat.min_eq_left,Nat.reduceEqDiff,BEq.rfl,Int.tdiv_one,LN_succ]
  ·have h5':r.length≠wideOf W:=by rw [hw0]; intro e; rw [e] at h5; simp at h5
   rw [bad' 3 (by unfold rowBad; rw [if_neg h3,if_neg (by omega),if_pos h5']) (by decide)]
   refine RetOK.pure (.inl rfl) rfl ?_
   simp [cvT,step,res]
  have h5':r.length=wideOf W:=by
   have h5a:((r.length:Nat):Int)=((W.rows.getD 0 []).length:Nat):=by simpa only [bne_eq_false_iff_eq] using h5
   rw [hw0]; omega
  refine CallO.pure (odd_c2 r _ (by omega)) ?_
  simp -dsimp only [aqA,↓seqK,↓blkK,↓loopK,step,stepBin,eqB,Nat.add_assoc nid,simprocAttr,z0,Int.cast_ofNat_Int,Int.reduceBEq,Int.reduceBNe,Int.reduceLT,Int.reduceLE,Int.reduceAdd,Int.reduceSub,Int.reduceMul,Int.reduceToNat,Int.reduceNeg,Int.reduceTMod,Int.reduceEq,not_false_eq_true,Int.reducePow,Int.reduceFDiv,Nat.reducePow,Nat.reduceSub,Nat.reduceMul,Nat.min_eq_left,Nat.reduceEqDiff,BEq.rfl,Int.tdiv_one,LN_succ]
  refine S2.intro (fun h6=>?_) (fun h6=>?_) <;> simp -dsimp only [aqA,↓seqK,↓blkK,↓loopK,step,stepBin,eqB,Nat.add_assoc nid,simprocAttr,z0,Int.cast_ofNat_Int,Int.reduceBEq,Int.reduceBNe,Int.reduceLT,Int.reduceLE,Int.reduceAdd,Int.reduceSub,Int.reduceMul,Int.reduceToNat,Int.reduceNeg,Int.reduceTMod,Int.reduceEq,not_false_eq_true,Int.reducePow,Int.reduceFDiv,Nat.reducePow,Nat.reduceSub,Nat.reduceMul,Nat.min_eq_left,Nat.reduceEqDiff,BEq.rfl,Int.tdiv_one,LN_succ]
  ·rw [bad' 9 (by unfold rowBad; rw [if_neg h3,if_neg (by omega),if_neg (by omega),if_pos h6]) (by decide)]
   refine RetOK.pure (.inl rfl) rfl ?_
   simp [cvT,step,res]
  ·refine ⟨by unfold inI64; omega,k+1,⟨⟨by omega,good (by unfold rowBad; rw [if_neg h3,if_neg (by omega),if_neg (by omega),if_neg (by simp [h6])])⟩,by omega⟩,Cov.go [] [] ?_⟩
   simp [cvT,step,res]
 have hkn:k=W.rows.length:=by omega
 subst hkn
 rw [List.take_length] at hb
 rw [waferV_pass h0' h1' hb]
 refine LP.mkP (fun k:Nat=>k≤W.pass.length∧firstBad (passBad W.pass) ((List.range W.pass.length).take k)=0) (fun k:Nat=>⟨[(46,.int .i64 k),(45,.int .i64 W.pass.length),(1,.ptr nid 0)],[(nid,some (.box 28 [.lit nl W.rows.length [.s fun i=>W.rows.getD i []],.str W.pass]))],nid+300,nid⟩) (fun k=>W.pass.length+1 - k) 0 ⟨by omega,rfl⟩ (Cov.go [] [] ?_) (fun k hk=>?_)
 ·simp [cvT,step,res]
 obtain ⟨hk,hb⟩:=hk
 simp -dsimp only [aqA,↓seqK,↓blkK,↓loopK,step,stepBin,eqB,Nat.add_assoc nid,simprocAttr,z0,Int.cast_ofNat_Int,Int.reduceBEq,Int.reduceBNe,Int.reduceLT,Int.reduceLE,Int.reduceAdd,Int.reduceSub,Int.reduceMul,Int.reduceToNat,Int.reduceNeg,Int.reduceTMod,Int.reduceEq,not_false_eq_true,Int.reducePow,Int.reduceFDiv,Nat.reducePow,Nat.reduceSub,Nat.reduceMul,Nat.min_eq_left,Nat.reduceEqDiff,BEq.rfl,Int.tdiv_one,LN_succ]
 refine S2.dec (fun h2=>?_) (fun h2=>?_) <;> simp -dsimp only [aqA,↓seqK,↓blkK,↓loopK,step,stepBin,eqB,Nat.add_assoc nid,simprocAttr,z0,Int.cast_ofNat_Int,Int.reduceBEq,Int.reduceBNe,Int.reduceLT,Int.reduceLE,Int.reduceAdd,Int.reduceSub,Int.reduceMul,Int.reduceToNat,Int.reduceNeg,Int.reduceTMod,Int.reduceEq,not_false_eq_true,Int.reducePow,Int.reduceFDiv,Nat.reducePow,Nat.reduceSub,Nat.reduceMul,Nat.min_eq_left,Nat.reduceEqDiff,BEq.rfl,Int.tdiv_one,LN_succ]
 ·have hkl:k<W.pass.length:=by omega
  obtain ⟨bad,good⟩:=rangeFB hkl hb
  refine ⟨by omega,CallO.pure (isBin_c _ _) ?_⟩
  simp -dsimp only [aqA,↓seqK,↓blkK,↓loopK,step,stepBin,eqB,Nat.add_assoc nid,simprocAttr,z0,Int.cast_ofNat_Int,Int.reduceBEq,Int.reduceBNe,Int.reduceLT,Int.reduceLE,Int.reduceAdd,Int.reduceSub,Int.reduceMul,Int.reduceToNat,Int.reduceNeg,Int.reduceTMod,Int.reduceEq,not_false_eq_true,Int.reducePow,Int.reduceFDiv,Nat.reducePow,Nat.reduceSub,Nat.reduceMul,Nat.min_eq_left,Nat.reduceEqDiff,BEq.rfl,Int.tdiv_one,LN_succ]
  have hdef:passBad W.pass k=if isBinV (byteI (W.pass.getD k 0))=false then 9 else if 0<k∧byteI (W.pass.getD k 0)≤byteI (W.pass.getD (k - 1) 0) then 7 else 0:=rfl
  unfold byteI at hdef
  cases h3:isBinV (((W.pass.getD k 0).toNat:Nat):Int) <;> simp -dsimp only [aqA,↓seqK,↓blkK,↓loopK,step,stepBin,eqB,Nat.add_assoc nid,simprocAttr,z0,Int.cast_ofNat_Int,Int.reduceBEq,Int.reduceBNe,Int.reduceLT,Int.reduceLE,Int.reduceAdd,Int.reduceSub,Int.reduceMul,Int.reduceToNat,Int.reduceNeg,Int.reduceTMod,Int.reduceEq,not_false_eq_true,Int.reducePow,Int.reduceFDiv,Nat.reducePow,Nat.reduceSub,Nat.reduceMul,Nat.min_eq_left,Nat.reduceEqDiff,BEq.rfl,Int.tdiv_one,LN_succ]
  ·rw [h3,if_pos rfl] at hdef
   have:passV W.pass=9:=by unfold passV; rw [bad (by rw [hdef]; decide),hdef]
   rw [this]
   refine RetOK.pure (.inl rfl) rfl ?_
   simp [cvT,step,res]
  rw [h3,if_neg (by simp)] at hdef
  refine S2.dec (fun h4=>?_) (fun h4=>?_) <;> simp -dsimp only [aqA,↓seqK,↓blkK,↓loopK,step,stepBin,eqB,Nat.add_assoc nid,simprocAttr,z0,Int.cast_ofNat_Int,Int.reduceBEq,Int.reduceBNe,Int.reduceLT,Int.reduceLE,Int.reduceAdd,Int.reduceSub,Int.reduceMul,Int.reduceToNat,Int.reduceNeg,Int.reduceTMod,Int.reduceEq,not_false_eq_true,Int.reducePow,Int.reduceFDiv,Nat.reducePow,Nat.reduceSub,Nat.reduceMul,Nat.min_eq_left,Nat.reduceEqDiff,BEq.rfl,Int.tdiv_one,LN_succ]
  ·have hk1:((k:Int) - 1).toNat=k - 1:=by omega
   rw [hk1]
   refine ⟨by omega,by unfold inI64; omega,by omega,S2.dec (fun h5=>?_) (fun h5=>?_)⟩ <;> simp -dsimp only [aqA,↓seqK,↓blkK,↓loopK,step,stepBin,eqB,Nat.add_assoc nid,simprocAttr,z0,Int.cast_ofNat_Int,Int.reduceBEq,Int.reduceBNe,Int.reduceLT,Int.reduceLE,Int.reduceAdd,Int.reduceSub,Int.reduceMul,Int.reduceToNat,Int.reduceNeg,Int.reduceTMod,Int.reduceEq,not_false_eq_true,Int.reducePow,Int.reduceFDiv,Nat.reducePow,Nat.reduceSub,Nat.reduceMul,Nat.min_eq_left,Nat.reduceEqDiff,BEq.rfl,Int.tdiv_one,LN_succ]
   ·rw [if_pos ⟨by omega,h5⟩] at hdef
    have:passV W.pass=7:=by unfold passV; rw [bad (by rw [hdef]; decide),hdef]
    rw [this]
    refine RetOK.pure (.inl rfl) rfl ?_
    simp [cvT,step,res]
   ·rw [if_neg (fun h=>h5 h.2)] at hdef
    refine ⟨by unfold inI64; omega,k+1,⟨⟨by omega,good hdef⟩,by omega⟩,Cov.go [] [] ?_⟩
    simp [cvT,step,res]
  ·rw [if_neg (fun h=>h4 (by omega))] at hdef
   refine ⟨by unfold inI64; omega,k+1,⟨⟨by omega,good hdef⟩,by omega⟩,Cov.go [] [] ?_⟩
   simp [cvT,step,res]
 ·have hkn:k=W.pass.length:=by omega
  subst hkn
  have:passV W.pass=0:=by unfold passV; rwa [List.take_of_length_le (by simp)] at hb
  rw [this]
  refine RetOK.pure (.inl rfl) rfl ?_
  simp [cvT,step,res]
theorem dieF_c (b:UInt8) (nid:Nat):ACall Tryz.prog 46 [.int .u8 ((b.toNat:Nat))] [] nid (.bool (!placeB (byteI b))) []:=by
 refine acall_run c46 (by simp [a46]) ?_
 simp -dsimp only [aqA,↓seqK,↓blkK,↓loopK,step,stepBin,eqB,Nat.add_assoc nid,simprocAttr,z0,a46]
 refine CallO.pure (isDie_c b.toNat (UInt8.toNat_lt b) _) ?_
 simp -dsimp only [aqA,↓seqK,↓blkK,↓loopK,step,stepBin,eqB,Nat.add_assoc nid,simprocAttr,z0]
 refine RetOK.pure (.inl rfl) rfl ?_
 simp [cvT,step,res,byteI]
theorem bins_byte (b:UInt8):decide (Lib.indexByte binsL b<0)=!isBinV (byteI b):=by
 have h:=bins_ok b.toNat (UInt8.toNat_lt b)
 have e:b.toNat.toUInt8=b:=by simp
 rw [e] at h
 unfold byteI
 rw [← h]
 by_cases h2:0≤Lib.indexByte binsL b
 ·simp [h2]
 ·simp [h2]; omega
theorem passFault_c (P:List UInt8) (nid:Nat) (hP:P.length≤1000000):ACall Tryz.prog 48 [.str P] [] nid (.int .i64 (passV P)) []:=by
 refine acall_run c48 (by simp [a48]) ?_
 simp -dsimp only [a48,aqA,↓seqK,↓blkK,↓loopK,step,stepBin,eqB,Nat.add_assoc nid,simprocAttr,z0,Int.cast_ofNat_Int,Int.reduceBEq,Int.reduceBNe,Int.reduceLT,Int.reduceLE,Int.reduceAdd,Int.reduceSub,Int.reduceMul,Int.reduceToNat,Int.reduceNeg,Int.reduceTMod,Int.reduceEq,not_false_eq_true,Int.reducePow,Int.reduceFDiv,Nat.reducePow,Nat.reduceSub,Nat.reduceMul,Nat.min_eq_left,Nat.reduceEqDiff,BEq.rfl,Int.tdiv_one,LN_succ]
 refine LP.mkP (fun k:Nat=>k≤P.length∧firstBad (passBad P) ((List.range P.length).take k)=0) (fun k:Nat=>⟨[(6,.int .i64 k),(5,.int .i64 P.length),(0,.str P)],[],nid+300,nid⟩) (fun k=>P.length+1 - k) 0 ⟨by omega,rfl⟩ (Cov.go [] [] ?_) (fun k hk=>?_)
 ·simp [cvT,step,res]
 obtain ⟨hk,hb⟩:=hk
 simp -dsimp only [aqA,↓seqK,↓blkK,↓loopK,step,stepBin,eqB,Nat.add_assoc nid,simprocAttr,z0,Int.cast_ofNat_Int,Int.reduceBEq,Int.reduceBNe,Int.reduceLT,Int.reduceLE,Int.reduceAdd,Int.reduceSub,Int.reduceMul,Int.reduceToNat,Int.reduceNeg,Int.reduceTMod,Int.reduceEq,not_false_eq_true,Int.reducePow,Int.reduceFDiv,Nat.reducePow,Nat.reduceSub,Nat.reduceMul,Nat.min_eq_left,Nat.reduceEqDiff,BEq.rfl,Int.tdiv_one,LN_succ]
 refine S2.dec (fun h2=>?_) (fun h2=>?_) <;> simp -dsimp only [aqA,↓seqK,↓blkK,↓loopK,step,stepBin,eqB,Nat.add_assoc nid,simprocAttr,z0,Int.cast_ofNat_Int,Int.reduceBEq,Int.reduceBNe,Int.reduceLT,Int.reduceLE,Int.reduceAdd,Int.reduceSub,Int.reduceMul,Int.reduceToNat,Int.reduceNeg,Int.reduceTMod,Int.reduceEq,not_false_eq_true,Int.reducePow,Int.reduceFDiv,Nat.reducePow,Nat.reduceSub,Nat.reduceMul,Nat.min_eq_left,Nat.reduceEqDiff,BEq.rfl,Int.tdiv_one,LN_succ]
 ·have hkl:k<P.length:=by omega
  obtain ⟨bad,good⟩:=rangeFB hkl hb
  refine ⟨by omega,CallO.pure (indexB_c binsL _ _) ?_⟩
  have hbb:=bins_byte (P.getD k 0)
  have e:((((P.getD k 0).toNat:Nat):Int).toNat).toUInt8=P.getD k 0:=by rw [Int.toNat_natCast]; simp
  rw [e]
  simp -dsimp only [aqA,↓seqK,↓blkK,↓loopK,step,stepBin,eqB,Nat.add_assoc nid,simprocAttr,z0,Int.cast_ofNat_Int,Int.reduceBEq,Int.reduceBNe,Int.reduceLT,Int.reduceLE,Int.reduceAdd,Int.reduceSub,Int.reduceMul,Int.reduceToNat,Int.reduceNeg,Int.reduceTMod,Int.reduceEq,not_false_eq_true,Int.reducePow,Int.reduceFDiv,Nat.reducePow,Nat.reduceSub,Nat.reduceMul,Nat.min_eq_left,Nat.reduceEqDiff,BEq.rfl,Int.tdiv_one,LN_succ,hbb]
  have hdef:passBad P k=if isBinV (byteI (P.getD k 0))=false then 9 else if 0<k∧byteI (P.getD k 0)≤byteI (P.getD (k - 1) 0) then 7 else 0:=rfl
  unfold byteI at hdef ⊢
  cases h3:isBinV (((P.getD k 0).toNat:Nat):Int) <;> simp -dsimp only [aqA,↓seqK,↓blkK,↓loopK,step,stepBin,eqB,Nat.add_assoc nid,simprocAttr,z0,Int.cast_ofNat_Int,Int.reduceBEq,Int.reduceBNe,Int.reduceLT,Int.reduceLE,Int.reduceAdd,Int.reduceSub,Int.reduceMul,Int.reduceToNat,Int.reduceNeg,Int.reduceTMod,Int.reduceEq,not_false_eq_true,Int.reducePow,Int.reduceFDiv,Nat.reducePow,Nat.reduceSub,Nat.reduceMul,Nat.min_eq_left,Nat.reduceEqDiff,BEq.rfl,Int.tdiv_one,LN_succ]
  ·rw [h3,if_pos rfl] at hdef
   have:passV P=9:=by unfold passV; rw [bad (by rw [hdef]; decide),hdef]
   rw [this]
   refine RetOK.pure (.inl rfl) rfl ?_
   simp [cvT,step,res]
  rw [h3,if_neg (by simp)] at hdef
  refine S2.dec (fun h4=>?_) (fun h4=>?_) <;> simp -dsimp only [aqA,↓seqK,↓blkK,↓loopK,step,stepBin,eqB,Nat.add_assoc nid,simprocAttr,z0,Int.cast_ofNat_Int,Int.reduceBEq,Int.reduceBNe,Int.reduceLT,Int.reduceLE,Int.reduceAdd,Int.reduceSub,Int.reduceMul,Int.reduceToNat,Int.reduceNeg,Int.reduceTMod,Int.reduceEq,not_false_eq_true,Int.reducePow,Int.reduceFDiv,Nat.reducePow,Nat.reduceSub,Nat.reduceMul,Nat.min_eq_left,Nat.reduceEqDiff,BEq.rfl,Int.tdiv_one,LN_succ]
  ·have hk1:((k:Int) - 1).toNat=k - 1:=by omega
   rw [hk1]
   refine ⟨by omega,by unfold inI64; omega,by omega,S2.dec (fun h5=>?_) (fun h5=>?_)⟩ <;> simp -dsimp only [aqA,↓seqK,↓blkK,↓loopK,step,stepBin,eqB,Nat.add_assoc nid,simprocAttr,z0,Int.cast_ofNat_Int,Int.reduceBEq,Int.reduceBNe,Int.reduceLT,Int.reduceLE,Int.reduceAdd,Int.reduceSub,Int.reduceMul,Int.reduceToNat,Int.reduceNeg,Int.reduceTMod,Int.reduceEq,not_false_eq_true,Int.reducePow,Int.reduceFDiv,Nat.reducePow,Nat.reduceSub,Nat.reduceMul,Nat.min_eq_left,Nat.reduceEqDiff,BEq.rfl,Int.tdiv_one,LN_succ]
   ·rw [if_pos ⟨by omega,h5⟩] at hdef
    have:passV P=7:=by unfold passV; rw [bad (by rw [hdef]; decide),hdef]
    rw [this]
    refine RetOK.pure (.inl rfl) rfl ?_
    simp [cvT,step,res]
   ·rw [if_neg (fun h=>h5 h.2)] at hdef
    refine ⟨by unfold inI64; omega,k+1,⟨⟨by omega,good hdef⟩,by omega⟩,Cov.go [] [] ?_⟩
    simp [cvT,step,res]
  ·rw [if_neg (fun h=>h4 (by omega))] at hdef
   refine ⟨by unfold inI64; omega,k+1,⟨⟨by omega,good hdef⟩,by omega⟩,Cov.go [] [] ?_⟩
   simp [cvT,step,res]
 ·have hkn:k=P.length:=by omega
  subst hkn
  have:passV P=0:=by unfold passV; rwa [List.take_of_length_le (by simp)] at hb
  rw [this]
  refine RetOK.pure (.inl rfl) rfl ?_
  simp [cvT,step,res]
set_option maxHeartbeats 4000000 in
theorem waferFault_all (nl:Bool) (W:Waf) (nid:Nat) (hW:WafBd W):ACall Tryz.prog 13 [wafP nl W] [] nid (.int .i64 (waferV W)) []:=by
 have hR:=hW.rows
 have hP:=hW.pass
 refine acall_run c13 (by simp [a13]) ?_
 unfold wafP
 simp -dsimp only [a13,aqA,↓seqK,↓blkK,↓loopK,step,stepBin,eqB,Nat.add_assoc nid,simprocAttr,z0,Int.cast_ofNat_Int,Int.reduceBEq,Int.reduceBNe,Int.reduceLT,Int.reduceLE,Int.reduceAdd,Int.reduceSub,Int.reduceMul,Int.reduceToNat,Int.reduceNeg,Int.reduceTMod,Int.reduceEq,not_false_eq_true,Int.reducePow,Int.reduceFDiv,Nat.reducePow,Nat.reduceSub,Nat.reduceMul,Nat.min_eq_left,Nat.reduceEqDiff,BEq.rfl,Int.tdiv_one,LN_succ]
 refine S2.intro (fun h0=>?_) (fun h0=>?_) <;> simp -dsimp only [aqA,↓seqK,↓blkK,↓loopK,step,stepBin,eqB,Nat.add_assoc nid,simprocAttr,z0,Int.cast_ofNat_Int,Int.reduceBEq,Int.reduceBNe,Int.reduceLT,Int.reduceLE,Int.reduceAdd,Int.reduceSub,Int.reduceMul,Int.reduceToNat,Int.reduceNeg,Int.reduceTMod,Int.reduceEq,not_false_eq_true,Int.reducePow,Int.reduceFDiv,Nat.reducePow,Nat.reduceSub,Nat.reduceMul,Nat.min_eq_left,Nat.reduceEqDiff,BEq.rfl,Int.tdiv_one,LN_succ]
 ·have e:waferV W=8:=by unfold waferV; rw [if_pos (by simpa using h0)]
  rw [e]
  refine RetOK.pure (.inl rfl) rfl ?_
  simp [cvT,step,res]
 have h0':W.rows.length≠0:=by simpa using h0
 refine S2.dec (fun h1=>?_) (fun h1=>?_) <;> simp -dsimp only [aqA,↓seqK,↓blkK,↓loopK,step,stepBin,eqB,Nat.add_assoc nid,simprocAttr,z0,Int.cast_ofNat_Int,Int.reduceBEq,Int.reduceBNe,Int.reduceLT,Int.reduceLE,Int.reduceAdd,Int.reduceSub,Int.reduceMul,Int.reduceToNat,Int.reduceNeg,Int.reduceTMod,Int.reduceEq,not_false_eq_true,Int.reducePow,Int.reduceFDiv,Nat.reducePow,Nat.reduceSub,Nat.reduceMul,Nat.min_eq_left,Nat.reduceEqDiff,BEq.rfl,Int.tdiv_one,LN_succ]
 ·have e:waferV W=2:=by unfold waferV; rw [if_neg h0',if_pos (by omega)]
  rw [e]
  refine RetOK.pure (.inl rfl) rfl ?_
  simp [cvT,step,res]
 have h1':W.rows.length≤60:=by omega
 refine LP.mkP (fun k:Nat=>k≤W.rows.length∧firstBad (rowBad (wideOf W)) (W.rows.take k)=0) (fun k:Nat=>⟨[(18,.int .i64 k),(17,.int .i64 W.rows.length),(16,.lit nl W.rows.length [.s fun i=>W.rows.getD i []]),(1,.ptr nid 0)],[(nid,some (.box 28 [.lit nl W.rows.length [.s fun i=>W.rows.getD i []],.str W.pass]))],nid+100,nid⟩) (fun k=>W.rows.length+1 - k) 0 ⟨by omega,rfl⟩ (Cov.go [] [] ?_) (fun k hk=>?_)
 ·simp [cvT,step,res]
 obtain ⟨hk,hb⟩:=hk
 simp -dsimp only [aqA,↓seqK,↓blkK,↓loopK,step,stepBin,eqB,Nat.add_assoc nid,simprocAttr,z0,Int.cast_ofNat_Int,Int.reduceBEq,Int.reduceBNe,Int.reduceLT,Int.reduceLE,Int.reduceAdd,Int.reduceSub,Int.reduceMul,Int.reduceToNat,Int.reduceNeg,Int.reduceTMod,Int.reduceEq,not_false_eq_true,Int.reducePow,Int.reduceFDiv,Nat.reducePow,Nat.reduceSub,Nat.reduceMul,Nat.min_eq_left,Nat.reduceEqDiff,BEq.rfl,Int.tdiv_one,LN_succ]
 refine S2.dec (fun h2=>?_) (fun h2=>?_) <;> simp -dsimp only [aqA,↓seqK,↓blkK,↓loopK,step,stepBin,eqB,Nat.add_assoc nid,simprocAttr,z0,Int.cast_ofNat_Int,Int.reduceBEq,Int.reduceBNe,Int.reduceLT,Int.reduceLE,Int.reduceAdd,Int.reduceSub,Int.reduceMul,Int.reduceToNat,Int.reduceNeg,Int.reduceTMod,Int.reduceEq,not_false_eq_true,Int.reducePow,Int.reduceFDiv,Nat.reducePow,Nat.reduceSub,Nat.reduceMul,Nat.min_eq_left,Nat.reduceEqDiff,BEq.rfl,Int.tdiv_one,LN_succ]
 ·have hkl:k<W.rows.length:=by omega
  obtain ⟨bad,good⟩:=rowsFB (d:=[]) hkl hb
  have hrl:=hW.at k
  have hw0:wideOf W=(W.rows.getD 0 []).length:=rfl
  generalize hr:W.rows.getD k []=r at *
  rw [beq_nil]
  have bad':∀ e:Int,rowBad (wideOf W) r=e→e≠0→waferV W=e:=fun e h3 he=>waferV_row h0' h1' (by rw [bad (by rw [h3]; exact he),h3]) he
  refine ⟨by omega,S2.dec (fun h3=>?_) (fun h3=>?_)⟩ <;> simp -dsimp only [aqA,↓seqK,↓blkK,↓loopK,step,stepBin,eqB,Nat.add_assoc nid,simprocAttr,z0,Int.cast_ofNat_Int,Int.reduceBEq,Int.reduceBNe,Int.reduceLT,Int.reduceLE,Int.reduceAdd,Int.reduceSub,Int.reduceMul,Int.reduceToNat,Int.reduceNeg,Int.reduceTMod,Int.reduceEq,not_false_eq_true,Int.reducePow,Int.reduceFDiv,Nat.reducePow,Nat.reduceSub,Nat.reduceMul,Nat.min_eq_left,Nat.reduceEqDiff,BEq.rfl,Int.tdiv_one,LN_succ]
  ·rw [bad' 8 (by unfold rowBad; rw [if_pos h3]) (by decide)]
   refine RetOK.pure (.inl rfl) rfl ?_
   simp [cvT,step,res]
  refine S2.dec (fun h4=>?_) (fun h4=>?_) <;> simp -dsimp only [aqA,↓seqK,↓blkK,↓loopK,step,stepBin,eqB,Nat.add_assoc nid,simprocAttr,z0,Int.cast_ofNat_Int,Int.reduceBEq,Int.reduceBNe,Int.reduceLT,Int.reduceLE,Int.reduceAdd,Int.reduceSub,Int.reduceMul,Int.reduceToNat,Int.reduceNeg,Int.reduceTMod,Int.reduceEq,not_false_eq_true,Int.reducePow,Int.reduceFDiv,Nat.reducePow,Nat.reduceSub,Nat.reduceMul,Nat.min_eq_left,Nat.reduceEqDiff,BEq.rfl,Int.tdiv_one,LN_succ]
  ·rw [bad' 2 (by unfold rowBad; rw [if_neg h3,if_pos (by omega)]) (by decide)]
   refine RetOK.pure (.inl rfl) rfl ?_
   simp [cvT,step,res]
  refine ⟨by omega,S2.intro (fun h5=>?_) (fun h5=>?_)⟩ <;> simp -dsimp only [aqA,↓seqK,↓blkK,↓loopK,step,stepBin,eqB,Nat.add_assoc nid,simprocAttr,z0,Int.cast_ofNat_Int,Int.reduceBEq,Int.reduceBNe,Int.reduceLT,Int.reduceLE,Int.reduceAdd,Int.reduceSub,Int.reduceMul,Int.reduceToNat,Int.reduceNeg,Int.reduceTMod,Int.reduceEq,not_false_eq_true,Int.reducePow,Int.reduceFDiv,Nat.reducePow,Nat.reduceSub,Nat.reduceMul,Nat.min_eq_left,Nat.reduceEqDiff,BEq.rfl,Int.tdiv_one,LN_succ]
  ·have h5':r.length≠wideOf W:=by rw [hw0]; intro e; rw [e] at h5; simp at h5
   rw [bad' 3 (by unfold rowBad; rw [if_neg h3,if_neg (by omega),if_pos h5']) (by decide)]
   refine RetOK.pure (.inl rfl) rfl ?_
   simp [cvT,step,res]
  have h5':r.length=wideOf W:=by
   have h5a:((r.length:Nat):Int)=((W.rows.getD 0 []).length:Nat):=by simpa only [bne_eq_false_iff_eq] using h5
   rw [hw0]; omega
  refine CallO.pure (containsFB 46 (fun c=>!placeB (byteI c)) dieF_c false r.length (fun i=>r.getD i 0) _ (by omega)) ?_
  rw [show (List.range r.length).any (fun i=>!placeB (byteI (r.getD i 0)))=oddB r from any_range (F:=fun c=>!placeB (byteI c))]
  simp -dsimp only [aqA,↓seqK,↓blkK,↓loopK,step,stepBin,eqB,Nat.add_assoc nid,simprocAttr,z0,Int.cast_ofNat_Int,Int.reduceBEq,Int.reduceBNe,Int.reduceLT,Int.reduceLE,Int.reduceAdd,Int.reduceSub,Int.reduceMul,Int.reduceToNat,Int.reduceNeg,Int.reduceTMod,Int.reduceEq,not_false_eq_true,Int.reducePow,Int.reduceFDiv,Nat.reducePow,Nat.reduceSub,Nat.reduceMul,Nat.min_eq_left,Nat.reduceEqDiff,BEq.rfl,Int.tdiv_one,LN_succ]
  refine S2.intro (fun h6=>?_) (fun h6=>?_) <;> simp -dsimp only [aqA,↓seqK,↓blkK,↓loopK,step,stepBin,eqB,Nat.add_assoc nid,simprocAttr,z0,Int.cast_ofNat_Int,Int.reduceBEq,Int.reduceBNe,Int.reduceLT,Int.reduceLE,Int.reduceAdd,Int.reduceSub,Int.reduceMul,Int.reduceToNat,Int.reduceNeg,Int.reduceTMod,Int.reduceEq,not_false_eq_true,Int.reducePow,Int.reduceFDiv,Nat.reducePow,Nat.reduceSub,Nat.reduceMul,Nat.min_eq_left,Nat.reduceEqDiff,BEq.rfl,Int.tdiv_one,LN_succ]
  ·rw [bad' 9 (by unfold rowBad; rw [if_neg h3,if_neg (by omega),if_neg (by omega),if_pos h6]) (by decide)]
   refine RetOK.pure (.inl rfl) rfl ?_
   simp [cvT,step,res]
  ·refine ⟨by unfold inI64; omega,k+1,⟨⟨by omega,good (by unfold rowBad; rw [if_neg h3,if_neg (by omega),if_neg (by omega),if_neg (by simp [h6])])⟩,by omega⟩,Cov.go [] [] ?_⟩
   simp [cvT,step,res]
 have hkn:k=W.rows.length:=by omega
 subst hkn
 rw [List.take_length] at hb
 rw [waferV_pass h0' h1' hb]
 refine CallO.pure (passFault_c W.pass _ hP) ?_
 simp -dsimp only [aqA,↓seqK,↓blkK,↓loopK,step,stepBin,eqB,Nat.add_assoc nid,simprocAttr,z0,Int.cast_ofNat_Int,Int.reduceBEq,Int.reduceBNe,Int.reduceLT,Int.reduceLE,Int.reduceAdd,Int.reduceSub,Int.reduceMul,Int.reduceToNat,Int.reduceNeg,Int.reduceTMod,Int.reduceEq,not_false_eq_true,Int.reducePow,Int.reduceFDiv,Nat.reducePow,Nat.reduceSub,Nat.reduceMul,Nat.min_eq_left,Nat.reduceEqDiff,BEq.rfl,Int.tdiv_one,LN_succ]
 refine RetOK.pure (.inl rfl) rfl ?_
 simp [cvT,step,res]
open Go.RowKit
structure WafSmall (W:Waf):Prop where
 len:W.rows.length≤6
 row:ShortRows 7 W.rows
 pass:W.pass.length≤2
theorem WafSmall.bd {W:Waf} (h:WafSmall W):WafBd W:=⟨by have:=h.len; omega,fun r hr=>by have:=h.row r hr; omega,by have:=h.pass; omega⟩
set_option maxHeartbeats 4000000 in
theorem waferOfX (s nid:Nat) (nl:Bool) (A:List Int) (p:Nat) (h:s<nid) (hp:p≤1099510000000) (hA:A.length≤17592186044416) :
  ∃ x:Waf × Nat,(WafSmall x.1∧x.2≤p+60)∧ACall Tryz.prog 11 [.ptr s 0] [(s,strmC nl A p)] nid (.agg [.sl nid 0 x.1.rows.length,.str x.1.pass]) [(s,strmC nl A x.2),(nid,arrS x.1.rows)]:=by
 obtain ⟨e1,e2,e3,e4,e5,e6,e7,e8,e9⟩:=id_all h
 refine acall_ex c11 (by simp [a11]) ?_
 simp -dsimp only [aqT0,ROp0,aqA,↓seqK,↓blkK,↓loopK,step,stepBin,eqB,Nat.add_assoc nid,simprocAttr,z0,Int.cast_ofNat_Int,Int.reduceBEq,Int.reduceBNe,Int.reduceLT,Int.reduceLE,Int.reduceAdd,Int.reduceSub,Int.reduceMul,Int.reduceToNat,Int.reduceNeg,Int.reduceTMod,Int.reduceEq,not_false_eq_true,Int.reducePow,Int.reduceFDiv,Nat.reducePow,Nat.reduceSub,Nat.reduceMul,Nat.min_eq_left,Nat.reduceEqDiff,BEq.rfl,Int.tdiv_one,LN_succ,e1,e2,e3,e4,e5,e6,e7,e8,e9,a11,strmC_low]
 refine CallX.on (range_c s _ nl A p 1 6 (by omega) (by omega) hA (by omega) (by omega) (by omega)) (subH_get (by simp only [aqA,↓seqK,↓blkK,↓loopK,step,stepBin,eqB,Nat.add_assoc nid,simprocAttr,z0,e1,e2,e3,e4,e5,e6,e7,e8,e9])) ?_
 simp -dsimp only [aqT0,ROp0,aqA,↓seqK,↓blkK,↓loopK,step,stepBin,eqB,Nat.add_assoc nid,simprocAttr,z0,Int.cast_ofNat_Int,Int.reduceBEq,Int.reduceBNe,Int.reduceLT,Int.reduceLE,Int.reduceAdd,Int.reduceSub,Int.reduceMul,Int.reduceToNat,Int.reduceNeg,Int.reduceTMod,Int.reduceEq,not_false_eq_true,Int.reducePow,Int.reduceFDiv,Nat.reducePow,Nat.reduceSub,Nat.reduceMul,Nat.min_eq_left,Nat.reduceEqDiff,BEq.rfl,Int.tdiv_one,LN_succ,e1,e2,e3,e4,e5,e6,e7,e8,e9,strmC_low]
 have hwd:=rangeV_bd A p (lo:=1) (hi:=6) (by omega)
 obtain ⟨w,hw⟩:∃ w:Nat,rangeV A p 1 6=w:=⟨_,(Int.toNat_of_nonneg (by omega)).symm⟩
 rw [hw] at hwd ⊢
 clear hw
 refine CallX.some_go (T:=9) (nl:=nl) (A:=A) (p:=p+1) (g:=fun i=>[[49],[49],[49,50],[49,97],[]].getD i []) (by simp only [aqA,↓seqK,↓blkK,↓loopK,step,stepBin,eqB,Nat.add_assoc nid,simprocAttr,z0,e1,e2,e3,e4,e5,e6,e7,e8,e9]) (by simp only [aqA,↓seqK,↓blkK,↓loopK,step,stepBin,eqB,Nat.add_assoc nid,simprocAttr,z0,e1,e2,e3,e4,e5,e6,e7,e8,e9]) (by simp only [aqA,↓seqK,↓blkK,↓loopK,step,stepBin,eqB,Nat.add_assoc nid,simprocAttr,z0,e1,e2,e3,e4,e5,e6,e7,e8,e9]) (by omega) (by omega) hA (by omega) (by omega) ?_
 simp -dsimp only [aqT0,ROp0,aqA,↓seqK,↓blkK,↓loopK,step,stepBin,eqB,Nat.add_assoc nid,simprocAttr,z0,Int.cast_ofNat_Int,Int.reduceBEq,Int.reduceBNe,Int.reduceLT,Int.reduceLE,Int.reduceAdd,Int.reduceSub,Int.reduceMul,Int.reduceToNat,Int.reduceNeg,Int.reduceTMod,Int.reduceEq,not_false_eq_true,Int.reducePow,Int.reduceFDiv,Nat.reducePow,Nat.reduceSub,Nat.reduceMul,Nat.min_eq_left,Nat.reduceEqDiff,BEq.rfl,Int.tdiv_one,LN_succ,e1,e2,e3,e4,e5,e6,e7,e8,e9,strmC_low]
 have hps:=getD_all (P:=fun x:List UInt8=>x.length≤2) (l:=[[49],[49],[49,50],[49,97],[]]) (d:=[]) (by simp) (pickI_lt A (p+1) (n:=5) (by omega))
 generalize ([[49],[49],[49,50],[49,97],[]].getD (pickI A (p+1) 5) []:List UInt8)=pass at hps ⊢
 refine CallX.on (range_c s _ nl A (p+1+1) 1 6 (by omega) (by omega) hA (by omega) (by omega) (by omega)) (subH_get (by simp only [aqA,↓seqK,↓blkK,↓loopK,step,stepBin,eqB,Nat.add_assoc nid,simprocAttr,z0,e1,e2,e3,e4,e5,e6,e7,e8,e9])) ?_
 simp -dsimp only [aqT0,ROp0,aqA,↓seqK,↓blkK,↓loopK,step,stepBin,eqB,Nat.add_assoc nid,simprocAttr,z0,Int.cast_ofNat_Int,Int.reduceBEq,Int.reduceBNe,Int.reduceLT,Int.reduceLE,Int.reduceAdd,Int.reduceSub,Int.reduceMul,Int.reduceToNat,Int.reduceNeg,Int.reduceTMod,Int.reduceEq,not_false_eq_true,Int.reducePow,Int.reduceFDiv,Nat.reducePow,Nat.reduceSub,Nat.reduceMul,Nat.min_eq_left,Nat.reduceEqDiff,BEq.rfl,Int.tdiv_one,LN_succ,e1,e2,e3,e4,e5,e6,e7,e8,e9,strmC_low]
 have hmd:=rangeV_bd A (p+1+1) (lo:=1) (hi:=6) (by omega)
 obtain ⟨m,hm⟩:∃ w:Nat,rangeV A (p+1+1) 1 6=w:=⟨_,(Int.toNat_of_nonneg (by omega)).symm⟩
 rw [hm] at hmd ⊢
 clear hm
 refine LP0.mkP (fun x:List (List UInt8) × Nat=>x.1.length≤m∧ShortRows 6 x.1∧x.2≤p+3+6 * x.1.length) (fun x=>⟨[(14,.int .i64 x.1.length),(13,.int .i64 m),(4,.ptr (nid+32) 0),(3,.int .i64 w),(2,.ptr nid 0),(0,.ptr s 0)],
  [(s,strmC nl A x.2),(nid,some (.box 28 [.lit true 0 [],.str []])),(nid+32,some (.box 28 [.sl (nid+36) 0 x.1.length,.str pass])),(nid+36,arrS x.1)],nid+200,nid⟩) (fun x=>m+1 - x.1.length) ([],p+1+1+1) ⟨by simp,fun r hr=>by simp at hr,by simp⟩ (Cov.go [] [(nid+36,1)] ?_) (fun x hx=>?_)
 ·simp [cvT,step,res,e1,e2,e3,e4,e5,e6,e7,e8,e9,strmC,arrS]
 obtain ⟨R,q⟩:=x
 obtain ⟨hR1,hR2,hq⟩:=hx
 simp only at hR1 hR2 hq
 unfold arrS
 simp -dsimp only [aqT0,ROp0,aqA,↓seqK,↓blkK,↓loopK,step,stepBin,eqB,Nat.add_assoc nid,simprocAttr,z0,Int.cast_ofNat_Int,Int.reduceBEq,Int.reduceBNe,Int.reduceLT,Int.reduceLE,Int.reduceAdd,Int.reduceSub,Int.reduceMul,Int.reduceToNat,Int.reduceNeg,Int.reduceTMod,Int.reduceEq,not_false_eq_true,Int.reducePow,Int.reduceFDiv,Nat.reducePow,Nat.reduceSub,Nat.reduceMul,Nat.min_eq_left,Nat.reduceEqDiff,BEq.rfl,Int.tdiv_one,LN_succ,e1,e2,e3,e4,e5,e6,e7,e8,e9,strmC_low]
 refine S2.dec (fun h2=>?_) (fun h2=>?_) <;> simp -dsimp only [aqT0,ROp0,aqA,↓seqK,↓blkK,↓loopK,step,stepBin,eqB,Nat.add_assoc nid,simprocAttr,z0,Int.cast_ofNat_Int,Int.reduceBEq,Int.reduceBNe,Int.reduceLT,Int.reduceLE,Int.reduceAdd,Int.reduceSub,Int.reduceMul,Int.reduceToNat,Int.reduceNeg,Int.reduceTMod,Int.reduceEq,not_false_eq_true,Int.reducePow,Int.reduceFDiv,Nat.reducePow,Nat.reduceSub,Nat.reduceMul,Nat.min_eq_left,Nat.reduceEqDiff,BEq.rfl,Int.tdiv_one,LN_succ,e1,e2,e3,e4,e5,e6,e7,e8,e9,strmC_low]
 ·refine LP0.mkP (fun x:List UInt8 × Nat=>x.1.length≤w∧x.2≤q+x.1.length) (fun x=>⟨[(17,.int .i64 x.1.length),(16,.int .i64 w),(5,.str x.1),(14,.int .i64 R.length),(13,.int .i64 m),(4,.ptr (nid+32) 0),(3,.int .i64 w),(2,.ptr nid 0),(0,.ptr s 0)],
   [(s,strmC nl A x.2),(nid,some (.box 28 [.lit true 0 [],.str []])),(nid+32,some (.box 28 [.sl (nid+36) 0 R.length,.str pass])),(nid+36,arrS R)],nid+400,nid⟩) (fun x=>w+1 - x.1.length) ([],q) ⟨by simp,by simp⟩ (Cov.go [] [] ?_) (fun x hx=>?_)
  ·simp [cvT,step,res,e1,e2,e3,e4,e5,e6,e7,e8,e9,strmC,arrS]
  obtain ⟨t,r⟩:=x
  obtain ⟨ht1,hr⟩:=hx
  simp only at ht1 hr
  unfold arrS
  simp -dsimp only [aqT0,ROp0,aqA,↓seqK,↓blkK,↓loopK,step,stepBin,eqB,Nat.add_assoc nid,simprocAttr,z0,Int.cast_ofNat_Int,Int.reduceBEq,Int.reduceBNe,Int.reduceLT,Int.reduceLE,Int.reduceAdd,Int.reduceSub,Int.reduceMul,Int.reduceToNat,Int.reduceNeg,Int.reduceTMod,Int.reduceEq,not_false_eq_true,Int.reducePow,Int.reduceFDiv,Nat.reducePow,Nat.reduceSub,Nat.reduceMul,Nat.min_eq_left,Nat.reduceEqDiff,BEq.rfl,Int.tdiv_one,LN_succ,e1,e2,e3,e4,e5,e6,e7,e8,e9,strmC_low]
  refine S2.dec (fun h3=>?_) (fun h3=>?_) <;> simp -dsimp only [aqT0,ROp0,aqA,↓seqK,↓blkK,↓loopK,step,stepBin,eqB,Nat.add_assoc nid,simprocAttr,z0,Int.cast_ofNat_Int,Int.reduceBEq,Int.reduceBNe,Int.reduceLT,Int.reduceLE,Int.reduceAdd,Int.reduceSub,Int.reduceMul,Int.reduceToNat,Int.reduceNeg,Int.reduceTMod,Int.reduceEq,not_false_eq_true,Int.reducePow,Int.reduceFDiv,Nat.reducePow,Nat.reduceSub,Nat.reduceMul,Nat.min_eq_left,Nat.reduceEqDiff,BEq.rfl,Int.tdiv_one,LN_succ,e1,e2,e3,e4,e5,e6,e7,e8,e9,strmC_low]
  ·refine CallX.some_go (T:=9) (nl:=nl) (A:=A) (p:=r) (g:=fun i=>[[49],[49],[49],[120],[120],[63],[46],[42],[50],[97]].getD i []) (by simp only [aqA,↓seqK,↓blkK,↓loopK,step,stepBin,eqB,Nat.add_assoc nid,simprocAttr,z0,e1,e2,e3,e4,e5,e6,e7,e8,e9]) (by simp only [aqA,↓seqK,↓blkK,↓loopK,step,stepBin,eqB,Nat.add_assoc nid,simprocAttr,z0,e1,e2,e3,e4,e5,e6,e7,e8,e9]) (by simp only [aqA,↓seqK,↓blkK,↓loopK,step,stepBin,eqB,Nat.add_assoc nid,simprocAttr,z0,e1,e2,e3,e4,e5,e6,e7,e8,e9]) (by omega) (by omega) hA (by omega) (by omega) ?_
   simp -dsimp only [aqT0,ROp0,aqA,↓seqK,↓blkK,↓loopK,step,stepBin,eqB,Nat.add_assoc nid,simprocAttr,z0,Int.cast_ofNat_Int,Int.reduceBEq,Int.reduceBNe,Int.reduceLT,Int.reduceLE,Int.reduceAdd,Int.reduceSub,Int.reduceMul,Int.reduceToNat,Int.reduceNeg,Int.reduceTMod,Int.reduceEq,not_false_eq_true,Int.reducePow,Int.reduceFDiv,Nat.reducePow,Nat.reduceSub,Nat.reduceMul,Nat.min_eq_left,Nat.reduceEqDiff,BEq.rfl,Int.tdiv_one,LN_succ,e1,e2,e3,e4,e5,e6,e7,e8,e9,strmC_low]
   have hb:=getD_all (P:=fun x:List UInt8=>x.length=1) (l:=[[49],[49],[49],[120],[120],[63],[46],[42],[50],[97]]) (d:=[]) (by simp) (pickI_lt A r (n:=10) (by omega))
   generalize ([[49],[49],[49],[120],[120],[63],[46],[42],[50],[97]].getD (pickI A r 10) []:List UInt8)=b at hb ⊢
   have e:(t++b).length=t.length+1:=by rw [List.length_append,hb]
   have e2:((t++b).length:Int)=(t.length:Int)+1:=by omega
   refine ⟨by omega,by unfold inI64; omega,(t++b,r+1),⟨⟨by simp only; omega,by simp only; omega⟩,by simp only; omega⟩,Cov.go [] [] ?_⟩
   simp [cvT,step,res,e1,e2,e3,e4,e5,e6,e7,e8,e9,strmC,arrS,e,e2,-List.length_append]
  ·have hl:(R++[t]).length=R.length+1:=by simp
   rw [getD_app1 R t rfl]
   refine ⟨by omega,by unfold inI64; omega,(R++[t],r),⟨⟨by simp only; omega,by simp only; exact hR2.snoc (by omega),by simp only; omega⟩,by simp only; omega⟩,Cov.go [(nid+36,nid+420)] [] ?_⟩
   simp [cvT,step,res,e1,e2,e3,e4,e5,e6,e7,e8,e9,strmC,arrS,hl]
 have hRm:R.length=m:=by omega
 refine CallX.on (flip_c s _ nl A q 12 (by omega) (by omega) hA (by omega)) (subH_get (by simp only [aqA,↓seqK,↓blkK,↓loopK,step,stepBin,eqB,Nat.add_assoc nid,simprocAttr,z0,e1,e2,e3,e4,e5,e6,e7,e8,e9])) ?_
 simp -dsimp only [aqT0,ROp0,aqA,↓seqK,↓blkK,↓loopK,step,stepBin,eqB,Nat.add_assoc nid,simprocAttr,z0,Int.cast_ofNat_Int,Int.reduceBEq,Int.reduceBNe,Int.reduceLT,Int.reduceLE,Int.reduceAdd,Int.reduceSub,Int.reduceMul,Int.reduceToNat,Int.reduceNeg,Int.reduceTMod,Int.reduceEq,not_false_eq_true,Int.reducePow,Int.reduceFDiv,Nat.reducePow,Nat.reduceSub,Nat.reduceMul,Nat.min_eq_left,Nat.reduceEqDiff,BEq.rfl,Int.tdiv_one,LN_succ,e1,e2,e3,e4,e5,e6,e7,e8,e9,strmC_low]
 refine S2.intro (fun h3=>?_) (fun h3=>?_) <;> simp -dsimp only [aqT0,ROp0,aqA,↓seqK,↓blkK,↓loopK,step,stepBin,eqB,Nat.add_assoc nid,simprocAttr,z0,Int.cast_ofNat_Int,Int.reduceBEq,Int.reduceBNe,Int.reduceLT,Int.reduceLE,Int.reduceAdd,Int.reduceSub,Int.reduceMul,Int.reduceToNat,Int.reduceNeg,Int.reduceTMod,Int.reduceEq,not_false_eq_true,Int.reducePow,Int.reduceFDiv,Nat.reducePow,Nat.reduceSub,Nat.reduceMul,Nat.min_eq_left,Nat.reduceEqDiff,BEq.rfl,Int.tdiv_one,LN_succ,e1,e2,e3,e4,e5,e6,e7,e8,e9,strmC_low]
 ·refine CallX.on (next_c s _ nl A (q+1) 3 (by omega) (by omega) hA (by omega)) (subH_get (by simp only [aqA,↓seqK,↓blkK,↓loopK,step,stepBin,eqB,Nat.add_assoc nid,simprocAttr,z0,e1,e2,e3,e4,e5,e6,e7,e8,e9])) ?_
  simp -dsimp only [aqT0,ROp0,aqA,↓seqK,↓blkK,↓loopK,step,stepBin,eqB,Nat.add_assoc nid,simprocAttr,z0,Int.cast_ofNat_Int,Int.reduceBEq,Int.reduceBNe,Int.reduceLT,Int.reduceLE,Int.reduceAdd,Int.reduceSub,Int.reduceMul,Int.reduceToNat,Int.reduceNeg,Int.reduceTMod,Int.reduceEq,not_false_eq_true,Int.reducePow,Int.reduceFDiv,Nat.reducePow,Nat.reduceSub,Nat.reduceMul,Nat.min_eq_left,Nat.reduceEqDiff,BEq.rfl,Int.tdiv_one,LN_succ,e1,e2,e3,e4,e5,e6,e7,e8,e9,strmC_low]
  refine S2.intro (fun h4=>?_) (fun h4=>?_) <;> simp -dsimp only [aqT0,ROp0,aqA,↓seqK,↓blkK,↓loopK,step,stepBin,eqB,Nat.add_assoc nid,simprocAttr,z0,Int.cast_ofNat_Int,Int.reduceBEq,Int.reduceBNe,Int.reduceLT,Int.reduceLE,Int.reduceAdd,Int.reduceSub,Int.reduceMul,Int.reduceToNat,Int.reduceNeg,Int.reduceTMod,Int.reduceEq,not_false_eq_true,Int.reducePow,Int.reduceFDiv,Nat.reducePow,Nat.reduceSub,Nat.reduceMul,Nat.min_eq_left,Nat.reduceEqDiff,BEq.rfl,Int.tdiv_one,LN_succ,e1,e2,e3,e4,e5,e6,e7,e8,e9,strmC_low]
  ·refine CallX.on (next_c s _ nl A (q+1+1) _ (by omega) (by omega) hA (by omega)) (subH_get (by simp only [aqA,↓seqK,↓blkK,↓loopK,step,stepBin,eqB,Nat.add_assoc nid,simprocAttr,z0,e1,e2,e3,e4,e5,e6,e7,e8,e9])) ?_
   simp -dsimp only [aqT0,ROp0,aqA,↓seqK,↓blkK,↓loopK,step,stepBin,eqB,Nat.add_assoc nid,simprocAttr,z0,Int.cast_ofNat_Int,Int.reduceBEq,Int.reduceBNe,Int.reduceLT,Int.reduceLE,Int.reduceAdd,Int.reduceSub,Int.reduceMul,Int.reduceToNat,Int.reduceNeg,Int.reduceTMod,Int.reduceEq,not_false_eq_true,Int.reducePow,Int.reduceFDiv,Nat.reducePow,Nat.reduceSub,Nat.reduceMul,Nat.min_eq_left,Nat.reduceEqDiff,BEq.rfl,Int.tdiv_one,LN_succ,e1,e2,e3,e4,e5,e6,e7,e8,e9,strmC_low]
   have hI0:=nextV_bd A (q+1+1) (n:=(R.length:Int)) (by omega)
   obtain ⟨I,hI⟩:∃ I:Nat,nextV A (q+1+1) (R.length:Int)=I:=⟨_,(Int.toNat_of_nonneg hI0.1).symm⟩
   rw [hI] at hI0 ⊢
   have hIR:I<R.length:=by omega
   refine ⟨by omega,?_⟩
   refine CallX.some_go (T:=9) (nl:=nl) (A:=A) (p:=q+1+1+1) (g:=fun i=>[[49],[65]].getD i []) (by simp only [aqA,↓seqK,↓blkK,↓loopK,step,stepBin,eqB,Nat.add_assoc nid,simprocAttr,z0,e1,e2,e3,e4,e5,e6,e7,e8,e9]) (by simp only [aqA,↓seqK,↓blkK,↓loopK,step,stepBin,eqB,Nat.add_assoc nid,simprocAttr,z0,e1,e2,e3,e4,e5,e6,e7,e8,e9]) (by simp only [aqA,↓seqK,↓blkK,↓loopK,step,stepBin,eqB,Nat.add_assoc nid,simprocAttr,z0,e1,e2,e3,e4,e5,e6,e7,e8,e9]) (by omega) (by omega) hA (by omega) (by omega) ?_
   simp -dsimp only [aqT0,ROp0,aqA,↓seqK,↓blkK,↓loopK,step,stepBin,eqB,Nat.add_assoc nid,simprocAttr,z0,Int.cast_ofNat_Int,Int.reduceBEq,Int.reduceBNe,Int.reduceLT,Int.reduceLE,Int.reduceAdd,Int.reduceSub,Int.reduceMul,Int.reduceToNat,Int.reduceNeg,Int.reduceTMod,Int.reduceEq,not_false_eq_true,Int.reducePow,Int.reduceFDiv,Nat.reducePow,Nat.reduceSub,Nat.reduceMul,Nat.min_eq_left,Nat.reduceEqDiff,BEq.rfl,Int.tdiv_one,LN_succ,e1,e2,e3,e4,e5,e6,e7,e8,e9,strmC_low]
   have hb:=getD_all (P:=fun x:List UInt8=>x.length≤1) (l:=[[49],[65]]) (d:=[]) (by simp) (pickI_lt A (q+1+1+1) (n:=2) (by omega))
   generalize ([[49],[65]].getD (pickI A (q+1+1+1) 2) []:List UInt8)=b at hb ⊢
   have hRI:=hR2.at I
   have hlb:(R.getD I []++b).length≤7:=by rw [List.length_append]; omega
   rw [getD_setS R _ hIR]
   refine ⟨by rw [← List.length_append]; omega,by omega,?_⟩
   refine CallX.on (flip_c s _ nl A (q+1+1+1+1) 60 (by omega) (by omega) hA (by omega)) (subH_get (by simp only [aqA,↓seqK,↓blkK,↓loopK,step,stepBin,eqB,Nat.add_assoc nid,simprocAttr,z0,e1,e2,e3,e4,e5,e6,e7,e8,e9])) ?_
   simp -dsimp only [aqT0,ROp0,aqA,↓seqK,↓blkK,↓loopK,step,stepBin,eqB,Nat.add_assoc nid,simprocAttr,z0,Int.cast_ofNat_Int,Int.reduceBEq,Int.reduceBNe,Int.reduceLT,Int.reduceLE,Int.reduceAdd,Int.reduceSub,Int.reduceMul,Int.reduceToNat,Int.reduceNeg,Int.reduceTMod,Int.reduceEq,not_false_eq_true,Int.reducePow,Int.reduceFDiv,Nat.reducePow,Nat.reduceSub,Nat.reduceMul,Nat.min_eq_left,Nat.reduceEqDiff,BEq.rfl,Int.tdiv_one,LN_succ,e1,e2,e3,e4,e5,e6,e7,e8,e9,strmC_low]
   refine S2.intro (fun h7=>?_) (fun h7=>?_) <;> simp -dsimp only [aqT0,ROp0,aqA,↓seqK,↓blkK,↓loopK,step,stepBin,eqB,Nat.add_assoc nid,simprocAttr,z0,Int.cast_ofNat_Int,Int.reduceBEq,Int.reduceBNe,Int.reduceLT,Int.reduceLE,Int.reduceAdd,Int.reduceSub,Int.reduceMul,Int.reduceToNat,Int.reduceNeg,Int.reduceTMod,Int.reduceEq,not_false_eq_true,Int.reducePow,Int.reduceFDiv,Nat.reducePow,Nat.reduceSub,Nat.reduceMul,Nat.min_eq_left,Nat.reduceEqDiff,BEq.rfl,Int.tdiv_one,LN_succ,e1,e2,e3,e4,e5,e6,e7,e8,e9,strmC_low]
   ·refine EndOK.mk (⟨[],pass⟩,(q+1+1+1+1)+1) ⟨⟨by simp,fun r hr=>by simp at hr,by simp only; omega⟩,by simp only; omega⟩ ?_
    refine RetOK.go [] [(nid,1)] (.inl rfl) ?_
    simp [a11,cvT,step,res,e1,e2,e3,e4,e5,e6,e7,e8,e9,strmC,arrS]
   ·refine EndOK.mk (⟨R.set I (R.getD I []++b),pass⟩,(q+1+1+1+1)+1) ⟨⟨by simp only [List.length_set]; omega,(hR2.mono (by omega)).set I hlb,by simp only; omega⟩,by simp only; omega⟩ ?_
    refine RetOK.go [(nid,nid+36)] [] (.inl rfl) ?_
    simp [a11,cvT,step,res,e1,e2,e3,e4,e5,e6,e7,e8,e9,strmC,arrS,-List.getD_eq_getElem?_getD]
  refine S2.intro (fun h5=>?_) (fun h5=>?_) <;> simp -dsimp only [aqT0,ROp0,aqA,↓seqK,↓blkK,↓loopK,step,stepBin,eqB,Nat.add_assoc nid,simprocAttr,z0,Int.cast_ofNat_Int,Int.reduceBEq,Int.reduceBNe,Int.reduceLT,Int.reduceLE,Int.reduceAdd,Int.reduceSub,Int.reduceMul,Int.reduceToNat,Int.reduceNeg,Int.reduceTMod,Int.reduceEq,not_false_eq_true,Int.reducePow,Int.reduceFDiv,Nat.reducePow,Nat.reduceSub,Nat.reduceMul,Nat.min_eq_left,Nat.reduceEqDiff,BEq.rfl,Int.tdiv_one,LN_succ,e1,e2,e3,e4,e5,e6,e7,e8,e9,strmC_low]
  ·refine CallX.on (next_c s _ nl A (q+1+1) _ (by omega) (by omega) hA (by omega)) (subH_get (by simp only [aqA,↓seqK,↓blkK,↓loopK,step,stepBin,eqB,Nat.add_assoc nid,simprocAttr,z0,e1,e2,e3,e4,e5,e6,e7,e8,e9])) ?_
   simp -dsimp only [aqT0,ROp0,aqA,↓seqK,↓blkK,↓loopK,step,stepBin,eqB,Nat.add_assoc nid,simprocAttr,z0,Int.cast_ofNat_Int,Int.reduceBEq,Int.reduceBNe,Int.reduceLT,Int.reduceLE,Int.reduceAdd,Int.reduceSub,Int.reduceMul,Int.reduceToNat,Int.reduceNeg,Int.reduceTMod,Int.reduceEq,not_false_eq_true,Int.reducePow,Int.reduceFDiv,Nat.reducePow,Nat.reduceSub,Nat.reduceMul,Nat.min_eq_left,Nat.reduceEqDiff,BEq.rfl,Int.tdiv_one,LN_succ,e1,e2,e3,e4,e5,e6,e7,e8,e9,strmC_low]
   have hI0:=nextV_bd A (q+1+1) (n:=(R.length:Int)) (by omega)
   obtain ⟨I,hI⟩:∃ I:Nat,nextV A (q+1+1) (R.length:Int)=I:=⟨_,(Int.toNat_of_nonneg hI0.1).symm⟩
   rw [hI] at hI0 ⊢
   have hIR:I<R.length:=by omega
   refine CallX.some_go (T:=9) (nl:=nl) (A:=A) (p:=q+1+1+1) (g:=fun i=>[[],[65],[32]].getD i []) (by simp only [aqA,↓seqK,↓blkK,↓loopK,step,stepBin,eqB,Nat.add_assoc nid,simprocAttr,z0,e1,e2,e3,e4,e5,e6,e7,e8,e9]) (by simp only [aqA,↓seqK,↓blkK,↓loopK,step,stepBin,eqB,Nat.add_assoc nid,simprocAttr,z0,e1,e2,e3,e4,e5,e6,e7,e8,e9]) (by simp only [aqA,↓seqK,↓blkK,↓loopK,step,stepBin,eqB,Nat.add_assoc nid,simprocAttr,z0,e1,e2,e3,e4,e5,e6,e7,e8,e9]) (by omega) (by omega) hA (by omega) (by omega) ?_
   simp -dsimp only [aqT0,ROp0,aqA,↓seqK,↓blkK,↓loopK,step,stepBin,eqB,Nat.add_assoc nid,simprocAttr,z0,Int.cast_ofNat_Int,Int.reduceBEq,Int.reduceBNe,Int.reduceLT,Int.reduceLE,Int.reduceAdd,Int.reduceSub,Int.reduceMul,Int.reduceToNat,Int.reduceNeg,Int.reduceTMod,Int.reduceEq,not_false_eq_true,Int.reducePow,Int.reduceFDiv,Nat.reducePow,Nat.reduceSub,Nat.reduceMul,Nat.min_eq_left,Nat.reduceEqDiff,BEq.rfl,Int.tdiv_one,LN_succ,e1,e2,e3,e4,e5,e6,e7,e8,e9,strmC_low]
   have hb:=getD_all (P:=fun x:List UInt8=>x.length≤1) (l:=[[],[65],[32]]) (d:=[]) (by simp) (pickI_lt A (q+1+1+1) (n:=3) (by omega))
   generalize ([[],[65],[32]].getD (pickI A (q+1+1+1) 3) []:List UInt8)=b at hb ⊢
   rw [getD_setS R _ hIR]
   refine ⟨by omega,?_⟩
   refine CallX.on (flip_c s _ nl A (q+1+1+1+1) 60 (by omega) (by omega) hA (by omega)) (subH_get (by simp only [aqA,↓seqK,↓blkK,↓loopK,step,stepBin,eqB,Nat.add_assoc nid,simprocAttr,z0,e1,e2,e3,e4,e5,e6,e7,e8,e9])) ?_
   simp -dsimp only [aqT0,ROp0,aqA,↓seqK,↓blkK,↓loopK,step,stepBin,eqB,Nat.add_assoc nid,simprocAttr,z0,Int.cast_ofNat_Int,Int.reduceBEq,Int.reduceBNe,Int.reduceLT,Int.reduceLE,Int.reduceAdd,Int.reduceSub,Int.reduceMul,Int.reduceToNat,Int.reduceNeg,Int.reduceTMod,Int.reduceEq,not_false_eq_true,Int.reducePow,Int.reduceFDiv,Nat.reducePow,Nat.reduceSub,Nat.reduceMul,Nat.min_eq_left,Nat.reduceEqDiff,BEq.rfl,Int.tdiv_one,LN_succ,e1,e2,e3,e4,e5,e6,e7,e8,e9,strmC_low]
   refine S2.intro (fun h7=>?_) (fun h7=>?_) <;> simp -dsimp only [aqT0,ROp0,aqA,↓seqK,↓blkK,↓loopK,step,stepBin,eqB,Nat.add_assoc nid,simprocAttr,z0,Int.cast_ofNat_Int,Int.reduceBEq,Int.reduceBNe,Int.reduceLT,Int.reduceLE,Int.reduceAdd,Int.reduceSub,Int.reduceMul,Int.reduceToNat,Int.reduceNeg,Int.reduceTMod,Int.reduceEq,not_false_eq_true,Int.reducePow,Int.reduceFDiv,Nat.reducePow,Nat.reduceSub,Nat.reduceMul,Nat.min_eq_left,Nat.reduceEqDiff,BEq.rfl,Int.tdiv_one,LN_succ,e1,e2,e3,e4,e5,e6,e7,e8,e9,strmC_low]
   ·refine EndOK.mk (⟨[],pass⟩,(q+1+1+1+1)+1) ⟨⟨by simp,fun r hr=>by simp at hr,by simp only; omega⟩,by simp only; omega⟩ ?_
    refine RetOK.go [] [(nid,1)] (.inl rfl) ?_
    simp [a11,cvT,step,res,e1,e2,e3,e4,e5,e6,e7,e8,e9,strmC,arrS]
   ·refine EndOK.mk (⟨R.set I b,pass⟩,(q+1+1+1+1)+1) ⟨⟨by simp only [List.length_set]; omega,(hR2.mono (by omega)).set I (by omega),by simp only; omega⟩,by simp only; omega⟩ ?_
    refine RetOK.go [(nid,nid+36)] [] (.inl rfl) ?_
    simp [a11,cvT,step,res,e1,e2,e3,e4,e5,e6,e7,e8,e9,strmC,arrS,-List.getD_eq_getElem?_getD]
  ·refine CallX.some_go (T:=9) (nl:=nl) (A:=A) (p:=q+1+1) (g:=fun i=>[[50,49],[49,49],[65],[63]].getD i []) (by simp only [aqA,↓seqK,↓blkK,↓loopK,step,stepBin,eqB,Nat.add_assoc nid,simprocAttr,z0,e1,e2,e3,e4,e5,e6,e7,e8,e9]) (by simp only [aqA,↓seqK,↓blkK,↓loopK,step,stepBin,eqB,Nat.add_assoc nid,simprocAttr,z0,e1,e2,e3,e4,e5,e6,e7,e8,e9]) (by simp only [aqA,↓seqK,↓blkK,↓loopK,step,stepBin,eqB,Nat.add_assoc nid,simprocAttr,z0,e1,e2,e3,e4,e5,e6,e7,e8,e9]) (by omega) (by omega) hA (by omega) (by omega) ?_
   simp -dsimp only [aqT0,ROp0,aqA,↓seqK,↓blkK,↓loopK,step,stepBin,eqB,Nat.add_assoc nid,simprocAttr,z0,Int.cast_ofNat_Int,Int.reduceBEq,Int.reduceBNe,Int.reduceLT,Int.reduceLE,Int.reduceAdd,Int.reduceSub,Int.reduceMul,Int.reduceToNat,Int.reduceNeg,Int.reduceTMod,Int.reduceEq,not_false_eq_true,Int.reducePow,Int.reduceFDiv,Nat.reducePow,Nat.reduceSub,Nat.reduceMul,Nat.min_eq_left,Nat.reduceEqDiff,BEq.rfl,Int.tdiv_one,LN_succ,e1,e2,e3,e4,e5,e6,e7,e8,e9,strmC_low]
   have hb:=getD_all (P:=fun x:List UInt8=>x.length≤2) (l:=[[50,49],[49,49],[65],[63]]) (d:=[]) (by simp) (pickI_lt A (q+1+1) (n:=4) (by omega))
   generalize ([[50,49],[49,49],[65],[63]].getD (pickI A (q+1+1) 4) []:List UInt8)=b at hb ⊢
   refine CallX.on (flip_c s _ nl A (q+1+1+1) 60 (by omega) (by omega) hA (by omega)) (subH_get (by simp only [aqA,↓seqK,↓blkK,↓loopK,step,stepBin,eqB,Nat.add_assoc nid,simprocAttr,z0,e1,e2,e3,e4,e5,e6,e7,e8,e9])) ?_
   simp -dsimp only [aqT0,ROp0,aqA,↓seqK,↓blkK,↓loopK,step,stepBin,eqB,Nat.add_assoc nid,simprocAttr,z0,Int.cast_ofNat_Int,Int.reduceBEq,Int.reduceBNe,Int.reduceLT,Int.reduceLE,Int.reduceAdd,Int.reduceSub,Int.reduceMul,Int.reduceToNat,Int.reduceNeg,Int.reduceTMod,Int.reduceEq,not_false_eq_true,Int.reducePow,Int.reduceFDiv,Nat.reducePow,Nat.reduceSub,Nat.reduceMul,Nat.min_eq_left,Nat.reduceEqDiff,BEq.rfl,Int.tdiv_one,LN_succ,e1,e2,e3,e4,e5,e6,e7,e8,e9,strmC_low]
   refine S2.intro (fun h7=>?_) (fun h7=>?_) <;> simp -dsimp only [aqT0,ROp0,aqA,↓seqK,↓blkK,↓loopK,step,stepBin,eqB,Nat.add_assoc nid,simprocAttr,z0,Int.cast_ofNat_Int,Int.reduceBEq,Int.reduceBNe,Int.reduceLT,Int.reduceLE,Int.reduceAdd,Int.reduceSub,Int.reduceMul,Int.reduceToNat,Int.reduceNeg,Int.reduceTMod,Int.reduceEq,not_false_eq_true,Int.reducePow,Int.reduceFDiv,Nat.reducePow,Nat.reduceSub,Nat.reduceMul,Nat.min_eq_left,Nat.reduceEqDiff,BEq.rfl,Int.tdiv_one,LN_succ,e1,e2,e3,e4,e5,e6,e7,e8,e9,strmC_low]
   ·refine EndOK.mk (⟨[],b⟩,(q+1+1+1)+1) ⟨⟨by simp,fun r hr=>by simp at hr,by simp only; omega⟩,by simp only; omega⟩ ?_
    refine RetOK.go [] [(nid,1)] (.inl rfl) ?_
    simp [a11,cvT,step,res,e1,e2,e3,e4,e5,e6,e7,e8,e9,strmC,arrS]
   ·refine EndOK.mk (⟨R,b⟩,(q+1+1+1)+1) ⟨⟨by simp only [List.length_set]; omega,hR2.mono (by omega),by simp only; omega⟩,by simp only; omega⟩ ?_
    refine RetOK.go [(nid,nid+36)] [] (.inl rfl) ?_
    simp [a11,cvT,step,res,e1,e2,e3,e4,e5,e6,e7,e8,e9,strmC,arrS,-List.getD_eq_getElem?_getD]
 ·refine CallX.on (flip_c s _ nl A (q+1) 60 (by omega) (by omega) hA (by omega)) (subH_get (by simp only [aqA,↓seqK,↓blkK,↓loopK,step,stepBin,eqB,Nat.add_assoc nid,simprocAttr,z0,e1,e2,e3,e4,e5,e6,e7,e8,e9])) ?_
  simp -dsimp only [aqT0,ROp0,aqA,↓seqK,↓blkK,↓loopK,step,stepBin,eqB,Nat.add_assoc nid,simprocAttr,z0,Int.cast_ofNat_Int,Int.reduceBEq,Int.reduceBNe,Int.reduceLT,Int.reduceLE,Int.reduceAdd,Int.reduceSub,Int.reduceMul,Int.reduceToNat,Int.reduceNeg,Int.reduceTMod,Int.reduceEq,not_false_eq_true,Int.reducePow,Int.reduceFDiv,Nat.reducePow,Nat.reduceSub,Nat.reduceMul,Nat.min_eq_left,Nat.reduceEqDiff,BEq.rfl,Int.tdiv_one,LN_succ,e1,e2,e3,e4,e5,e6,e7,e8,e9,strmC_low]
  refine S2.intro (fun h7=>?_) (fun h7=>?_) <;> simp -dsimp only [aqT0,ROp0,aqA,↓seqK,↓blkK,↓loopK,step,stepBin,eqB,Nat.add_assoc nid,simprocAttr,z0,Int.cast_ofNat_Int,Int.reduceBEq,Int.reduceBNe,Int.reduceLT,Int.reduceLE,Int.reduceAdd,Int.reduceSub,Int.reduceMul,Int.reduceToNat,Int.reduceNeg,Int.reduceTMod,Int.reduceEq,not_false_eq_true,Int.reducePow,Int.reduceFDiv,Nat.reducePow,Nat.reduceSub,Nat.reduceMul,Nat.min_eq_left,Nat.reduceEqDiff,BEq.rfl,Int.tdiv_one,LN_succ,e1,e2,e3,e4,e5,e6,e7,e8,e9,strmC_low]
  ·refine EndOK.mk (⟨[],pass⟩,(q+1)+1) ⟨⟨by simp,fun r hr=>by simp at hr,by simp only; omega⟩,by simp only; omega⟩ ?_
   refine RetOK.go [] [(nid,1)] (.inl rfl) ?_
   simp [a11,cvT,step,res,e1,e2,e3,e4,e5,e6,e7,e8,e9,strmC,arrS]
  ·refine EndOK.mk (⟨R,pass⟩,(q+1)+1) ⟨⟨by simp only [List.length_set]; omega,hR2.mono (by omega),by simp only; omega⟩,by simp only; omega⟩ ?_
   refine RetOK.go [(nid,nid+36)] [] (.inl rfl) ?_
   simp [a11,cvT,step,res,e1,e2,e3,e4,e5,e6,e7,e8,e9,strmC,arrS,-List.getD_eq_getElem?_getD]
theorem oneDie_ok:waferV ⟨[[49]],[49]⟩=0:=by decide
set_option maxHeartbeats 4000000 in
theorem rightWaferX (s nid:Nat) (nl:Bool) (A:List Int) (p:Nat) (h:s<nid) (hp:p≤1099500000000) (hA:A.length≤17592186044416) :
  ∃ x:Waf × Nat,(waferV x.1=0∧WafSmall x.1∧x.2≤p+400)∧ACall Tryz.prog 5 [.ptr s 0] [(s,strmC nl A p)] nid (.agg [.sl nid 0 x.1.rows.length,.str x.1.pass]) [(s,strmC nl A x.2),(nid,arrS x.1.rows)]:=by
 obtain ⟨e1,e2,e3,e4,e5,e6,e7,e8,e9⟩:=id_all h
 refine acall_ex c5 (by simp [a5]) ?_
 simp -dsimp only [aqT0,ROp0,aqA,↓seqK,↓blkK,↓loopK,step,stepBin,eqB,Nat.add_assoc nid,simprocAttr,z0,Int.cast_ofNat_Int,Int.reduceBEq,Int.reduceBNe,Int.reduceLT,Int.reduceLE,Int.reduceAdd,Int.reduceSub,Int.reduceMul,Int.reduceToNat,Int.reduceNeg,Int.reduceTMod,Int.reduceEq,not_false_eq_true,Int.reducePow,Int.reduceFDiv,Nat.reducePow,Nat.reduceSub,Nat.reduceMul,Nat.min_eq_left,Nat.reduceEqDiff,BEq.rfl,Int.tdiv_one,LN_succ,e1,e2,e3,e4,e5,e6,e7,e8,e9,a5,strmC_low]
 refine LP0.mkP (fun x:Nat × Nat=>x.1≤6∧x.2≤p+60 * x.1) (fun x=>⟨[(4,.int .i64 x.1),(2,.ptr nid 0),(0,.ptr s 0)],[(s,strmC nl A x.2),(nid,some (.box 28 [.lit true 0 [],.str []]))],nid+200,nid⟩) (fun x=>7 - x.1) (0,p) ⟨by omega,by omega⟩ (Cov.go [] [] ?_) (fun x hx=>?_)
 ·simp [cvT,step,res,e1,e2,e3,e4,e5,e6,e7,e8,e9,strmC]
 obtain ⟨k,q⟩:=x
 obtain ⟨hk,hq⟩:=hx
 simp only at hk hq
 simp -dsimp only [aqT0,ROp0,aqA,↓seqK,↓blkK,↓loopK,step,stepBin,eqB,Nat.add_assoc nid,simprocAttr,z0,Int.cast_ofNat_Int,Int.reduceBEq,Int.reduceBNe,Int.reduceLT,Int.reduceLE,Int.reduceAdd,Int.reduceSub,Int.reduceMul,Int.reduceToNat,Int.reduceNeg,Int.reduceTMod,Int.reduceEq,not_false_eq_true,Int.reducePow,Int.reduceFDiv,Nat.reducePow,Nat.reduceSub,Nat.reduceMul,Nat.min_eq_left,Nat.reduceEqDiff,BEq.rfl,Int.tdiv_one,LN_succ,e1,e2,e3,e4,e5,e6,e7,e8,e9,strmC_low]
 refine S2.dec (fun h2=>?_) (fun h2=>?_) <;> simp -dsimp only [aqT0,ROp0,aqA,↓seqK,↓blkK,↓loopK,step,stepBin,eqB,Nat.add_assoc nid,simprocAttr,z0,Int.cast_ofNat_Int,Int.reduceBEq,Int.reduceBNe,Int.reduceLT,Int.reduceLE,Int.reduceAdd,Int.reduceSub,Int.reduceMul,Int.reduceToNat,Int.reduceNeg,Int.reduceTMod,Int.reduceEq,not_false_eq_true,Int.reducePow,Int.reduceFDiv,Nat.reducePow,Nat.reduceSub,Nat.reduceMul,Nat.min_eq_left,Nat.reduceEqDiff,BEq.rfl,Int.tdiv_one,LN_succ,e1,e2,e3,e4,e5,e6,e7,e8,e9,strmC_low]
 ·refine CallX.onE (waferOfX s _ nl A q (by omega) (by omega) hA) (subH_get (by simp only [aqA,↓seqK,↓blkK,↓loopK,step,stepBin,eqB,Nat.add_assoc nid,simprocAttr,z0,e1,e2,e3,e4,e5,e6,e7,e8,e9])) (fun x hx=>?_)
  obtain ⟨W,r⟩:=x
  obtain ⟨hW,hr⟩:=hx
  simp only at hW hr
  unfold arrS
  simp -dsimp only [aqT0,ROp0,aqA,↓seqK,↓blkK,↓loopK,step,stepBin,eqB,Nat.add_assoc nid,simprocAttr,z0,Int.cast_ofNat_Int,Int.reduceBEq,Int.reduceBNe,Int.reduceLT,Int.reduceLE,Int.reduceAdd,Int.reduceSub,Int.reduceMul,Int.reduceToNat,Int.reduceNeg,Int.reduceTMod,Int.reduceEq,not_false_eq_true,Int.reducePow,Int.reduceFDiv,Nat.reducePow,Nat.reduceSub,Nat.reduceMul,Nat.min_eq_left,Nat.reduceEqDiff,BEq.rfl,Int.tdiv_one,LN_succ,e1,e2,e3,e4,e5,e6,e7,e8,e9,strmC_low]
  refine CallX.lent [nid+208] (fun nl'=>by
   simp only [lends,lend,aqA,↓seqK,↓blkK,↓loopK,step,stepBin,eqB,Nat.add_assoc nid,simprocAttr,z0,Int.cast_ofNat_Int,Int.reduceBEq,Int.reduceBNe,Int.reduceLT,Int.reduceLE,Int.reduceAdd,Int.reduceSub,Int.reduceMul,Int.reduceToNat,Int.reduceNeg,Int.reduceTMod,Int.reduceEq,not_false_eq_true,Int.reducePow,Int.reduceFDiv,Nat.reducePow,Nat.reduceSub,Nat.reduceMul,Nat.min_eq_left,Nat.reduceEqDiff,BEq.rfl,Int.tdiv_one,LN_succ,e1,e2,e3,e4,e5,e6,e7,e8,e9]
   exact waferFault_all (nl' _) W _ hW.bd) rfl rfl (by simp only [List.mem_singleton,forall_eq,aqA,↓seqK,↓blkK,↓loopK,step,stepBin,eqB,Nat.add_assoc nid,simprocAttr,z0,Int.cast_ofNat_Int,Int.reduceBEq,Int.reduceBNe,Int.reduceLT,Int.reduceLE,Int.reduceAdd,Int.reduceSub,Int.reduceMul,Int.reduceToNat,Int.reduceNeg,Int.reduceTMod,Int.reduceEq,not_false_eq_true,Int.reducePow,Int.reduceFDiv,Nat.reducePow,Nat.reduceSub,Nat.reduceMul,Nat.min_eq_left,Nat.reduceEqDiff,BEq.rfl,Int.tdiv_one,LN_succ]) ?_
  simp -dsimp only [aqT0,ROp0,aqA,↓seqK,↓blkK,↓loopK,step,stepBin,eqB,Nat.add_assoc nid,simprocAttr,z0,Int.cast_ofNat_Int,Int.reduceBEq,Int.reduceBNe,Int.reduceLT,Int.reduceLE,Int.reduceAdd,Int.reduceSub,Int.reduceMul,Int.reduceToNat,Int.reduceNeg,Int.reduceTMod,Int.reduceEq,not_false_eq_true,Int.reducePow,Int.reduceFDiv,Nat.reducePow,Nat.reduceSub,Nat.reduceMul,Nat.min_eq_left,Nat.reduceEqDiff,BEq.rfl,Int.tdiv_one,LN_succ,e1,e2,e3,e4,e5,e6,e7,e8,e9,strmC_low]
  refine S2.intro (fun h3=>?_) (fun h3=>?_) <;> simp -dsimp only [aqT0,ROp0,aqA,↓seqK,↓blkK,↓loopK,step,stepBin,eqB,Nat.add_assoc nid,simprocAttr,z0,Int.cast_ofNat_Int,Int.reduceBEq,Int.reduceBNe,Int.reduceLT,Int.reduceLE,Int.reduceAdd,Int.reduceSub,Int.reduceMul,Int.reduceToNat,Int.reduceNeg,Int.reduceTMod,Int.reduceEq,not_false_eq_true,Int.reducePow,Int.reduceFDiv,Nat.reducePow,Nat.reduceSub,Nat.reduceMul,Nat.min_eq_left,Nat.reduceEqDiff,BEq.rfl,Int.tdiv_one,LN_succ,e1,e2,e3,e4,e5,e6,e7,e8,e9,strmC_low]
  ·refine EndOK.mk (W,r) ⟨by simpa using h3,hW,by simp only; omega⟩ ?_
   refine RetOK.go [(nid,nid+208)] [] (.inl rfl) ?_
   simp [a5,cvT,step,res,e1,e2,e3,e4,e5,e6,e7,e8,e9,strmC,arrS]
  ·refine ⟨by unfold inI64; omega,(k+1,r),⟨⟨by simp only; omega,by simp only; omega⟩,by simp only; omega⟩,Cov.go [] [] ?_⟩
   simp [cvT,step,res,e1,e2,e3,e4,e5,e6,e7,e8,e9,strmC]
 ·refine EndOK.mk (⟨[[49]],[49]⟩,q) ⟨oneDie_ok,⟨by simp,fun r hr=>by simp at hr; subst hr; simp,by simp⟩,by simp only; omega⟩ ?_
  refine RetOK.go [(nid,nid+204)] [] (.inl rfl) ?_
  simp [a5,cvT,step,res,e1,e2,e3,e4,e5,e6,e7,e8,e9,strmC,arrS]
open Go.RowKit
theorem sameWafer_c (nl nl':Bool) (V W:Waf) (nid:Nat) (hV:V.rows.length≤1000000) (hW:W.rows.length≤1000000):ACall Tryz.prog 8 [wafP nl V,wafP nl' W] [] nid (.bool (V.rows==W.rows && V.pass==W.pass)) []:=by
 refine acall_run c8 (by simp [a8]) ?_
 unfold wafP
 simp -dsimp only [a8,aqA,↓seqK,↓blkK,↓loopK,step,stepBin,eqB,Nat.add_assoc nid,simprocAttr,z0,Int.cast_ofNat_Int,Int.reduceBEq,Int.reduceBNe,Int.reduceLT,Int.reduceLE,Int.reduceAdd,Int.reduceSub,Int.reduceMul,Int.reduceToNat,Int.reduceNeg,Int.reduceTMod,Int.reduceEq,not_false_eq_true,Int.reducePow,Int.reduceFDiv,Nat.reducePow,Nat.reduceSub,Nat.reduceMul,Nat.min_eq_left,Nat.reduceEqDiff,BEq.rfl,Int.tdiv_one,LN_succ]
 refine CallO.pure (equalS_c nl nl' _ _ _ (by omega) (by omega)) ?_
 simp -dsimp only [aqA,↓seqK,↓blkK,↓loopK,step,stepBin,eqB,Nat.add_assoc nid,simprocAttr,z0,Int.cast_ofNat_Int,Int.reduceBEq,Int.reduceBNe,Int.reduceLT,Int.reduceLE,Int.reduceAdd,Int.reduceSub,Int.reduceMul,Int.reduceToNat,Int.reduceNeg,Int.reduceTMod,Int.reduceEq,not_false_eq_true,Int.reducePow,Int.reduceFDiv,Nat.reducePow,Nat.reduceSub,Nat.reduceMul,Nat.min_eq_left,Nat.reduceEqDiff,BEq.rfl,Int.tdiv_one,LN_succ]
 refine S2.intro (fun h=>?_) (fun h=>?_) <;> simp -dsimp only [aqA,↓seqK,↓blkK,↓loopK,step,stepBin,eqB,Nat.add_assoc nid,simprocAttr,z0,Int.cast_ofNat_Int,Int.reduceBEq,Int.reduceBNe,Int.reduceLT,Int.reduceLE,Int.reduceAdd,Int.reduceSub,Int.reduceMul,Int.reduceToNat,Int.reduceNeg,Int.reduceTMod,Int.reduceEq,not_false_eq_true,Int.reducePow,Int.reduceFDiv,Nat.reducePow,Nat.reduceSub,Nat.reduceMul,Nat.min_eq_left,Nat.reduceEqDiff,BEq.rfl,Int.tdiv_one,LN_succ]
 ·refine RetOK.pure (.inl rfl) rfl ?_
  simp [cvT,step,res,h]
 ·refine RetOK.pure (.inl rfl) rfl ?_
  simp [cvT,step,res,h]
open Go.RowKit
def boxW (nl:Bool) (W:Waf):Option ABlk:=some (.box 28 [.lit nl W.rows.length [.s fun i=>W.rows.getD i []],.str W.pass])
open Go.RowKit
theorem WafOk.bd {W:Waf} (h:WafOk W) (hp:W.pass.length≤1000000):WafBd W:=⟨by have:=h.len; omega,fun r hr=>by have:=(h.row r hr).2.1; omega,hp⟩
open Go.RowKit
theorem orSt_c (nl:Bool) (a b:List UInt8) (nid:Nat):ACall Tryz.prog 27 [.lit nl 2 [.s fun i=>[a,b].getD i []]] [] nid (.str (if a=[] then b else a)) []:=by
 refine acall_sr c27 (by simp [a27]) ?_
 unfold a27
 refine SR.seq ?_
 simp -dsimp only [aqA,↓seqK,↓blkK,↓loopK,step,stepBin,eqB,Nat.add_assoc nid,simprocAttr,z0,Int.cast_ofNat_Int,Int.reduceBEq,Int.reduceBNe,Int.reduceLT,Int.reduceLE,Int.reduceAdd,Int.reduceSub,Int.reduceMul,Int.reduceToNat,Int.reduceNeg,Int.reduceTMod,Int.reduceEq,not_false_eq_true,Int.reducePow,Int.reduceFDiv,Nat.reducePow,Nat.reduceSub,Nat.reduceMul,Nat.min_eq_left,Nat.reduceEqDiff,BEq.rfl,Int.tdiv_one,LN_succ]
 refine SR.seq ?_
 simp -dsimp only [aqA,↓seqK,↓blkK,↓loopK,step,stepBin,eqB,Nat.add_assoc nid,simprocAttr,z0,Int.cast_ofNat_Int,Int.reduceBEq,Int.reduceBNe,Int.reduceLT,Int.reduceLE,Int.reduceAdd,Int.reduceSub,Int.reduceMul,Int.reduceToNat,Int.reduceNeg,Int.reduceTMod,Int.reduceEq,not_false_eq_true,Int.reducePow,Int.reduceFDiv,Nat.reducePow,Nat.reduceSub,Nat.reduceMul,Nat.min_eq_left,Nat.reduceEqDiff,BEq.rfl,Int.tdiv_one,LN_succ]
 refine SR.seqW (ι:=PLift (a=[]∧b=[])) (fun _=>⟨[(3,.str [])],[],nid+2000,nid⟩) ?_ (fun ⟨h⟩=>?_)
 rotate_left
 ·refine SR.run (t:=.mk) ?_
  rw [if_pos h.1,h.2]
  simp -dsimp only [aqA,↓seqK,↓blkK,↓loopK,step,stepBin,eqB,Nat.add_assoc nid,simprocAttr,z0,Int.cast_ofNat_Int,Int.reduceBEq,Int.reduceBNe,Int.reduceLT,Int.reduceLE,Int.reduceAdd,Int.reduceSub,Int.reduceMul,Int.reduceToNat,Int.reduceNeg,Int.reduceTMod,Int.reduceEq,not_false_eq_true,Int.reducePow,Int.reduceFDiv,Nat.reducePow,Nat.reduceSub,Nat.reduceMul,Nat.min_eq_left,Nat.reduceEqDiff,BEq.rfl,Int.tdiv_one,LN_succ]
  refine RetOK.go [] [] (.inl rfl) ?_
  simp [a27,cvT,step,res]
 refine SR.seqTo ⟨[(8,.int .i64 (0:Nat)),(7,.int .i64 2),(6,.lit nl 2 [.s fun i=>[a,b].getD i []]),(3,.str [])],[],nid+100,nid⟩ ?_ ?_
 ·simp -dsimp only [aqA,↓seqK,↓blkK,↓loopK,step,stepBin,eqB,Nat.add_assoc nid,simprocAttr,z0,Int.cast_ofNat_Int,Int.reduceBEq,Int.reduceBNe,Int.reduceLT,Int.reduceLE,Int.reduceAdd,Int.reduceSub,Int.reduceMul,Int.reduceToNat,Int.reduceNeg,Int.reduceTMod,Int.reduceEq,not_false_eq_true,Int.reducePow,Int.reduceFDiv,Nat.reducePow,Nat.reduceSub,Nat.reduceMul,Nat.min_eq_left,Nat.reduceEqDiff,BEq.rfl,Int.tdiv_one,LN_succ]
  refine Cov.go [] [] ?_
  simp [cvT,step,res,ColsEq.refl,-List.getD_eq_getElem?_getD]
 refine SR.block ?_
 refine SR.loopP (fun k:Nat=>k≤2∧(0<k→a=[])∧(1<k→b=[])) (fun k=>⟨[(8,.int .i64 (k:Nat)),(7,.int .i64 2),(6,.lit nl 2 [.s fun i=>[a,b].getD i []]),(3,.str [])],[],nid+200,nid⟩) (fun k=>3 - k) 0 ⟨by omega,fun h=>by omega,fun h=>by omega⟩ (Cov.go [] [] ?_) (fun k hk=>?_)
 ·simp [cvT,step,res,ColsEq.refl,-List.getD_eq_getElem?_getD]
 obtain ⟨hk,h0,h1⟩:=hk
 refine SR.run (t:=.mk) ?_
 rcases (by omega:k=0∨k=1∨k=2) with rfl | rfl | rfl
 ·simp -dsimp only [aqA,↓seqK,↓blkK,↓loopK,step,stepBin,eqB,Nat.add_assoc nid,simprocAttr,z0,Int.cast_ofNat_Int,Int.reduceBEq,Int.reduceBNe,Int.reduceLT,Int.reduceLE,Int.reduceAdd,Int.reduceSub,Int.reduceMul,Int.reduceToNat,Int.reduceNeg,Int.reduceTMod,Int.reduceEq,not_false_eq_true,Int.reducePow,Int.reduceFDiv,Nat.reducePow,Nat.reduceSub,Nat.reduceMul,Nat.min_eq_left,Nat.reduceEqDiff,BEq.rfl,Int.tdiv_one,LN_succ]
  refine S2.intro (fun h4=>?_) (fun h4=>?_) <;> simp -dsimp only [aqA,↓seqK,↓blkK,↓loopK,step,stepBin,eqB,Nat.add_assoc nid,simprocAttr,z0,Int.cast_ofNat_Int,Int.reduceBEq,Int.reduceBNe,Int.reduceLT,Int.reduceLE,Int.reduceAdd,Int.reduceSub,Int.reduceMul,Int.reduceToNat,Int.reduceNeg,Int.reduceTMod,Int.reduceEq,not_false_eq_true,Int.reducePow,Int.reduceFDiv,Nat.reducePow,Nat.reduceSub,Nat.reduceMul,Nat.min_eq_left,Nat.reduceEqDiff,BEq.rfl,Int.tdiv_one,LN_succ]
  ·rw [if_neg (by simpa using h4)]
   refine RetOK.go [] [] (.inl rfl) ?_
   simp [a27,cvT,step,res]
  ·refine ⟨by unfold inI64; omega,1,⟨⟨by omega,fun _=>by simpa using h4,fun h=>by omega⟩,by omega⟩,Cov.go [] [] ?_⟩
   simp [cvT,step,res,ColsEq.refl,-List.getD_eq_getElem?_getD]
 ·simp -dsimp only [aqA,↓seqK,↓blkK,↓loopK,step,stepBin,eqB,Nat.add_assoc nid,simprocAttr,z0,Int.cast_ofNat_Int,Int.reduceBEq,Int.reduceBNe,Int.reduceLT,Int.reduceLE,Int.reduceAdd,Int.reduceSub,Int.reduceMul,Int.reduceToNat,Int.reduceNeg,Int.reduceTMod,Int.reduceEq,not_false_eq_true,Int.reducePow,Int.reduceFDiv,Nat.reducePow,Nat.reduceSub,Nat.reduceMul,Nat.min_eq_left,Nat.reduceEqDiff,BEq.rfl,Int.tdiv_one,LN_succ]
  rw [if_pos (h0 (by omega))]
  refine S2.intro (fun h4=>?_) (fun h4=>?_) <;> simp -dsimp only [aqA,↓seqK,↓blkK,↓loopK,step,stepBin,eqB,Nat.add_assoc nid,simprocAttr,z0,Int.cast_ofNat_Int,Int.reduceBEq,Int.reduceBNe,Int.reduceLT,Int.reduceLE,Int.reduceAdd,Int.reduceSub,Int.reduceMul,Int.reduceToNat,Int.reduceNeg,Int.reduceTMod,Int.reduceEq,not_false_eq_true,Int.reducePow,Int.reduceFDiv,Nat.reducePow,Nat.reduceSub,Nat.reduceMul,Nat.min_eq_left,Nat.reduceEqDiff,BEq.rfl,Int.tdiv_one,LN_succ]
  ·refine RetOK.go [] [] (.inl rfl) ?_
   simp [a27,cvT,step,res]
  ·refine ⟨by unfold inI64; omega,2,⟨⟨by omega,fun _=>h0 (by omega),fun _=>by simpa using h4⟩,by omega⟩,Cov.go [] [] ?_⟩
   simp [cvT,step,res,ColsEq.refl,-List.getD_eq_getElem?_getD]
 ·simp -dsimp only [aqA,↓seqK,↓blkK,↓loopK,step,stepBin,eqB,Nat.add_assoc nid,simprocAttr,z0,Int.cast_ofNat_Int,Int.reduceBEq,Int.reduceBNe,Int.reduceLT,Int.reduceLE,Int.reduceAdd,Int.reduceSub,Int.reduceMul,Int.reduceToNat,Int.reduceNeg,Int.reduceTMod,Int.reduceEq,not_false_eq_true,Int.reducePow,Int.reduceFDiv,Nat.reducePow,Nat.reduceSub,Nat.reduceMul,Nat.min_eq_left,Nat.reduceEqDiff,BEq.rfl,Int.tdiv_one,LN_succ]
  refine ⟨⟨h0 (by omega),h1 (by omega)⟩,Cov.go [] [] ?_⟩
  simp [cvT,step,res]
def wafTo (W:Waf) (k:Nat):List UInt8:=linesV (passLn W.pass::(W.rows.take k).map lineR)
theorem linesV_snoc (v:List (List UInt8)) (l:List UInt8):linesV (v++[l])=linesV v++(l++[10]):=by
 unfold linesV
 simp
theorem wafTo_succ (W:Waf) {k:Nat} (h:k<W.rows.length):wafTo W (k+1)=wafTo W k++(lineR (W.rows.getD k [])++[10]):=by
 unfold wafTo
 rw [← linesV_snoc]
 have e:W.rows.take (k+1)=W.rows.take k++[W.rows.getD k []]:=by rw [List.take_add_one,List.getElem?_eq_getElem h,List.getD_eq_getElem?_getD,List.getElem?_eq_getElem h]; rfl
 rw [e]
 simp
theorem wafTo_zero (W:Waf):wafTo W 0=passLn W.pass++[10]:=by simp [wafTo,linesV]
theorem wafTo_all (W:Waf):wafTo W W.rows.length=wafT W:=by unfold wafTo wafT wafLn; rw [List.take_length]
theorem lineR_len {s:List UInt8} (hs:s.length≤60):(lineR s).length≤400:=by
 have hl:=runs_len s
 have hj:=joinW_len ((runsV s).map wordR) 5 (fun x hx=>by
  obtain ⟨y,_,rfl⟩:=List.mem_map.1 hx
  exact wordR_len y)
 rw [List.length_map] at hj
 unfold lineR
 omega
theorem row60 {W:Waf} (hW:WafOk W) {k:Nat} (h:k<W.rows.length):(W.rows.getD k []).length≤60:=by
 rw [List.getD_eq_getElem?_getD,List.getElem?_eq_getElem h]
 exact (hW.row _ (List.getElem_mem _)).2.1
theorem wafTo_len {W:Waf} (hW:WafOk W) (hp:W.pass.length≤1000000):∀ k,k≤W.rows.length→(wafTo W k).length≤1000100+401 * k
 | 0,_=>by rw [wafTo_zero]; unfold passLn passN; split <;> simp <;> omega
 | k+1,h=>by
  rw [wafTo_succ W (by omega)]
  have ih:=wafTo_len hW hp k (by omega)
  have h2:=lineR_len (s:=W.rows.getD k []) (row60 hW (by omega))
  simp only [List.length_append,List.length_cons,List.length_nil]
  omega
set_option maxHeartbeats 8000000 in
theorem text_c (nl:Bool) (W:Waf) (nid:Nat) (h:waferV W=0) (hp:W.pass.length≤1000000):ACall Tryz.prog 6 [wafP nl W] [] nid (.tup [.str (wafT W),.int .i64 0]) []:=by
 have hW:=waferV_ok h
 have hTl:=wafTo_len hW hp
 have hrw:=hW.len
 refine acall_sr c6 (by simp [a6]) ?_
 unfold a6 wafP
 refine SR.seq ?_
 simp -dsimp only [aqA,↓seqK,↓blkK,↓loopK,step,stepBin,eqB,Nat.add_assoc nid,simprocAttr,z0,Int.cast_ofNat_Int,Int.reduceBEq,Int.reduceBNe,Int.reduceLT,Int.reduceLE,Int.reduceAdd,Int.reduceSub,Int.reduceMul,Int.reduceToNat,Int.reduceNeg,Int.reduceTMod,Int.reduceEq,not_false_eq_true,Int.reducePow,Int.reduceFDiv,Nat.reducePow,Nat.reduceSub,Nat.reduceMul,Nat.min_eq_left,Nat.reduceEqDiff,BEq.rfl,Int.tdiv_one,LN_succ]
 refine SR.seqTo ⟨[(1,.ptr nid 0)],[(nid,boxW nl W)],nid+100,nid⟩ ?_ ?_
 ·simp -dsimp only [aqA,↓seqK,↓blkK,↓loopK,step,stepBin,eqB,Nat.add_assoc nid,simprocAttr,z0,Int.cast_ofNat_Int,Int.reduceBEq,Int.reduceBNe,Int.reduceLT,Int.reduceLE,Int.reduceAdd,Int.reduceSub,Int.reduceMul,Int.reduceToNat,Int.reduceNeg,Int.reduceTMod,Int.reduceEq,not_false_eq_true,Int.reducePow,Int.reduceFDiv,Nat.reducePow,Nat.reduceSub,Nat.reduceMul,Nat.min_eq_left,Nat.reduceEqDiff,BEq.rfl,Int.tdiv_one,LN_succ]
  refine CallO.pure (checkWafer_all nl W _ (hW.bd hp)) ?_
  rw [h]
  simp -dsimp only [aqA,↓seqK,↓blkK,↓loopK,step,stepBin,eqB,Nat.add_assoc nid,simprocAttr,z0,Int.cast_ofNat_Int,Int.reduceBEq,Int.reduceBNe,Int.reduceLT,Int.reduceLE,Int.reduceAdd,Int.reduceSub,Int.reduceMul,Int.reduceToNat,Int.reduceNeg,Int.reduceTMod,Int.reduceEq,not_false_eq_true,Int.reducePow,Int.reduceFDiv,Nat.reducePow,Nat.reduceSub,Nat.reduceMul,Nat.min_eq_left,Nat.reduceEqDiff,BEq.rfl,Int.tdiv_one,LN_succ]
  refine Cov.go [] [] ?_
  simp [cvT,step,res,boxW]
 refine SR.seq ?_
 unfold boxW
 simp -dsimp only [aqA,↓seqK,↓blkK,↓loopK,step,stepBin,eqB,Nat.add_assoc nid,simprocAttr,z0,Int.cast_ofNat_Int,Int.reduceBEq,Int.reduceBNe,Int.reduceLT,Int.reduceLE,Int.reduceAdd,Int.reduceSub,Int.reduceMul,Int.reduceToNat,Int.reduceNeg,Int.reduceTMod,Int.reduceEq,not_false_eq_true,Int.reducePow,Int.reduceFDiv,Nat.reducePow,Nat.reduceSub,Nat.reduceMul,Nat.min_eq_left,Nat.reduceEqDiff,BEq.rfl,Int.tdiv_one,LN_succ]
 have hor:=fun nl' m=>orSt_c nl' W.pass [45] m
 have hT0:=wafTo_zero W
 have hpl:passLn W.pass=[112,97,115,115,32]++(if W.pass=[] then [45] else W.pass):=rfl
 have hql:(if W.pass=[] then [45] else W.pass).length≤1000001:=by split <;> first | omega | (simp; done) | (simp; omega)
 refine SR.seqTo ⟨[(5,.ptr (nid+4) 0),(1,.ptr nid 0)],[(nid,boxW nl W),(nid+4,bld (nid+4) (nid+8) (wafTo W 0)),(nid+8,arrBy (wafTo W 0))],nid+200,nid⟩ ?_ ?_
 ·simp -dsimp only [aqA,↓seqK,↓blkK,↓loopK,step,stepBin,eqB,Nat.add_assoc nid,simprocAttr,z0,Int.cast_ofNat_Int,Int.reduceBEq,Int.reduceBNe,Int.reduceLT,Int.reduceLE,Int.reduceAdd,Int.reduceSub,Int.reduceMul,Int.reduceToNat,Int.reduceNeg,Int.reduceTMod,Int.reduceEq,not_false_eq_true,Int.reducePow,Int.reduceFDiv,Nat.reducePow,Nat.reduceSub,Nat.reduceMul,Nat.min_eq_left,Nat.reduceEqDiff,BEq.rfl,Int.tdiv_one,LN_succ]
  refine CallO.lent [nid+112] (fun nl'=>by
   simp only [lends,lend,noOs,aqA,↓seqK,↓blkK,↓loopK,step,stepBin,eqB,Nat.add_assoc nid,simprocAttr,z0,Int.cast_ofNat_Int,Int.reduceBEq,Int.reduceBNe,Int.reduceLT,Int.reduceLE,Int.reduceAdd,Int.reduceSub,Int.reduceMul,Int.reduceToNat,Int.reduceNeg,Int.reduceTMod,Int.reduceEq,not_false_eq_true,Int.reducePow,Int.reduceFDiv,Nat.reducePow,Nat.reduceSub,Nat.reduceMul,Nat.min_eq_left,Nat.reduceEqDiff,BEq.rfl,Int.tdiv_one,LN_succ]
   exact hor _ _) rfl rfl (by simp [getH]) ?_
  simp -dsimp only [aqA,↓seqK,↓blkK,↓loopK,step,stepBin,eqB,Nat.add_assoc nid,simprocAttr,z0,Int.cast_ofNat_Int,Int.reduceBEq,Int.reduceBNe,Int.reduceLT,Int.reduceLE,Int.reduceAdd,Int.reduceSub,Int.reduceMul,Int.reduceToNat,Int.reduceNeg,Int.reduceTMod,Int.reduceEq,not_false_eq_true,Int.reducePow,Int.reduceFDiv,Nat.reducePow,Nat.reduceSub,Nat.reduceMul,Nat.min_eq_left,Nat.reduceEqDiff,BEq.rfl,Int.tdiv_one,LN_succ]
  generalize (if W.pass=[] then [45] else W.pass)=ps at *
  refine ⟨by simp; omega,by simp; omega,?_⟩
  refine CallO.on (wr0_c (nid+100) _ (by omega) _ (by simp; omega)) (subH_get (by simp only [aqA,↓seqK,↓blkK,↓loopK,step,stepBin,eqB,Nat.add_assoc nid,simprocAttr,z0,Int.cast_ofNat_Int,Int.reduceBEq,Int.reduceBNe,Int.reduceLT,Int.reduceLE,Int.reduceAdd,Int.reduceSub,Int.reduceMul,Int.reduceToNat,Int.reduceNeg,Int.reduceTMod,Int.reduceEq,not_false_eq_true,Int.reducePow,Int.reduceFDiv,Nat.reducePow,Nat.reduceSub,Nat.reduceMul,Nat.min_eq_left,Nat.reduceEqDiff,BEq.rfl,Int.tdiv_one,LN_succ,bld0])) ?_
  have e:112::97::115::115::32::(ps++[10])=wafTo W 0:=by rw [hT0,hpl]; rfl
  rw [e]
  clear hTl hT0 e
  generalize wafTo W 0=T at *
  unfold bld arrBy
  simp -dsimp only [aqA,↓seqK,↓blkK,↓loopK,step,stepBin,eqB,Nat.add_assoc nid,simprocAttr,z0,Int.cast_ofNat_Int,Int.reduceBEq,Int.reduceBNe,Int.reduceLT,Int.reduceLE,Int.reduceAdd,Int.reduceSub,Int.reduceMul,Int.reduceToNat,Int.reduceNeg,Int.reduceTMod,Int.reduceEq,not_false_eq_true,Int.reducePow,Int.reduceFDiv,Nat.reducePow,Nat.reduceSub,Nat.reduceMul,Nat.min_eq_left,Nat.reduceEqDiff,BEq.rfl,Int.tdiv_one,LN_succ]
  refine Cov.go [(nid+4,nid+100),(nid+8,nid+128)] [] ?_
  simp [cvT,step,res,boxW,bld,arrBy,byteC,ColsEq.refl,-List.getD_eq_getElem?_getD]
 have hne:∀ k,wafTo W k≠[]:=fun k=>by unfold wafTo linesV passLn passN; simp
 refine SR.seqW (ι:=Unit) (fun _=>⟨[(5,.ptr (nid+4) 0)],[(nid+4,bld (nid+4) (nid+8) (wafT W)),(nid+8,arrBy (wafT W))],nid+9000,nid⟩) ?_ (fun _=>?_)
 rotate_left
 ·have hne2:wafT W≠[]:=by rw [← wafTo_all]; exact hne _
  refine SR.run (t:=.mk) ?_
  unfold bld arrBy
  simp -dsimp only [aqA,↓seqK,↓blkK,↓loopK,step,stepBin,eqB,Nat.add_assoc nid,simprocAttr,z0,Int.cast_ofNat_Int,Int.reduceBEq,Int.reduceBNe,Int.reduceLT,Int.reduceLE,Int.reduceAdd,Int.reduceSub,Int.reduceMul,Int.reduceToNat,Int.reduceNeg,Int.reduceTMod,Int.reduceEq,not_false_eq_true,Int.reducePow,Int.reduceFDiv,Nat.reducePow,Nat.reduceSub,Nat.reduceMul,Nat.min_eq_left,Nat.reduceEqDiff,BEq.rfl,Int.tdiv_one,LN_succ]
  refine CallO.on (bstr_c (nid+4) (nid+8) _ (by simp) (wafT W) hne2) (subH_cons (by simp only [aqA,↓seqK,↓blkK,↓loopK,step,stepBin,eqB,Nat.add_assoc nid,simprocAttr,z0,Int.cast_ofNat_Int,Int.reduceBEq,Int.reduceBNe,Int.reduceLT,Int.reduceLE,Int.reduceAdd,Int.reduceSub,Int.reduceMul,Int.reduceToNat,Int.reduceNeg,Int.reduceTMod,Int.reduceEq,not_false_eq_true,Int.reducePow,Int.reduceFDiv,Nat.reducePow,Nat.reduceSub,Nat.reduceMul,Nat.min_eq_left,Nat.reduceEqDiff,BEq.rfl,Int.tdiv_one,LN_succ,bld]) (subH_get (by simp only [aqA,↓seqK,↓blkK,↓loopK,step,stepBin,eqB,Nat.add_assoc nid,simprocAttr,z0,Int.cast_ofNat_Int,Int.reduceBEq,Int.reduceBNe,Int.reduceLT,Int.reduceLE,Int.reduceAdd,Int.reduceSub,Int.reduceMul,Int.reduceToNat,Int.reduceNeg,Int.reduceTMod,Int.reduceEq,not_false_eq_true,Int.reducePow,Int.reduceFDiv,Nat.reducePow,Nat.reduceSub,Nat.reduceMul,Nat.min_eq_left,Nat.reduceEqDiff,BEq.rfl,Int.tdiv_one,LN_succ,arrBy]))) ?_
  simp -dsimp only [aqA,↓seqK,↓blkK,↓loopK,step,stepBin,eqB,Nat.add_assoc nid,simprocAttr,z0,Int.cast_ofNat_Int,Int.reduceBEq,Int.reduceBNe,Int.reduceLT,Int.reduceLE,Int.reduceAdd,Int.reduceSub,Int.reduceMul,Int.reduceToNat,Int.reduceNeg,Int.reduceTMod,Int.reduceEq,not_false_eq_true,Int.reducePow,Int.reduceFDiv,Nat.reducePow,Nat.reduceSub,Nat.reduceMul,Nat.min_eq_left,Nat.reduceEqDiff,BEq.rfl,Int.tdiv_one,LN_succ]
  refine RetOK.go [] [] (.inl rfl) ?_
  simp [a6,cvT,step,res]
 refine SR.seqTo ⟨[(23,.int .i64 (0:Nat)),(22,.int .i64 (W.rows.length:Nat)),(21,.lit nl W.rows.length [.s fun i=>W.rows.getD i []]),(5,.ptr (nid+4) 0)],[(nid+4,bld (nid+4) (nid+8) (wafTo W 0)),(nid+8,arrBy (wafTo W 0))],nid+300,nid⟩ ?_ ?_
 ·unfold boxW bld arrBy
  simp -dsimp only [aqA,↓seqK,↓blkK,↓loopK,step,stepBin,eqB,Nat.add_assoc nid,simprocAttr,z0,Int.cast_ofNat_Int,Int.reduceBEq,Int.reduceBNe,Int.reduceLT,Int.reduceLE,Int.reduceAdd,Int.reduceSub,Int.reduceMul,Int.reduceToNat,Int.reduceNeg,Int.reduceTMod,Int.reduceEq,not_false_eq_true,Int.reducePow,Int.reduceFDiv,Nat.reducePow,Nat.reduceSub,Nat.reduceMul,Nat.min_eq_left,Nat.reduceEqDiff,BEq.rfl,Int.tdiv_one,LN_succ]
  refine Cov.go [] [] ?_
  simp [cvT,step,res,bld,arrBy,byteC,ColsEq.refl,-List.getD_eq_getElem?_getD]
 refine SR.block ?_
 refine SR.loopP (fun k:Nat=>k≤W.rows.length) (fun k=>⟨[(23,.int .i64 (k:Nat)),(22,.int .i64 (W.rows.length:Nat)),(21,.lit nl W.rows.length [.s fun i=>W.rows.getD i []]),(5,.ptr (nid+4) 0)],[(nid+4,bld (nid+4) (nid+8) (wafTo W k)),(nid+8,arrBy (wafTo W k))],nid+400,nid⟩) (fun k=>W.rows.length+1 - k) 0 (by omega) (Cov.go [] [] ?_) (fun k hk=>?_)
 ·simp [cvT,step,res,bld,arrBy,byteC,ColsEq.refl,-List.getD_eq_getElem?_getD]
 by_cases hkl:k<W.rows.length
 rotate_left
 ·have hke:k=W.rows.length:=by omega
  have d1:decide ((k:Int)<(W.rows.length:Nat))=false:=decide_eq_false (by omega)
  refine SR.run (t:=.mk) ?_
  unfold bld arrBy
  simp -dsimp only [aqA,↓seqK,↓blkK,↓loopK,step,stepBin,eqB,Nat.add_assoc nid,simprocAttr,z0,Int.cast_ofNat_Int,Int.reduceBEq,Int.reduceBNe,Int.reduceLT,Int.reduceLE,Int.reduceAdd,Int.reduceSub,Int.reduceMul,Int.reduceToNat,Int.reduceNeg,Int.reduceTMod,Int.reduceEq,not_false_eq_true,Int.reducePow,Int.reduceFDiv,Nat.reducePow,Nat.reduceSub,Nat.reduceMul,Nat.min_eq_left,Nat.reduceEqDiff,BEq.rfl,Int.tdiv_one,LN_succ,d1]
  refine ⟨(),Cov.go [] [] ?_⟩
  rw [hke,wafTo_all]
  simp [cvT,step,res,bld,arrBy,byteC,ColsEq.refl,-List.getD_eq_getElem?_getD]
 have d1:decide ((k:Int)<(W.rows.length:Nat))=true:=decide_eq_true (by omega)
 have hr60:=row60 hW hkl
 have hll:=lineR_len hr60
 have hrl:=fun m=>rowLine_c (W.rows.getD k []) m hr60
 have hsc:=wafTo_succ W hkl
 have hTk:=hTl k hk
 generalize hT1:wafTo W (k+1)=T1 at *
 generalize hTd:wafTo W k=T at *
 refine SR.run (t:=.mk) ?_
 unfold bld arrBy
 simp -dsimp only [aqA,↓seqK,↓blkK,↓loopK,step,stepBin,eqB,Nat.add_assoc nid,simprocAttr,z0,Int.cast_ofNat_Int,Int.reduceBEq,Int.reduceBNe,Int.reduceLT,Int.reduceLE,Int.reduceAdd,Int.reduceSub,Int.reduceMul,Int.reduceToNat,Int.reduceNeg,Int.reduceTMod,Int.reduceEq,not_false_eq_true,Int.reducePow,Int.reduceFDiv,Nat.reducePow,Nat.reduceSub,Nat.reduceMul,Nat.min_eq_left,Nat.reduceEqDiff,BEq.rfl,Int.tdiv_one,LN_succ,d1]
 refine ⟨⟨by omega,by omega⟩,?_⟩
 refine CallO.pure (hrl _) ?_
 simp -dsimp only [aqA,↓seqK,↓blkK,↓loopK,step,stepBin,eqB,Nat.add_assoc nid,simprocAttr,z0,Int.cast_ofNat_Int,Int.reduceBEq,Int.reduceBNe,Int.reduceLT,Int.reduceLE,Int.reduceAdd,Int.reduceSub,Int.reduceMul,Int.reduceToNat,Int.reduceNeg,Int.reduceTMod,Int.reduceEq,not_false_eq_true,Int.reducePow,Int.reduceFDiv,Nat.reducePow,Nat.reduceSub,Nat.reduceMul,Nat.min_eq_left,Nat.reduceEqDiff,BEq.rfl,Int.tdiv_one,LN_succ]
 refine ⟨by first | omega | (simp only [List.length_append,List.length_cons,List.length_nil]; omega),?_⟩
 refine CallO.on (wr_c (nid+4) (nid+8) _ (by omega) (by omega) (by simp) T _ (by first | omega | (simp only [List.length_append,List.length_cons,List.length_nil]; omega))) (subH_cons (by simp only [aqA,↓seqK,↓blkK,↓loopK,step,stepBin,eqB,Nat.add_assoc nid,simprocAttr,z0,Int.cast_ofNat_Int,Int.reduceBEq,Int.reduceBNe,Int.reduceLT,Int.reduceLE,Int.reduceAdd,Int.reduceSub,Int.reduceMul,Int.reduceToNat,Int.reduceNeg,Int.reduceTMod,Int.reduceEq,not_false_eq_true,Int.reducePow,Int.reduceFDiv,Nat.reducePow,Nat.reduceSub,Nat.reduceMul,Nat.min_eq_left,Nat.reduceEqDiff,BEq.rfl,Int.tdiv_one,LN_succ,bld]) (subH_get (by simp only [aqA,↓seqK,↓blkK,↓loopK,step,stepBin,eqB,Nat.add_assoc nid,simprocAttr,z0,Int.cast_ofNat_Int,Int.reduceBEq,Int.reduceBNe,Int.reduceLT,Int.reduceLE,Int.reduceAdd,Int.reduceSub,Int.reduceMul,Int.reduceToNat,Int.reduceNeg,Int.reduceTMod,Int.reduceEq,not_false_eq_true,Int.reducePow,Int.reduceFDiv,Nat.reducePow,Nat.reduceSub,Nat.reduceMul,Nat.min_eq_left,Nat.reduceEqDiff,BEq.rfl,Int.tdiv_one,LN_succ,arrBy]))) ?_
 rw [← hsc]
 unfold bld arrBy
 simp -dsimp only [aqA,↓seqK,↓blkK,↓loopK,step,stepBin,eqB,Nat.add_assoc nid,simprocAttr,z0,Int.cast_ofNat_Int,Int.reduceBEq,Int.reduceBNe,Int.reduceLT,Int.reduceLE,Int.reduceAdd,Int.reduceSub,Int.reduceMul,Int.reduceToNat,Int.reduceNeg,Int.reduceTMod,Int.reduceEq,not_false_eq_true,Int.reducePow,Int.reduceFDiv,Nat.reducePow,Nat.reduceSub,Nat.reduceMul,Nat.min_eq_left,Nat.reduceEqDiff,BEq.rfl,Int.tdiv_one,LN_succ]
 refine ⟨by unfold inI64; omega,k+1,⟨by omega,by omega⟩,Cov.go [(nid+8,nid+428)] [] ?_⟩
 rw [hT1]
 simp [cvT,step,res,bld,arrBy,byteC,ColsEq.refl,-List.getD_eq_getElem?_getD]
set_option maxHeartbeats 8000000 in
theorem waferLines_c (nl:Bool) (W:Waf) (nid:Nat) (h:waferV W=0) (hp:W.pass.length≤1000000):ACall Tryz.prog 23 [wafP nl W] [] nid (.str (wafT W)) []:=by
 have hW:=waferV_ok h
 have hTl:=wafTo_len hW hp
 have hrw:=hW.len
 refine acall_sr c23 (by simp [a23]) ?_
 unfold a23 wafP
 refine SR.seq ?_
 simp -dsimp only [aqA,↓seqK,↓blkK,↓loopK,step,stepBin,eqB,Nat.add_assoc nid,simprocAttr,z0,Int.cast_ofNat_Int,Int.reduceBEq,Int.reduceBNe,Int.reduceLT,Int.reduceLE,Int.reduceAdd,Int.reduceSub,Int.reduceMul,Int.reduceToNat,Int.reduceNeg,Int.reduceTMod,Int.reduceEq,not_false_eq_true,Int.reducePow,Int.reduceFDiv,Nat.reducePow,Nat.reduceSub,Nat.reduceMul,Nat.min_eq_left,Nat.reduceEqDiff,BEq.rfl,Int.tdiv_one,LN_succ]
 refine SR.seq ?_
 simp -dsimp only [aqA,↓seqK,↓blkK,↓loopK,step,stepBin,eqB,Nat.add_assoc nid,simprocAttr,z0,Int.cast_ofNat_Int,Int.reduceBEq,Int.reduceBNe,Int.reduceLT,Int.reduceLE,Int.reduceAdd,Int.reduceSub,Int.reduceMul,Int.reduceToNat,Int.reduceNeg,Int.reduceTMod,Int.reduceEq,not_false_eq_true,Int.reducePow,Int.reduceFDiv,Nat.reducePow,Nat.reduceSub,Nat.reduceMul,Nat.min_eq_left,Nat.reduceEqDiff,BEq.rfl,Int.tdiv_one,LN_succ]
 refine SR.seqTo ⟨[(3,.str (if W.pass=[] then [45] else W.pass)),(1,.ptr nid 0)],[(nid,boxW nl W)],nid+100,nid⟩ ?_ ?_
 ·by_cases h0:W.pass=[]
  ·have d0:(W.pass==[])=true:=by simpa using h0
   rw [if_pos h0]
   simp -dsimp only [aqA,↓seqK,↓blkK,↓loopK,step,stepBin,eqB,Nat.add_assoc nid,simprocAttr,z0,Int.cast_ofNat_Int,Int.reduceBEq,Int.reduceBNe,Int.reduceLT,Int.reduceLE,Int.reduceAdd,Int.reduceSub,Int.reduceMul,Int.reduceToNat,Int.reduceNeg,Int.reduceTMod,Int.reduceEq,not_false_eq_true,Int.reducePow,Int.reduceFDiv,Nat.reducePow,Nat.reduceSub,Nat.reduceMul,Nat.min_eq_left,Nat.reduceEqDiff,BEq.rfl,Int.tdiv_one,LN_succ,d0]
   refine Cov.go [] [] ?_
   simp [cvT,step,res,boxW,ColsEq.refl,-List.getD_eq_getElem?_getD]
  ·have d0:(W.pass==[])=false:=by simpa using h0
   rw [if_neg h0]
   simp -dsimp only [aqA,↓seqK,↓blkK,↓loopK,step,stepBin,eqB,Nat.add_assoc nid,simprocAttr,z0,Int.cast_ofNat_Int,Int.reduceBEq,Int.reduceBNe,Int.reduceLT,Int.reduceLE,Int.reduceAdd,Int.reduceSub,Int.reduceMul,Int.reduceToNat,Int.reduceNeg,Int.reduceTMod,Int.reduceEq,not_false_eq_true,Int.reducePow,Int.reduceFDiv,Nat.reducePow,Nat.reduceSub,Nat.reduceMul,Nat.min_eq_left,Nat.reduceEqDiff,BEq.rfl,Int.tdiv_one,LN_succ,d0]
   refine Cov.go [] [] ?_
   simp [cvT,step,res,boxW,ColsEq.refl,-List.getD_eq_getElem?_getD]
 have hT0:=wafTo_zero W
 have hpl:passLn W.pass=[112,97,115,115,32]++(if W.pass=[] then [45] else W.pass):=rfl
 have hql:(if W.pass=[] then [45] else W.pass).length≤1000001:=by split <;> first | omega | (simp; done) | (simp; omega)
 refine SR.seqTo ⟨[(4,.str (wafTo W 0)),(1,.ptr nid 0)],[(nid,boxW nl W)],nid+200,nid⟩ ?_ ?_
 ·generalize (if W.pass=[] then [45] else W.pass)=ps at *
  have e:112::97::115::115::32::(ps++[10])=wafTo W 0:=by rw [hT0,hpl]; rfl
  unfold boxW
  simp -dsimp only [aqA,↓seqK,↓blkK,↓loopK,step,stepBin,eqB,Nat.add_assoc nid,simprocAttr,z0,Int.cast_ofNat_Int,Int.reduceBEq,Int.reduceBNe,Int.reduceLT,Int.reduceLE,Int.reduceAdd,Int.reduceSub,Int.reduceMul,Int.reduceToNat,Int.reduceNeg,Int.reduceTMod,Int.reduceEq,not_false_eq_true,Int.reducePow,Int.reduceFDiv,Nat.reducePow,Nat.reduceSub,Nat.reduceMul,Nat.min_eq_left,Nat.reduceEqDiff,BEq.rfl,Int.tdiv_one,LN_succ]
  rw [e]
  refine ⟨by simp; omega,by simp; omega,Cov.go [] [] ?_⟩
  simp [cvT,step,res,boxW,ColsEq.refl,-List.getD_eq_getElem?_getD]
 refine SR.seqW (ι:=Unit) (fun _=>⟨[(4,.str (wafT W))],[],nid+9000,nid⟩) ?_ (fun _=>?_)
 rotate_left
 ·refine SR.run (t:=.mk) ?_
  simp -dsimp only [aqA,↓seqK,↓blkK,↓loopK,step,stepBin,eqB,Nat.add_assoc nid,simprocAttr,z0,Int.cast_ofNat_Int,Int.reduceBEq,Int.reduceBNe,Int.reduceLT,Int.reduceLE,Int.reduceAdd,Int.reduceSub,Int.reduceMul,Int.reduceToNat,Int.reduceNeg,Int.reduceTMod,Int.reduceEq,not_false_eq_true,Int.reducePow,Int.reduceFDiv,Nat.reducePow,Nat.reduceSub,Nat.reduceMul,Nat.min_eq_left,Nat.reduceEqDiff,BEq.rfl,Int.tdiv_one,LN_succ]
  refine RetOK.go [] [] (.inl rfl) ?_
  simp [a23,cvT,step,res]
 refine SR.seqTo ⟨[(17,.int .i64 (0:Nat)),(16,.int .i64 (W.rows.length:Nat)),(15,.lit nl W.rows.length [.s fun i=>W.rows.getD i []]),(4,.str (wafTo W 0))],[],nid+300,nid⟩ ?_ ?_
 ·unfold boxW
  simp -dsimp only [aqA,↓seqK,↓blkK,↓loopK,step,stepBin,eqB,Nat.add_assoc nid,simprocAttr,z0,Int.cast_ofNat_Int,Int.reduceBEq,Int.reduceBNe,Int.reduceLT,Int.reduceLE,Int.reduceAdd,Int.reduceSub,Int.reduceMul,Int.reduceToNat,Int.reduceNeg,Int.reduceTMod,Int.reduceEq,not_false_eq_true,Int.reducePow,Int.reduceFDiv,Nat.reducePow,Nat.reduceSub,Nat.reduceMul,Nat.min_eq_left,Nat.reduceEqDiff,BEq.rfl,Int.tdiv_one,LN_succ]
  refine Cov.go [] [] ?_
  simp [cvT,step,res,ColsEq.refl,-List.getD_eq_getElem?_getD]
 refine SR.block ?_
 refine SR.loopP (fun k:Nat=>k≤W.rows.length) (fun k=>⟨[(17,.int .i64 (k:Nat)),(16,.int .i64 (W.rows.length:Nat)),(15,.lit nl W.rows.length [.s fun i=>W.rows.getD i []]),(4,.str (wafTo W k))],[],nid+400,nid⟩) (fun k=>W.rows.length+1 - k) 0 (by omega) (Cov.go [] [] ?_) (fun k hk=>?_)
 ·simp [cvT,step,res,ColsEq.refl,-List.getD_eq_getElem?_getD]
 by_cases hkl:k<W.rows.length
 rotate_left
 ·have hke:k=W.rows.length:=by omega
  have d1:decide ((k:Int)<(W.rows.length:Nat))=false:=decide_eq_false (by omega)
  refine SR.run (t:=.mk) ?_
  simp -dsimp only [aqA,↓seqK,↓blkK,↓loopK,step,stepBin,eqB,Nat.add_assoc nid,simprocAttr,z0,Int.cast_ofNat_Int,Int.reduceBEq,Int.reduceBNe,Int.reduceLT,Int.reduceLE,Int.reduceAdd,Int.reduceSub,Int.reduceMul,Int.reduceToNat,Int.reduceNeg,Int.reduceTMod,Int.reduceEq,not_false_eq_true,Int.reducePow,Int.reduceFDiv,Nat.reducePow,Nat.reduceSub,Nat.reduceMul,Nat.min_eq_left,Nat.reduceEqDiff,BEq.rfl,Int.tdiv_one,LN_succ,d1]
  refine ⟨(),Cov.go [] [] ?_⟩
  rw [hke,wafTo_all]
  simp [cvT,step,res]
 have d1:decide ((k:Int)<(W.rows.length:Nat))=true:=decide_eq_true (by omega)
 have hr60:=row60 hW hkl
 have hll:=lineR_len hr60
 have hrl:=fun m=>rowLineR_c (W.rows.getD k []) m hr60
 have hsc:=wafTo_succ W hkl
 have hTk:=hTl k hk
 generalize hT1:wafTo W (k+1)=T1 at *
 generalize hTd:wafTo W k=T at *
 refine SR.run (t:=.mk) ?_
 simp -dsimp only [aqA,↓seqK,↓blkK,↓loopK,step,stepBin,eqB,Nat.add_assoc nid,simprocAttr,z0,Int.cast_ofNat_Int,Int.reduceBEq,Int.reduceBNe,Int.reduceLT,Int.reduceLE,Int.reduceAdd,Int.reduceSub,Int.reduceMul,Int.reduceToNat,Int.reduceNeg,Int.reduceTMod,Int.reduceEq,not_false_eq_true,Int.reducePow,Int.reduceFDiv,Nat.reducePow,Nat.reduceSub,Nat.reduceMul,Nat.min_eq_left,Nat.reduceEqDiff,BEq.rfl,Int.tdiv_one,LN_succ,d1]
 refine ⟨⟨by omega,by omega⟩,?_⟩
 refine CallO.pure (hrl _) ?_
 simp -dsimp only [aqA,↓seqK,↓blkK,↓loopK,step,stepBin,eqB,Nat.add_assoc nid,simprocAttr,z0,Int.cast_ofNat_Int,Int.reduceBEq,Int.reduceBNe,Int.reduceLT,Int.reduceLE,Int.reduceAdd,Int.reduceSub,Int.reduceMul,Int.reduceToNat,Int.reduceNeg,Int.reduceTMod,Int.reduceEq,not_false_eq_true,Int.reducePow,Int.reduceFDiv,Nat.reducePow,Nat.reduceSub,Nat.reduceMul,Nat.min_eq_left,Nat.reduceEqDiff,BEq.rfl,Int.tdiv_one,LN_succ]
 rw [← hsc]
 refine ⟨by simp [-List.getD_eq_getElem?_getD]; omega,by simp [-List.getD_eq_getElem?_getD]; omega,by unfold inI64; omega,k+1,⟨by omega,by omega⟩,Cov.go [] [] ?_⟩
 rw [hT1]
 simp [cvT,step,res,ColsEq.refl,-List.getD_eq_getElem?_getD]
open Go.RowKit Go.Shelf Go.Lib
theorem split_cc (s:List UInt8) (nid:Nat) (hs:s.length<4294967281):ACall Tryz.prog 82 [.str s,.str [10]] [] nid (.lit false (pieces s).length [.s fun i=>(pieces s).getD i []]) [] :=
 acall_lib nid Tryz.func82 (by kernel_rfl) (by kernel_rfl) (fun Y m w vs hl hrep hG hY=>by
  obtain ⟨v0,v1,rfl⟩:∃ v0 v1,vs=[v0,v1]:=by
   match vs,hl with
   | [a,b],_=>exact ⟨a,b,rfl⟩
  have r0:=(hrep 0 _ _ rfl rfl).str_inv
  have r1:=(hrep 1 _ _ rfl rfl).str_inv
  subst r0; subst r1
  obtain ⟨mm,hm⟩:=hG.cell
  have h:=Any.strings_Split Tryz.lays146 (by kernel_rfl) ⟨s.toArray⟩ ⟨([10]:List UInt8).toArray⟩ mm w (by simpa [ByteArray.size] using hs) hm (by decide)
  have hf:Tryz.lays146_ren.f 146=82:=by kernel_rfl
  rw [hf] at h
  have hd:(splitB ⟨([10]:List UInt8).toArray⟩ 0 (countB ⟨s.toArray⟩ ⟨([10]:List UInt8).toArray⟩) ⟨s.toArray⟩).map (·.data.toList)=pieces s:=by
   rw [splitB_data]
   exact split_pieces s
  have hlen:=splitB_all ⟨([10]:List UInt8).toArray⟩ (by decide) 0 _ ⟨s.toArray⟩ rfl
  refine h.mono fun e w' ⟨h1,h2⟩=>?_
  generalize splitB ⟨([10]:List UInt8).toArray⟩ 0 (countB ⟨s.toArray⟩ ⟨([10]:List UInt8).toArray⟩) ⟨s.toArray⟩=L at hd hlen h2
  rw [← hlen] at h1
  have hLl:L.length=(pieces s).length:=by rw [← hd,List.length_map]
  have hat:∀ j,j<L.length→L[j]?=some ⟨((pieces s).getD j []).toArray⟩:=fun j hj=>by
   rw [← hd,List.getD_eq_getElem?_getD,List.getElem?_map,List.getElem?_eq_getElem hj]
   rfl
  refine ⟨_,h1,?_,?_⟩
  ·rw [hLl]
   refine .lit (.l (fun j _=>.string ⟨((pieces s).getD j []).toArray⟩) rfl (fun e=>by cases e) (Nat.le_refl _) (fun j k hj hk=>⟨w.heap.size,0,rfl,fun hy=>by have:=hY _ hy; omega,?_⟩) (fun j k c hj hk=>?_))
   ·have hk0:k=0:=by simpa using hk
    subst hk0
    have hj':j<L.length:=by rw [hLl]; exact hj
    rw [h2]
    have:=hat j hj'
    simp only [List.length_cons,List.length_nil,Nat.zero_add,Nat.mul_one,Nat.add_zero]
    rw [World.cell?_alloc_new]
    simp [this]
   ·match k,hk with
    | 0,hk=>simp at hk; subst hk; exact .s
  ·rw [h2]
   exact ⟨rfl,rfl,rfl,by simp,fun k hk=>by first | exact heap_alloc_old w _ k hk | exact heap_alloc_old w _ hk⟩)
open Go.RowKit Go.Shelf Go.Lib
theorem split32_cc (s:List UInt8) (nid:Nat) (hs:s.length<4294967281):ACall Tryz.prog 82 [.str s,.str [32]] [] nid (.lit false (wrd s).length [.s fun i=>(wrd s).getD i []]) [] :=
 acall_lib nid Tryz.func82 (by kernel_rfl) (by kernel_rfl) (fun Y m w vs hl hrep hG hY=>by
  obtain ⟨v0,v1,rfl⟩:∃ v0 v1,vs=[v0,v1]:=by
   match vs,hl with
   | [a,b],_=>exact ⟨a,b,rfl⟩
  have r0:=(hrep 0 _ _ rfl rfl).str_inv
  have r1:=(hrep 1 _ _ rfl rfl).str_inv
  subst r0; subst r1
  obtain ⟨mm,hm⟩:=hG.cell
  have h:=Any.strings_Split Tryz.lays146 (by kernel_rfl) ⟨s.toArray⟩ ⟨([32]:List UInt8).toArray⟩ mm w (by simpa [ByteArray.size] using hs) hm (by decide)
  have hf:Tryz.lays146_ren.f 146=82:=by kernel_rfl
  rw [hf] at h
  have hd:(splitB ⟨([32]:List UInt8).toArray⟩ 0 (countB ⟨s.toArray⟩ ⟨([32]:List UInt8).toArray⟩) ⟨s.toArray⟩).map (·.data.toList)=wrd s:=by
   rw [splitB_data]
   exact split_wrd s
  have hlen:=splitB_all ⟨([32]:List UInt8).toArray⟩ (by decide) 0 _ ⟨s.toArray⟩ rfl
  refine h.mono fun e w' ⟨h1,h2⟩=>?_
  generalize splitB ⟨([32]:List UInt8).toArray⟩ 0 (countB ⟨s.toArray⟩ ⟨([32]:List UInt8).toArray⟩) ⟨s.toArray⟩=L at hd hlen h2
  rw [← hlen] at h1
  have hLl:L.length=(wrd s).length:=by rw [← hd,List.length_map]
  have hat:∀ j,j<L.length→L[j]?=some ⟨((wrd s).getD j []).toArray⟩:=fun j hj=>by
   rw [← hd,List.getD_eq_getElem?_getD,List.getElem?_map,List.getElem?_eq_getElem hj]
   rfl
  refine ⟨_,h1,?_,?_⟩
  ·rw [hLl]
   refine .lit (.l (fun j _=>.string ⟨((wrd s).getD j []).toArray⟩) rfl (fun e=>by cases e) (Nat.le_refl _) (fun j k hj hk=>⟨w.heap.size,0,rfl,fun hy=>by have:=hY _ hy; omega,?_⟩) (fun j k c hj hk=>?_))
   ·have hk0:k=0:=by simpa using hk
    subst hk0
    have hj':j<L.length:=by rw [hLl]; exact hj
    rw [h2]
    have:=hat j hj'
    simp only [List.length_cons,List.length_nil,Nat.zero_add,Nat.mul_one,Nat.add_zero]
    rw [World.cell?_alloc_new]
    simp [this]
   ·match k,hk with
    | 0,hk=>simp at hk; subst hk; exact .s
  ·rw [h2]
   exact ⟨rfl,rfl,rfl,by simp,fun k hk=>by first | exact heap_alloc_old w _ k hk | exact heap_alloc_old w _ hk⟩)
open Go.RowKit
theorem lastDrop {s:List UInt8} (h:0<s.length):((s.drop (s.length - 1))==[10])=(s.getLast?==some 10):=by
 have hne:s≠[]:=by intro e; rw [e] at h; simp at h
 have e:s.drop (s.length - 1)=[s.getLast hne]:=by
  rw [List.drop_eq_getElem_cons (by omega),List.getLast_eq_getElem]
  have:s.length - 1+1=s.length:=by omega
  rw [this,List.drop_length]
 rw [e,List.getLast?_eq_some_getLast hne]
 simp
theorem hasSuffix_c (s:List UInt8) (nid:Nat) (h:0<s.length) (hs:s.length≤1000000000):ACall Tryz.prog 144 [.str s,.str [10]] [] nid (.bool (s.getLast?==some 10)) []:=by
 refine acall_run c144 (by simp [a144]) ?_
 simp -dsimp only [aqA,↓seqK,↓blkK,↓loopK,step,stepBin,eqB,Nat.add_assoc nid,simprocAttr,z0,a144]
 have e1:((s.length:Int) - 1).toNat=s.length - 1:=by omega
 refine S2.yes (by simp; omega) ?_
 simp -dsimp only [aqA,↓seqK,↓blkK,↓loopK,step,stepBin,eqB,Nat.add_assoc nid,simprocAttr,z0,Int.cast_ofNat_Int,Int.reduceBEq,Int.reduceBNe,Int.reduceLT,Int.reduceLE,Int.reduceAdd,Int.reduceSub,Int.reduceMul,Int.reduceToNat,Int.reduceNeg,Int.reduceTMod,Int.reduceEq,not_false_eq_true,Int.reducePow,Int.reduceFDiv,Nat.reducePow,Nat.reduceSub,Nat.reduceMul,Nat.min_eq_left,Nat.reduceEqDiff,BEq.rfl,Int.tdiv_one,LN_succ]
 refine ⟨by unfold inI64; omega,by omega,?_⟩
 simp only [e1,lastDrop h]
 refine RetOK.pure (.inl rfl) rfl ?_
 simp [cvT,step,res]
theorem cutSuffixL_c (s:List UInt8) (nid:Nat) (h:s≠[]) (hs:s.length≤1000000000):ACall Tryz.prog 148 [.str s,.str [10]] [] nid (.tup [.str (bodyV s),.bool (s.getLast?==some 10)]) []:=by
 have h0:0<s.length:=List.length_pos_iff.2 h
 refine acall_run c148 (by simp [a148]) ?_
 simp -dsimp only [aqA,↓seqK,↓blkK,↓loopK,step,stepBin,eqB,Nat.add_assoc nid,simprocAttr,z0,a148]
 refine CallO.pure (hasSuffix_c s _ h0 hs) ?_
 unfold bodyV
 cases hl:(s.getLast?==some 10) <;> simp -dsimp only [aqA,↓seqK,↓blkK,↓loopK,step,stepBin,eqB,Nat.add_assoc nid,simprocAttr,z0,Int.cast_ofNat_Int,Int.reduceBEq,Int.reduceBNe,Int.reduceLT,Int.reduceLE,Int.reduceAdd,Int.reduceSub,Int.reduceMul,Int.reduceToNat,Int.reduceNeg,Int.reduceTMod,Int.reduceEq,not_false_eq_true,Int.reducePow,Int.reduceFDiv,Nat.reducePow,Nat.reduceSub,Nat.reduceMul,Nat.min_eq_left,Nat.reduceEqDiff,BEq.rfl,Int.tdiv_one,LN_succ,Bool.not_true,Bool.not_false]
 ·rw [if_neg (by simpa using hl)]
  refine RetOK.pure (.inl rfl) rfl ?_
  simp [cvT,step,res]
 ·rw [if_pos (by simpa using hl)]
  have e1:((s.length:Int) - 1).toNat=s.length - 1:=by omega
  have e2:s.take (s.length - 1)=s.dropLast:=(List.dropLast_eq_take).symm
  refine ⟨by unfold inI64; omega,by omega,?_⟩
  simp only [e1,e2]
  refine RetOK.pure (.inl rfl) rfl ?_
  simp [cvT,step,res]
theorem cutSuffix_c (s:List UInt8) (nid:Nat) (h:s≠[]) (hs:s.length≤1000000000):ACall Tryz.prog 119 [.str s,.str [10]] [] nid (.tup [.str (bodyV s),.bool (s.getLast?==some 10)]) []:=by
 refine acall_run c119 (by simp [a119]) ?_
 simp -dsimp only [aqA,↓seqK,↓blkK,↓loopK,step,stepBin,eqB,Nat.add_assoc nid,simprocAttr,z0,a119]
 refine CallO.pure (cutSuffixL_c s _ h hs) ?_
 simp -dsimp only [aqA,↓seqK,↓blkK,↓loopK,step,stepBin,eqB,Nat.add_assoc nid,simprocAttr,z0,Int.cast_ofNat_Int,Int.reduceBEq,Int.reduceBNe,Int.reduceLT,Int.reduceLE,Int.reduceAdd,Int.reduceSub,Int.reduceMul,Int.reduceToNat,Int.reduceNeg,Int.reduceTMod,Int.reduceEq,not_false_eq_true,Int.reducePow,Int.reduceFDiv,Nat.reducePow,Nat.reduceSub,Nat.reduceMul,Nat.min_eq_left,Nat.reduceEqDiff,BEq.rfl,Int.tdiv_one,LN_succ]
 refine RetOK.pure (.inl rfl) rfl ?_
 simp [cvT,step,res]
theorem lines_nil (nid:Nat):ACall Tryz.prog 80 [.str []] [] nid (.tup [.lit true 0 [],.bool true]) []:=by
 refine acall_run c80 (by simp [a80]) ?_
 simp -dsimp only [aqA,↓seqK,↓blkK,↓loopK,step,stepBin,eqB,Nat.add_assoc nid,simprocAttr,z0,a80]
 refine RetOK.pure (.inl rfl) rfl ?_
 simp [cvT,step,res]
theorem bodyV_len (s:List UInt8):(bodyV s).length≤s.length:=by
 unfold bodyV
 split
 ·simp
 ·exact Nat.le_refl _
theorem lines_c (s:List UInt8) (nid:Nat) (h:s≠[]) (hs:s.length≤1000000000):ACall Tryz.prog 80 [.str s] [] nid (.tup [.lit false (pieces (bodyV s)).length [.s fun i=>(pieces (bodyV s)).getD i []],.bool (s.getLast?==some 10)]) []:=by
 have hb:(s==[])=false:=by simpa using h
 have hl:=bodyV_len s
 refine acall_run c80 (by simp [a80]) ?_
 simp -dsimp only [a80,aqA,↓seqK,↓blkK,↓loopK,step,stepBin,eqB,Nat.add_assoc nid,simprocAttr,z0,hb]
 refine CallO.pure (cutSuffix_c s _ h hs) ?_
 simp -dsimp only [aqA,↓seqK,↓blkK,↓loopK,step,stepBin,eqB,Nat.add_assoc nid,simprocAttr,z0,Int.cast_ofNat_Int,Int.reduceBEq,Int.reduceBNe,Int.reduceLT,Int.reduceLE,Int.reduceAdd,Int.reduceSub,Int.reduceMul,Int.reduceToNat,Int.reduceNeg,Int.reduceTMod,Int.reduceEq,not_false_eq_true,Int.reducePow,Int.reduceFDiv,Nat.reducePow,Nat.reduceSub,Nat.reduceMul,Nat.min_eq_left,Nat.reduceEqDiff,BEq.rfl,Int.tdiv_one,LN_succ]
 refine CallO.pure (split_cc (bodyV s) _ (by omega)) ?_
 simp -dsimp only [aqA,↓seqK,↓blkK,↓loopK,step,stepBin,eqB,Nat.add_assoc nid,simprocAttr,z0,Int.cast_ofNat_Int,Int.reduceBEq,Int.reduceBNe,Int.reduceLT,Int.reduceLE,Int.reduceAdd,Int.reduceSub,Int.reduceMul,Int.reduceToNat,Int.reduceNeg,Int.reduceTMod,Int.reduceEq,not_false_eq_true,Int.reducePow,Int.reduceFDiv,Nat.reducePow,Nat.reduceSub,Nat.reduceMul,Nat.min_eq_left,Nat.reduceEqDiff,BEq.rfl,Int.tdiv_one,LN_succ]
 refine RetOK.pure (.inl rfl) rfl ?_
 simp [cvT,step,res]
theorem getD_app_lt {α:Type} (l m:List α) (d:α) {k:Nat} (h:k<l.length):(l++m).getD k d=l.getD k d:=by
 rw [List.getD_eq_getElem?_getD,List.getElem?_append_left h,← List.getD_eq_getElem?_getD]
open Go.RowKit Go.Shelf Go.Lib
theorem cut_at91 (t:List UInt8):Lib.cut t [91]=if (91:UInt8)∈t then (t.takeWhile (· != 91),(t.dropWhile (· != 91)).drop 1,true) else (t,[],false):=by
 unfold Lib.cut
 rw [index_one]
 by_cases hm:(91:UInt8)∈t
 ·rw [if_pos hm]
  have hne:indexByte t 91 ≠ -1:=fun h=>by
   obtain ⟨k,hk,e⟩:=List.getElem_of_mem hm
   exact indexByte_none h k (by rw [List.getElem?_eq_getElem hk,e])
  have hge:=indexByte_ge t 91
  obtain ⟨o,ho⟩:∃ o:Nat,indexByte t 91=o:=⟨(indexByte t 91).toNat,by omega⟩
  obtain ⟨h1,h2⟩:=indexByte_some ho
  have hlt:o<t.length:=(List.getElem?_eq_some_iff.1 h1).1
  have hs:=split91 hm
  have hn:(91:UInt8) ∉ t.takeWhile (· != 91):=fun h=>by
   have h2:=List.all_eq_true.1 (List.all_takeWhile (p:=(· != 91)) (l:=t)) _ h
   simp at h2
  generalize t.takeWhile (· != 91)=n at *
  generalize (t.dropWhile (· != 91)).drop 1=r at *
  have hon:o=n.length:=by
   rcases Nat.lt_trichotomy o n.length with h | h | h
   ·exfalso
    rw [hs,List.getElem?_append_left h] at h1
    exact hn (List.mem_of_getElem? h1)
   ·exact h
   ·exfalso
    refine h2 n.length h ?_
    rw [hs,List.getElem?_append_right (Nat.le_refl _),Nat.sub_self]
    rfl
  rw [ho,if_pos (by omega)]
  simp only [Int.toNat_natCast,List.length_singleton]
  rw [hon,hs]
  refine Prod.ext ?_ (Prod.ext ?_ rfl)
  ·simp
  ·simp [List.drop_append]
 ·rw [if_neg hm]
  have h:indexByte t 91 = -1:=by
   rcases Decidable.em (indexByte t 91 = -1) with h | h
   ·exact h
   ·exfalso
    have hge:=indexByte_ge t 91
    obtain ⟨o,ho⟩:∃ o:Nat,indexByte t 91=o:=⟨(indexByte t 91).toNat,by omega⟩
    obtain ⟨h1,h2⟩:=indexByte_some ho
    exact hm (List.mem_of_getElem? h1)
  rw [h,if_neg (by decide)]
theorem cut91_cc (s:List UInt8) (nid:Nat) (hs:s.length<4294967281):ACall Tryz.prog 113 [.str s,.str [91]] [] nid (.tup [.str (Lib.cut s [91]).1,.str (Lib.cut s [91]).2.1,.bool (Lib.cut s [91]).2.2]) [] :=
 acall_lib nid Tryz.func113 (by kernel_rfl) (by kernel_rfl) (fun Y m w vs hl hrep hG hY=>by
  obtain ⟨v0,v1,rfl⟩:∃ v0 v1,vs=[v0,v1]:=by
   match vs,hl with
   | [a,b],_=>exact ⟨a,b,rfl⟩
  have r0:=(hrep 0 _ _ rfl rfl).str_inv
  have r1:=(hrep 1 _ _ rfl rfl).str_inv
  subst r0; subst r1
  obtain ⟨mm,hm⟩:=hG.cell
  have h:=Any.strings_Cut Tryz.lays145 ⟨s.toArray⟩ ⟨([91]:List UInt8).toArray⟩ mm w (by simpa [ByteArray.size] using hs) hm
  have hf:Tryz.lays145_ren.f 145=113:=by kernel_rfl
  rw [hf] at h
  refine h.mono fun e w' ⟨h1,n,h2⟩=>⟨_,h1,.tup rfl (fun i p v hp hv=>?_),?_⟩
  ·match i,hp,hv with
   | 0,hp,hv=>simp at hp hv; subst hp; subst hv; exact .str
   | 1,hp,hv=>simp at hp hv; subst hp; subst hv; exact .str
   | 2,hp,hv=>simp at hp hv; subst hp; subst hv; exact .bool
  ·rw [h2]
   exact ⟨rfl,rfl,rfl,Nat.le_refl _,fun _ _=>rfl⟩)
theorem rep_one (c:UInt8) (k:Nat):Lib.repeatL [c] k=List.replicate k c:=by
 induction k with
 | zero=>rfl
 | succ k ih=>show [c]++Lib.repeatL [c] k=_; rw [ih,List.replicate_succ]; rfl
def runS (x:Option (Nat × UInt8)):List UInt8:=match x with
 | some (k,c)=>List.replicate k c
 | none=>[]
theorem restR_no {pl:UInt8→Bool} {n r:List UInt8} (h:r.length≠2):restR pl n r=none:=by
 match r,h with
 | [],_=>rfl
 | [_],_=>rfl
 | [_,_],h=>exact absurd rfl h
 | _::_::_::_,_=>rfl
set_option maxHeartbeats 8000000 in
theorem readRun_c (w:List UInt8) (nid:Nat) (hw:w.length≤1000000):ACall Tryz.prog 83 [.str w] [] nid (.tup [.str (runS (readRunV plW w)),.bool (readRunV plW w).isSome]) []:=by
 have hcc:=fun m=>cut91_cc w m (by omega)
 rw [cut_at91] at hcc
 obtain ⟨X,hX⟩:∃ X,readRunV plW w=X:=⟨_,rfl⟩
 rw [hX]
 unfold readRunV at hX
 refine acall_sr c83 (by simp [a83]) ?_
 unfold a83
 refine SR.seq ?_
 simp -dsimp only [aqA,↓seqK,↓blkK,↓loopK,step,stepBin,eqB,Nat.add_assoc nid,simprocAttr,z0,Int.cast_ofNat_Int,Int.reduceBEq,Int.reduceBNe,Int.reduceLT,Int.reduceLE,Int.reduceAdd,Int.reduceSub,Int.reduceMul,Int.reduceToNat,Int.reduceNeg,Int.reduceTMod,Int.reduceEq,not_false_eq_true,Int.reducePow,Int.reduceFDiv,Nat.reducePow,Nat.reduceSub,Nat.reduceMul,Nat.min_eq_left,Nat.reduceEqDiff,BEq.rfl,Int.tdiv_one,LN_succ]
 by_cases hm:(91:UInt8)∈w
 rotate_left
 ·rw [if_neg hm] at hX hcc
  subst hX
  refine SR.run (t:=.mk) ?_
  simp -dsimp only [aqA,↓seqK,↓blkK,↓loopK,step,stepBin,eqB,Nat.add_assoc nid,simprocAttr,z0,Int.cast_ofNat_Int,Int.reduceBEq,Int.reduceBNe,Int.reduceLT,Int.reduceLE,Int.reduceAdd,Int.reduceSub,Int.reduceMul,Int.reduceToNat,Int.reduceNeg,Int.reduceTMod,Int.reduceEq,not_false_eq_true,Int.reducePow,Int.reduceFDiv,Nat.reducePow,Nat.reduceSub,Nat.reduceMul,Nat.min_eq_left,Nat.reduceEqDiff,BEq.rfl,Int.tdiv_one,LN_succ]
  refine CallO.pure (hcc _) ?_
  simp -dsimp only [aqA,↓seqK,↓blkK,↓loopK,step,stepBin,eqB,Nat.add_assoc nid,simprocAttr,z0,Int.cast_ofNat_Int,Int.reduceBEq,Int.reduceBNe,Int.reduceLT,Int.reduceLE,Int.reduceAdd,Int.reduceSub,Int.reduceMul,Int.reduceToNat,Int.reduceNeg,Int.reduceTMod,Int.reduceEq,not_false_eq_true,Int.reducePow,Int.reduceFDiv,Nat.reducePow,Nat.reduceSub,Nat.reduceMul,Nat.min_eq_left,Nat.reduceEqDiff,BEq.rfl,Int.tdiv_one,LN_succ]
  refine RetOK.go [] [] (.inl rfl) ?_
  simp [a83,cvT,step,res,runS]
 rw [if_pos hm] at hX hcc
 have hnl:(w.takeWhile (· != 91)).length≤w.length:=(List.takeWhile_prefix _).length_le
 generalize w.takeWhile (· != 91)=n at *
 generalize (w.dropWhile (· != 91)).drop 1=r at *
 refine SR.seqTo ⟨[(4,.str n),(5,.str r),(6,.bool true)],[],nid+100,nid⟩ ?_ ?_
 ·simp -dsimp only [aqA,↓seqK,↓blkK,↓loopK,step,stepBin,eqB,Nat.add_assoc nid,simprocAttr,z0,Int.cast_ofNat_Int,Int.reduceBEq,Int.reduceBNe,Int.reduceLT,Int.reduceLE,Int.reduceAdd,Int.reduceSub,Int.reduceMul,Int.reduceToNat,Int.reduceNeg,Int.reduceTMod,Int.reduceEq,not_false_eq_true,Int.reducePow,Int.reduceFDiv,Nat.reducePow,Nat.reduceSub,Nat.reduceMul,Nat.min_eq_left,Nat.reduceEqDiff,BEq.rfl,Int.tdiv_one,LN_succ]
  refine CallO.pure (hcc _) ?_
  simp -dsimp only [aqA,↓seqK,↓blkK,↓loopK,step,stepBin,eqB,Nat.add_assoc nid,simprocAttr,z0,Int.cast_ofNat_Int,Int.reduceBEq,Int.reduceBNe,Int.reduceLT,Int.reduceLE,Int.reduceAdd,Int.reduceSub,Int.reduceMul,Int.reduceToNat,Int.reduceNeg,Int.reduceTMod,Int.reduceEq,not_false_eq_true,Int.reducePow,Int.reduceFDiv,Nat.reducePow,Nat.reduceSub,Nat.reduceMul,Nat.min_eq_left,Nat.reduceEqDiff,BEq.rfl,Int.tdiv_one,LN_succ]
  refine Cov.go [] [] ?_
  simp [cvT,step,res]
 by_cases hr:r.length=2
 rotate_left
 ·rw [restR_no hr] at hX
  subst hX
  have d1:((((r.length:Nat):Int)) != 2)=true:=by rw [bne_iff_ne]; omega
  refine SR.run (t:=.mk) ?_
  simp -dsimp only [aqA,↓seqK,↓blkK,↓loopK,step,stepBin,eqB,Nat.add_assoc nid,simprocAttr,z0,Int.cast_ofNat_Int,Int.reduceBEq,Int.reduceBNe,Int.reduceLT,Int.reduceLE,Int.reduceAdd,Int.reduceSub,Int.reduceMul,Int.reduceToNat,Int.reduceNeg,Int.reduceTMod,Int.reduceEq,not_false_eq_true,Int.reducePow,Int.reduceFDiv,Nat.reducePow,Nat.reduceSub,Nat.reduceMul,Nat.min_eq_left,Nat.reduceEqDiff,BEq.rfl,Int.tdiv_one,LN_succ,d1]
  refine RetOK.go [] [] (.inl rfl) ?_
  simp [a83,cvT,step,res,runS]
 obtain ⟨c,e,rfl⟩:∃ c e,r=[c,e]:=by
  match r,hr with
  | [c,e],_=>exact ⟨c,e,rfl⟩
 rw [rest2] at hX
 have g0:([c,e]:List UInt8).getD 0 0=c:=rfl
 have g1:([c,e]:List UInt8).getD 1 0=e:=rfl
 have hpl:=fun m=>isPlace_c (byteI c) m
 have hpe:(isBinV (byteI c) || byteI c==46 || byteI c==63 || byteI c==42)=plW c:=rfl
 rw [hpe] at hpl
 unfold byteI at hpl
 by_cases he:e=93
 rotate_left
 ·rw [if_neg (fun h=>he h.1)] at hX
  subst hX
  have d2:((((e.toNat:Nat):Int)) != 93)=true:=by
   rw [bne_iff_ne]
   intro h
   exact he (UInt8.toNat_inj.1 (by rw [show (93:UInt8).toNat=93 from rfl]; omega))
  refine SR.run (t:=.mk) ?_
  simp -dsimp only [aqA,↓seqK,↓blkK,↓loopK,step,stepBin,eqB,Nat.add_assoc nid,simprocAttr,z0,Int.cast_ofNat_Int,Int.reduceBEq,Int.reduceBNe,Int.reduceLT,Int.reduceLE,Int.reduceAdd,Int.reduceSub,Int.reduceMul,Int.reduceToNat,Int.reduceNeg,Int.reduceTMod,Int.reduceEq,not_false_eq_true,Int.reducePow,Int.reduceFDiv,Nat.reducePow,Nat.reduceSub,Nat.reduceMul,Nat.min_eq_left,Nat.reduceEqDiff,BEq.rfl,Int.tdiv_one,LN_succ,g1,d2]
  refine RetOK.go [] [] (.inl rfl) ?_
  simp [a83,cvT,step,res,runS]
 subst he
 have g3:(((UInt8.toNat 93:Nat):Int) != 93)=false:=rfl
 cases hp:plW c
 ·rw [hp] at hpl
  rw [if_neg (fun h=>by rw [hp] at h; cases h.2)] at hX
  subst hX
  refine SR.run (t:=.mk) ?_
  simp -dsimp only [aqA,↓seqK,↓blkK,↓loopK,step,stepBin,eqB,Nat.add_assoc nid,simprocAttr,z0,Int.cast_ofNat_Int,Int.reduceBEq,Int.reduceBNe,Int.reduceLT,Int.reduceLE,Int.reduceAdd,Int.reduceSub,Int.reduceMul,Int.reduceToNat,Int.reduceNeg,Int.reduceTMod,Int.reduceEq,not_false_eq_true,Int.reducePow,Int.reduceFDiv,Nat.reducePow,Nat.reduceSub,Nat.reduceMul,Nat.min_eq_left,Nat.reduceEqDiff,BEq.rfl,Int.tdiv_one,LN_succ,g0,g1,g3]
  refine CallO.pure (hpl _) ?_
  simp -dsimp only [aqA,↓seqK,↓blkK,↓loopK,step,stepBin,eqB,Nat.add_assoc nid,simprocAttr,z0,Int.cast_ofNat_Int,Int.reduceBEq,Int.reduceBNe,Int.reduceLT,Int.reduceLE,Int.reduceAdd,Int.reduceSub,Int.reduceMul,Int.reduceToNat,Int.reduceNeg,Int.reduceTMod,Int.reduceEq,not_false_eq_true,Int.reducePow,Int.reduceFDiv,Nat.reducePow,Nat.reduceSub,Nat.reduceMul,Nat.min_eq_left,Nat.reduceEqDiff,BEq.rfl,Int.tdiv_one,LN_succ]
  refine RetOK.go [] [] (.inl rfl) ?_
  simp [a83,cvT,step,res,runS]
 rw [hp] at hpl
 rw [if_pos ⟨rfl,hp⟩] at hX
 refine SR.seqTo ⟨[(4,.str n),(5,.str [c,93])],[],nid+200,nid⟩ ?_ ?_
 ·simp -dsimp only [aqA,↓seqK,↓blkK,↓loopK,step,stepBin,eqB,Nat.add_assoc nid,simprocAttr,z0,Int.cast_ofNat_Int,Int.reduceBEq,Int.reduceBNe,Int.reduceLT,Int.reduceLE,Int.reduceAdd,Int.reduceSub,Int.reduceMul,Int.reduceToNat,Int.reduceNeg,Int.reduceTMod,Int.reduceEq,not_false_eq_true,Int.reducePow,Int.reduceFDiv,Nat.reducePow,Nat.reduceSub,Nat.reduceMul,Nat.min_eq_left,Nat.reduceEqDiff,BEq.rfl,Int.tdiv_one,LN_succ,g0,g1,g3]
  refine CallO.pure (hpl _) ?_
  simp -dsimp only [aqA,↓seqK,↓blkK,↓loopK,step,stepBin,eqB,Nat.add_assoc nid,simprocAttr,z0,Int.cast_ofNat_Int,Int.reduceBEq,Int.reduceBNe,Int.reduceLT,Int.reduceLE,Int.reduceAdd,Int.reduceSub,Int.reduceMul,Int.reduceToNat,Int.reduceNeg,Int.reduceTMod,Int.reduceEq,not_false_eq_true,Int.reducePow,Int.reduceFDiv,Nat.reducePow,Nat.reduceSub,Nat.reduceMul,Nat.min_eq_left,Nat.reduceEqDiff,BEq.rfl,Int.tdiv_one,LN_succ]
  refine Cov.go [] [] ?_
  simp [cvT,step,res]
 by_cases hn:n=[]
 ·rw [if_pos hn] at hX
  subst hX
  subst hn
  refine SR.run (t:=.mk) ?_
  simp -dsimp only [aqA,↓seqK,↓blkK,↓loopK,step,stepBin,eqB,Nat.add_assoc nid,simprocAttr,z0,Int.cast_ofNat_Int,Int.reduceBEq,Int.reduceBNe,Int.reduceLT,Int.reduceLE,Int.reduceAdd,Int.reduceSub,Int.reduceMul,Int.reduceToNat,Int.reduceNeg,Int.reduceTMod,Int.reduceEq,not_false_eq_true,Int.reducePow,Int.reduceFDiv,Nat.reducePow,Nat.reduceSub,Nat.reduceMul,Nat.min_eq_left,Nat.reduceEqDiff,BEq.rfl,Int.tdiv_one,LN_succ]
  refine RetOK.go [] [] (.inl rfl) ?_
  simp [a83,cvT,step,res,runS]
 have hn0:(n==[])=false:=by simpa using hn
 rw [if_neg hn] at hX
 have hnc:=fun m=>numberW_c n m (by omega)
 have hnt:=num_two n
 obtain ⟨⟨v,ok⟩,hN⟩:∃ N,numP n=N:=⟨_,rfl⟩
 rw [hN] at hnc hnt
 simp only at hnc hnt
 refine SR.seq ?_
 simp -dsimp only [aqA,↓seqK,↓blkK,↓loopK,step,stepBin,eqB,Nat.add_assoc nid,simprocAttr,z0,Int.cast_ofNat_Int,Int.reduceBEq,Int.reduceBNe,Int.reduceLT,Int.reduceLE,Int.reduceAdd,Int.reduceSub,Int.reduceMul,Int.reduceToNat,Int.reduceNeg,Int.reduceTMod,Int.reduceEq,not_false_eq_true,Int.reducePow,Int.reduceFDiv,Nat.reducePow,Nat.reduceSub,Nat.reduceMul,Nat.min_eq_left,Nat.reduceEqDiff,BEq.rfl,Int.tdiv_one,LN_succ,hn0]
 refine SR.seqTo ⟨[(7,.int .i64 v),(6,.bool ok),(5,.str [c,93])],[],nid+300,nid⟩ ?_ ?_
 ·simp -dsimp only [aqA,↓seqK,↓blkK,↓loopK,step,stepBin,eqB,Nat.add_assoc nid,simprocAttr,z0,Int.cast_ofNat_Int,Int.reduceBEq,Int.reduceBNe,Int.reduceLT,Int.reduceLE,Int.reduceAdd,Int.reduceSub,Int.reduceMul,Int.reduceToNat,Int.reduceNeg,Int.reduceTMod,Int.reduceEq,not_false_eq_true,Int.reducePow,Int.reduceFDiv,Nat.reducePow,Nat.reduceSub,Nat.reduceMul,Nat.min_eq_left,Nat.reduceEqDiff,BEq.rfl,Int.tdiv_one,LN_succ]
  refine CallO.pure (hnc _) ?_
  simp -dsimp only [aqA,↓seqK,↓blkK,↓loopK,step,stepBin,eqB,Nat.add_assoc nid,simprocAttr,z0,Int.cast_ofNat_Int,Int.reduceBEq,Int.reduceBNe,Int.reduceLT,Int.reduceLE,Int.reduceAdd,Int.reduceSub,Int.reduceMul,Int.reduceToNat,Int.reduceNeg,Int.reduceTMod,Int.reduceEq,not_false_eq_true,Int.reducePow,Int.reduceFDiv,Nat.reducePow,Nat.reduceSub,Nat.reduceMul,Nat.min_eq_left,Nat.reduceEqDiff,BEq.rfl,Int.tdiv_one,LN_succ]
  refine Cov.go [] [] ?_
  simp [cvT,step,res]
 have hno:¬ (ok=true∧2≤v∧v≤60)→X=none:=fun h=>by
  rw [← hX]
  cases hw:numW n with
  | none=>rfl
  | some k =>
   simp only
   by_cases hk:2≤k∧k≤60
   ·exfalso
    have h2:=hnt.2 k hw hk.1 hk.2
    simp only [Prod.mk.injEq] at h2
    exact h ⟨h2.2,by omega,by omega⟩
   ·rw [if_neg hk]
 cases ok
 ·have hXn:=hno (fun h=>by cases h.1)
  subst hXn
  refine SR.run (t:=.mk) ?_
  simp -dsimp only [aqA,↓seqK,↓blkK,↓loopK,step,stepBin,eqB,Nat.add_assoc nid,simprocAttr,z0,Int.cast_ofNat_Int,Int.reduceBEq,Int.reduceBNe,Int.reduceLT,Int.reduceLE,Int.reduceAdd,Int.reduceSub,Int.reduceMul,Int.reduceToNat,Int.reduceNeg,Int.reduceTMod,Int.reduceEq,not_false_eq_true,Int.reducePow,Int.reduceFDiv,Nat.reducePow,Nat.reduceSub,Nat.reduceMul,Nat.min_eq_left,Nat.reduceEqDiff,BEq.rfl,Int.tdiv_one,LN_succ]
  refine RetOK.go [] [] (.inl rfl) ?_
  simp [a83,cvT,step,res,runS]
 have ho:=fun m=>out_c v 2 60 m
 by_cases hv:2≤v∧v≤60
 rotate_left
 ·have hXn:=hno (fun h=>hv h.2)
  subst hXn
  have hb:outB v 2 60=true:=decide_eq_true (by omega)
  rw [hb] at ho
  refine SR.run (t:=.mk) ?_
  simp -dsimp only [aqA,↓seqK,↓blkK,↓loopK,step,stepBin,eqB,Nat.add_assoc nid,simprocAttr,z0,Int.cast_ofNat_Int,Int.reduceBEq,Int.reduceBNe,Int.reduceLT,Int.reduceLE,Int.reduceAdd,Int.reduceSub,Int.reduceMul,Int.reduceToNat,Int.reduceNeg,Int.reduceTMod,Int.reduceEq,not_false_eq_true,Int.reducePow,Int.reduceFDiv,Nat.reducePow,Nat.reduceSub,Nat.reduceMul,Nat.min_eq_left,Nat.reduceEqDiff,BEq.rfl,Int.tdiv_one,LN_succ]
  refine CallO.pure (ho _) ?_
  simp -dsimp only [aqA,↓seqK,↓blkK,↓loopK,step,stepBin,eqB,Nat.add_assoc nid,simprocAttr,z0,Int.cast_ofNat_Int,Int.reduceBEq,Int.reduceBNe,Int.reduceLT,Int.reduceLE,Int.reduceAdd,Int.reduceSub,Int.reduceMul,Int.reduceToNat,Int.reduceNeg,Int.reduceTMod,Int.reduceEq,not_false_eq_true,Int.reducePow,Int.reduceFDiv,Nat.reducePow,Nat.reduceSub,Nat.reduceMul,Nat.min_eq_left,Nat.reduceEqDiff,BEq.rfl,Int.tdiv_one,LN_succ]
  refine RetOK.go [] [] (.inl rfl) ?_
  simp [a83,cvT,step,res,runS]
 have hb:outB v 2 60=false:=decide_eq_false (by omega)
 rw [hb] at ho
 obtain ⟨k,rfl⟩:∃ k:Nat,v=(k:Nat):=⟨v.toNat,by omega⟩
 have hXs:X=some (k,c):=by
  rw [← hX,hnt.1 ⟨rfl,hv⟩]
  simp only [Int.toNat_natCast]
  rw [if_pos (by omega)]
 subst hXs
 have hrep:=fun m=>repeat_cc [c] k m (by omega) (by simp; omega)
 rw [rep_one] at hrep
 refine SR.run (t:=.mk) ?_
 simp -dsimp only [aqA,↓seqK,↓blkK,↓loopK,step,stepBin,eqB,Nat.add_assoc nid,simprocAttr,z0,Int.cast_ofNat_Int,Int.reduceBEq,Int.reduceBNe,Int.reduceLT,Int.reduceLE,Int.reduceAdd,Int.reduceSub,Int.reduceMul,Int.reduceToNat,Int.reduceNeg,Int.reduceTMod,Int.reduceEq,not_false_eq_true,Int.reducePow,Int.reduceFDiv,Nat.reducePow,Nat.reduceSub,Nat.reduceMul,Nat.min_eq_left,Nat.reduceEqDiff,BEq.rfl,Int.tdiv_one,LN_succ]
 refine CallO.pure (ho _) ?_
 simp -dsimp only [aqA,↓seqK,↓blkK,↓loopK,step,stepBin,eqB,Nat.add_assoc nid,simprocAttr,z0,Int.cast_ofNat_Int,Int.reduceBEq,Int.reduceBNe,Int.reduceLT,Int.reduceLE,Int.reduceAdd,Int.reduceSub,Int.reduceMul,Int.reduceToNat,Int.reduceNeg,Int.reduceTMod,Int.reduceEq,not_false_eq_true,Int.reducePow,Int.reduceFDiv,Nat.reducePow,Nat.reduceSub,Nat.reduceMul,Nat.min_eq_left,Nat.reduceEqDiff,BEq.rfl,Int.tdiv_one,LN_succ]
 refine CallO.pure (hrep _) ?_
 simp -dsimp only [aqA,↓seqK,↓blkK,↓loopK,step,stepBin,eqB,Nat.add_assoc nid,simprocAttr,z0,Int.cast_ofNat_Int,Int.reduceBEq,Int.reduceBNe,Int.reduceLT,Int.reduceLE,Int.reduceAdd,Int.reduceSub,Int.reduceMul,Int.reduceToNat,Int.reduceNeg,Int.reduceTMod,Int.reduceEq,not_false_eq_true,Int.reducePow,Int.reduceFDiv,Nat.reducePow,Nat.reduceSub,Nat.reduceMul,Nat.min_eq_left,Nat.reduceEqDiff,BEq.rfl,Int.tdiv_one,LN_succ]
 refine RetOK.go [] [] (.inl rfl) ?_
 simp [a83,cvT,step,res,runS]
open Go.RowKit
theorem last_at {s:List UInt8} (h:s≠[]) (c:UInt8):s.getLast?=some c↔s.getD (s.length - 1) 0=c:=by
 have hp:=List.length_pos_iff.2 h
 rw [List.getLast?_eq_getElem?,List.getD_eq_getElem?_getD,List.getElem?_eq_getElem (by omega)]
 simp
theorem rep_at {k:Nat} (c:UInt8) (h:0<k):(List.replicate k c).getD 0 0=c:=by
 obtain ⟨m,rfl⟩:∃ m,k=m+1:=⟨k - 1,by omega⟩
 rfl
set_option maxHeartbeats 8000000 in
theorem readRow_c (line:List UInt8) (nid:Nat) (hl:line.length≤1000000):ACall Tryz.prog 33 [.str line] [] nid (.tup [.str ((readRowV plW line).getD []),.bool (readRowV plW line).isSome]) []:=by
 obtain ⟨X,hX⟩:∃ X,readRowV plW line=X:=⟨_,rfl⟩
 rw [hX]
 unfold readRowV at hX
 have hwl:=wrd_len line
 have hsp:=fun m=>split32_cc line m (by omega)
 generalize wrd line=ws at *
 refine acall_sr c33 (by simp [a33]) ?_
 unfold a33
 refine SR.seq ?_
 simp -dsimp only [aqA,↓seqK,↓blkK,↓loopK,step,stepBin,eqB,Nat.add_assoc nid,simprocAttr,z0,Int.cast_ofNat_Int,Int.reduceBEq,Int.reduceBNe,Int.reduceLT,Int.reduceLE,Int.reduceAdd,Int.reduceSub,Int.reduceMul,Int.reduceToNat,Int.reduceNeg,Int.reduceTMod,Int.reduceEq,not_false_eq_true,Int.reducePow,Int.reduceFDiv,Nat.reducePow,Nat.reduceSub,Nat.reduceMul,Nat.min_eq_left,Nat.reduceEqDiff,BEq.rfl,Int.tdiv_one,LN_succ]
 refine SR.seq ?_
 simp -dsimp only [aqA,↓seqK,↓blkK,↓loopK,step,stepBin,eqB,Nat.add_assoc nid,simprocAttr,z0,Int.cast_ofNat_Int,Int.reduceBEq,Int.reduceBNe,Int.reduceLT,Int.reduceLE,Int.reduceAdd,Int.reduceSub,Int.reduceMul,Int.reduceToNat,Int.reduceNeg,Int.reduceTMod,Int.reduceEq,not_false_eq_true,Int.reducePow,Int.reduceFDiv,Nat.reducePow,Nat.reduceSub,Nat.reduceMul,Nat.min_eq_left,Nat.reduceEqDiff,BEq.rfl,Int.tdiv_one,LN_succ]
 refine SR.seqW (ι:={o:List UInt8 // X=some o}) (fun o=>⟨[(4,.str o.1)],[],nid+9000,nid⟩) ?_ (fun ⟨o,ho⟩=>?_)
 rotate_left
 ·subst ho
  refine SR.run (t:=.mk) ?_
  simp -dsimp only [aqA,↓seqK,↓blkK,↓loopK,step,stepBin,eqB,Nat.add_assoc nid,simprocAttr,z0,Int.cast_ofNat_Int,Int.reduceBEq,Int.reduceBNe,Int.reduceLT,Int.reduceLE,Int.reduceAdd,Int.reduceSub,Int.reduceMul,Int.reduceToNat,Int.reduceNeg,Int.reduceTMod,Int.reduceEq,not_false_eq_true,Int.reducePow,Int.reduceFDiv,Nat.reducePow,Nat.reduceSub,Nat.reduceMul,Nat.min_eq_left,Nat.reduceEqDiff,BEq.rfl,Int.tdiv_one,LN_succ]
  refine RetOK.go [] [] (.inl rfl) ?_
  simp [a33,cvT,step,res]
 refine SR.seqTo ⟨[(12,.int .i64 (0:Nat)),(11,.int .i64 (ws.length:Nat)),(10,.lit false ws.length [.s fun i=>ws.getD i []]),(4,.str [])],[],nid+100,nid⟩ ?_ ?_
 ·simp -dsimp only [aqA,↓seqK,↓blkK,↓loopK,step,stepBin,eqB,Nat.add_assoc nid,simprocAttr,z0,Int.cast_ofNat_Int,Int.reduceBEq,Int.reduceBNe,Int.reduceLT,Int.reduceLE,Int.reduceAdd,Int.reduceSub,Int.reduceMul,Int.reduceToNat,Int.reduceNeg,Int.reduceTMod,Int.reduceEq,not_false_eq_true,Int.reducePow,Int.reduceFDiv,Nat.reducePow,Nat.reduceSub,Nat.reduceMul,Nat.min_eq_left,Nat.reduceEqDiff,BEq.rfl,Int.tdiv_one,LN_succ]
  refine CallO.pure (hsp _) ?_
  simp -dsimp only [aqA,↓seqK,↓blkK,↓loopK,step,stepBin,eqB,Nat.add_assoc nid,simprocAttr,z0,Int.cast_ofNat_Int,Int.reduceBEq,Int.reduceBNe,Int.reduceLT,Int.reduceLE,Int.reduceAdd,Int.reduceSub,Int.reduceMul,Int.reduceToNat,Int.reduceNeg,Int.reduceTMod,Int.reduceEq,not_false_eq_true,Int.reducePow,Int.reduceFDiv,Nat.reducePow,Nat.reduceSub,Nat.reduceMul,Nat.min_eq_left,Nat.reduceEqDiff,BEq.rfl,Int.tdiv_one,LN_succ]
  refine Cov.go [] [] ?_
  simp [cvT,step,res,ColsEq.refl,-List.getD_eq_getElem?_getD]
 refine SR.block ?_
 refine SR.loopP (fun x:Nat × List UInt8=>x.1≤ws.length∧readW plW (ws.drop x.1) x.2=X∧x.2.length≤60 * x.1) (fun x=>⟨[(12,.int .i64 (x.1:Nat)),(11,.int .i64 (ws.length:Nat)),(10,.lit false ws.length [.s fun i=>ws.getD i []]),(4,.str x.2)],[],nid+200,nid⟩) (fun x=>ws.length+1 - x.1) (0,[]) ⟨by simp,by simpa using hX,by simp⟩ (Cov.go [] [] ?_) (fun x hx=>?_)
 ·simp [cvT,step,res,ColsEq.refl,-List.getD_eq_getElem?_getD]
 obtain ⟨k,o⟩:=x
 obtain ⟨hk,hR,hol⟩:=hx
 simp only at hk hR hol ⊢
 by_cases hkl:k<ws.length
 rotate_left
 ·have d1:decide ((k:Int)<(ws.length:Nat))=false:=decide_eq_false (by omega)
  rw [List.drop_eq_nil_of_le (by omega)] at hR
  refine SR.run (t:=.mk) ?_
  simp -dsimp only [aqA,↓seqK,↓blkK,↓loopK,step,stepBin,eqB,Nat.add_assoc nid,simprocAttr,z0,Int.cast_ofNat_Int,Int.reduceBEq,Int.reduceBNe,Int.reduceLT,Int.reduceLE,Int.reduceAdd,Int.reduceSub,Int.reduceMul,Int.reduceToNat,Int.reduceNeg,Int.reduceTMod,Int.reduceEq,not_false_eq_true,Int.reducePow,Int.reduceFDiv,Nat.reducePow,Nat.reduceSub,Nat.reduceMul,Nat.min_eq_left,Nat.reduceEqDiff,BEq.rfl,Int.tdiv_one,LN_succ,d1]
  refine ⟨⟨o,hR.symm⟩,Cov.go [] [] ?_⟩
  simp [cvT,step,res]
 have d1:decide ((k:Int)<(ws.length:Nat))=true:=decide_eq_true (by omega)
 have hgd:ws.getD k []=ws[k]:=by rw [List.getD_eq_getElem?_getD,List.getElem?_eq_getElem hkl]; rfl
 rw [List.drop_eq_getElem_cons hkl,← hgd,readW_cons] at hR
 have hwk:(ws.getD k []).length≤1000000:=by rw [hgd]; have:=hwl.2 _ (List.getElem_mem hkl); omega
 have hrr:=fun m=>readRun_c (ws.getD k []) m hwk
 have hwr:=fun k' c=>word_read (pl:=plW) (w:=ws.getD k []) (k:=k') (c:=c)
 refine SR.seq ?_
 simp -dsimp only [aqA,↓seqK,↓blkK,↓loopK,step,stepBin,eqB,Nat.add_assoc nid,simprocAttr,z0,Int.cast_ofNat_Int,Int.reduceBEq,Int.reduceBNe,Int.reduceLT,Int.reduceLE,Int.reduceAdd,Int.reduceSub,Int.reduceMul,Int.reduceToNat,Int.reduceNeg,Int.reduceTMod,Int.reduceEq,not_false_eq_true,Int.reducePow,Int.reduceFDiv,Nat.reducePow,Nat.reduceSub,Nat.reduceMul,Nat.min_eq_left,Nat.reduceEqDiff,BEq.rfl,Int.tdiv_one,LN_succ,d1]
 refine SR.seq ?_
 simp -dsimp only [aqA,↓seqK,↓blkK,↓loopK,step,stepBin,eqB,Nat.add_assoc nid,simprocAttr,z0,Int.cast_ofNat_Int,Int.reduceBEq,Int.reduceBNe,Int.reduceLT,Int.reduceLE,Int.reduceAdd,Int.reduceSub,Int.reduceMul,Int.reduceToNat,Int.reduceNeg,Int.reduceTMod,Int.reduceEq,not_false_eq_true,Int.reducePow,Int.reduceFDiv,Nat.reducePow,Nat.reduceSub,Nat.reduceMul,Nat.min_eq_left,Nat.reduceEqDiff,BEq.rfl,Int.tdiv_one,LN_succ,d1]
 refine SR.seqW (ι:={x:List UInt8 // readW plW (ws.drop (k+1)) x=X∧x.length≤60 * (k+1)}) (fun x=>⟨[(12,.int .i64 (k:Nat)),(11,.int .i64 (ws.length:Nat)),(10,.lit false ws.length [.s fun i=>ws.getD i []]),(4,.str x.1)],[],nid+2000,nid⟩) ?_ (fun ⟨x,hx1,hx2⟩=>?_)
 rotate_left
 ·refine SR.run (t:=.mk) ?_
  simp -dsimp only [aqA,↓seqK,↓blkK,↓loopK,step,stepBin,eqB,Nat.add_assoc nid,simprocAttr,z0,Int.cast_ofNat_Int,Int.reduceBEq,Int.reduceBNe,Int.reduceLT,Int.reduceLE,Int.reduceAdd,Int.reduceSub,Int.reduceMul,Int.reduceToNat,Int.reduceNeg,Int.reduceTMod,Int.reduceEq,not_false_eq_true,Int.reducePow,Int.reduceFDiv,Nat.reducePow,Nat.reduceSub,Nat.reduceMul,Nat.min_eq_left,Nat.reduceEqDiff,BEq.rfl,Int.tdiv_one,LN_succ]
  refine ⟨by unfold inI64; omega,(k+1,x),⟨⟨by simp only; omega,hx1,by simp only; omega⟩,by simp only; omega⟩,Cov.go [] [] ?_⟩
  simp [cvT,step,res,ColsEq.refl,-List.getD_eq_getElem?_getD]
 refine SR.block ?_
 generalize readRunV plW (ws.getD k [])=Y at *
 refine SR.seqTo ⟨[(6,.str (ws.getD k [])),(12,.int .i64 (k:Nat)),(11,.int .i64 (ws.length:Nat)),(10,.lit false ws.length [.s fun i=>ws.getD i []]),(4,.str o)],[],nid+300,nid⟩ ?_ ?_
 ·simp -dsimp only [aqA,↓seqK,↓blkK,↓loopK,step,stepBin,eqB,Nat.add_assoc nid,simprocAttr,z0,Int.cast_ofNat_Int,Int.reduceBEq,Int.reduceBNe,Int.reduceLT,Int.reduceLE,Int.reduceAdd,Int.reduceSub,Int.reduceMul,Int.reduceToNat,Int.reduceNeg,Int.reduceTMod,Int.reduceEq,not_false_eq_true,Int.reducePow,Int.reduceFDiv,Nat.reducePow,Nat.reduceSub,Nat.reduceMul,Nat.min_eq_left,Nat.reduceEqDiff,BEq.rfl,Int.tdiv_one,LN_succ]
  refine ⟨⟨by omega,by omega⟩,Cov.go [] [] ?_⟩
  simp [cvT,step,res,ColsEq.refl,-List.getD_eq_getElem?_getD]
 refine SR.seqTo ⟨[(7,.str (runS Y)),(8,.bool Y.isSome),(12,.int .i64 (k:Nat)),(11,.int .i64 (ws.length:Nat)),(10,.lit false ws.length [.s fun i=>ws.getD i []]),(4,.str o)],[],nid+400,nid⟩ ?_ ?_
 ·simp -dsimp only [aqA,↓seqK,↓blkK,↓loopK,step,stepBin,eqB,Nat.add_assoc nid,simprocAttr,z0,Int.cast_ofNat_Int,Int.reduceBEq,Int.reduceBNe,Int.reduceLT,Int.reduceLE,Int.reduceAdd,Int.reduceSub,Int.reduceMul,Int.reduceToNat,Int.reduceNeg,Int.reduceTMod,Int.reduceEq,not_false_eq_true,Int.reducePow,Int.reduceFDiv,Nat.reducePow,Nat.reduceSub,Nat.reduceMul,Nat.min_eq_left,Nat.reduceEqDiff,BEq.rfl,Int.tdiv_one,LN_succ]
  refine CallO.pure (hrr _) ?_
  simp -dsimp only [aqA,↓seqK,↓blkK,↓loopK,step,stepBin,eqB,Nat.add_assoc nid,simprocAttr,z0,Int.cast_ofNat_Int,Int.reduceBEq,Int.reduceBNe,Int.reduceLT,Int.reduceLE,Int.reduceAdd,Int.reduceSub,Int.reduceMul,Int.reduceToNat,Int.reduceNeg,Int.reduceTMod,Int.reduceEq,not_false_eq_true,Int.reducePow,Int.reduceFDiv,Nat.reducePow,Nat.reduceSub,Nat.reduceMul,Nat.min_eq_left,Nat.reduceEqDiff,BEq.rfl,Int.tdiv_one,LN_succ]
  refine Cov.go [] [] ?_
  simp [cvT,step,res,ColsEq.refl,-List.getD_eq_getElem?_getD]
 cases Y with
 | none =>
  simp only at hR
  subst hR
  refine SR.run (t:=.mk) ?_
  unfold runS
  simp -dsimp only [aqA,↓seqK,↓blkK,↓loopK,step,stepBin,eqB,Nat.add_assoc nid,simprocAttr,z0,Int.cast_ofNat_Int,Int.reduceBEq,Int.reduceBNe,Int.reduceLT,Int.reduceLE,Int.reduceAdd,Int.reduceSub,Int.reduceMul,Int.reduceToNat,Int.reduceNeg,Int.reduceTMod,Int.reduceEq,not_false_eq_true,Int.reducePow,Int.reduceFDiv,Nat.reducePow,Nat.reduceSub,Nat.reduceMul,Nat.min_eq_left,Nat.reduceEqDiff,BEq.rfl,Int.tdiv_one,LN_succ,Option.isSome_none]
  refine RetOK.go [] [] (.inl rfl) ?_
  simp [a33,cvT,step,res]
 | some y =>
  obtain ⟨m,c⟩:=y
  simp only at hR
  obtain ⟨_,hm1,hm2,_⟩:=hwr m c rfl
  have hr0:=rep_at c hm1
  unfold runS
  simp only [Option.isSome_some]
  have hrl:(List.replicate m c).length=m:=List.length_replicate
  generalize List.replicate m c=run at *
  refine SR.run (t:=.mk) ?_
  by_cases ho:o=[]
  ·subst ho
   rw [if_neg (by simp)] at hR
   simp -dsimp only [aqA,↓seqK,↓blkK,↓loopK,step,stepBin,eqB,Nat.add_assoc nid,simprocAttr,z0,Int.cast_ofNat_Int,Int.reduceBEq,Int.reduceBNe,Int.reduceLT,Int.reduceLE,Int.reduceAdd,Int.reduceSub,Int.reduceMul,Int.reduceToNat,Int.reduceNeg,Int.reduceTMod,Int.reduceEq,not_false_eq_true,Int.reducePow,Int.reduceFDiv,Nat.reducePow,Nat.reduceSub,Nat.reduceMul,Nat.min_eq_left,Nat.reduceEqDiff,BEq.rfl,Int.tdiv_one,LN_succ,hr0]
   refine ⟨by omega,⟨run,by simpa using hR,by omega⟩,Cov.go [] [] ?_⟩
   simp [cvT,step,res,ColsEq.refl,-List.getD_eq_getElem?_getD]
  ·have d2:(o==[])=false:=by simpa using ho
   have hop:=List.length_pos_iff.2 ho
   have hla:=last_at ho c
   have hsub:((o.length:Nat):Int) - 1=((o.length - 1:Nat):Int):=by omega
   by_cases hc:o.getD (o.length - 1) 0=c
   ·rw [if_pos (hla.2 hc)] at hR
    subst hR
    have d3:((((o.getD (o.length - 1) 0).toNat:Nat):Int)==((c.toNat:Nat):Int))=true:=by rw [hc]; simp
    simp -dsimp only [aqA,↓seqK,↓blkK,↓loopK,step,stepBin,eqB,Nat.add_assoc nid,simprocAttr,z0,Int.cast_ofNat_Int,Int.reduceBEq,Int.reduceBNe,Int.reduceLT,Int.reduceLE,Int.reduceAdd,Int.reduceSub,Int.reduceMul,Int.reduceToNat,Int.reduceNeg,Int.reduceTMod,Int.reduceEq,not_false_eq_true,Int.reducePow,Int.reduceFDiv,Nat.reducePow,Nat.reduceSub,Nat.reduceMul,Nat.min_eq_left,Nat.reduceEqDiff,BEq.rfl,Int.tdiv_one,LN_succ,hr0,d2,hsub,d3,Bool.not_false]
    refine ⟨by unfold inI64; omega,⟨by omega,by omega⟩,by omega,?_⟩
    refine RetOK.go [] [] (.inl rfl) ?_
    simp [a33,cvT,step,res]
   ·rw [if_neg (fun h=>hc (hla.1 h))] at hR
    have d3:((((o.getD (o.length - 1) 0).toNat:Nat):Int)==((c.toNat:Nat):Int))=false:=by
     rw [beq_eq_false_iff_ne]
     intro h
     exact hc (UInt8.toNat_inj.1 (by omega))
    simp -dsimp only [aqA,↓seqK,↓blkK,↓loopK,step,stepBin,eqB,Nat.add_assoc nid,simprocAttr,z0,Int.cast_ofNat_Int,Int.reduceBEq,Int.reduceBNe,Int.reduceLT,Int.reduceLE,Int.reduceAdd,Int.reduceSub,Int.reduceMul,Int.reduceToNat,Int.reduceNeg,Int.reduceTMod,Int.reduceEq,not_false_eq_true,Int.reducePow,Int.reduceFDiv,Nat.reducePow,Nat.reduceSub,Nat.reduceMul,Nat.min_eq_left,Nat.reduceEqDiff,BEq.rfl,Int.tdiv_one,LN_succ,hr0,d2,hsub,d3,Bool.not_false]
    refine ⟨by unfold inI64; omega,⟨by omega,by omega⟩,by omega,by rw [← List.length_append]; simp only [List.length_append]; omega,⟨o++run,hR,by simp only [List.length_append]; omega⟩,Cov.go [] [] ?_⟩
    simp [cvT,step,res,ColsEq.refl,-List.getD_eq_getElem?_getD]
def words2 (l:List (List UInt8)):Bool:=decide (l.length=2) && !l.contains []
set_option maxHeartbeats 4000000 in
theorem words_c (line:List UInt8) (nid:Nat) (hl:line.length≤1000000) (r:PV) (h1:words2 (wrd line)=true→r=.tup [.lit false (wrd line).length [.s fun i=>(wrd line).getD i []],.bool true]) (h0:words2 (wrd line)=false→r=.tup [.lit true 0 [],.bool false]) :
  ACall Tryz.prog 81 [.str line,.int .i64 2] [] nid r []:=by
 have hwl:=wrd_len line
 have hsp:=fun m=>split32_cc line m (by omega)
 unfold words2 at h1 h0
 generalize wrd line=ws at *
 refine acall_sr c81 (by simp [a81]) ?_
 unfold a81
 refine SR.seq ?_
 simp -dsimp only [aqA,↓seqK,↓blkK,↓loopK,step,stepBin,eqB,Nat.add_assoc nid,simprocAttr,z0,Int.cast_ofNat_Int,Int.reduceBEq,Int.reduceBNe,Int.reduceLT,Int.reduceLE,Int.reduceAdd,Int.reduceSub,Int.reduceMul,Int.reduceToNat,Int.reduceNeg,Int.reduceTMod,Int.reduceEq,not_false_eq_true,Int.reducePow,Int.reduceFDiv,Nat.reducePow,Nat.reduceSub,Nat.reduceMul,Nat.min_eq_left,Nat.reduceEqDiff,BEq.rfl,Int.tdiv_one,LN_succ]
 refine SR.seqTo ⟨[(6,.lit false ws.length [.s fun i=>ws.getD i []]),(1,.int .i64 2)],[],nid+100,nid⟩ ?_ ?_
 ·simp -dsimp only [aqA,↓seqK,↓blkK,↓loopK,step,stepBin,eqB,Nat.add_assoc nid,simprocAttr,z0,Int.cast_ofNat_Int,Int.reduceBEq,Int.reduceBNe,Int.reduceLT,Int.reduceLE,Int.reduceAdd,Int.reduceSub,Int.reduceMul,Int.reduceToNat,Int.reduceNeg,Int.reduceTMod,Int.reduceEq,not_false_eq_true,Int.reducePow,Int.reduceFDiv,Nat.reducePow,Nat.reduceSub,Nat.reduceMul,Nat.min_eq_left,Nat.reduceEqDiff,BEq.rfl,Int.tdiv_one,LN_succ]
  refine CallO.pure (hsp _) ?_
  simp -dsimp only [aqA,↓seqK,↓blkK,↓loopK,step,stepBin,eqB,Nat.add_assoc nid,simprocAttr,z0,Int.cast_ofNat_Int,Int.reduceBEq,Int.reduceBNe,Int.reduceLT,Int.reduceLE,Int.reduceAdd,Int.reduceSub,Int.reduceMul,Int.reduceToNat,Int.reduceNeg,Int.reduceTMod,Int.reduceEq,not_false_eq_true,Int.reducePow,Int.reduceFDiv,Nat.reducePow,Nat.reduceSub,Nat.reduceMul,Nat.min_eq_left,Nat.reduceEqDiff,BEq.rfl,Int.tdiv_one,LN_succ]
  refine Cov.go [] [] ?_
  simp [cvT,step,res,ColsEq.refl,-List.getD_eq_getElem?_getD]
 by_cases h2:ws.length=2
 rotate_left
 ·have hr:=h0 (by rw [decide_eq_false h2,Bool.false_and])
  subst hr
  have d1:(((ws.length:Nat):Int) != 2)=true:=by rw [bne_iff_ne]; omega
  refine SR.run (t:=.mk) ?_
  simp -dsimp only [aqA,↓seqK,↓blkK,↓loopK,step,stepBin,eqB,Nat.add_assoc nid,simprocAttr,z0,Int.cast_ofNat_Int,Int.reduceBEq,Int.reduceBNe,Int.reduceLT,Int.reduceLE,Int.reduceAdd,Int.reduceSub,Int.reduceMul,Int.reduceToNat,Int.reduceNeg,Int.reduceTMod,Int.reduceEq,not_false_eq_true,Int.reducePow,Int.reduceFDiv,Nat.reducePow,Nat.reduceSub,Nat.reduceMul,Nat.min_eq_left,Nat.reduceEqDiff,BEq.rfl,Int.tdiv_one,LN_succ,d1]
  refine RetOK.go [] [] (.inl rfl) ?_
  simp [a81,cvT,step,res]
 have d1:(((ws.length:Nat):Int) != 2)=false:=by rw [bne_eq_false_iff_eq]; omega
 rw [decide_eq_true h2,Bool.true_and] at h1 h0
 refine SR.seq ?_
 simp -dsimp only [aqA,↓seqK,↓blkK,↓loopK,step,stepBin,eqB,Nat.add_assoc nid,simprocAttr,z0,Int.cast_ofNat_Int,Int.reduceBEq,Int.reduceBNe,Int.reduceLT,Int.reduceLE,Int.reduceAdd,Int.reduceSub,Int.reduceMul,Int.reduceToNat,Int.reduceNeg,Int.reduceTMod,Int.reduceEq,not_false_eq_true,Int.reducePow,Int.reduceFDiv,Nat.reducePow,Nat.reduceSub,Nat.reduceMul,Nat.min_eq_left,Nat.reduceEqDiff,BEq.rfl,Int.tdiv_one,LN_succ,d1]
 refine SR.seqW (ι:=PLift (ws.contains []=false)) (fun _=>⟨[(6,.lit false ws.length [.s fun i=>ws.getD i []])],[],nid+2000,nid⟩) ?_ (fun ⟨hc⟩=>?_)
 rotate_left
 ·have hr:=h1 (by rw [hc]; rfl)
  subst hr
  refine SR.run (t:=.mk) ?_
  simp -dsimp only [aqA,↓seqK,↓blkK,↓loopK,step,stepBin,eqB,Nat.add_assoc nid,simprocAttr,z0,Int.cast_ofNat_Int,Int.reduceBEq,Int.reduceBNe,Int.reduceLT,Int.reduceLE,Int.reduceAdd,Int.reduceSub,Int.reduceMul,Int.reduceToNat,Int.reduceNeg,Int.reduceTMod,Int.reduceEq,not_false_eq_true,Int.reducePow,Int.reduceFDiv,Nat.reducePow,Nat.reduceSub,Nat.reduceMul,Nat.min_eq_left,Nat.reduceEqDiff,BEq.rfl,Int.tdiv_one,LN_succ]
  refine RetOK.go [] [] (.inl rfl) ?_
  simp [a81,cvT,step,res,ColsEq.refl,-List.getD_eq_getElem?_getD]
 refine SR.seqTo ⟨[(17,.int .i64 (0:Nat)),(16,.int .i64 (ws.length:Nat)),(15,.lit false ws.length [.s fun i=>ws.getD i []]),(6,.lit false ws.length [.s fun i=>ws.getD i []])],[],nid+200,nid⟩ ?_ ?_
 ·simp -dsimp only [aqA,↓seqK,↓blkK,↓loopK,step,stepBin,eqB,Nat.add_assoc nid,simprocAttr,z0,Int.cast_ofNat_Int,Int.reduceBEq,Int.reduceBNe,Int.reduceLT,Int.reduceLE,Int.reduceAdd,Int.reduceSub,Int.reduceMul,Int.reduceToNat,Int.reduceNeg,Int.reduceTMod,Int.reduceEq,not_false_eq_true,Int.reducePow,Int.reduceFDiv,Nat.reducePow,Nat.reduceSub,Nat.reduceMul,Nat.min_eq_left,Nat.reduceEqDiff,BEq.rfl,Int.tdiv_one,LN_succ]
  refine Cov.go [] [] ?_
  simp [cvT,step,res,ColsEq.refl,-List.getD_eq_getElem?_getD]
 refine SR.block ?_
 refine SR.loopP (fun k:Nat=>k≤ws.length∧∀ j,j<k→ws.getD j []≠[]) (fun k=>⟨[(17,.int .i64 (k:Nat)),(16,.int .i64 (ws.length:Nat)),(15,.lit false ws.length [.s fun i=>ws.getD i []]),(6,.lit false ws.length [.s fun i=>ws.getD i []])],[],nid+300,nid⟩) (fun k=>ws.length+1 - k) 0 ⟨by omega,fun j h=>by omega⟩ (Cov.go [] [] ?_) (fun k hk=>?_)
 ·simp [cvT,step,res,ColsEq.refl,-List.getD_eq_getElem?_getD]
 obtain ⟨hk,hj⟩:=hk
 by_cases hkl:k<ws.length
 rotate_left
 ·have d2:decide ((k:Int)<(ws.length:Nat))=false:=decide_eq_false (by omega)
  refine SR.run (t:=.mk) ?_
  simp -dsimp only [aqA,↓seqK,↓blkK,↓loopK,step,stepBin,eqB,Nat.add_assoc nid,simprocAttr,z0,Int.cast_ofNat_Int,Int.reduceBEq,Int.reduceBNe,Int.reduceLT,Int.reduceLE,Int.reduceAdd,Int.reduceSub,Int.reduceMul,Int.reduceToNat,Int.reduceNeg,Int.reduceTMod,Int.reduceEq,not_false_eq_true,Int.reducePow,Int.reduceFDiv,Nat.reducePow,Nat.reduceSub,Nat.reduceMul,Nat.min_eq_left,Nat.reduceEqDiff,BEq.rfl,Int.tdiv_one,LN_succ,d2]
  refine ⟨⟨?_⟩,Cov.go [] [] ?_⟩
  ·rw [Bool.eq_false_iff]
   intro h
   rw [List.contains_iff_mem] at h
   obtain ⟨j,hjl,e⟩:=List.getElem_of_mem h
   refine hj j (by omega) ?_
   rw [List.getD_eq_getElem?_getD,List.getElem?_eq_getElem hjl,e]
   rfl
  ·simp [cvT,step,res,ColsEq.refl,-List.getD_eq_getElem?_getD]
 have d2:decide ((k:Int)<(ws.length:Nat))=true:=decide_eq_true (by omega)
 refine SR.run (t:=.mk) ?_
 by_cases he:ws.getD k []=[]
 ·have d3:(ws.getD k []==[])=true:=by rw [he]; rfl
  have hm:([]:List UInt8)∈ws:=by
   rw [List.getD_eq_getElem?_getD,List.getElem?_eq_getElem hkl] at he
   have:ws[k]=[]:=he
   rw [← this]
   exact List.getElem_mem _
  have hr:=h0 (by rw [List.contains_iff_mem.2 hm]; rfl)
  subst hr
  simp -dsimp only [aqA,↓seqK,↓blkK,↓loopK,step,stepBin,eqB,Nat.add_assoc nid,simprocAttr,z0,Int.cast_ofNat_Int,Int.reduceBEq,Int.reduceBNe,Int.reduceLT,Int.reduceLE,Int.reduceAdd,Int.reduceSub,Int.reduceMul,Int.reduceToNat,Int.reduceNeg,Int.reduceTMod,Int.reduceEq,not_false_eq_true,Int.reducePow,Int.reduceFDiv,Nat.reducePow,Nat.reduceSub,Nat.reduceMul,Nat.min_eq_left,Nat.reduceEqDiff,BEq.rfl,Int.tdiv_one,LN_succ,d2,d3]
  refine ⟨⟨by omega,by omega⟩,?_⟩
  refine RetOK.go [] [] (.inl rfl) ?_
  simp [a81,cvT,step,res]
 ·have d3:(ws.getD k []==[])=false:=by simpa using he
  simp -dsimp only [aqA,↓seqK,↓blkK,↓loopK,step,stepBin,eqB,Nat.add_assoc nid,simprocAttr,z0,Int.cast_ofNat_Int,Int.reduceBEq,Int.reduceBNe,Int.reduceLT,Int.reduceLE,Int.reduceAdd,Int.reduceSub,Int.reduceMul,Int.reduceToNat,Int.reduceNeg,Int.reduceTMod,Int.reduceEq,not_false_eq_true,Int.reducePow,Int.reduceFDiv,Nat.reducePow,Nat.reduceSub,Nat.reduceMul,Nat.min_eq_left,Nat.reduceEqDiff,BEq.rfl,Int.tdiv_one,LN_succ,d2,d3]
  refine ⟨⟨by omega,by omega⟩,by unfold inI64; omega,k+1,⟨⟨by omega,fun j hjk=>?_⟩,by omega⟩,Cov.go [] [] ?_⟩
  ·rcases (by omega:j<k∨j=k) with h | h
   ·exact hj j h
   ·rw [h]; exact he
  ·simp [cvT,step,res,ColsEq.refl,-List.getD_eq_getElem?_getD]
theorem readPass_c (line:List UInt8) (nid:Nat) (hl:line.length≤1000000):ACall Tryz.prog 32 [.str line] [] nid (.tup [.str ((readPassV line).getD []),.bool (readPassV line).isSome]) []:=by
 obtain ⟨X,hX⟩:∃ X,readPassV line=X:=⟨_,rfl⟩
 rw [hX]
 unfold readPassV at hX
 have hww:=fun m=>words_c line m hl
 unfold words2 at hww
 generalize wrd line=ws at *
 refine acall_sr c32 (by simp [a32]) ?_
 unfold a32
 refine SR.seq ?_
 simp -dsimp only [aqA,↓seqK,↓blkK,↓loopK,step,stepBin,eqB,Nat.add_assoc nid,simprocAttr,z0,Int.cast_ofNat_Int,Int.reduceBEq,Int.reduceBNe,Int.reduceLT,Int.reduceLE,Int.reduceAdd,Int.reduceSub,Int.reduceMul,Int.reduceToNat,Int.reduceNeg,Int.reduceTMod,Int.reduceEq,not_false_eq_true,Int.reducePow,Int.reduceFDiv,Nat.reducePow,Nat.reduceSub,Nat.reduceMul,Nat.min_eq_left,Nat.reduceEqDiff,BEq.rfl,Int.tdiv_one,LN_succ]
 cases hw:(decide (ws.length=2) && !ws.contains [])
 ·have hc:=fun m=>hww m _ (fun h=>by rw [hw] at h; cases h) (fun _=>rfl)
  have hx:X=none:=by
   rw [← hX]
   rw [if_pos]
   by_cases h2:ws.length=2
   ·right; left
    rw [decide_eq_true h2,Bool.true_and] at hw
    simpa using hw
   ·exact .inl h2
  subst hx
  refine SR.run (t:=.mk) ?_
  simp -dsimp only [aqA,↓seqK,↓blkK,↓loopK,step,stepBin,eqB,Nat.add_assoc nid,simprocAttr,z0,Int.cast_ofNat_Int,Int.reduceBEq,Int.reduceBNe,Int.reduceLT,Int.reduceLE,Int.reduceAdd,Int.reduceSub,Int.reduceMul,Int.reduceToNat,Int.reduceNeg,Int.reduceTMod,Int.reduceEq,not_false_eq_true,Int.reducePow,Int.reduceFDiv,Nat.reducePow,Nat.reduceSub,Nat.reduceMul,Nat.min_eq_left,Nat.reduceEqDiff,BEq.rfl,Int.tdiv_one,LN_succ]
  refine CallO.pure (hc _) ?_
  simp -dsimp only [aqA,↓seqK,↓blkK,↓loopK,step,stepBin,eqB,Nat.add_assoc nid,simprocAttr,z0,Int.cast_ofNat_Int,Int.reduceBEq,Int.reduceBNe,Int.reduceLT,Int.reduceLE,Int.reduceAdd,Int.reduceSub,Int.reduceMul,Int.reduceToNat,Int.reduceNeg,Int.reduceTMod,Int.reduceEq,not_false_eq_true,Int.reducePow,Int.reduceFDiv,Nat.reducePow,Nat.reduceSub,Nat.reduceMul,Nat.min_eq_left,Nat.reduceEqDiff,BEq.rfl,Int.tdiv_one,LN_succ]
  refine RetOK.go [] [] (.inl rfl) ?_
  simp [a32,cvT,step,res]
 have hc:=fun m=>hww m _ (fun _=>rfl) (fun h=>by rw [hw] at h; cases h)
 rw [Bool.and_eq_true] at hw
 have h2:ws.length=2:=of_decide_eq_true hw.1
 have hcn:¬ ws.contains []=true:=by simpa using hw.2
 have hne1:¬ ws.getD 1 []=[]:=fun h=>hcn (by
  rw [List.contains_iff_mem]
  rw [List.getD_eq_getElem?_getD,List.getElem?_eq_getElem (by omega)] at h
  have:ws[1]=[]:=h
  rw [← this]
  exact List.getElem_mem _)
 have d3:(ws.getD 1 []==[])=false:=by simpa using hne1
 refine SR.seqTo ⟨[(4,.lit false ws.length [.s fun i=>ws.getD i []]),(5,.bool true)],[],nid+200,nid⟩ ?_ ?_
 ·simp -dsimp only [aqA,↓seqK,↓blkK,↓loopK,step,stepBin,eqB,Nat.add_assoc nid,simprocAttr,z0,Int.cast_ofNat_Int,Int.reduceBEq,Int.reduceBNe,Int.reduceLT,Int.reduceLE,Int.reduceAdd,Int.reduceSub,Int.reduceMul,Int.reduceToNat,Int.reduceNeg,Int.reduceTMod,Int.reduceEq,not_false_eq_true,Int.reducePow,Int.reduceFDiv,Nat.reducePow,Nat.reduceSub,Nat.reduceMul,Nat.min_eq_left,Nat.reduceEqDiff,BEq.rfl,Int.tdiv_one,LN_succ]
  refine CallO.pure (hc _) ?_
  simp -dsimp only [aqA,↓seqK,↓blkK,↓loopK,step,stepBin,eqB,Nat.add_assoc nid,simprocAttr,z0,Int.cast_ofNat_Int,Int.reduceBEq,Int.reduceBNe,Int.reduceLT,Int.reduceLE,Int.reduceAdd,Int.reduceSub,Int.reduceMul,Int.reduceToNat,Int.reduceNeg,Int.reduceTMod,Int.reduceEq,not_false_eq_true,Int.reducePow,Int.reduceFDiv,Nat.reducePow,Nat.reduceSub,Nat.reduceMul,Nat.min_eq_left,Nat.reduceEqDiff,BEq.rfl,Int.tdiv_one,LN_succ]
  refine Cov.go [] [] ?_
  simp [cvT,step,res,ColsEq.refl,-List.getD_eq_getElem?_getD]
 refine SR.run (t:=.mk) ?_
 by_cases hp:ws.getD 0 []=passN
 rotate_left
 ·rw [if_pos (.inr (.inr hp))] at hX
  subst hX
  have d4:(ws.getD 0 []==[112,97,115,115])=false:=by simpa [passN] using hp
  simp -dsimp only [aqA,↓seqK,↓blkK,↓loopK,step,stepBin,eqB,Nat.add_assoc nid,simprocAttr,z0,Int.cast_ofNat_Int,Int.reduceBEq,Int.reduceBNe,Int.reduceLT,Int.reduceLE,Int.reduceAdd,Int.reduceSub,Int.reduceMul,Int.reduceToNat,Int.reduceNeg,Int.reduceTMod,Int.reduceEq,not_false_eq_true,Int.reducePow,Int.reduceFDiv,Nat.reducePow,Nat.reduceSub,Nat.reduceMul,Nat.min_eq_left,Nat.reduceEqDiff,BEq.rfl,Int.tdiv_one,LN_succ,d4,Bool.not_false]
  refine ⟨by omega,?_⟩
  refine RetOK.go [] [] (.inl rfl) ?_
  simp [a32,cvT,step,res,-List.getD_eq_getElem?_getD]
 rw [if_neg (by rw [hp]; simp [h2]; simpa using hcn)] at hX
 have d4:(ws.getD 0 []==[112,97,115,115])=true:=by rw [hp]; rfl
 by_cases hq:ws.getD 1 []=[45]
 ·rw [if_pos hq] at hX
  subst hX
  have d5:(ws.getD 1 []==[45])=true:=by rw [hq]; rfl
  simp -dsimp only [aqA,↓seqK,↓blkK,↓loopK,step,stepBin,eqB,Nat.add_assoc nid,simprocAttr,z0,Int.cast_ofNat_Int,Int.reduceBEq,Int.reduceBNe,Int.reduceLT,Int.reduceLE,Int.reduceAdd,Int.reduceSub,Int.reduceMul,Int.reduceToNat,Int.reduceNeg,Int.reduceTMod,Int.reduceEq,not_false_eq_true,Int.reducePow,Int.reduceFDiv,Nat.reducePow,Nat.reduceSub,Nat.reduceMul,Nat.min_eq_left,Nat.reduceEqDiff,BEq.rfl,Int.tdiv_one,LN_succ,d3,d4,d5,Bool.not_true]
  refine ⟨by omega,by omega,by omega,?_⟩
  refine RetOK.go [] [] (.inl rfl) ?_
  simp [a32,cvT,step,res,-List.getD_eq_getElem?_getD]
 ·rw [if_neg hq] at hX
  subst hX
  have d5:(ws.getD 1 []==[45])=false:=by simpa using hq
  simp -dsimp only [aqA,↓seqK,↓blkK,↓loopK,step,stepBin,eqB,Nat.add_assoc nid,simprocAttr,z0,Int.cast_ofNat_Int,Int.reduceBEq,Int.reduceBNe,Int.reduceLT,Int.reduceLE,Int.reduceAdd,Int.reduceSub,Int.reduceMul,Int.reduceToNat,Int.reduceNeg,Int.reduceTMod,Int.reduceEq,not_false_eq_true,Int.reducePow,Int.reduceFDiv,Nat.reducePow,Nat.reduceSub,Nat.reduceMul,Nat.min_eq_left,Nat.reduceEqDiff,BEq.rfl,Int.tdiv_one,LN_succ,d3,d4,d5,Bool.not_true]
  refine ⟨by omega,by omega,by omega,by omega,?_⟩
  refine RetOK.go [] [] (.inl rfl) ?_
  simp [a32,cvT,step,res,-List.getD_eq_getElem?_getD]
open Go.RowKit
def boxCn (k:Nat):Option ABlk:=some (.box 3 [.int .i64 (k:Nat)])
def boxRw (oa n:Nat) (p:List UInt8):Option ABlk:=some (.box 28 [.sl oa 0 n,.str p])
set_option maxHeartbeats 8000000 in
theorem rd0_c (s oa nid:Nat) (line:List UInt8) (hs:s+4<nid) (ho:oa<nid) (h1:oa≠s) (h2:oa≠s+4) (hl:line.length≤1000000) :
  ACall Tryz.prog 31 [.str line,.ptr (s+4) 0,.ptr s 0] [(s,boxRw oa 0 []),(s+4,boxCn 0)] nid (.bool (readPassV line).isSome) [(s,boxRw oa 0 ((readPassV line).getD [])),(s+4,boxCn 1)]:=by
 have hs0:s<nid:=by omega
 obtain ⟨a1,a2,a3,a4,a5,a6,a7,a8,a9⟩:=id_all hs0
 obtain ⟨b1,b2,b3,b4,b5,b6,b7,b8,b9⟩:=id_all hs
 have x1:(s==s+4)=false:=by simp
 have x2:(s+4==s)=false:=by simp
 have x3:¬ s=s+4:=by omega
 have x4:¬ s+4=s:=by omega
 have hrp:=fun m=>readPass_c line m hl
 generalize readPassV line=X at *
 refine acall_sr c31 (by simp [a31]) ?_
 unfold a31
 unfold boxRw boxCn
 refine SR.seq ?_
 simp -dsimp only [aqT,aqU,aqN,aqP,aqM,↓seqK,↓blkK,↓loopK,step,stepBin,eqB,Nat.reduceBEq,Nat.reduceBeqDiff,Nat.add_assoc nid,Nat.reduceAdd,reduceCtorEq,↓reduceIte,Nat.reduceLeDiff,Nat.reduceBneDiff,Option.toList,← Int.ofNat_tmod,← Int.ofNat_tdiv,Nat.reduceLT,z0,a1,a2,a3,a4,a5,a6,a7,a8,a9,b1,b2,b3,b4,b5,b6,b7,b8,b9,x1,x2,x3,x4]
 refine SR.seq ?_
 simp -dsimp only [aqT,aqU,aqN,aqP,aqM,↓seqK,↓blkK,↓loopK,step,stepBin,eqB,Nat.reduceBEq,Nat.reduceBeqDiff,Nat.add_assoc nid,Nat.reduceAdd,reduceCtorEq,↓reduceIte,Nat.reduceLeDiff,Nat.reduceBneDiff,Option.toList,← Int.ofNat_tmod,← Int.ofNat_tdiv,Nat.reduceLT,z0,a1,a2,a3,a4,a5,a6,a7,a8,a9,b1,b2,b3,b4,b5,b6,b7,b8,b9,x1,x2,x3,x4]
 refine ⟨by unfold inI64; omega,?_⟩
 have z1:(((0:Nat):Int)+1)=1:=rfl
 have z2:((1:Int)==1)=true:=rfl
 refine SR.run (t:=.mk) ?_
 simp -dsimp only [aqT,aqU,aqN,aqP,aqM,↓seqK,↓blkK,↓loopK,step,stepBin,eqB,Nat.reduceBEq,Nat.reduceBeqDiff,Nat.add_assoc nid,Nat.reduceAdd,reduceCtorEq,↓reduceIte,Nat.reduceLeDiff,Nat.reduceBneDiff,Option.toList,← Int.ofNat_tmod,← Int.ofNat_tdiv,Nat.reduceLT,z0,a1,a2,a3,a4,a5,a6,a7,a8,a9,b1,b2,b3,b4,b5,b6,b7,b8,b9,x1,x2,x3,x4,z1,z2]
 refine CallO.pure (hrp _) ?_
 simp -dsimp only [aqT,aqU,aqN,aqP,aqM,↓seqK,↓blkK,↓loopK,step,stepBin,eqB,Nat.reduceBEq,Nat.reduceBeqDiff,Nat.add_assoc nid,Nat.reduceAdd,reduceCtorEq,↓reduceIte,Nat.reduceLeDiff,Nat.reduceBneDiff,Option.toList,← Int.ofNat_tmod,← Int.ofNat_tdiv,Nat.reduceLT,z0,a1,a2,a3,a4,a5,a6,a7,a8,a9,b1,b2,b3,b4,b5,b6,b7,b8,b9,x1,x2,x3,x4,z1,z2]
 refine RetOK.go [] [] (.inl rfl) ?_
 simp [a31,cvT,step,res,a1,a2,a3,a4,a5,a6,a7,a8,a9,b1,b2,b3,b4,b5,b6,b7,b8,b9,x1,x2,x3,x4]
 omega
set_option maxHeartbeats 8000000 in
theorem rdk_c (s oa nid k:Nat) (p:List UInt8) (R:List (List UInt8)) (line:List UInt8) (hs:s+4<nid) (ho:oa<nid) (h1:oa≠s) (h2:oa≠s+4) (hl:line.length≤1000000) (hk:1≤k) (hk2:k≤1000000) (hR:R.length≤1000000) :
  ACall Tryz.prog 31 [.str line,.ptr (s+4) 0,.ptr s 0] [(s,boxRw oa R.length p),(s+4,boxCn k),(oa,arrS R)] nid (.bool (readRowV plW line).isSome) [(s,boxRw nid (R.length+1) p),(s+4,boxCn (k+1)),(nid,arrS (R++[(readRowV plW line).getD []])),(oa,none)]:=by
 have hs0:s<nid:=by omega
 obtain ⟨a1,a2,a3,a4,a5,a6,a7,a8,a9⟩:=id_all hs0
 obtain ⟨b1,b2,b3,b4,b5,b6,b7,b8,b9⟩:=id_all hs
 obtain ⟨c1,c2,c3,c4,c5,c6,c7,c8,c9⟩:=id_all ho
 have x1:(s==s+4)=false:=by simp
 have x2:(s+4==s)=false:=by simp
 have x3:¬ s=s+4:=by omega
 have x4:¬ s+4=s:=by omega
 have y1:(oa==s)=false:=by simpa using h1
 have y2:(s==oa)=false:=by simpa using fun h=>h1 h.symm
 have y3:(oa==s+4)=false:=by simpa using h2
 have y4:(s+4==oa)=false:=by simpa using fun h=>h2 h.symm
 have y5:¬ oa=s:=h1
 have y6:¬ s=oa:=fun h=>h1 h.symm
 have y7:¬ oa=s+4:=h2
 have y8:¬ s+4=oa:=fun h=>h2 h.symm
 have hrp:=fun m=>readRow_c line m hl
 generalize readRowV plW line=X at *
 have z1:(((k:Nat):Int)+1)=((k+1:Nat):Int):=by omega
 have z2:(((k+1:Nat):Int)==1)=false:=by rw [beq_eq_false_iff_ne]; omega
 have hap:=getD_app1 R (X.getD []) (n:=R.length) rfl
 refine acall_sr c31 (by simp [a31]) ?_
 unfold a31
 unfold boxRw boxCn arrS
 refine SR.seq ?_
 simp -dsimp only [aqT,aqU,aqN,aqP,aqM,↓seqK,↓blkK,↓loopK,step,stepBin,eqB,Nat.reduceBEq,Nat.reduceBeqDiff,Nat.add_assoc nid,Nat.reduceAdd,reduceCtorEq,↓reduceIte,Nat.reduceLeDiff,Nat.reduceBneDiff,Option.toList,← Int.ofNat_tmod,← Int.ofNat_tdiv,Nat.reduceLT,z0,a1,a2,a3,a4,a5,a6,a7,a8,a9,b1,b2,b3,b4,b5,b6,b7,b8,b9,x1,x2,x3,x4,c1,c2,c3,c4,c5,c6,c7,c8,c9,y1,y2,y3,y4,y5,y6,y7,y8]
 refine SR.seq ?_
 simp -dsimp only [aqT,aqU,aqN,aqP,aqM,↓seqK,↓blkK,↓loopK,step,stepBin,eqB,Nat.reduceBEq,Nat.reduceBeqDiff,Nat.add_assoc nid,Nat.reduceAdd,reduceCtorEq,↓reduceIte,Nat.reduceLeDiff,Nat.reduceBneDiff,Option.toList,← Int.ofNat_tmod,← Int.ofNat_tdiv,Nat.reduceLT,z0,a1,a2,a3,a4,a5,a6,a7,a8,a9,b1,b2,b3,b4,b5,b6,b7,b8,b9,x1,x2,x3,x4,c1,c2,c3,c4,c5,c6,c7,c8,c9,y1,y2,y3,y4,y5,y6,y7,y8,z1,z2]
 refine ⟨by unfold inI64; omega,?_⟩
 refine SR.seq ?_
 simp -dsimp only [aqT,aqU,aqN,aqP,aqM,↓seqK,↓blkK,↓loopK,step,stepBin,eqB,Nat.reduceBEq,Nat.reduceBeqDiff,Nat.add_assoc nid,Nat.reduceAdd,reduceCtorEq,↓reduceIte,Nat.reduceLeDiff,Nat.reduceBneDiff,Option.toList,← Int.ofNat_tmod,← Int.ofNat_tdiv,Nat.reduceLT,z0,a1,a2,a3,a4,a5,a6,a7,a8,a9,b1,b2,b3,b4,b5,b6,b7,b8,b9,x1,x2,x3,x4,c1,c2,c3,c4,c5,c6,c7,c8,c9,y1,y2,y3,y4,y5,y6,y7,y8,z1,z2]
 refine SR.seq ?_
 simp -dsimp only [aqT,aqU,aqN,aqP,aqM,↓seqK,↓blkK,↓loopK,step,stepBin,eqB,Nat.reduceBEq,Nat.reduceBeqDiff,Nat.add_assoc nid,Nat.reduceAdd,reduceCtorEq,↓reduceIte,Nat.reduceLeDiff,Nat.reduceBneDiff,Option.toList,← Int.ofNat_tmod,← Int.ofNat_tdiv,Nat.reduceLT,z0,a1,a2,a3,a4,a5,a6,a7,a8,a9,b1,b2,b3,b4,b5,b6,b7,b8,b9,x1,x2,x3,x4,c1,c2,c3,c4,c5,c6,c7,c8,c9,y1,y2,y3,y4,y5,y6,y7,y8,z1,z2]
 refine CallO.pure (hrp _) ?_
 simp -dsimp only [aqT,aqU,aqN,aqP,aqM,↓seqK,↓blkK,↓loopK,step,stepBin,eqB,Nat.reduceBEq,Nat.reduceBeqDiff,Nat.add_assoc nid,Nat.reduceAdd,reduceCtorEq,↓reduceIte,Nat.reduceLeDiff,Nat.reduceBneDiff,Option.toList,← Int.ofNat_tmod,← Int.ofNat_tdiv,Nat.reduceLT,z0,a1,a2,a3,a4,a5,a6,a7,a8,a9,b1,b2,b3,b4,b5,b6,b7,b8,b9,x1,x2,x3,x4,c1,c2,c3,c4,c5,c6,c7,c8,c9,y1,y2,y3,y4,y5,y6,y7,y8,z1,z2]
 refine SR.seq ?_
 simp -dsimp only [aqT,aqU,aqN,aqP,aqM,↓seqK,↓blkK,↓loopK,step,stepBin,eqB,Nat.reduceBEq,Nat.reduceBeqDiff,Nat.add_assoc nid,Nat.reduceAdd,reduceCtorEq,↓reduceIte,Nat.reduceLeDiff,Nat.reduceBneDiff,Option.toList,← Int.ofNat_tmod,← Int.ofNat_tdiv,Nat.reduceLT,z0,a1,a2,a3,a4,a5,a6,a7,a8,a9,b1,b2,b3,b4,b5,b6,b7,b8,b9,x1,x2,x3,x4,c1,c2,c3,c4,c5,c6,c7,c8,c9,y1,y2,y3,y4,y5,y6,y7,y8,z1,z2]
 rw [hap]
 refine ⟨⟨by omega,by omega⟩,?_⟩
 refine SR.run (t:=.mk) ?_
 simp -dsimp only [aqT,aqU,aqN,aqP,aqM,↓seqK,↓blkK,↓loopK,step,stepBin,eqB,Nat.reduceBEq,Nat.reduceBeqDiff,Nat.add_assoc nid,Nat.reduceAdd,reduceCtorEq,↓reduceIte,Nat.reduceLeDiff,Nat.reduceBneDiff,Option.toList,← Int.ofNat_tmod,← Int.ofNat_tdiv,Nat.reduceLT,z0,a1,a2,a3,a4,a5,a6,a7,a8,a9,b1,b2,b3,b4,b5,b6,b7,b8,b9,x1,x2,x3,x4,c1,c2,c3,c4,c5,c6,c7,c8,c9,y1,y2,y3,y4,y5,y6,y7,y8]
 refine RetOK.go [(nid,nid+68)] [] (.inl rfl) ?_
 simp [a31,cvT,step,res,a1,a2,a3,a4,a5,a6,a7,a8,a9,b1,b2,b3,b4,b5,b6,b7,b8,b9,x1,x2,x3,x4,c1,c2,c3,c4,c5,c6,c7,c8,c9,y1,y2,y3,y4,y5,y6,y7,y8,-List.getD_eq_getElem?_getD]
open Go.RowKit
theorem rdP_take {L:List (List UInt8)} {k:Nat} (h:0<k):rdP (L.take k)=rdP L:=by
 unfold rdP
 obtain ⟨m,rfl⟩:∃ m,k=m+1:=⟨k - 1,by omega⟩
 cases L <;> rfl
theorem rdR_one (L:List (List UInt8)):rdR (L.take 1)=[]:=by
 unfold rdR
 cases L <;> rfl
theorem rdR_len (L:List (List UInt8)):(rdR L).length=L.length - 1:=by simp [rdR]
theorem rdR_succ {L:List (List UInt8)} {k:Nat} (h:k+1<L.length):rdR (L.take (k+1+1))=rdR (L.take (k+1))++[(readRowV plW (L.getD (k+1) [])).getD []]:=by
 unfold rdR
 cases L with
 | nil=>simp at h
 | cons x L =>
  simp only [List.length_cons] at h
  simp only [List.take_succ_cons,List.drop_succ_cons,List.drop_zero,List.getD_cons_succ]
  have e:L.take (k+1)=L.take k++[L.getD k []]:=by rw [List.take_add_one,List.getElem?_eq_getElem (by omega),List.getD_eq_getElem?_getD,List.getElem?_eq_getElem (by omega)]; rfl
  rw [e,List.map_append]
  rfl
def boxW00:Option ABlk:=some (.box 28 [.lit true 0 [],.str []])
def rdW (s oa:Nat) (L:List (List UInt8)) (k:Nat):Heap:=[(s,boxRw oa (rdR (L.take k)).length (rdP (L.take k))),(s+4,boxCn k),(oa,arrS (rdR (L.take k)))]
def rdUW (s nid:Nat) (ok:Bool) (L:List (List UInt8)):Heap:=bif ok then [(s,boxRw nid (rdR L).length (rdP L)),(s+4,boxCn L.length),(nid,arrS (rdR L))] else [(s,none),(s+4,none)]
theorem rdW_zero (s oa:Nat) (L:List (List UInt8)):rdW s oa L 0=[(s,boxRw oa 0 []),(s+4,boxCn 0),(oa,arrS [])]:=by
 unfold rdW
 have e1:rdR (L.take 0)=[]:=rfl
 have e2:rdP (L.take 0)=[]:=by rw [List.take_zero]; simp [rdP,readPassV,wrd]
 rw [e1,e2]
 rfl
set_option maxHeartbeats 16000000 in
theorem eachW_c (s:Nat) (t:List UInt8) (nid:Nat) (hs4:s+4<nid) (ht:t.length≤1000000) (h0:t≠[]) :
  ACall Tryz.prog 30 [.str t,.fn 31 [.ptr (s+4) 0,.ptr s 0]] [(s,boxW00),(s+4,boxCn 0)] nid (.tup [.int .i64 (eachW goodWl t).1,.bool (eachW goodWl t).2]) (rdUW s nid (eachW goodWl t).2 (spl t).1):=by
 have hs:s<nid:=by omega
 obtain ⟨a1,a2,a3,a4,a5,a6,a7,a8,a9⟩:=id_all hs
 obtain ⟨b1,b2,b3,b4,b5,b6,b7,b8,b9⟩:=id_all hs4
 have x1:(s==s+4)=false:=by simp
 have x2:(s+4==s)=false:=by simp
 have x3:¬ s=s+4:=by omega
 have x4:¬ s+4=s:=by omega
 have hsl:=spl_len t
 have hm:=hsl.1
 have hsh:ShortRows 1000000 (spl t).1:=fun r hr=>by have:=hsl.2 r hr; omega
 have hbp:=body_pieces h0
 have htl:=spl_tail t h0
 have hln:=fun m=>lines_c t m h0 (by omega)
 obtain ⟨E,hE⟩:∃ E:Bool,(t.getLast?==some 10)=E:=⟨_,rfl⟩
 have hE2:E=true↔(spl t).2=[]:=by rw [htl,← hE]; simp
 have hP:pieces (bodyV t)=(spl t).1++(if E=true then [] else [(spl t).2]):=by
  rw [hbp,← hE]
  cases h:(t.getLast?==some 10)
  ·have:¬ t.getLast?=some 10:=by simpa using h
   rw [if_neg this]; rfl
  ·have:t.getLast?=some 10:=by simpa using h
   rw [if_pos this]; simp
 rw [hE] at hln
 have hat:∀ k,k<(spl t).1.length→(pieces (bodyV t)).getD k []=(spl t).1.getD k []:=fun k hk=>by rw [hP,getD_app_lt _ _ _ hk]
 have hlen:(pieces (bodyV t)).length=(spl t).1.length+(if E=true then 0 else 1):=by
  rw [hP,List.length_append]
  cases E <;> rfl
 generalize pieces (bodyV t)=P at hat hlen hln ⊢
 clear hP hbp hE htl
 generalize hL:(spl t).1=L at hat hlen hm hsh ⊢
 refine acall_sr c30 (by simp [a30]) ?_
 unfold a30 boxW00
 refine SR.seq ?_
 simp -dsimp only [aqT,aqU,aqN,aqP,aqM,↓seqK,↓blkK,↓loopK,step,stepBin,eqB,Nat.reduceBEq,Nat.reduceBeqDiff,Nat.add_assoc nid,Nat.reduceAdd,reduceCtorEq,↓reduceIte,Nat.reduceLeDiff,Nat.reduceBneDiff,Option.toList,← Int.ofNat_tmod,← Int.ofNat_tdiv,Nat.reduceLT,z0,a1,a2,a3,a4,a5,a6,a7,a8,a9,b1,b2,b3,b4,b5,b6,b7,b8,b9,x1,x2,x3,x4]
 refine SR.seqTo ⟨[(6,.lit false P.length [.s fun i=>P.getD i []]),(7,.bool E),(1,.fn 31 [.ptr (s+4) 0,.ptr s 0])],rdW s (nid+8) L 0,nid+100,nid⟩ ?_ ?_
 ·unfold boxCn
  simp -dsimp only [aqT,aqU,aqN,aqP,aqM,↓seqK,↓blkK,↓loopK,step,stepBin,eqB,Nat.reduceBEq,Nat.reduceBeqDiff,Nat.add_assoc nid,Nat.reduceAdd,reduceCtorEq,↓reduceIte,Nat.reduceLeDiff,Nat.reduceBneDiff,Option.toList,← Int.ofNat_tmod,← Int.ofNat_tdiv,Nat.reduceLT,z0,a1,a2,a3,a4,a5,a6,a7,a8,a9,b1,b2,b3,b4,b5,b6,b7,b8,b9,x1,x2,x3,x4]
  refine CallO.pure (hln _) ?_
  simp -dsimp only [aqT,aqU,aqN,aqP,aqM,↓seqK,↓blkK,↓loopK,step,stepBin,eqB,Nat.reduceBEq,Nat.reduceBeqDiff,Nat.add_assoc nid,Nat.reduceAdd,reduceCtorEq,↓reduceIte,Nat.reduceLeDiff,Nat.reduceBneDiff,Option.toList,← Int.ofNat_tmod,← Int.ofNat_tdiv,Nat.reduceLT,z0,a1,a2,a3,a4,a5,a6,a7,a8,a9,b1,b2,b3,b4,b5,b6,b7,b8,b9,x1,x2,x3,x4]
  refine Cov.go [] [(nid+8,1)] ?_
  rw [rdW_zero]
  unfold boxRw boxCn arrS
  simp [a30,cvT,step,res,a1,a2,a3,a4,a5,a6,a7,a8,a9,b1,b2,b3,b4,b5,b6,b7,b8,b9,x1,x2,x3,x4,ColsEq.refl,-List.getD_eq_getElem?_getD]
 refine SR.seqW (ι:=PLift ((∀ j,j<L.length→goodWl j (L.getD j [])=true)∧E=true)) (fun _=>⟨[],rdW s (nid+8) L L.length,nid+9000,nid⟩) ?_ (fun ⟨hg,hEt⟩=>?_)
 rotate_left
 ·have q1:eachW goodWl t=(0,true):=eachW_all (hE2.1 hEt) (by rw [hL]; exact hg)
  rw [q1]
  unfold rdW
  rw [List.take_length]
  unfold boxRw boxCn arrS
  refine SR.run (t:=.mk) ?_
  simp -dsimp only [aqT,aqU,aqN,aqP,aqM,↓seqK,↓blkK,↓loopK,step,stepBin,eqB,Nat.reduceBEq,Nat.reduceBeqDiff,Nat.add_assoc nid,Nat.reduceAdd,reduceCtorEq,↓reduceIte,Nat.reduceLeDiff,Nat.reduceBneDiff,Option.toList,← Int.ofNat_tmod,← Int.ofNat_tdiv,Nat.reduceLT,z0,a1,a2,a3,a4,a5,a6,a7,a8,a9,b1,b2,b3,b4,b5,b6,b7,b8,b9,x1,x2,x3,x4]
  refine RetOK.go [(nid,nid+8)] [] (.inl rfl) ?_
  simp [a30,cvT,step,res,a1,a2,a3,a4,a5,a6,a7,a8,a9,b1,b2,b3,b4,b5,b6,b7,b8,b9,x1,x2,x3,x4,rdUW,boxRw,boxCn,arrS,ColsEq.refl,-List.getD_eq_getElem?_getD]
 refine SR.seqTo ⟨[(17,.int .i64 (0:Nat)),(16,.int .i64 (P.length:Nat)),(15,.lit false P.length [.s fun i=>P.getD i []]),(6,.lit false P.length [.s fun i=>P.getD i []]),(7,.bool E),(1,.fn 31 [.ptr (s+4) 0,.ptr s 0])],rdW s (nid+8) L 0,nid+200,nid⟩ ?_ ?_
 ·rw [rdW_zero]
  unfold boxRw boxCn arrS
  simp -dsimp only [aqT,aqU,aqN,aqP,aqM,↓seqK,↓blkK,↓loopK,step,stepBin,eqB,Nat.reduceBEq,Nat.reduceBeqDiff,Nat.add_assoc nid,Nat.reduceAdd,reduceCtorEq,↓reduceIte,Nat.reduceLeDiff,Nat.reduceBneDiff,Option.toList,← Int.ofNat_tmod,← Int.ofNat_tdiv,Nat.reduceLT,z0,a1,a2,a3,a4,a5,a6,a7,a8,a9,b1,b2,b3,b4,b5,b6,b7,b8,b9,x1,x2,x3,x4]
  refine Cov.go [] [] ?_
  simp [a30,cvT,step,res,a1,a2,a3,a4,a5,a6,a7,a8,a9,b1,b2,b3,b4,b5,b6,b7,b8,b9,x1,x2,x3,x4,ColsEq.refl,-List.getD_eq_getElem?_getD]
 refine SR.block ?_
 refine SR.loopP (fun k:Nat=>k≤L.length∧∀ j,j<k→goodWl j (L.getD j [])=true) (fun k=>⟨[(17,.int .i64 (k:Nat)),(16,.int .i64 (P.length:Nat)),(15,.lit false P.length [.s fun i=>P.getD i []]),(6,.lit false P.length [.s fun i=>P.getD i []]),(7,.bool E),(1,.fn 31 [.ptr (s+4) 0,.ptr s 0])],rdW s (nid+8) L k,nid+300,nid⟩) (fun k=>L.length+1 - k) 0 ⟨by omega,fun j h=>by omega⟩ (Cov.go [] [] ?_) (fun k hk=>?_)
 ·rw [rdW_zero]
  unfold boxRw boxCn arrS
  simp [a30,cvT,step,res,a1,a2,a3,a4,a5,a6,a7,a8,a9,b1,b2,b3,b4,b5,b6,b7,b8,b9,x1,x2,x3,x4,ColsEq.refl,-List.getD_eq_getElem?_getD]
 obtain ⟨hk,hg⟩:=hk
 by_cases hkP:k<P.length
 rotate_left
 ·have hEt:E=true:=by
   cases E
   ·have hpl:P.length=L.length+1:=by simpa using hlen
    omega
   ·rfl
  subst hEt
  have hpl:P.length=L.length:=by simpa using hlen
  have hkL:k=L.length:=by omega
  have d1:decide ((k:Int)<(P.length:Nat))=false:=decide_eq_false (by omega)
  refine SR.run (t:=.mk) ?_
  simp -dsimp only [aqT,aqU,aqN,aqP,aqM,↓seqK,↓blkK,↓loopK,step,stepBin,eqB,Nat.reduceBEq,Nat.reduceBeqDiff,Nat.add_assoc nid,Nat.reduceAdd,reduceCtorEq,↓reduceIte,Nat.reduceLeDiff,Nat.reduceBneDiff,Option.toList,← Int.ofNat_tmod,← Int.ofNat_tdiv,Nat.reduceLT,z0,a1,a2,a3,a4,a5,a6,a7,a8,a9,b1,b2,b3,b4,b5,b6,b7,b8,b9,x1,x2,x3,x4,d1]
  refine ⟨⟨fun j hj=>hg j (by omega),rfl⟩,Cov.go [] [] ?_⟩
  rw [hkL]
  unfold rdW boxRw boxCn arrS
  simp [a30,cvT,step,res,a1,a2,a3,a4,a5,a6,a7,a8,a9,b1,b2,b3,b4,b5,b6,b7,b8,b9,x1,x2,x3,x4,ColsEq.refl,-List.getD_eq_getElem?_getD]
 have d1:decide ((k:Int)<(P.length:Nat))=true:=decide_eq_true (by omega)
 refine SR.seq ?_
 simp -dsimp only [aqT,aqU,aqN,aqP,aqM,↓seqK,↓blkK,↓loopK,step,stepBin,eqB,Nat.reduceBEq,Nat.reduceBeqDiff,Nat.add_assoc nid,Nat.reduceAdd,reduceCtorEq,↓reduceIte,Nat.reduceLeDiff,Nat.reduceBneDiff,Option.toList,← Int.ofNat_tmod,← Int.ofNat_tdiv,Nat.reduceLT,z0,a1,a2,a3,a4,a5,a6,a7,a8,a9,b1,b2,b3,b4,b5,b6,b7,b8,b9,x1,x2,x3,x4,d1]
 refine SR.seq ?_
 simp -dsimp only [aqT,aqU,aqN,aqP,aqM,↓seqK,↓blkK,↓loopK,step,stepBin,eqB,Nat.reduceBEq,Nat.reduceBeqDiff,Nat.add_assoc nid,Nat.reduceAdd,reduceCtorEq,↓reduceIte,Nat.reduceLeDiff,Nat.reduceBneDiff,Option.toList,← Int.ofNat_tmod,← Int.ofNat_tdiv,Nat.reduceLT,z0,a1,a2,a3,a4,a5,a6,a7,a8,a9,b1,b2,b3,b4,b5,b6,b7,b8,b9,x1,x2,x3,x4,d1]
 refine SR.seqW (ι:=PLift (k<L.length∧goodWl k (L.getD k [])=true)) (fun _=>⟨[(17,.int .i64 (k:Nat)),(16,.int .i64 (P.length:Nat)),(15,.lit false P.length [.s fun i=>P.getD i []]),(6,.lit false P.length [.s fun i=>P.getD i []]),(7,.bool E),(1,.fn 31 [.ptr (s+4) 0,.ptr s 0])],rdW s (nid+8) L (k+1),nid+5000,nid⟩) ?_ (fun ⟨hkl,hgk⟩=>?_)
 rotate_left
 ·refine SR.run (t:=.mk) ?_
  unfold rdW boxRw boxCn arrS
  simp -dsimp only [aqT,aqU,aqN,aqP,aqM,↓seqK,↓blkK,↓loopK,step,stepBin,eqB,Nat.reduceBEq,Nat.reduceBeqDiff,Nat.add_assoc nid,Nat.reduceAdd,reduceCtorEq,↓reduceIte,Nat.reduceLeDiff,Nat.reduceBneDiff,Option.toList,← Int.ofNat_tmod,← Int.ofNat_tdiv,Nat.reduceLT,z0,a1,a2,a3,a4,a5,a6,a7,a8,a9,b1,b2,b3,b4,b5,b6,b7,b8,b9,x1,x2,x3,x4]
  refine ⟨by unfold inI64; omega,k+1,⟨⟨by omega,fun j hjk=>?_⟩,by omega⟩,Cov.go [] [] ?_⟩
  ·rcases (by omega:j<k∨j=k) with h | h
   ·exact hg j h
   ·rw [h]; exact hgk
  ·simp [a30,cvT,step,res,a1,a2,a3,a4,a5,a6,a7,a8,a9,b1,b2,b3,b4,b5,b6,b7,b8,b9,x1,x2,x3,x4,ColsEq.refl,-List.getD_eq_getElem?_getD]
 refine SR.block ?_
 refine SR.seqTo ⟨[(8,.int .i64 (k:Nat)),(9,.str (P.getD k [])),(17,.int .i64 (k:Nat)),(16,.int .i64 (P.length:Nat)),(15,.lit false P.length [.s fun i=>P.getD i []]),(6,.lit false P.length [.s fun i=>P.getD i []]),(7,.bool E),(1,.fn 31 [.ptr (s+4) 0,.ptr s 0])],rdW s (nid+8) L k,nid+400,nid⟩ ?_ ?_
 ·unfold rdW boxRw boxCn arrS
  simp -dsimp only [aqT,aqU,aqN,aqP,aqM,↓seqK,↓blkK,↓loopK,step,stepBin,eqB,Nat.reduceBEq,Nat.reduceBeqDiff,Nat.add_assoc nid,Nat.reduceAdd,reduceCtorEq,↓reduceIte,Nat.reduceLeDiff,Nat.reduceBneDiff,Option.toList,← Int.ofNat_tmod,← Int.ofNat_tdiv,Nat.reduceLT,z0,a1,a2,a3,a4,a5,a6,a7,a8,a9,b1,b2,b3,b4,b5,b6,b7,b8,b9,x1,x2,x3,x4]
  refine ⟨⟨by omega,by omega⟩,Cov.go [] [] ?_⟩
  simp [a30,cvT,step,res,a1,a2,a3,a4,a5,a6,a7,a8,a9,b1,b2,b3,b4,b5,b6,b7,b8,b9,x1,x2,x3,x4,ColsEq.refl,-List.getD_eq_getElem?_getD]
 have hsub:((P.length:Nat):Int) - 1=((P.length - 1:Nat):Int):=by omega
 refine SR.run (t:=.mk) ?_
 cases E
 ·have hpl:P.length=L.length+1:=by simpa using hlen
  by_cases hkL:k=L.length
  ·have hne:(spl t).2≠[]:=fun e=>by have:=hE2.2 e; cases this
   have q1:eachW goodWl t=(L.length,false):=by rw [← hL]; exact eachW_open hne (by rw [hL]; intro j hj; exact hg j (by omega))
   have d2:(((k:Nat):Int)==((P.length - 1:Nat):Int))=true:=by rw [beq_iff_eq]; omega
   rw [q1,← hkL]
   unfold rdW boxRw boxCn arrS
   simp -dsimp only [aqT,aqU,aqN,aqP,aqM,↓seqK,↓blkK,↓loopK,step,stepBin,eqB,Nat.reduceBEq,Nat.reduceBeqDiff,Nat.add_assoc nid,Nat.reduceAdd,reduceCtorEq,↓reduceIte,Nat.reduceLeDiff,Nat.reduceBneDiff,Option.toList,← Int.ofNat_tmod,← Int.ofNat_tdiv,Nat.reduceLT,z0,a1,a2,a3,a4,a5,a6,a7,a8,a9,b1,b2,b3,b4,b5,b6,b7,b8,b9,x1,x2,x3,x4,hsub,d2,Bool.not_false]
   refine ⟨by unfold inI64; omega,?_⟩
   refine RetOK.go [] [] (.inl rfl) ?_
   simp [a30,cvT,step,res,a1,a2,a3,a4,a5,a6,a7,a8,a9,b1,b2,b3,b4,b5,b6,b7,b8,b9,x1,x2,x3,x4,rdUW,-List.getD_eq_getElem?_getD]
  ·have hkl:k<L.length:=by omega
   have d2:(((k:Nat):Int)==((P.length - 1:Nat):Int))=false:=by rw [beq_eq_false_iff_ne]; omega
   rw [hat k hkl]
   clear hat hlen
   have hrk:=hsh.at k
   cases hgk:goodWl k (L.getD k [])
   ·have q1:eachW goodWl t=(k,false):=eachW_bad (by rw [hL]; exact hkl) (by rw [hL]; exact hg) (by rw [hL]; exact hgk)
    rw [q1]
    rcases k with _ | k
    ·have hgx:(readPassV (L.getD 0 [])).isSome=false:=hgk
     have hc:=fun n (h:s+4<n) (h2:nid+8<n)=>rd0_c s (nid+8) n (L.getD 0 []) h h2 (by omega) (by omega) hrk
     rw [hgx] at hc
     generalize L.getD 0 []=line at *
     rw [rdW_zero]
     unfold boxRw boxCn arrS at *
     simp -dsimp only [aqT,aqU,aqN,aqP,aqM,↓seqK,↓blkK,↓loopK,step,stepBin,eqB,Nat.reduceBEq,Nat.reduceBeqDiff,Nat.add_assoc nid,Nat.reduceAdd,reduceCtorEq,↓reduceIte,Nat.reduceLeDiff,Nat.reduceBneDiff,Option.toList,← Int.ofNat_tmod,← Int.ofNat_tdiv,Nat.reduceLT,z0,a1,a2,a3,a4,a5,a6,a7,a8,a9,b1,b2,b3,b4,b5,b6,b7,b8,b9,x1,x2,x3,x4,hsub,d2,Bool.not_false]
     refine ⟨by unfold inI64; omega,?_⟩
     refine CallO.on (hc _ (by omega) (by omega)) (subH_cons (by simp only [aqT,aqU,aqN,aqP,aqM,↓seqK,↓blkK,↓loopK,step,stepBin,eqB,Nat.reduceBEq,Nat.reduceBeqDiff,Nat.add_assoc nid,Nat.reduceAdd,reduceCtorEq,↓reduceIte,Nat.reduceLeDiff,Nat.reduceBneDiff,Option.toList,← Int.ofNat_tmod,← Int.ofNat_tdiv,Nat.reduceLT,z0,a1,a2,a3,a4,a5,a6,a7,a8,a9,b1,b2,b3,b4,b5,b6,b7,b8,b9,x1,x2,x3,x4]) (subH_get (by simp only [aqT,aqU,aqN,aqP,aqM,↓seqK,↓blkK,↓loopK,step,stepBin,eqB,Nat.reduceBEq,Nat.reduceBeqDiff,Nat.add_assoc nid,Nat.reduceAdd,reduceCtorEq,↓reduceIte,Nat.reduceLeDiff,Nat.reduceBneDiff,Option.toList,← Int.ofNat_tmod,← Int.ofNat_tdiv,Nat.reduceLT,z0,a1,a2,a3,a4,a5,a6,a7,a8,a9,b1,b2,b3,b4,b5,b6,b7,b8,b9,x1,x2,x3,x4]))) ?_
     simp -dsimp only [aqT,aqU,aqN,aqP,aqM,↓seqK,↓blkK,↓loopK,step,stepBin,eqB,Nat.reduceBEq,Nat.reduceBeqDiff,Nat.add_assoc nid,Nat.reduceAdd,reduceCtorEq,↓reduceIte,Nat.reduceLeDiff,Nat.reduceBneDiff,Option.toList,← Int.ofNat_tmod,← Int.ofNat_tdiv,Nat.reduceLT,z0,a1,a2,a3,a4,a5,a6,a7,a8,a9,b1,b2,b3,b4,b5,b6,b7,b8,b9,x1,x2,x3,x4,hsub,d2,Bool.not_false,Bool.not_false,Bool.not_true]
     refine RetOK.go [] [] (.inl rfl) ?_
     simp [a30,cvT,step,res,a1,a2,a3,a4,a5,a6,a7,a8,a9,b1,b2,b3,b4,b5,b6,b7,b8,b9,x1,x2,x3,x4,rdUW,-List.getD_eq_getElem?_getD]
    ·have hgx:(readRowV plW (L.getD (k+1) [])).isSome=false:=hgk
     have hRl:(rdR (L.take (k+1))).length≤1000000:=by rw [rdR_len,List.length_take]; omega
     have hc:=fun n (h:s+4<n) (h2:nid+8<n)=>rdk_c s (nid+8) n (k+1) (rdP (L.take (k+1))) (rdR (L.take (k+1))) (L.getD (k+1) []) h h2 (by omega) (by omega) hrk (by omega) (by omega) hRl
     rw [hgx] at hc
     generalize L.getD (k+1) []=line at *
     unfold rdW boxRw boxCn arrS at *
     simp -dsimp only [aqT,aqU,aqN,aqP,aqM,↓seqK,↓blkK,↓loopK,step,stepBin,eqB,Nat.reduceBEq,Nat.reduceBeqDiff,Nat.add_assoc nid,Nat.reduceAdd,reduceCtorEq,↓reduceIte,Nat.reduceLeDiff,Nat.reduceBneDiff,Option.toList,← Int.ofNat_tmod,← Int.ofNat_tdiv,Nat.reduceLT,z0,a1,a2,a3,a4,a5,a6,a7,a8,a9,b1,b2,b3,b4,b5,b6,b7,b8,b9,x1,x2,x3,x4,hsub,d2,Bool.not_false]
     refine ⟨by unfold inI64; omega,?_⟩
     refine CallO.on (hc _ (by omega) (by omega)) (subH_cons (by simp only [aqT,aqU,aqN,aqP,aqM,↓seqK,↓blkK,↓loopK,step,stepBin,eqB,Nat.reduceBEq,Nat.reduceBeqDiff,Nat.add_assoc nid,Nat.reduceAdd,reduceCtorEq,↓reduceIte,Nat.reduceLeDiff,Nat.reduceBneDiff,Option.toList,← Int.ofNat_tmod,← Int.ofNat_tdiv,Nat.reduceLT,z0,a1,a2,a3,a4,a5,a6,a7,a8,a9,b1,b2,b3,b4,b5,b6,b7,b8,b9,x1,x2,x3,x4]) (subH_cons (by simp only [aqT,aqU,aqN,aqP,aqM,↓seqK,↓blkK,↓loopK,step,stepBin,eqB,Nat.reduceBEq,Nat.reduceBeqDiff,Nat.add_assoc nid,Nat.reduceAdd,reduceCtorEq,↓reduceIte,Nat.reduceLeDiff,Nat.reduceBneDiff,Option.toList,← Int.ofNat_tmod,← Int.ofNat_tdiv,Nat.reduceLT,z0,a1,a2,a3,a4,a5,a6,a7,a8,a9,b1,b2,b3,b4,b5,b6,b7,b8,b9,x1,x2,x3,x4]) (subH_get (by simp only [aqT,aqU,aqN,aqP,aqM,↓seqK,↓blkK,↓loopK,step,stepBin,eqB,Nat.reduceBEq,Nat.reduceBeqDiff,Nat.add_assoc nid,Nat.reduceAdd,reduceCtorEq,↓reduceIte,Nat.reduceLeDiff,Nat.reduceBneDiff,Option.toList,← Int.ofNat_tmod,← Int.ofNat_tdiv,Nat.reduceLT,z0,a1,a2,a3,a4,a5,a6,a7,a8,a9,b1,b2,b3,b4,b5,b6,b7,b8,b9,x1,x2,x3,x4])))) ?_
     simp -dsimp only [aqT,aqU,aqN,aqP,aqM,↓seqK,↓blkK,↓loopK,step,stepBin,eqB,Nat.reduceBEq,Nat.reduceBeqDiff,Nat.add_assoc nid,Nat.reduceAdd,reduceCtorEq,↓reduceIte,Nat.reduceLeDiff,Nat.reduceBneDiff,Option.toList,← Int.ofNat_tmod,← Int.ofNat_tdiv,Nat.reduceLT,z0,a1,a2,a3,a4,a5,a6,a7,a8,a9,b1,b2,b3,b4,b5,b6,b7,b8,b9,x1,x2,x3,x4,hsub,d2,Bool.not_false,Bool.not_false,Bool.not_true]
     refine RetOK.go [] [] (.inl rfl) ?_
     simp [a30,cvT,step,res,a1,a2,a3,a4,a5,a6,a7,a8,a9,b1,b2,b3,b4,b5,b6,b7,b8,b9,x1,x2,x3,x4,rdUW,-List.getD_eq_getElem?_getD]
   ·rcases k with _ | k
    ·have hgx:(readPassV (L.getD 0 [])).isSome=true:=hgk
     have hc:=fun n (h:s+4<n) (h2:nid+8<n)=>rd0_c s (nid+8) n (L.getD 0 []) h h2 (by omega) (by omega) hrk
     rw [hgx] at hc
     have e1:rdP (L.take 1)=(readPassV (L.getD 0 [])).getD []:=by rw [rdP_take (by omega)]; rfl
     have e2:rdR (L.take 1)=[]:=rdR_one L
     rw [← e1] at hc
     generalize L.getD 0 []=line at *
     rw [rdW_zero]
     unfold boxRw boxCn arrS at *
     simp -dsimp only [aqT,aqU,aqN,aqP,aqM,↓seqK,↓blkK,↓loopK,step,stepBin,eqB,Nat.reduceBEq,Nat.reduceBeqDiff,Nat.add_assoc nid,Nat.reduceAdd,reduceCtorEq,↓reduceIte,Nat.reduceLeDiff,Nat.reduceBneDiff,Option.toList,← Int.ofNat_tmod,← Int.ofNat_tdiv,Nat.reduceLT,z0,a1,a2,a3,a4,a5,a6,a7,a8,a9,b1,b2,b3,b4,b5,b6,b7,b8,b9,x1,x2,x3,x4,hsub,d2,Bool.not_false]
     refine ⟨by unfold inI64; omega,?_⟩
     refine CallO.on (hc _ (by omega) (by omega)) (subH_cons (by simp only [aqT,aqU,aqN,aqP,aqM,↓seqK,↓blkK,↓loopK,step,stepBin,eqB,Nat.reduceBEq,Nat.reduceBeqDiff,Nat.add_assoc nid,Nat.reduceAdd,reduceCtorEq,↓reduceIte,Nat.reduceLeDiff,Nat.reduceBneDiff,Option.toList,← Int.ofNat_tmod,← Int.ofNat_tdiv,Nat.reduceLT,z0,a1,a2,a3,a4,a5,a6,a7,a8,a9,b1,b2,b3,b4,b5,b6,b7,b8,b9,x1,x2,x3,x4]) (subH_get (by simp only [aqT,aqU,aqN,aqP,aqM,↓seqK,↓blkK,↓loopK,step,stepBin,eqB,Nat.reduceBEq,Nat.reduceBeqDiff,Nat.add_assoc nid,Nat.reduceAdd,reduceCtorEq,↓reduceIte,Nat.reduceLeDiff,Nat.reduceBneDiff,Option.toList,← Int.ofNat_tmod,← Int.ofNat_tdiv,Nat.reduceLT,z0,a1,a2,a3,a4,a5,a6,a7,a8,a9,b1,b2,b3,b4,b5,b6,b7,b8,b9,x1,x2,x3,x4]))) ?_
     simp -dsimp only [aqT,aqU,aqN,aqP,aqM,↓seqK,↓blkK,↓loopK,step,stepBin,eqB,Nat.reduceBEq,Nat.reduceBeqDiff,Nat.add_assoc nid,Nat.reduceAdd,reduceCtorEq,↓reduceIte,Nat.reduceLeDiff,Nat.reduceBneDiff,Option.toList,← Int.ofNat_tmod,← Int.ofNat_tdiv,Nat.reduceLT,z0,a1,a2,a3,a4,a5,a6,a7,a8,a9,b1,b2,b3,b4,b5,b6,b7,b8,b9,x1,x2,x3,x4,hsub,d2,Bool.not_false,Bool.not_false,Bool.not_true]
     refine ⟨⟨hkl,rfl⟩,Cov.go [] [] ?_⟩
     unfold rdW boxRw boxCn arrS
     rw [e2]
     simp [a30,cvT,step,res,a1,a2,a3,a4,a5,a6,a7,a8,a9,b1,b2,b3,b4,b5,b6,b7,b8,b9,x1,x2,x3,x4,ColsEq.refl,-List.getD_eq_getElem?_getD]
    ·have hgx:(readRowV plW (L.getD (k+1) [])).isSome=true:=hgk
     have hRl:(rdR (L.take (k+1))).length≤1000000:=by rw [rdR_len,List.length_take]; omega
     have hc:=fun n (h:s+4<n) (h2:nid+8<n)=>rdk_c s (nid+8) n (k+1) (rdP (L.take (k+1))) (rdR (L.take (k+1))) (L.getD (k+1) []) h h2 (by omega) (by omega) hrk (by omega) (by omega) hRl
     rw [hgx] at hc
     have e1:rdP (L.take (k+1+1))=rdP (L.take (k+1)):=by rw [rdP_take (by omega),rdP_take (by omega)]
     have e2:rdR (L.take (k+1+1))=rdR (L.take (k+1))++[(readRowV plW (L.getD (k+1) [])).getD []]:=rdR_succ hkl
     rw [← e2] at hc
     have e3:(rdR (L.take (k+1+1))).length=(rdR (L.take (k+1))).length+1:=by rw [e2,List.length_append]; rfl
     rw [← e3] at hc
     clear e2
     generalize L.getD (k+1) []=line at *
     unfold rdW boxRw boxCn arrS at *
     simp -dsimp only [aqT,aqU,aqN,aqP,aqM,↓seqK,↓blkK,↓loopK,step,stepBin,eqB,Nat.reduceBEq,Nat.reduceBeqDiff,Nat.add_assoc nid,Nat.reduceAdd,reduceCtorEq,↓reduceIte,Nat.reduceLeDiff,Nat.reduceBneDiff,Option.toList,← Int.ofNat_tmod,← Int.ofNat_tdiv,Nat.reduceLT,z0,a1,a2,a3,a4,a5,a6,a7,a8,a9,b1,b2,b3,b4,b5,b6,b7,b8,b9,x1,x2,x3,x4,hsub,d2,Bool.not_false]
     refine ⟨by unfold inI64; omega,?_⟩
     refine CallO.on (hc _ (by omega) (by omega)) (subH_cons (by simp only [aqT,aqU,aqN,aqP,aqM,↓seqK,↓blkK,↓loopK,step,stepBin,eqB,Nat.reduceBEq,Nat.reduceBeqDiff,Nat.add_assoc nid,Nat.reduceAdd,reduceCtorEq,↓reduceIte,Nat.reduceLeDiff,Nat.reduceBneDiff,Option.toList,← Int.ofNat_tmod,← Int.ofNat_tdiv,Nat.reduceLT,z0,a1,a2,a3,a4,a5,a6,a7,a8,a9,b1,b2,b3,b4,b5,b6,b7,b8,b9,x1,x2,x3,x4]) (subH_cons (by simp only [aqT,aqU,aqN,aqP,aqM,↓seqK,↓blkK,↓loopK,step,stepBin,eqB,Nat.reduceBEq,Nat.reduceBeqDiff,Nat.add_assoc nid,Nat.reduceAdd,reduceCtorEq,↓reduceIte,Nat.reduceLeDiff,Nat.reduceBneDiff,Option.toList,← Int.ofNat_tmod,← Int.ofNat_tdiv,Nat.reduceLT,z0,a1,a2,a3,a4,a5,a6,a7,a8,a9,b1,b2,b3,b4,b5,b6,b7,b8,b9,x1,x2,x3,x4]) (subH_get (by simp only [aqT,aqU,aqN,aqP,aqM,↓seqK,↓blkK,↓loopK,step,stepBin,eqB,Nat.reduceBEq,Nat.reduceBeqDiff,Nat.add_assoc nid,Nat.reduceAdd,reduceCtorEq,↓reduceIte,Nat.reduceLeDiff,Nat.reduceBneDiff,Option.toList,← Int.ofNat_tmod,← Int.ofNat_tdiv,Nat.reduceLT,z0,a1,a2,a3,a4,a5,a6,a7,a8,a9,b1,b2,b3,b4,b5,b6,b7,b8,b9,x1,x2,x3,x4])))) ?_
     simp -dsimp only [aqT,aqU,aqN,aqP,aqM,↓seqK,↓blkK,↓loopK,step,stepBin,eqB,Nat.reduceBEq,Nat.reduceBeqDiff,Nat.add_assoc nid,Nat.reduceAdd,reduceCtorEq,↓reduceIte,Nat.reduceLeDiff,Nat.reduceBneDiff,Option.toList,← Int.ofNat_tmod,← Int.ofNat_tdiv,Nat.reduceLT,z0,a1,a2,a3,a4,a5,a6,a7,a8,a9,b1,b2,b3,b4,b5,b6,b7,b8,b9,x1,x2,x3,x4,hsub,d2,Bool.not_false,Bool.not_false,Bool.not_true]
     refine ⟨⟨hkl,rfl⟩,Cov.go [(nid+8,nid+448)] [] ?_⟩
     rw [e1]
     simp [a30,cvT,step,res,a1,a2,a3,a4,a5,a6,a7,a8,a9,b1,b2,b3,b4,b5,b6,b7,b8,b9,x1,x2,x3,x4,ColsEq.refl,-List.getD_eq_getElem?_getD]
 ·have hpl:P.length=L.length:=by simpa using hlen
  have hkl:k<L.length:=by omega
  rw [hat k hkl]
  clear hat hlen
  have hrk:=hsh.at k
  cases hgk:goodWl k (L.getD k [])
  ·have q1:eachW goodWl t=(k,false):=eachW_bad (by rw [hL]; exact hkl) (by rw [hL]; exact hg) (by rw [hL]; exact hgk)
   rw [q1]
   rcases k with _ | k
   ·have hgx:(readPassV (L.getD 0 [])).isSome=false:=hgk
    have hc:=fun n (h:s+4<n) (h2:nid+8<n)=>rd0_c s (nid+8) n (L.getD 0 []) h h2 (by omega) (by omega) hrk
    rw [hgx] at hc
    generalize L.getD 0 []=line at *
    rw [rdW_zero]
    unfold boxRw boxCn arrS at *
    simp -dsimp only [aqT,aqU,aqN,aqP,aqM,↓seqK,↓blkK,↓loopK,step,stepBin,eqB,Nat.reduceBEq,Nat.reduceBeqDiff,Nat.add_assoc nid,Nat.reduceAdd,reduceCtorEq,↓reduceIte,Nat.reduceLeDiff,Nat.reduceBneDiff,Option.toList,← Int.ofNat_tmod,← Int.ofNat_tdiv,Nat.reduceLT,z0,a1,a2,a3,a4,a5,a6,a7,a8,a9,b1,b2,b3,b4,b5,b6,b7,b8,b9,x1,x2,x3,x4,Bool.not_true]
    refine CallO.on (hc _ (by omega) (by omega)) (subH_cons (by simp only [aqT,aqU,aqN,aqP,aqM,↓seqK,↓blkK,↓loopK,step,stepBin,eqB,Nat.reduceBEq,Nat.reduceBeqDiff,Nat.add_assoc nid,Nat.reduceAdd,reduceCtorEq,↓reduceIte,Nat.reduceLeDiff,Nat.reduceBneDiff,Option.toList,← Int.ofNat_tmod,← Int.ofNat_tdiv,Nat.reduceLT,z0,a1,a2,a3,a4,a5,a6,a7,a8,a9,b1,b2,b3,b4,b5,b6,b7,b8,b9,x1,x2,x3,x4]) (subH_get (by simp only [aqT,aqU,aqN,aqP,aqM,↓seqK,↓blkK,↓loopK,step,stepBin,eqB,Nat.reduceBEq,Nat.reduceBeqDiff,Nat.add_assoc nid,Nat.reduceAdd,reduceCtorEq,↓reduceIte,Nat.reduceLeDiff,Nat.reduceBneDiff,Option.toList,← Int.ofNat_tmod,← Int.ofNat_tdiv,Nat.reduceLT,z0,a1,a2,a3,a4,a5,a6,a7,a8,a9,b1,b2,b3,b4,b5,b6,b7,b8,b9,x1,x2,x3,x4]))) ?_
    simp -dsimp only [aqT,aqU,aqN,aqP,aqM,↓seqK,↓blkK,↓loopK,step,stepBin,eqB,Nat.reduceBEq,Nat.reduceBeqDiff,Nat.add_assoc nid,Nat.reduceAdd,reduceCtorEq,↓reduceIte,Nat.reduceLeDiff,Nat.reduceBneDiff,Option.toList,← Int.ofNat_tmod,← Int.ofNat_tdiv,Nat.reduceLT,z0,a1,a2,a3,a4,a5,a6,a7,a8,a9,b1,b2,b3,b4,b5,b6,b7,b8,b9,x1,x2,x3,x4,Bool.not_true,Bool.not_false,Bool.not_true]
    refine RetOK.go [] [] (.inl rfl) ?_
    simp [a30,cvT,step,res,a1,a2,a3,a4,a5,a6,a7,a8,a9,b1,b2,b3,b4,b5,b6,b7,b8,b9,x1,x2,x3,x4,rdUW,-List.getD_eq_getElem?_getD]
   ·have hgx:(readRowV plW (L.getD (k+1) [])).isSome=false:=hgk
    have hRl:(rdR (L.take (k+1))).length≤1000000:=by rw [rdR_len,List.length_take]; omega
    have hc:=fun n (h:s+4<n) (h2:nid+8<n)=>rdk_c s (nid+8) n (k+1) (rdP (L.take (k+1))) (rdR (L.take (k+1))) (L.getD (k+1) []) h h2 (by omega) (by omega) hrk (by omega) (by omega) hRl
    rw [hgx] at hc
    generalize L.getD (k+1) []=line at *
    unfold rdW boxRw boxCn arrS at *
    simp -dsimp only [aqT,aqU,aqN,aqP,aqM,↓seqK,↓blkK,↓loopK,step,stepBin,eqB,Nat.reduceBEq,Nat.reduceBeqDiff,Nat.add_assoc nid,Nat.reduceAdd,reduceCtorEq,↓reduceIte,Nat.reduceLeDiff,Nat.reduceBneDiff,Option.toList,← Int.ofNat_tmod,← Int.ofNat_tdiv,Nat.reduceLT,z0,a1,a2,a3,a4,a5,a6,a7,a8,a9,b1,b2,b3,b4,b5,b6,b7,b8,b9,x1,x2,x3,x4,Bool.not_true]
    refine CallO.on (hc _ (by omega) (by omega)) (subH_cons (by simp only [aqT,aqU,aqN,aqP,aqM,↓seqK,↓blkK,↓loopK,step,stepBin,eqB,Nat.reduceBEq,Nat.reduceBeqDiff,Nat.add_assoc nid,Nat.reduceAdd,reduceCtorEq,↓reduceIte,Nat.reduceLeDiff,Nat.reduceBneDiff,Option.toList,← Int.ofNat_tmod,← Int.ofNat_tdiv,Nat.reduceLT,z0,a1,a2,a3,a4,a5,a6,a7,a8,a9,b1,b2,b3,b4,b5,b6,b7,b8,b9,x1,x2,x3,x4]) (subH_cons (by simp only [aqT,aqU,aqN,aqP,aqM,↓seqK,↓blkK,↓loopK,step,stepBin,eqB,Nat.reduceBEq,Nat.reduceBeqDiff,Nat.add_assoc nid,Nat.reduceAdd,reduceCtorEq,↓reduceIte,Nat.reduceLeDiff,Nat.reduceBneDiff,Option.toList,← Int.ofNat_tmod,← Int.ofNat_tdiv,Nat.reduceLT,z0,a1,a2,a3,a4,a5,a6,a7,a8,a9,b1,b2,b3,b4,b5,b6,b7,b8,b9,x1,x2,x3,x4]) (subH_get (by simp only [aqT,aqU,aqN,aqP,aqM,↓seqK,↓blkK,↓loopK,step,stepBin,eqB,Nat.reduceBEq,Nat.reduceBeqDiff,Nat.add_assoc nid,Nat.reduceAdd,reduceCtorEq,↓reduceIte,Nat.reduceLeDiff,Nat.reduceBneDiff,Option.toList,← Int.ofNat_tmod,← Int.ofNat_tdiv,Nat.reduceLT,z0,a1,a2,a3,a4,a5,a6,a7,a8,a9,b1,b2,b3,b4,b5,b6,b7,b8,b9,x1,x2,x3,x4])))) ?_
    simp -dsimp only [aqT,aqU,aqN,aqP,aqM,↓seqK,↓blkK,↓loopK,step,stepBin,eqB,Nat.reduceBEq,Nat.reduceBeqDiff,Nat.add_assoc nid,Nat.reduceAdd,reduceCtorEq,↓reduceIte,Nat.reduceLeDiff,Nat.reduceBneDiff,Option.toList,← Int.ofNat_tmod,← Int.ofNat_tdiv,Nat.reduceLT,z0,a1,a2,a3,a4,a5,a6,a7,a8,a9,b1,b2,b3,b4,b5,b6,b7,b8,b9,x1,x2,x3,x4,Bool.not_true,Bool.not_false,Bool.not_true]
    refine RetOK.go [] [] (.inl rfl) ?_
    simp [a30,cvT,step,res,a1,a2,a3,a4,a5,a6,a7,a8,a9,b1,b2,b3,b4,b5,b6,b7,b8,b9,x1,x2,x3,x4,rdUW,-List.getD_eq_getElem?_getD]
  ·rcases k with _ | k
   ·have hgx:(readPassV (L.getD 0 [])).isSome=true:=hgk
    have hc:=fun n (h:s+4<n) (h2:nid+8<n)=>rd0_c s (nid+8) n (L.getD 0 []) h h2 (by omega) (by omega) hrk
    rw [hgx] at hc
    have e1:rdP (L.take 1)=(readPassV (L.getD 0 [])).getD []:=by rw [rdP_take (by omega)]; rfl
    have e2:rdR (L.take 1)=[]:=rdR_one L
    rw [← e1] at hc
    generalize L.getD 0 []=line at *
    rw [rdW_zero]
    unfold boxRw boxCn arrS at *
    simp -dsimp only [aqT,aqU,aqN,aqP,aqM,↓seqK,↓blkK,↓loopK,step,stepBin,eqB,Nat.reduceBEq,Nat.reduceBeqDiff,Nat.add_assoc nid,Nat.reduceAdd,reduceCtorEq,↓reduceIte,Nat.reduceLeDiff,Nat.reduceBneDiff,Option.toList,← Int.ofNat_tmod,← Int.ofNat_tdiv,Nat.reduceLT,z0,a1,a2,a3,a4,a5,a6,a7,a8,a9,b1,b2,b3,b4,b5,b6,b7,b8,b9,x1,x2,x3,x4,Bool.not_true]
    refine CallO.on (hc _ (by omega) (by omega)) (subH_cons (by simp only [aqT,aqU,aqN,aqP,aqM,↓seqK,↓blkK,↓loopK,step,stepBin,eqB,Nat.reduceBEq,Nat.reduceBeqDiff,Nat.add_assoc nid,Nat.reduceAdd,reduceCtorEq,↓reduceIte,Nat.reduceLeDiff,Nat.reduceBneDiff,Option.toList,← Int.ofNat_tmod,← Int.ofNat_tdiv,Nat.reduceLT,z0,a1,a2,a3,a4,a5,a6,a7,a8,a9,b1,b2,b3,b4,b5,b6,b7,b8,b9,x1,x2,x3,x4]) (subH_get (by simp only [aqT,aqU,aqN,aqP,aqM,↓seqK,↓blkK,↓loopK,step,stepBin,eqB,Nat.reduceBEq,Nat.reduceBeqDiff,Nat.add_assoc nid,Nat.reduceAdd,reduceCtorEq,↓reduceIte,Nat.reduceLeDiff,Nat.reduceBneDiff,Option.toList,← Int.ofNat_tmod,← Int.ofNat_tdiv,Nat.reduceLT,z0,a1,a2,a3,a4,a5,a6,a7,a8,a9,b1,b2,b3,b4,b5,b6,b7,b8,b9,x1,x2,x3,x4]))) ?_
    simp -dsimp only [aqT,aqU,aqN,aqP,aqM,↓seqK,↓blkK,↓loopK,step,stepBin,eqB,Nat.reduceBEq,Nat.reduceBeqDiff,Nat.add_assoc nid,Nat.reduceAdd,reduceCtorEq,↓reduceIte,Nat.reduceLeDiff,Nat.reduceBneDiff,Option.toList,← Int.ofNat_tmod,← Int.ofNat_tdiv,Nat.reduceLT,z0,a1,a2,a3,a4,a5,a6,a7,a8,a9,b1,b2,b3,b4,b5,b6,b7,b8,b9,x1,x2,x3,x4,Bool.not_true,Bool.not_false,Bool.not_true]
    refine ⟨⟨hkl,rfl⟩,Cov.go [] [] ?_⟩
    unfold rdW boxRw boxCn arrS
    rw [e2]
    simp [a30,cvT,step,res,a1,a2,a3,a4,a5,a6,a7,a8,a9,b1,b2,b3,b4,b5,b6,b7,b8,b9,x1,x2,x3,x4,ColsEq.refl,-List.getD_eq_getElem?_getD]
   ·have hgx:(readRowV plW (L.getD (k+1) [])).isSome=true:=hgk
    have hRl:(rdR (L.take (k+1))).length≤1000000:=by rw [rdR_len,List.length_take]; omega
    have hc:=fun n (h:s+4<n) (h2:nid+8<n)=>rdk_c s (nid+8) n (k+1) (rdP (L.take (k+1))) (rdR (L.take (k+1))) (L.getD (k+1) []) h h2 (by omega) (by omega) hrk (by omega) (by omega) hRl
    rw [hgx] at hc
    have e1:rdP (L.take (k+1+1))=rdP (L.take (k+1)):=by rw [rdP_take (by omega),rdP_take (by omega)]
    have e2:rdR (L.take (k+1+1))=rdR (L.take (k+1))++[(readRowV plW (L.getD (k+1) [])).getD []]:=rdR_succ hkl
    rw [← e2] at hc
    have e3:(rdR (L.take (k+1+1))).length=(rdR (L.take (k+1))).length+1:=by rw [e2,List.length_append]; rfl
    rw [← e3] at hc
    clear e2
    generalize L.getD (k+1) []=line at *
    unfold rdW boxRw boxCn arrS at *
    simp -dsimp only [aqT,aqU,aqN,aqP,aqM,↓seqK,↓blkK,↓loopK,step,stepBin,eqB,Nat.reduceBEq,Nat.reduceBeqDiff,Nat.add_assoc nid,Nat.reduceAdd,reduceCtorEq,↓reduceIte,Nat.reduceLeDiff,Nat.reduceBneDiff,Option.toList,← Int.ofNat_tmod,← Int.ofNat_tdiv,Nat.reduceLT,z0,a1,a2,a3,a4,a5,a6,a7,a8,a9,b1,b2,b3,b4,b5,b6,b7,b8,b9,x1,x2,x3,x4,Bool.not_true]
    refine CallO.on (hc _ (by omega) (by omega)) (subH_cons (by simp only [aqT,aqU,aqN,aqP,aqM,↓seqK,↓blkK,↓loopK,step,stepBin,eqB,Nat.reduceBEq,Nat.reduceBeqDiff,Nat.add_assoc nid,Nat.reduceAdd,reduceCtorEq,↓reduceIte,Nat.reduceLeDiff,Nat.reduceBneDiff,Option.toList,← Int.ofNat_tmod,← Int.ofNat_tdiv,Nat.reduceLT,z0,a1,a2,a3,a4,a5,a6,a7,a8,a9,b1,b2,b3,b4,b5,b6,b7,b8,b9,x1,x2,x3,x4]) (subH_cons (by simp only [aqT,aqU,aqN,aqP,aqM,↓seqK,↓blkK,↓loopK,step,stepBin,eqB,Nat.reduceBEq,Nat.reduceBeqDiff,Nat.add_assoc nid,Nat.reduceAdd,reduceCtorEq,↓reduceIte,Nat.reduceLeDiff,Nat.reduceBneDiff,Option.toList,← Int.ofNat_tmod,← Int.ofNat_tdiv,Nat.reduceLT,z0,a1,a2,a3,a4,a5,a6,a7,a8,a9,b1,b2,b3,b4,b5,b6,b7,b8,b9,x1,x2,x3,x4]) (subH_get (by simp only [aqT,aqU,aqN,aqP,aqM,↓seqK,↓blkK,↓loopK,step,stepBin,eqB,Nat.reduceBEq,Nat.reduceBeqDiff,Nat.add_assoc nid,Nat.reduceAdd,reduceCtorEq,↓reduceIte,Nat.reduceLeDiff,Nat.reduceBneDiff,Option.toList,← Int.ofNat_tmod,← Int.ofNat_tdiv,Nat.reduceLT,z0,a1,a2,a3,a4,a5,a6,a7,a8,a9,b1,b2,b3,b4,b5,b6,b7,b8,b9,x1,x2,x3,x4])))) ?_
    simp -dsimp only [aqT,aqU,aqN,aqP,aqM,↓seqK,↓blkK,↓loopK,step,stepBin,eqB,Nat.reduceBEq,Nat.reduceBeqDiff,Nat.add_assoc nid,Nat.reduceAdd,reduceCtorEq,↓reduceIte,Nat.reduceLeDiff,Nat.reduceBneDiff,Option.toList,← Int.ofNat_tmod,← Int.ofNat_tdiv,Nat.reduceLT,z0,a1,a2,a3,a4,a5,a6,a7,a8,a9,b1,b2,b3,b4,b5,b6,b7,b8,b9,x1,x2,x3,x4,Bool.not_true,Bool.not_false,Bool.not_true]
    refine ⟨⟨hkl,rfl⟩,Cov.go [(nid+8,nid+448)] [] ?_⟩
    rw [e1]
    simp [a30,cvT,step,res,a1,a2,a3,a4,a5,a6,a7,a8,a9,b1,b2,b3,b4,b5,b6,b7,b8,b9,x1,x2,x3,x4,ColsEq.refl,-List.getD_eq_getElem?_getD]
open Go.RowKit
theorem getD_ltG {l:List (List UInt8)} {k:Nat} (h:k<l.length):l.getD k []=l[k]:=by rw [List.getD_eq_getElem?_getD,List.getElem?_eq_getElem h]; rfl
def idxG (F:List UInt8→Bool) (l:List (List UInt8)):Int:=if l.any F=true then ((l.findIdx F:Nat):Int) else -1
theorem idxG_at {F:List UInt8→Bool} {l:List (List UInt8)} {k:Nat} (hk:k<l.length) (h:F (l.getD k [])=true) (h0:∀ j,j<k→F (l.getD j [])=false):idxG F l=(k:Nat):=by
 have e:l.findIdx F=k:=(List.findIdx_eq hk).2 ⟨by rw [getD_ltG hk] at h; exact h,fun j hj=>by have:=h0 j hj; rw [getD_ltG (by omega)] at this; exact this⟩
 unfold idxG
 rw [if_pos,e]
 refine List.any_eq_true.2 ⟨l[k],List.getElem_mem hk,?_⟩
 rw [getD_ltG hk] at h; exact h
theorem idxG_no {F:List UInt8→Bool} {l:List (List UInt8)} (h0:∀ j,j<l.length→F (l.getD j [])=false):idxG F l = -1:=by
 unfold idxG
 rw [if_neg]
 intro h
 obtain ⟨x,hx,hf⟩:=List.any_eq_true.1 h
 obtain ⟨j,hj,rfl⟩:=List.getElem_of_mem hx
 have:=h0 j hj
 rw [getD_ltG hj,hf] at this; cases this
theorem indexG_c (f:Nat) (F:List UInt8→Bool) (nl:Bool) (l:List (List UInt8)) (nid:Nat) (hl:l.length≤1000000) (hf:∀ x m,ACall Tryz.prog f [.str x] [] m (.bool (F x)) []) :
  ACall Tryz.prog 84 [litS nl l,.fn f []] [] nid (.int .i64 (idxG F l)) []:=by
 refine acall_run c84 (by simp [a84]) ?_
 unfold litS
 simp -dsimp only [aqT,aqU,aqN,aqP,aqM,↓seqK,↓blkK,↓loopK,step,stepBin,eqB,Nat.reduceBEq,Nat.reduceBeqDiff,Nat.add_assoc nid,Nat.reduceAdd,reduceCtorEq,↓reduceIte,Nat.reduceLeDiff,Nat.reduceBneDiff,Option.toList,← Int.ofNat_tmod,← Int.ofNat_tdiv,Nat.reduceLT,z0,Int.cast_ofNat_Int,Int.reduceBEq,Int.reduceBNe,Int.reduceLT,Int.reduceLE,Int.reduceAdd,Int.reduceSub,Int.reduceMul,Int.reduceToNat,Int.reduceNeg,Int.reduceTMod,Int.reduceEq,not_false_eq_true,Int.reducePow,Int.reduceFDiv,Nat.reducePow,Nat.reduceSub,Nat.reduceMul,Nat.min_eq_left,Nat.reduceEqDiff,BEq.rfl,Int.tdiv_one,LN_succ,a84]
 refine LP.mkP (fun k:Nat=>k≤l.length∧∀ j,j<k→F (l.getD j [])=false) (fun k:Nat=>⟨[(8,.int .i64 k),(7,.int .i64 l.length),(0,litS nl l),(1,.fn f [])],[],nid+100,nid⟩) (fun k=>l.length+1 - k) 0 ⟨by omega,fun j hj=>by omega⟩ (Cov.go [] [] ?_) (fun k hk=>?_)
 ·simp [cvT,step,res,litS]
 obtain ⟨hk,hb⟩:=hk
 unfold litS
 simp -dsimp only [aqT,aqU,aqN,aqP,aqM,↓seqK,↓blkK,↓loopK,step,stepBin,eqB,Nat.reduceBEq,Nat.reduceBeqDiff,Nat.add_assoc nid,Nat.reduceAdd,reduceCtorEq,↓reduceIte,Nat.reduceLeDiff,Nat.reduceBneDiff,Option.toList,← Int.ofNat_tmod,← Int.ofNat_tdiv,Nat.reduceLT,z0,Int.cast_ofNat_Int,Int.reduceBEq,Int.reduceBNe,Int.reduceLT,Int.reduceLE,Int.reduceAdd,Int.reduceSub,Int.reduceMul,Int.reduceToNat,Int.reduceNeg,Int.reduceTMod,Int.reduceEq,not_false_eq_true,Int.reducePow,Int.reduceFDiv,Nat.reducePow,Nat.reduceSub,Nat.reduceMul,Nat.min_eq_left,Nat.reduceEqDiff,BEq.rfl,Int.tdiv_one,LN_succ]
 refine S2.dec (fun h3=>?_) (fun h3=>?_) <;> simp -dsimp only [aqT,aqU,aqN,aqP,aqM,↓seqK,↓blkK,↓loopK,step,stepBin,eqB,Nat.reduceBEq,Nat.reduceBeqDiff,Nat.add_assoc nid,Nat.reduceAdd,reduceCtorEq,↓reduceIte,Nat.reduceLeDiff,Nat.reduceBneDiff,Option.toList,← Int.ofNat_tmod,← Int.ofNat_tdiv,Nat.reduceLT,z0,Int.cast_ofNat_Int,Int.reduceBEq,Int.reduceBNe,Int.reduceLT,Int.reduceLE,Int.reduceAdd,Int.reduceSub,Int.reduceMul,Int.reduceToNat,Int.reduceNeg,Int.reduceTMod,Int.reduceEq,not_false_eq_true,Int.reducePow,Int.reduceFDiv,Nat.reducePow,Nat.reduceSub,Nat.reduceMul,Nat.min_eq_left,Nat.reduceEqDiff,BEq.rfl,Int.tdiv_one,LN_succ]
 ·have hkl:k<l.length:=by omega
  have hat:=fun h=>idxG_at (F:=F) hkl h hb
  have hnx:F (l.getD k [])=false→∀ j,j<k+1→F (l.getD j [])=false:=fun h j hj=>by
   by_cases e:j=k
   ·rw [e]; exact h
   ·exact hb j (by omega)
  generalize l.getD k []=x at *
  refine ⟨by omega,CallO.pure (hf x _) ?_⟩
  simp -dsimp only [aqT,aqU,aqN,aqP,aqM,↓seqK,↓blkK,↓loopK,step,stepBin,eqB,Nat.reduceBEq,Nat.reduceBeqDiff,Nat.add_assoc nid,Nat.reduceAdd,reduceCtorEq,↓reduceIte,Nat.reduceLeDiff,Nat.reduceBneDiff,Option.toList,← Int.ofNat_tmod,← Int.ofNat_tdiv,Nat.reduceLT,z0,Int.cast_ofNat_Int,Int.reduceBEq,Int.reduceBNe,Int.reduceLT,Int.reduceLE,Int.reduceAdd,Int.reduceSub,Int.reduceMul,Int.reduceToNat,Int.reduceNeg,Int.reduceTMod,Int.reduceEq,not_false_eq_true,Int.reducePow,Int.reduceFDiv,Nat.reducePow,Nat.reduceSub,Nat.reduceMul,Nat.min_eq_left,Nat.reduceEqDiff,BEq.rfl,Int.tdiv_one,LN_succ]
  cases hx:F x <;> simp -dsimp only [aqT,aqU,aqN,aqP,aqM,↓seqK,↓blkK,↓loopK,step,stepBin,eqB,Nat.reduceBEq,Nat.reduceBeqDiff,Nat.add_assoc nid,Nat.reduceAdd,reduceCtorEq,↓reduceIte,Nat.reduceLeDiff,Nat.reduceBneDiff,Option.toList,← Int.ofNat_tmod,← Int.ofNat_tdiv,Nat.reduceLT,z0,Int.cast_ofNat_Int,Int.reduceBEq,Int.reduceBNe,Int.reduceLT,Int.reduceLE,Int.reduceAdd,Int.reduceSub,Int.reduceMul,Int.reduceToNat,Int.reduceNeg,Int.reduceTMod,Int.reduceEq,not_false_eq_true,Int.reducePow,Int.reduceFDiv,Nat.reducePow,Nat.reduceSub,Nat.reduceMul,Nat.min_eq_left,Nat.reduceEqDiff,BEq.rfl,Int.tdiv_one,LN_succ]
  ·refine ⟨by unfold inI64; omega,k+1,⟨⟨by omega,hnx hx⟩,by omega⟩,Cov.go [] [] ?_⟩
   simp [cvT,step,res,litS]
  ·rw [hat hx]
   refine RetOK.pure (.inl rfl) rfl ?_
   simp [cvT,step,res]
 ·have hkn:k=l.length:=by omega
  subst hkn
  rw [idxG_no hb]
  refine RetOK.pure (.inl rfl) rfl ?_
  simp [cvT,step,res]
theorem containsG_c (f:Nat) (F:List UInt8→Bool) (nl:Bool) (l:List (List UInt8)) (nid:Nat) (hl:l.length≤1000000) (hf:∀ x m,ACall Tryz.prog f [.str x] [] m (.bool (F x)) []) :
  ACall Tryz.prog 34 [litS nl l,.fn f []] [] nid (.bool (l.any F)) []:=by
 have e:decide (0≤idxG F l)=l.any F:=by
  unfold idxG
  cases h:l.any F <;> simp
 refine acall_run c34 (by simp [a34]) ?_
 simp -dsimp only [aqT,aqU,aqN,aqP,aqM,↓seqK,↓blkK,↓loopK,step,stepBin,eqB,Nat.reduceBEq,Nat.reduceBeqDiff,Nat.add_assoc nid,Nat.reduceAdd,reduceCtorEq,↓reduceIte,Nat.reduceLeDiff,Nat.reduceBneDiff,Option.toList,← Int.ofNat_tmod,← Int.ofNat_tdiv,Nat.reduceLT,z0,Int.cast_ofNat_Int,Int.reduceBEq,Int.reduceBNe,Int.reduceLT,Int.reduceLE,Int.reduceAdd,Int.reduceSub,Int.reduceMul,Int.reduceToNat,Int.reduceNeg,Int.reduceTMod,Int.reduceEq,not_false_eq_true,Int.reducePow,Int.reduceFDiv,Nat.reducePow,Nat.reduceSub,Nat.reduceMul,Nat.min_eq_left,Nat.reduceEqDiff,BEq.rfl,Int.tdiv_one,LN_succ,a34]
 refine CallO.pure (indexG_c f F nl l _ hl hf) ?_
 simp -dsimp only [aqT,aqU,aqN,aqP,aqM,↓seqK,↓blkK,↓loopK,step,stepBin,eqB,Nat.reduceBEq,Nat.reduceBeqDiff,Nat.add_assoc nid,Nat.reduceAdd,reduceCtorEq,↓reduceIte,Nat.reduceLeDiff,Nat.reduceBneDiff,Option.toList,← Int.ofNat_tmod,← Int.ofNat_tdiv,Nat.reduceLT,z0,Int.cast_ofNat_Int,Int.reduceBEq,Int.reduceBNe,Int.reduceLT,Int.reduceLE,Int.reduceAdd,Int.reduceSub,Int.reduceMul,Int.reduceToNat,Int.reduceNeg,Int.reduceTMod,Int.reduceEq,not_false_eq_true,Int.reducePow,Int.reduceFDiv,Nat.reducePow,Nat.reduceSub,Nat.reduceMul,Nat.min_eq_left,Nat.reduceEqDiff,BEq.rfl,Int.tdiv_one,LN_succ]
 rw [e]
 refine RetOK.pure (.inl rfl) rfl ?_
 simp [cvT,step,res]
theorem big60_c (x:List UInt8) (nid:Nat):ACall Tryz.prog 35 [.str x] [] nid (.bool (decide (60<x.length))) []:=by
 have e:decide ((60:Int)<((x.length:Nat):Int))=decide (60<x.length):=by rw [Bool.eq_iff_iff,decide_eq_true_eq,decide_eq_true_eq]; omega
 refine acall_sr c35 (by simp [a35]) ?_
 unfold a35
 refine SR.run (t:=.mk) ?_
 simp -dsimp only [aqT,aqU,aqN,aqP,aqM,↓seqK,↓blkK,↓loopK,step,stepBin,eqB,Nat.reduceBEq,Nat.reduceBeqDiff,Nat.add_assoc nid,Nat.reduceAdd,reduceCtorEq,↓reduceIte,Nat.reduceLeDiff,Nat.reduceBneDiff,Option.toList,← Int.ofNat_tmod,← Int.ofNat_tdiv,Nat.reduceLT,z0,Int.cast_ofNat_Int,Int.reduceBEq,Int.reduceBNe,Int.reduceLT,Int.reduceLE,Int.reduceAdd,Int.reduceSub,Int.reduceMul,Int.reduceToNat,Int.reduceNeg,Int.reduceTMod,Int.reduceEq,not_false_eq_true,Int.reducePow,Int.reduceFDiv,Nat.reducePow,Nat.reduceSub,Nat.reduceMul,Nat.min_eq_left,Nat.reduceEqDiff,BEq.rfl,Int.tdiv_one,LN_succ,e]
 refine RetOK.go [] [] (.inl rfl) ?_
 simp [a35,cvT,step,res]
theorem eachN_c (s nid:Nat) (hs4:s+4<nid):ACall Tryz.prog 30 [.str [],.fn 31 [.ptr (s+4) 0,.ptr s 0]] [(s,boxW00),(s+4,boxCn 0)] nid (.tup [.int .i64 0,.bool true]) []:=by
 have hs:s<nid:=by omega
 obtain ⟨a1,a2,a3,a4,a5,a6,a7,a8,a9⟩:=id_all hs
 obtain ⟨b1,b2,b3,b4,b5,b6,b7,b8,b9⟩:=id_all hs4
 have x1:(s==s+4)=false:=by simp
 have x2:(s+4==s)=false:=by simp
 have x3:¬ s=s+4:=by omega
 have x4:¬ s+4=s:=by omega
 refine acall_run c30 (by simp [a30]) ?_
 unfold boxW00 boxCn
 simp -dsimp only [a30,aqT,aqU,aqN,aqP,aqM,↓seqK,↓blkK,↓loopK,step,stepBin,eqB,Nat.reduceBEq,Nat.reduceBeqDiff,Nat.add_assoc nid,Nat.reduceAdd,reduceCtorEq,↓reduceIte,Nat.reduceLeDiff,Nat.reduceBneDiff,Option.toList,← Int.ofNat_tmod,← Int.ofNat_tdiv,Nat.reduceLT,z0,a1,a2,a3,a4,a5,a6,a7,a8,a9,b1,b2,b3,b4,b5,b6,b7,b8,b9,x1,x2,x3,x4]
 refine CallO.pure (lines_nil _) ?_
 simp -dsimp only [aqT,aqU,aqN,aqP,aqM,↓seqK,↓blkK,↓loopK,step,stepBin,eqB,Nat.reduceBEq,Nat.reduceBeqDiff,Nat.add_assoc nid,Nat.reduceAdd,reduceCtorEq,↓reduceIte,Nat.reduceLeDiff,Nat.reduceBneDiff,Option.toList,← Int.ofNat_tmod,← Int.ofNat_tdiv,Nat.reduceLT,z0,a1,a2,a3,a4,a5,a6,a7,a8,a9,b1,b2,b3,b4,b5,b6,b7,b8,b9,x1,x2,x3,x4]
 refine LP.mkP (fun k:Nat=>k=0) (fun k:Nat=>⟨[(17,.int .i64 0),(16,.int .i64 0)],[(s,boxW00),(s+4,boxCn 0)],nid+100,nid⟩) (fun k=>1) 0 rfl (Cov.go [] [] ?_) (fun k hk=>?_)
 ·simp [cvT,step,res,a1,a2,a3,a4,a5,a6,a7,a8,a9,b1,b2,b3,b4,b5,b6,b7,b8,b9,x1,x2,x3,x4,boxW00,boxCn]
 unfold boxW00 boxCn
 simp -dsimp only [aqT,aqU,aqN,aqP,aqM,↓seqK,↓blkK,↓loopK,step,stepBin,eqB,Nat.reduceBEq,Nat.reduceBeqDiff,Nat.add_assoc nid,Nat.reduceAdd,reduceCtorEq,↓reduceIte,Nat.reduceLeDiff,Nat.reduceBneDiff,Option.toList,← Int.ofNat_tmod,← Int.ofNat_tdiv,Nat.reduceLT,z0,a1,a2,a3,a4,a5,a6,a7,a8,a9,b1,b2,b3,b4,b5,b6,b7,b8,b9,x1,x2,x3,x4]
 refine S2.no (by simp) ?_
 simp -dsimp only [aqT,aqU,aqN,aqP,aqM,↓seqK,↓blkK,↓loopK,step,stepBin,eqB,Nat.reduceBEq,Nat.reduceBeqDiff,Nat.add_assoc nid,Nat.reduceAdd,reduceCtorEq,↓reduceIte,Nat.reduceLeDiff,Nat.reduceBneDiff,Option.toList,← Int.ofNat_tmod,← Int.ofNat_tdiv,Nat.reduceLT,z0,a1,a2,a3,a4,a5,a6,a7,a8,a9,b1,b2,b3,b4,b5,b6,b7,b8,b9,x1,x2,x3,x4]
 refine RetOK.go [] [] (.inl rfl) ?_
 simp [a30,cvT,step,res,a1,a2,a3,a4,a5,a6,a7,a8,a9,b1,b2,b3,b4,b5,b6,b7,b8,b9,x1,x2,x3,x4]
set_option maxHeartbeats 8000000 in
theorem read_c (t:List UInt8) (nid:Nat) (ht:t.length≤1000000) (X:Waf × Nat × Int) (hX:readWf t=X) :
  ACall Tryz.prog 7 [.str t] [] nid (.tup [.agg [.sl nid 0 X.1.rows.length,.str X.1.pass],.int .i64 (X.2.1:Nat),.int .i64 X.2.2]) [(nid,arrS X.1.rows)]:=by
 unfold readWf at hX
 refine acall_sr c7 (by simp [a7]) ?_
 unfold a7
 refine SR.seq ?_
 simp -dsimp only [aqT,aqU,aqN,aqP,aqM,↓seqK,↓blkK,↓loopK,step,stepBin,eqB,Nat.reduceBEq,Nat.reduceBeqDiff,Nat.add_assoc nid,Nat.reduceAdd,reduceCtorEq,↓reduceIte,Nat.reduceLeDiff,Nat.reduceBneDiff,Option.toList,← Int.ofNat_tmod,← Int.ofNat_tdiv,Nat.reduceLT,z0,Int.cast_ofNat_Int,Int.reduceBEq,Int.reduceBNe,Int.reduceLT,Int.reduceLE,Int.reduceAdd,Int.reduceSub,Int.reduceMul,Int.reduceToNat,Int.reduceNeg,Int.reduceTMod,Int.reduceEq,not_false_eq_true,Int.reducePow,Int.reduceFDiv,Nat.reducePow,Nat.reduceSub,Nat.reduceMul,Nat.min_eq_left,Nat.reduceEqDiff,BEq.rfl,Int.tdiv_one,LN_succ]
 by_cases h1:200000<t.length
 ·rw [if_pos h1] at hX
  subst hX
  have d1:decide ((200000:Int)<((t.length:Nat):Int))=true:=decide_eq_true (by omega)
  refine SR.run (t:=.mk) ?_
  simp -dsimp only [aqT,aqU,aqN,aqP,aqM,↓seqK,↓blkK,↓loopK,step,stepBin,eqB,Nat.reduceBEq,Nat.reduceBeqDiff,Nat.add_assoc nid,Nat.reduceAdd,reduceCtorEq,↓reduceIte,Nat.reduceLeDiff,Nat.reduceBneDiff,Option.toList,← Int.ofNat_tmod,← Int.ofNat_tdiv,Nat.reduceLT,z0,Int.cast_ofNat_Int,Int.reduceBEq,Int.reduceBNe,Int.reduceLT,Int.reduceLE,Int.reduceAdd,Int.reduceSub,Int.reduceMul,Int.reduceToNat,Int.reduceNeg,Int.reduceTMod,Int.reduceEq,not_false_eq_true,Int.reducePow,Int.reduceFDiv,Nat.reducePow,Nat.reduceSub,Nat.reduceMul,Nat.min_eq_left,Nat.reduceEqDiff,BEq.rfl,Int.tdiv_one,LN_succ,d1]
  refine RetOK.go [] [(nid,1)] (.inl rfl) ?_
  simp [a7,cvT,step,res,w00,arrS]
 rw [if_neg h1] at hX
 have d1:decide ((200000:Int)<((t.length:Nat):Int))=false:=decide_eq_false (by omega)
 refine SR.seq ?_
 simp -dsimp only [aqT,aqU,aqN,aqP,aqM,↓seqK,↓blkK,↓loopK,step,stepBin,eqB,Nat.reduceBEq,Nat.reduceBeqDiff,Nat.add_assoc nid,Nat.reduceAdd,reduceCtorEq,↓reduceIte,Nat.reduceLeDiff,Nat.reduceBneDiff,Option.toList,← Int.ofNat_tmod,← Int.ofNat_tdiv,Nat.reduceLT,z0,Int.cast_ofNat_Int,Int.reduceBEq,Int.reduceBNe,Int.reduceLT,Int.reduceLE,Int.reduceAdd,Int.reduceSub,Int.reduceMul,Int.reduceToNat,Int.reduceNeg,Int.reduceTMod,Int.reduceEq,not_false_eq_true,Int.reducePow,Int.reduceFDiv,Nat.reducePow,Nat.reduceSub,Nat.reduceMul,Nat.min_eq_left,Nat.reduceEqDiff,BEq.rfl,Int.tdiv_one,LN_succ,d1]
 refine SR.seq ?_
 simp -dsimp only [aqT,aqU,aqN,aqP,aqM,↓seqK,↓blkK,↓loopK,step,stepBin,eqB,Nat.reduceBEq,Nat.reduceBeqDiff,Nat.add_assoc nid,Nat.reduceAdd,reduceCtorEq,↓reduceIte,Nat.reduceLeDiff,Nat.reduceBneDiff,Option.toList,← Int.ofNat_tmod,← Int.ofNat_tdiv,Nat.reduceLT,z0,Int.cast_ofNat_Int,Int.reduceBEq,Int.reduceBNe,Int.reduceLT,Int.reduceLE,Int.reduceAdd,Int.reduceSub,Int.reduceMul,Int.reduceToNat,Int.reduceNeg,Int.reduceTMod,Int.reduceEq,not_false_eq_true,Int.reducePow,Int.reduceFDiv,Nat.reducePow,Nat.reduceSub,Nat.reduceMul,Nat.min_eq_left,Nat.reduceEqDiff,BEq.rfl,Int.tdiv_one,LN_succ]
 refine SR.seq ?_
 simp -dsimp only [aqT,aqU,aqN,aqP,aqM,↓seqK,↓blkK,↓loopK,step,stepBin,eqB,Nat.reduceBEq,Nat.reduceBeqDiff,Nat.add_assoc nid,Nat.reduceAdd,reduceCtorEq,↓reduceIte,Nat.reduceLeDiff,Nat.reduceBneDiff,Option.toList,← Int.ofNat_tmod,← Int.ofNat_tdiv,Nat.reduceLT,z0,Int.cast_ofNat_Int,Int.reduceBEq,Int.reduceBNe,Int.reduceLT,Int.reduceLE,Int.reduceAdd,Int.reduceSub,Int.reduceMul,Int.reduceToNat,Int.reduceNeg,Int.reduceTMod,Int.reduceEq,not_false_eq_true,Int.reducePow,Int.reduceFDiv,Nat.reducePow,Nat.reduceSub,Nat.reduceMul,Nat.min_eq_left,Nat.reduceEqDiff,BEq.rfl,Int.tdiv_one,LN_succ]
 by_cases h2:t=[]
 ·rw [if_pos h2] at hX
  subst hX
  subst h2
  have he:=fun s m h=>eachN_c s m h
  have z0:((0:Nat):Int)=0:=rfl
  unfold boxW00 boxCn at he
  simp only [z0] at he
  refine SR.run (t:=.mk) ?_
  simp -dsimp only [aqT,aqU,aqN,aqP,aqM,↓seqK,↓blkK,↓loopK,step,stepBin,eqB,Nat.reduceBEq,Nat.reduceBeqDiff,Nat.add_assoc nid,Nat.reduceAdd,reduceCtorEq,↓reduceIte,Nat.reduceLeDiff,Nat.reduceBneDiff,Option.toList,← Int.ofNat_tmod,← Int.ofNat_tdiv,Nat.reduceLT,z0,Int.cast_ofNat_Int,Int.reduceBEq,Int.reduceBNe,Int.reduceLT,Int.reduceLE,Int.reduceAdd,Int.reduceSub,Int.reduceMul,Int.reduceToNat,Int.reduceNeg,Int.reduceTMod,Int.reduceEq,not_false_eq_true,Int.reducePow,Int.reduceFDiv,Nat.reducePow,Nat.reduceSub,Nat.reduceMul,Nat.min_eq_left,Nat.reduceEqDiff,BEq.rfl,Int.tdiv_one,LN_succ]
  refine CallO.on (he (nid+24) _ (by omega)) (subH_cons (by simp only [aqT,aqU,aqN,aqP,aqM,↓seqK,↓blkK,↓loopK,step,stepBin,eqB,Nat.reduceBEq,Nat.reduceBeqDiff,Nat.add_assoc nid,Nat.reduceAdd,reduceCtorEq,↓reduceIte,Nat.reduceLeDiff,Nat.reduceBneDiff,Option.toList,← Int.ofNat_tmod,← Int.ofNat_tdiv,Nat.reduceLT,z0,Int.cast_ofNat_Int,Int.reduceBEq,Int.reduceBNe,Int.reduceLT,Int.reduceLE,Int.reduceAdd,Int.reduceSub,Int.reduceMul,Int.reduceToNat,Int.reduceNeg,Int.reduceTMod,Int.reduceEq,not_false_eq_true,Int.reducePow,Int.reduceFDiv,Nat.reducePow,Nat.reduceSub,Nat.reduceMul,Nat.min_eq_left,Nat.reduceEqDiff,BEq.rfl,Int.tdiv_one,LN_succ]) (subH_get (by simp only [aqT,aqU,aqN,aqP,aqM,↓seqK,↓blkK,↓loopK,step,stepBin,eqB,Nat.reduceBEq,Nat.reduceBeqDiff,Nat.add_assoc nid,Nat.reduceAdd,reduceCtorEq,↓reduceIte,Nat.reduceLeDiff,Nat.reduceBneDiff,Option.toList,← Int.ofNat_tmod,← Int.ofNat_tdiv,Nat.reduceLT,z0,Int.cast_ofNat_Int,Int.reduceBEq,Int.reduceBNe,Int.reduceLT,Int.reduceLE,Int.reduceAdd,Int.reduceSub,Int.reduceMul,Int.reduceToNat,Int.reduceNeg,Int.reduceTMod,Int.reduceEq,not_false_eq_true,Int.reducePow,Int.reduceFDiv,Nat.reducePow,Nat.reduceSub,Nat.reduceMul,Nat.min_eq_left,Nat.reduceEqDiff,BEq.rfl,Int.tdiv_one,LN_succ]))) ?_
  simp -dsimp only [aqT,aqU,aqN,aqP,aqM,↓seqK,↓blkK,↓loopK,step,stepBin,eqB,Nat.reduceBEq,Nat.reduceBeqDiff,Nat.add_assoc nid,Nat.reduceAdd,reduceCtorEq,↓reduceIte,Nat.reduceLeDiff,Nat.reduceBneDiff,Option.toList,← Int.ofNat_tmod,← Int.ofNat_tdiv,Nat.reduceLT,z0,Int.cast_ofNat_Int,Int.reduceBEq,Int.reduceBNe,Int.reduceLT,Int.reduceLE,Int.reduceAdd,Int.reduceSub,Int.reduceMul,Int.reduceToNat,Int.reduceNeg,Int.reduceTMod,Int.reduceEq,not_false_eq_true,Int.reducePow,Int.reduceFDiv,Nat.reducePow,Nat.reduceSub,Nat.reduceMul,Nat.min_eq_left,Nat.reduceEqDiff,BEq.rfl,Int.tdiv_one,LN_succ]
  refine RetOK.go [] [(nid,1)] (.inl rfl) ?_
  simp [a7,cvT,step,res,w00,arrS]
 rw [if_neg h2] at hX
 have he:=fun s m h=>eachW_c s t m h (by omega) h2
 have z0:((0:Nat):Int)=0:=rfl
 unfold boxW00 boxCn at he
 simp only [z0] at he
 have hsl:=spl_len t
 have hok:=eachW_ok (good:=goodWl) (t:=t)
 have hlsp:=lines_spl t
 generalize hEw:eachW goodWl t=Ew at *
 obtain ⟨i,ok⟩:=Ew
 simp only at hX he hok
 cases ok
 ·rw [if_pos rfl] at hX
  subst hX
  unfold rdUW at he
  refine SR.run (t:=.mk) ?_
  simp -dsimp only [aqT,aqU,aqN,aqP,aqM,↓seqK,↓blkK,↓loopK,step,stepBin,eqB,Nat.reduceBEq,Nat.reduceBeqDiff,Nat.add_assoc nid,Nat.reduceAdd,reduceCtorEq,↓reduceIte,Nat.reduceLeDiff,Nat.reduceBneDiff,Option.toList,← Int.ofNat_tmod,← Int.ofNat_tdiv,Nat.reduceLT,z0,Int.cast_ofNat_Int,Int.reduceBEq,Int.reduceBNe,Int.reduceLT,Int.reduceLE,Int.reduceAdd,Int.reduceSub,Int.reduceMul,Int.reduceToNat,Int.reduceNeg,Int.reduceTMod,Int.reduceEq,not_false_eq_true,Int.reducePow,Int.reduceFDiv,Nat.reducePow,Nat.reduceSub,Nat.reduceMul,Nat.min_eq_left,Nat.reduceEqDiff,BEq.rfl,Int.tdiv_one,LN_succ]
  refine CallO.on (he (nid+24) _ (by omega)) (subH_cons (by simp only [aqT,aqU,aqN,aqP,aqM,↓seqK,↓blkK,↓loopK,step,stepBin,eqB,Nat.reduceBEq,Nat.reduceBeqDiff,Nat.add_assoc nid,Nat.reduceAdd,reduceCtorEq,↓reduceIte,Nat.reduceLeDiff,Nat.reduceBneDiff,Option.toList,← Int.ofNat_tmod,← Int.ofNat_tdiv,Nat.reduceLT,z0,Int.cast_ofNat_Int,Int.reduceBEq,Int.reduceBNe,Int.reduceLT,Int.reduceLE,Int.reduceAdd,Int.reduceSub,Int.reduceMul,Int.reduceToNat,Int.reduceNeg,Int.reduceTMod,Int.reduceEq,not_false_eq_true,Int.reducePow,Int.reduceFDiv,Nat.reducePow,Nat.reduceSub,Nat.reduceMul,Nat.min_eq_left,Nat.reduceEqDiff,BEq.rfl,Int.tdiv_one,LN_succ]) (subH_get (by simp only [aqT,aqU,aqN,aqP,aqM,↓seqK,↓blkK,↓loopK,step,stepBin,eqB,Nat.reduceBEq,Nat.reduceBeqDiff,Nat.add_assoc nid,Nat.reduceAdd,reduceCtorEq,↓reduceIte,Nat.reduceLeDiff,Nat.reduceBneDiff,Option.toList,← Int.ofNat_tmod,← Int.ofNat_tdiv,Nat.reduceLT,z0,Int.cast_ofNat_Int,Int.reduceBEq,Int.reduceBNe,Int.reduceLT,Int.reduceLE,Int.reduceAdd,Int.reduceSub,Int.reduceMul,Int.reduceToNat,Int.reduceNeg,Int.reduceTMod,Int.reduceEq,not_false_eq_true,Int.reducePow,Int.reduceFDiv,Nat.reducePow,Nat.reduceSub,Nat.reduceMul,Nat.min_eq_left,Nat.reduceEqDiff,BEq.rfl,Int.tdiv_one,LN_succ]))) ?_
  simp -dsimp only [aqT,aqU,aqN,aqP,aqM,↓seqK,↓blkK,↓loopK,step,stepBin,eqB,Nat.reduceBEq,Nat.reduceBeqDiff,Nat.add_assoc nid,Nat.reduceAdd,reduceCtorEq,↓reduceIte,Nat.reduceLeDiff,Nat.reduceBneDiff,Option.toList,← Int.ofNat_tmod,← Int.ofNat_tdiv,Nat.reduceLT,z0,Int.cast_ofNat_Int,Int.reduceBEq,Int.reduceBNe,Int.reduceLT,Int.reduceLE,Int.reduceAdd,Int.reduceSub,Int.reduceMul,Int.reduceToNat,Int.reduceNeg,Int.reduceTMod,Int.reduceEq,not_false_eq_true,Int.reducePow,Int.reduceFDiv,Nat.reducePow,Nat.reduceSub,Nat.reduceMul,Nat.min_eq_left,Nat.reduceEqDiff,BEq.rfl,Int.tdiv_one,LN_succ,Bool.not_false]
  refine RetOK.go [] [(nid,1)] (.inl rfl) ?_
  simp [a7,cvT,step,res,w00,arrS]
 rw [if_neg (by simp)] at hX
 obtain ⟨hg1,hg2⟩:=hok rfl
 have hLn:(spl t).1≠[]:=fun e=>by
  have:=hlsp hg1
  rw [e] at this
  exact h2 this.symm
 have hLp:=List.length_pos_iff.2 hLn
 generalize (spl t).1=L at *
 have hRl:=rdR_len L
 have hpl:(rdP L).length≤1000000:=by
  have hg:=hg2 0 hLp
  have hg':(readPassV (L.getD 0 [])).isSome=true:=hg
  unfold rdP
  cases hp:readPassV (L.getD 0 []) with
  | none=>simp
  | some p =>
   have h3:=pass_read hp
   have h4:(L.getD 0 []).length≤t.length:=hsl.2 _ (by rw [getD_ltG hLp]; exact List.getElem_mem _)
   rw [← h3] at h4
   unfold passLn passN at h4
   simp only [List.length_append,List.length_cons,List.length_nil] at h4
   show p.length≤1000000
   split at h4
   ·rename_i h5; rw [h5]; simp
   ·omega
 unfold rdUW boxRw boxCn arrS at he
 generalize rdR L=R at *
 generalize rdP L=p at *
 refine SR.seqTo ⟨[(7,.int .i64 (i:Nat)),(8,.bool true),(6,.ptr (nid+28) 0),(5,.ptr (nid+24) 0),(2,.ptr nid 0)],[(nid,boxW00),(nid+24,boxRw (nid+30) R.length p),(nid+28,boxCn L.length),(nid+30,arrS R)],nid+200,nid⟩ ?_ ?_
 ·simp -dsimp only [aqT,aqU,aqN,aqP,aqM,↓seqK,↓blkK,↓loopK,step,stepBin,eqB,Nat.reduceBEq,Nat.reduceBeqDiff,Nat.add_assoc nid,Nat.reduceAdd,reduceCtorEq,↓reduceIte,Nat.reduceLeDiff,Nat.reduceBneDiff,Option.toList,← Int.ofNat_tmod,← Int.ofNat_tdiv,Nat.reduceLT,z0,Int.cast_ofNat_Int,Int.reduceBEq,Int.reduceBNe,Int.reduceLT,Int.reduceLE,Int.reduceAdd,Int.reduceSub,Int.reduceMul,Int.reduceToNat,Int.reduceNeg,Int.reduceTMod,Int.reduceEq,not_false_eq_true,Int.reducePow,Int.reduceFDiv,Nat.reducePow,Nat.reduceSub,Nat.reduceMul,Nat.min_eq_left,Nat.reduceEqDiff,BEq.rfl,Int.tdiv_one,LN_succ]
  refine CallO.on (he (nid+24) _ (by omega)) (subH_cons (by simp only [aqT,aqU,aqN,aqP,aqM,↓seqK,↓blkK,↓loopK,step,stepBin,eqB,Nat.reduceBEq,Nat.reduceBeqDiff,Nat.add_assoc nid,Nat.reduceAdd,reduceCtorEq,↓reduceIte,Nat.reduceLeDiff,Nat.reduceBneDiff,Option.toList,← Int.ofNat_tmod,← Int.ofNat_tdiv,Nat.reduceLT,z0,Int.cast_ofNat_Int,Int.reduceBEq,Int.reduceBNe,Int.reduceLT,Int.reduceLE,Int.reduceAdd,Int.reduceSub,Int.reduceMul,Int.reduceToNat,Int.reduceNeg,Int.reduceTMod,Int.reduceEq,not_false_eq_true,Int.reducePow,Int.reduceFDiv,Nat.reducePow,Nat.reduceSub,Nat.reduceMul,Nat.min_eq_left,Nat.reduceEqDiff,BEq.rfl,Int.tdiv_one,LN_succ]) (subH_get (by simp only [aqT,aqU,aqN,aqP,aqM,↓seqK,↓blkK,↓loopK,step,stepBin,eqB,Nat.reduceBEq,Nat.reduceBeqDiff,Nat.add_assoc nid,Nat.reduceAdd,reduceCtorEq,↓reduceIte,Nat.reduceLeDiff,Nat.reduceBneDiff,Option.toList,← Int.ofNat_tmod,← Int.ofNat_tdiv,Nat.reduceLT,z0,Int.cast_ofNat_Int,Int.reduceBEq,Int.reduceBNe,Int.reduceLT,Int.reduceLE,Int.reduceAdd,Int.reduceSub,Int.reduceMul,Int.reduceToNat,Int.reduceNeg,Int.reduceTMod,Int.reduceEq,not_false_eq_true,Int.reducePow,Int.reduceFDiv,Nat.reducePow,Nat.reduceSub,Nat.reduceMul,Nat.min_eq_left,Nat.reduceEqDiff,BEq.rfl,Int.tdiv_one,LN_succ]))) ?_
  simp -dsimp only [aqT,aqU,aqN,aqP,aqM,↓seqK,↓blkK,↓loopK,step,stepBin,eqB,Nat.reduceBEq,Nat.reduceBeqDiff,Nat.add_assoc nid,Nat.reduceAdd,reduceCtorEq,↓reduceIte,Nat.reduceLeDiff,Nat.reduceBneDiff,Option.toList,← Int.ofNat_tmod,← Int.ofNat_tdiv,Nat.reduceLT,z0,Int.cast_ofNat_Int,Int.reduceBEq,Int.reduceBNe,Int.reduceLT,Int.reduceLE,Int.reduceAdd,Int.reduceSub,Int.reduceMul,Int.reduceToNat,Int.reduceNeg,Int.reduceTMod,Int.reduceEq,not_false_eq_true,Int.reducePow,Int.reduceFDiv,Nat.reducePow,Nat.reduceSub,Nat.reduceMul,Nat.min_eq_left,Nat.reduceEqDiff,BEq.rfl,Int.tdiv_one,LN_succ]
  refine Cov.go [(nid+30,nid+44)] [] ?_
  simp [cvT,step,res,boxW00,boxRw,boxCn,arrS,-List.getD_eq_getElem?_getD]
 have d2:(((L.length:Nat):Int)==0)=false:=by rw [beq_eq_false_iff_ne]; omega
 refine SR.seqTo ⟨[(5,.ptr (nid+24) 0),(2,.ptr nid 0)],[(nid,boxW00),(nid+24,boxRw (nid+30) R.length p),(nid+30,arrS R)],nid+300,nid⟩ ?_ ?_
 ·unfold boxW00 boxRw boxCn arrS
  simp -dsimp only [aqT,aqU,aqN,aqP,aqM,↓seqK,↓blkK,↓loopK,step,stepBin,eqB,Nat.reduceBEq,Nat.reduceBeqDiff,Nat.add_assoc nid,Nat.reduceAdd,reduceCtorEq,↓reduceIte,Nat.reduceLeDiff,Nat.reduceBneDiff,Option.toList,← Int.ofNat_tmod,← Int.ofNat_tdiv,Nat.reduceLT,z0,Int.cast_ofNat_Int,Int.reduceBEq,Int.reduceBNe,Int.reduceLT,Int.reduceLE,Int.reduceAdd,Int.reduceSub,Int.reduceMul,Int.reduceToNat,Int.reduceNeg,Int.reduceTMod,Int.reduceEq,not_false_eq_true,Int.reducePow,Int.reduceFDiv,Nat.reducePow,Nat.reduceSub,Nat.reduceMul,Nat.min_eq_left,Nat.reduceEqDiff,BEq.rfl,Int.tdiv_one,LN_succ,d2,Bool.not_true]
  refine Cov.go [] [] ?_
  simp [cvT,step,res,boxW00,boxRw,boxCn,arrS,-List.getD_eq_getElem?_getD]
 have hcf:=fun nl m=>containsG_c 35 (fun x=>decide (60<x.length)) nl R m (by omega) (fun x m=>big60_c x m)
 unfold litS at hcf
 cases hb:R.any (fun x=>decide (60<x.length))
 rotate_left
 ·rw [hb] at hX
  rw [if_pos rfl] at hX
  rw [hb] at hcf
  subst hX
  refine SR.run (t:=.mk) ?_
  unfold boxW00 boxRw arrS
  simp -dsimp only [aqT,aqU,aqN,aqP,aqM,↓seqK,↓blkK,↓loopK,step,stepBin,eqB,Nat.reduceBEq,Nat.reduceBeqDiff,Nat.add_assoc nid,Nat.reduceAdd,reduceCtorEq,↓reduceIte,Nat.reduceLeDiff,Nat.reduceBneDiff,Option.toList,← Int.ofNat_tmod,← Int.ofNat_tdiv,Nat.reduceLT,z0,Int.cast_ofNat_Int,Int.reduceBEq,Int.reduceBNe,Int.reduceLT,Int.reduceLE,Int.reduceAdd,Int.reduceSub,Int.reduceMul,Int.reduceToNat,Int.reduceNeg,Int.reduceTMod,Int.reduceEq,not_false_eq_true,Int.reducePow,Int.reduceFDiv,Nat.reducePow,Nat.reduceSub,Nat.reduceMul,Nat.min_eq_left,Nat.reduceEqDiff,BEq.rfl,Int.tdiv_one,LN_succ]
  refine CallO.lent [nid+30] (fun nl'=>by
   simp only [lends,lend,noOs,aqT,aqU,aqN,aqP,aqM,↓seqK,↓blkK,↓loopK,step,stepBin,eqB,Nat.reduceBEq,Nat.reduceBeqDiff,Nat.add_assoc nid,Nat.reduceAdd,reduceCtorEq,↓reduceIte,Nat.reduceLeDiff,Nat.reduceBneDiff,Option.toList,← Int.ofNat_tmod,← Int.ofNat_tdiv,Nat.reduceLT,z0,Int.cast_ofNat_Int,Int.reduceBEq,Int.reduceBNe,Int.reduceLT,Int.reduceLE,Int.reduceAdd,Int.reduceSub,Int.reduceMul,Int.reduceToNat,Int.reduceNeg,Int.reduceTMod,Int.reduceEq,not_false_eq_true,Int.reducePow,Int.reduceFDiv,Nat.reducePow,Nat.reduceSub,Nat.reduceMul,Nat.min_eq_left,Nat.reduceEqDiff,BEq.rfl,Int.tdiv_one,LN_succ]
   exact hcf _ _) rfl rfl (by simp [getH]) ?_
  simp -dsimp only [aqT,aqU,aqN,aqP,aqM,↓seqK,↓blkK,↓loopK,step,stepBin,eqB,Nat.reduceBEq,Nat.reduceBeqDiff,Nat.add_assoc nid,Nat.reduceAdd,reduceCtorEq,↓reduceIte,Nat.reduceLeDiff,Nat.reduceBneDiff,Option.toList,← Int.ofNat_tmod,← Int.ofNat_tdiv,Nat.reduceLT,z0,Int.cast_ofNat_Int,Int.reduceBEq,Int.reduceBNe,Int.reduceLT,Int.reduceLE,Int.reduceAdd,Int.reduceSub,Int.reduceMul,Int.reduceToNat,Int.reduceNeg,Int.reduceTMod,Int.reduceEq,not_false_eq_true,Int.reducePow,Int.reduceFDiv,Nat.reducePow,Nat.reduceSub,Nat.reduceMul,Nat.min_eq_left,Nat.reduceEqDiff,BEq.rfl,Int.tdiv_one,LN_succ]
  refine RetOK.go [] [(nid,1)] (.inl rfl) ?_
  simp [a7,cvT,step,res,w00,arrS]
 rw [hb] at hX
 rw [if_neg (by simp)] at hX
 rw [hb] at hcf
 have hrow:∀ r∈R,r.length≤1000000:=fun r hr=>by
  have:=List.any_eq_false.1 hb r hr
  simp at this
  omega
 have hbd:WafBd ⟨R,p⟩:=⟨by simp only; omega,hrow,hpl⟩
 have hcw:=fun nl m=>checkWafer_all nl ⟨R,p⟩ m hbd
 unfold wafP at hcw
 refine SR.seqTo ⟨[(5,.ptr (nid+24) 0),(2,.ptr nid 0)],[(nid,boxW00),(nid+24,boxRw (nid+30) R.length p),(nid+30,arrS R)],nid+400,nid⟩ ?_ ?_
 ·unfold boxW00 boxRw arrS
  simp -dsimp only [aqT,aqU,aqN,aqP,aqM,↓seqK,↓blkK,↓loopK,step,stepBin,eqB,Nat.reduceBEq,Nat.reduceBeqDiff,Nat.add_assoc nid,Nat.reduceAdd,reduceCtorEq,↓reduceIte,Nat.reduceLeDiff,Nat.reduceBneDiff,Option.toList,← Int.ofNat_tmod,← Int.ofNat_tdiv,Nat.reduceLT,z0,Int.cast_ofNat_Int,Int.reduceBEq,Int.reduceBNe,Int.reduceLT,Int.reduceLE,Int.reduceAdd,Int.reduceSub,Int.reduceMul,Int.reduceToNat,Int.reduceNeg,Int.reduceTMod,Int.reduceEq,not_false_eq_true,Int.reducePow,Int.reduceFDiv,Nat.reducePow,Nat.reduceSub,Nat.reduceMul,Nat.min_eq_left,Nat.reduceEqDiff,BEq.rfl,Int.tdiv_one,LN_succ]
  refine CallO.lent [nid+30] (fun nl'=>by
   simp only [lends,lend,noOs,aqT,aqU,aqN,aqP,aqM,↓seqK,↓blkK,↓loopK,step,stepBin,eqB,Nat.reduceBEq,Nat.reduceBeqDiff,Nat.add_assoc nid,Nat.reduceAdd,reduceCtorEq,↓reduceIte,Nat.reduceLeDiff,Nat.reduceBneDiff,Option.toList,← Int.ofNat_tmod,← Int.ofNat_tdiv,Nat.reduceLT,z0,Int.cast_ofNat_Int,Int.reduceBEq,Int.reduceBNe,Int.reduceLT,Int.reduceLE,Int.reduceAdd,Int.reduceSub,Int.reduceMul,Int.reduceToNat,Int.reduceNeg,Int.reduceTMod,Int.reduceEq,not_false_eq_true,Int.reducePow,Int.reduceFDiv,Nat.reducePow,Nat.reduceSub,Nat.reduceMul,Nat.min_eq_left,Nat.reduceEqDiff,BEq.rfl,Int.tdiv_one,LN_succ]
   exact hcf _ _) rfl rfl (by simp [getH]) ?_
  simp -dsimp only [aqT,aqU,aqN,aqP,aqM,↓seqK,↓blkK,↓loopK,step,stepBin,eqB,Nat.reduceBEq,Nat.reduceBeqDiff,Nat.add_assoc nid,Nat.reduceAdd,reduceCtorEq,↓reduceIte,Nat.reduceLeDiff,Nat.reduceBneDiff,Option.toList,← Int.ofNat_tmod,← Int.ofNat_tdiv,Nat.reduceLT,z0,Int.cast_ofNat_Int,Int.reduceBEq,Int.reduceBNe,Int.reduceLT,Int.reduceLE,Int.reduceAdd,Int.reduceSub,Int.reduceMul,Int.reduceToNat,Int.reduceNeg,Int.reduceTMod,Int.reduceEq,not_false_eq_true,Int.reducePow,Int.reduceFDiv,Nat.reducePow,Nat.reduceSub,Nat.reduceMul,Nat.min_eq_left,Nat.reduceEqDiff,BEq.rfl,Int.tdiv_one,LN_succ]
  refine Cov.go [] [] ?_
  simp [cvT,step,res,boxW00,boxRw,arrS,-List.getD_eq_getElem?_getD]
 refine SR.run (t:=.mk) ?_
 unfold boxW00 boxRw arrS
 simp -dsimp only [aqT,aqU,aqN,aqP,aqM,↓seqK,↓blkK,↓loopK,step,stepBin,eqB,Nat.reduceBEq,Nat.reduceBeqDiff,Nat.add_assoc nid,Nat.reduceAdd,reduceCtorEq,↓reduceIte,Nat.reduceLeDiff,Nat.reduceBneDiff,Option.toList,← Int.ofNat_tmod,← Int.ofNat_tdiv,Nat.reduceLT,z0,Int.cast_ofNat_Int,Int.reduceBEq,Int.reduceBNe,Int.reduceLT,Int.reduceLE,Int.reduceAdd,Int.reduceSub,Int.reduceMul,Int.reduceToNat,Int.reduceNeg,Int.reduceTMod,Int.reduceEq,not_false_eq_true,Int.reducePow,Int.reduceFDiv,Nat.reducePow,Nat.reduceSub,Nat.reduceMul,Nat.min_eq_left,Nat.reduceEqDiff,BEq.rfl,Int.tdiv_one,LN_succ]
 refine CallO.lent [nid+30] (fun nl'=>by
  simp only [lends,lend,noOs,aqT,aqU,aqN,aqP,aqM,↓seqK,↓blkK,↓loopK,step,stepBin,eqB,Nat.reduceBEq,Nat.reduceBeqDiff,Nat.add_assoc nid,Nat.reduceAdd,reduceCtorEq,↓reduceIte,Nat.reduceLeDiff,Nat.reduceBneDiff,Option.toList,← Int.ofNat_tmod,← Int.ofNat_tdiv,Nat.reduceLT,z0,Int.cast_ofNat_Int,Int.reduceBEq,Int.reduceBNe,Int.reduceLT,Int.reduceLE,Int.reduceAdd,Int.reduceSub,Int.reduceMul,Int.reduceToNat,Int.reduceNeg,Int.reduceTMod,Int.reduceEq,not_false_eq_true,Int.reducePow,Int.reduceFDiv,Nat.reducePow,Nat.reduceSub,Nat.reduceMul,Nat.min_eq_left,Nat.reduceEqDiff,BEq.rfl,Int.tdiv_one,LN_succ]
  exact hcw _ _) rfl rfl (by simp [getH]) ?_
 by_cases hv:waferV ⟨R,p⟩=0
 ·rw [if_pos hv] at hX
  subst hX
  rw [hv]
  simp -dsimp only [aqT,aqU,aqN,aqP,aqM,↓seqK,↓blkK,↓loopK,step,stepBin,eqB,Nat.reduceBEq,Nat.reduceBeqDiff,Nat.add_assoc nid,Nat.reduceAdd,reduceCtorEq,↓reduceIte,Nat.reduceLeDiff,Nat.reduceBneDiff,Option.toList,← Int.ofNat_tmod,← Int.ofNat_tdiv,Nat.reduceLT,z0,Int.cast_ofNat_Int,Int.reduceBEq,Int.reduceBNe,Int.reduceLT,Int.reduceLE,Int.reduceAdd,Int.reduceSub,Int.reduceMul,Int.reduceToNat,Int.reduceNeg,Int.reduceTMod,Int.reduceEq,not_false_eq_true,Int.reducePow,Int.reduceFDiv,Nat.reducePow,Nat.reduceSub,Nat.reduceMul,Nat.min_eq_left,Nat.reduceEqDiff,BEq.rfl,Int.tdiv_one,LN_succ]
  refine RetOK.go [(nid,nid+30)] [] (.inl rfl) ?_
  simp [a7,cvT,step,res,arrS,-List.getD_eq_getElem?_getD]
 ·rw [if_neg hv] at hX
  subst hX
  have d3:(waferV ⟨R,p⟩ != 0)=true:=by simpa using hv
  simp -dsimp only [aqT,aqU,aqN,aqP,aqM,↓seqK,↓blkK,↓loopK,step,stepBin,eqB,Nat.reduceBEq,Nat.reduceBeqDiff,Nat.add_assoc nid,Nat.reduceAdd,reduceCtorEq,↓reduceIte,Nat.reduceLeDiff,Nat.reduceBneDiff,Option.toList,← Int.ofNat_tmod,← Int.ofNat_tdiv,Nat.reduceLT,z0,Int.cast_ofNat_Int,Int.reduceBEq,Int.reduceBNe,Int.reduceLT,Int.reduceLE,Int.reduceAdd,Int.reduceSub,Int.reduceMul,Int.reduceToNat,Int.reduceNeg,Int.reduceTMod,Int.reduceEq,not_false_eq_true,Int.reducePow,Int.reduceFDiv,Nat.reducePow,Nat.reduceSub,Nat.reduceMul,Nat.min_eq_left,Nat.reduceEqDiff,BEq.rfl,Int.tdiv_one,LN_succ,d3]
  refine RetOK.go [] [(nid,1)] (.inl rfl) ?_
  simp [a7,cvT,step,res,w00,arrS]
end Go.Proofs.YteepabfepfehgaaGreatDoor
