/-
 A scan of the instruction registers of a new chain,plainly.
-/
import Derived.Test.YtahjohieahehjaaGreatDoorKSH7
import Derived.Test.YtahjohieahehjaaGreatDoorKSH5
import Derived.Test.YtahjohieahehjaaGreatDoorKSH6
import Derived.Test.YtahjohieahehjaaGreatDoorKSH4
import Derived.Test.YtahjohieahehjaaGreatDoorKSH3
import Derived.Test.YtahjohieahehjaaGreatDoorProg
import Derived.Test.YtahjohieahehjaaGreatDoorChecked
import Derived.Handed
import Derived.HandedShaped
import Derived.Shelf.Vars
import Derived.KernelRfl
set_option linter.unusedVariables false
set_option linter.unusedSimpArgs false
set_option maxRecDepth 100000
namespace Go.Proofs.YtahjohieahehjaaGreatDoor
theorem act_still {st:Nat} (h:shifts st=false) (p:Port) (b:UInt8):actV st p b=((actV st p 48).1,b):=by
 have h411:¬ (st=4∨st=11):=by
  unfold shifts at h
  simpa using h
 unfold actV
 rw [if_neg h411,if_neg h411]
 by_cases h0:st=0
 ·rw [if_pos h0,if_pos h0]
 ·rw [if_neg h0,if_neg h0]
  by_cases h3:st=3
  ·rw [if_pos h3,if_pos h3]
  ·rw [if_neg h3,if_neg h3]
   by_cases h8:st=8
   ·rw [if_pos h8,if_pos h8]
   ·rw [if_neg h8,if_neg h8]
    by_cases h10:st=10
    ·rw [if_pos h10,if_pos h10]
    ·rw [if_neg h10,if_neg h10]
     by_cases h15:st=15
     ·rw [if_pos h15,if_pos h15]
     ·rw [if_neg h15,if_neg h15]
theorem clock_still {st:Nat} (h:shifts st=false):∀ (P:List Port) (b:UInt8),clockP st P b=(P.map (fun p=>(actV st p 48).1),b)
 | [],b=>rfl
 | p::P,b=>by
  simp only [clockP,List.map_cons]
  rw [act_still h p b,clock_still h P b]
theorem feed_fed {x:ChV} {l:Bs} {T:Nat} (hx:x.st=T) (hT:T=4∨T=11):∀ k,k≤l.length→(feedV x l k).P=fedP T x.P l k
 | 0,_=>rfl
 | k+1,hk=>by
  show (clockP (feedV x l k).st (feedV x l k).P (l.getD k 0)).1=_
  rw [feed_st hx hT k (by omega),feed_fed hx hT k (by omega)]
  rfl
theorem feedO_fed {x:ChV} {l:Bs} {T:Nat} (hx:x.st=T) (hT:T=4∨T=11) {k:Nat} (hk:k<l.length):feedO x l k=fedO T x.P l k:=by
 show (clockP (feedV x l k).st (feedV x l k).P (l.getD k 0)).2=_
 rw [feed_st hx hT k hk,feed_fed hx hT k (by omega)]
 rfl
theorem feed_end {x:ChV} {l:Bs} {T:Nat} (hx:x.st=T) (hT:T=4∨T=11) (h0:0<l.length):(feedV x l l.length).st=nextN T 1:=by
 obtain ⟨k,hk⟩:∃ k,l.length=k+1:=⟨l.length - 1,by omega⟩
 rw [hk]
 show nextN (feedV x l k).st (tmsAt l.length k)=_
 rw [feed_st hx hT k (by omega)]
 have:tmsAt l.length k=1:=by unfold tmsAt; rw [if_pos hk.symm]
 rw [this]
def capI (p:Port):Port:={ p with instr:=[],shift:=capIR p.d }
def updI (p:Port):Port:={ p with instr:=p.shift }
theorem scan1_ir (P:List Port):scan1 ⟨0,P⟩ 11=⟨11,P.map capI⟩:=by
 have hp:pathV 0 11=[48,49,49,48,48]:=by decide
 unfold scan1
 show walkV nextN ⟨0,P⟩ (pathV 0 11)=_
 rw [hp]
 unfold walkV
 simp only [List.foldl_cons,List.foldl_nil,tickV]
 rw [show nextN 0 (bitM 48)=1 from rfl,show nextN 1 (bitM 49)=2 from rfl,show nextN 2 (bitM 49)=9 from rfl,show nextN 9 (bitM 48)=10 from rfl,show nextN 10 (bitM 48)=11 from rfl]
 rw [clock_still (st:=0) rfl,clock_still (st:=1) rfl,clock_still (st:=2) rfl,clock_still (st:=9) rfl,clock_still (st:=10) rfl]
 simp only [List.map_map]
 congr 1
theorem scan_ir (P:List Port) (l:Bs) (h0:0<l.length):scanV ⟨0,P⟩ 11 l=⟨1,(fedP 11 (P.map capI) l l.length).map updI⟩∧scanO ⟨0,P⟩ 11 l=(List.range l.length).map (fedO 11 (P.map capI) l):=by
 refine ⟨?_,?_⟩
 ·unfold scanV
  rw [scan1_ir]
  have h1:=feed_end (x:=⟨11,P.map capI⟩) (l:=l) rfl (.inr rfl) h0
  have h2:=feed_fed (x:=⟨11,P.map capI⟩) (l:=l) rfl (.inr rfl) l.length (Nat.le_refl _)
  generalize feedV ⟨11,P.map capI⟩ l l.length=y at *
  obtain ⟨s,Q⟩:=y
  simp only at h1 h2
  subst h1; subst h2
  unfold walkV
  simp only [List.foldl_cons,List.foldl_nil,tickV]
  rw [show nextN 11 1=12 from rfl,show nextN 12 (bitM 49)=15 from rfl,show nextN 15 (bitM 48)=1 from rfl]
  rw [clock_still (st:=12) rfl,clock_still (st:=15) rfl]
  simp only [List.map_map]
  congr 1
 ·unfold scanO
  rw [scan1_ir]
  exact List.map_congr_left fun k hk=>feedO_fed rfl (.inr rfl) (List.mem_range.1 hk)
end Go.Proofs.YtahjohieahehjaaGreatDoor
namespace Go.Proofs.YtahjohieahehjaaGreatDoor
theorem fb_all {α:Type} {f:α→Int} {l:List α} (h:firstBad f l=0):∀ a∈l,f a=0:=by
 intro a ha
 exact Classical.byContradiction fun hne=>by
  induction l with
  | nil=>cases ha
  | cons b l ih =>
   by_cases hb:f b=0
   ·have h':firstBad f (b::l)=firstBad f l:=by simp [firstBad,hb]
    rw [h'] at h
    rcases List.mem_cons.1 ha with rfl | ha
    ·exact hne hb
    ·exact ih h ha
   ·have h':firstBad f (b::l)=f b:=by simp [firstBad,hb]
    rw [h'] at h
    exact hb h
structure DevR (d:Dev):Prop where
 lg:2≤d.long∧d.long≤32
 idb:0≤d.id∧d.id≤4294967295
 rl:d.regs.length≤10
 il:d.ins.length≤100
 rs:∀ r∈d.regs,1≤r.2∧r.2≤1000
 is:∀ x∈d.ins,regIs d x.2=true
theorem outB_no {x a b:Int} (h:outB x a b=false):a≤x∧x≤b:=by
 unfold outB at h
 simp at h
 omega
theorem devR_of {D:List Dev} (h:devsE D=0):∀ d∈D,DevR d:=by
 intro d hd
 unfold devsE at h
 split at h
 ·cases h
 split at h
 ·cases h
 obtain ⟨i,hi,rfl⟩:=List.getElem_of_mem hd
 have hf:=fb_all h i (List.mem_range.2 hi)
 have e:D.getD i dev0=D[i]:=by rw [List.getD_eq_getElem?_getD,List.getElem?_eq_getElem hi]; rfl
 unfold devE at hf
 rw [e] at hf
 generalize D[i]=d at *
 split at hf
 ·cases hf
 split at hf
 ·cases hf
 split at hf
 ·cases hf
 rename_i h1 h2 h3
 split at hf
 ·cases hf
 split at hf
 ·cases hf
 rename_i h4 h5
 have hr:regsE d=0:=Classical.byContradiction fun hne=>by rw [if_pos hne] at hf; exact hne hf
 have hi:inssE d=0:=by rw [if_neg (by simpa using hr)] at hf; exact hf
 have hlg:outB d.long 2 32=false:=by
  cases ho:outB d.long 2 32
  ·rfl
  ·exact absurd (.inl ho) h3
 have hib:outB d.id 0 4294967295=false:=by
  cases ho:outB d.id 0 4294967295
  ·rfl
  ·exact absurd (.inr ho) h3
 refine ⟨outB_no hlg,outB_no hib,by omega,by omega,fun r hr'=>?_,fun x hx=>?_⟩
 ·obtain ⟨j,hj,rfl⟩:=List.getElem_of_mem hr'
  have hz:=fb_all hr j (List.mem_range.2 hj)
  have e2:d.regs.getD j reg0=d.regs[j]:=by rw [List.getD_eq_getElem?_getD,List.getElem?_eq_getElem hj]; rfl
  unfold regE at hz
  rw [e2] at hz
  split at hz
  ·cases hz
  split at hz
  ·cases hz
  split at hz
  ·cases hz
  rename_i h6
  exact outB_no (by simpa using h6)
 ·obtain ⟨j,hj,rfl⟩:=List.getElem_of_mem hx
  have hz:=fb_all hi j (List.mem_range.2 hj)
  have e2:d.ins.getD j ins0=d.ins[j]:=by rw [List.getD_eq_getElem?_getD,List.getElem?_eq_getElem hj]; rfl
  unfold insE at hz
  rw [e2] at hz
  split at hz
  ·cases hz
  split at hz
  ·cases hz
  split at hz
  ·cases hz
  split at hz
  ·cases hz
  split at hz
  ·rename_i h6
   unfold regIs
   simp only [Bool.or_eq_true,Bool.and_eq_true,decide_eq_true_eq]
   rcases h6 with h6 | h6 | h6
   ·exact .inl (.inl h6)
   ·exact .inl (.inr h6)
   ·exact .inr h6
  ·cases hz
theorem repW {n:Nat} (h1:1≤n) (h2:n≤1000):BitsW (Lib.repeatL [48] n):=by
 rw [rep48]
 refine ⟨by simp; omega,by simp; omega,?_⟩
 simp only [List.all_replicate]
 simp [oneBit]
theorem mapV_ok {R : List (Bs × Int)} (h : ∀ r ∈ R,1 ≤ r.2 ∧ r.2 ≤ 1000) (q : MK) (hq : mapD R q = true) : BitsW (mapV R q) := by
  have key : ∀ (R : List (Bs × Int)) (v : Bs),(∀ r ∈ R,1 ≤ r.2 ∧ r.2 ≤ 1000) → (BitsW v ∨ mapD R q = true) → BitsW (R.foldl (fun v r => if q = .s r.1 then Lib.repeatL [48] r.2.toNat else v) v) := by
    intro R
    induction R with
    | nil => intro v _ hv; rcases hv with hv | hv
             · exact hv
             · simp [mapD] at hv
    | cons r R ih =>
      intro v hR hv
      simp only [List.foldl_cons]
      refine ih _ (fun x hx => hR x (List.mem_cons_of_mem _ hx)) ?_
      have hr := hR r List.mem_cons_self
      by_cases hqr : q = .s r.1
      · rw [if_pos hqr]; exact .inl (repW (by omega) (by omega))
      · rw [if_neg hqr]
        rcases hv with hv | hv
        · exact .inl hv
        · refine .inr ?_
          unfold mapD at hv ⊢
          simpa [hqr] using hv
  exact key R [] h (.inr hq)
theorem regOf_ok {d:Dev} (hd:DevR d) {n:Bs} (hn:regIs d n=true):(regOf d n).1=byL∨(regOf d n).1=idL∨mapD d.regs (.s (regOf d n).1)=true:=by
 unfold regOf
 split
 ·exact .inl rfl
 ·split
  ·exact .inr (.inl rfl)
  ·rename_i h1 h2
   refine .inr (.inr ?_)
   have ho:ownB d n=true:=by
    unfold regIs at hn
    simp only [Bool.or_eq_true,Bool.and_eq_true,decide_eq_true_eq] at hn
    rcases hn with (hn | hn) | hn
    ·exact absurd hn h1
    ·exact absurd hn h2
    ·exact hn
   rw [ownB_find] at ho
   obtain ⟨r,hr⟩:=Option.isSome_iff_exists.1 ho
   rw [hr]
   have hm:=List.mem_of_find?_eq_some hr
   unfold mapD
   exact List.any_eq_true.2 ⟨r,hm,by simp⟩
theorem nameOf_ok {d:Dev} (hd:DevR d) (code:Bs):regIs d (nameOf d code)=true:=by
 unfold nameOf
 have key:∀ (l:List (Bs × Bs)) (n:Bs),(∀ x∈l,regIs d x.2=true)→regIs d n=true→regIs d (l.foldl (fun n x=>if x.1=code then x.2 else n) n)=true:=by
  intro l
  induction l with
  | nil=>intro n _ h; exact h
  | cons x l ih =>
   intro n hl hn
   simp only [List.foldl_cons]
   refine ih _ (fun y hy=>hl y (List.mem_cons_of_mem _ hy)) ?_
   split
   ·exact hl x List.mem_cons_self
   ·exact hn
 exact key _ _ hd.is (by unfold regIs; simp)
theorem port0_V {d:Dev} (hd:DevR d) (b1 b2:Bool):PortV (port0 d b1 b2):=by
 have hrl:=hd.rl
 have hil:=hd.il
 refine ⟨by simp only [port0]; omega,by simp only [port0]; omega,hd.idb,hd.lg,fun code=>?_,⟨by simp [port0],by simp [port0],by simp [port0,oneBit]⟩⟩
 have hsel:(selP d code).1=byL∨(selP d code).1=idL∨mapD d.regs (.s (selP d code).1)=true:=by
  unfold selP
  split
  ·split
   ·rename_i h
    exact regOf_ok hd h
   ·exact .inl rfl
  ·exact regOf_ok hd (nameOf_ok hd code)
 unfold captV
 show BitsW (if (selP d code).1=byL then [48] else if (selP d code).1=idL then idBits d.id else bif mapD d.regs (.s (selP d code).1) then mapV d.regs (.s (selP d code).1) else [])
 split
 ·exact ⟨by simp,by simp,by simp [oneBit]⟩
 ·split
  ·obtain ⟨N,hN⟩:∃ N:Nat,d.id=N:=⟨_,(Int.toNat_of_nonneg hd.idb.1).symm⟩
   rw [hN]
   refine ⟨by rw [idBits_len]; omega,by rw [idBits_len]; omega,List.all_eq_true.2 fun b hb=>?_⟩
   unfold idBits at hb
   obtain ⟨i,_,rfl⟩:=List.mem_map.1 hb
   rcases Nat.mod_two_eq_zero_or_one ((N:Int).toNat >>> i) with e | e <;> rw [e] <;> rfl
  ·rename_i h1 h2
   have hm:mapD d.regs (.s (selP d code).1)=true:=by
    rcases hsel with h | h | h
    ·exact absurd h h1
    ·exact absurd h h2
    ·exact h
   rw [hm]
   exact mapV_ok hd.rs _ hm
end Go.Proofs.YtahjohieahehjaaGreatDoor
namespace Go.Proofs.YtahjohieahehjaaGreatDoor
open Go.RowKit
def w1x (nl:Bool):PV:=.lit nl 1 [.s fun i=>[[49,120]].getD i []]
theorem out_00:outB 0 0 0=false:=by decide
theorem out_01:outB 0 0 1=false:=by decide
theorem out_11:outB 1 0 1=false:=by decide
theorem t49:(isBinV 49 || (49:Int)==42)=true:=by decide
theorem t120:(isBinV 120 || (120:Int)==42)=true:=by decide
theorem p49:passedV [49] 49=true:=by decide
theorem p120:passedV [49] 120=false:=by decide
theorem s1x:(([49,120]:List UInt8)==[])=false:=by decide
theorem at_1x (nl:Bool) (x:Int) (c:Int) (hx:(x=0∧c=49)∨(x=1∧c=120)) (nid:Nat):ACall Tryz.prog 180 [.agg [w1x nl,.str [49]],.agg [.int .i64 x,.int .i64 0]] [] nid (.int .u8 c) []:=by
 refine acall_run c180 (by simp [a180]) ?_
 unfold w1x
 rcases hx with ⟨rfl,rfl⟩ | ⟨rfl,rfl⟩
 ·simp -dsimp only [a180,aqT,aqU,aqN,aqP,aqM,↓seqK,↓blkK,↓loopK,step,stepBin,eqB,Nat.reduceBEq,Nat.reduceBeqDiff,Nat.add_assoc nid,Nat.reduceAdd,reduceCtorEq,↓reduceIte,Nat.reduceLeDiff,Nat.reduceBneDiff,Option.toList,← Int.ofNat_tmod,← Int.ofNat_tdiv,Nat.reduceLT,Int.cast_ofNat_Int,Int.reduceBEq,Int.reduceBNe,Int.reduceLT,Int.reduceLE,Int.reduceAdd,Int.reduceSub,Int.reduceMul,Int.reduceToNat,Int.reduceNeg,Int.reduceTMod,Int.reduceEq,not_false_eq_true,Int.reducePow,Int.reduceFDiv,Nat.reducePow,Nat.reduceSub,Nat.reduceMul,Nat.min_eq_left,Nat.reduceEqDiff,BEq.rfl,Int.tdiv_one,LN_succ]
  refine ⟨by unfold inI64; omega,CallX.pure (out_c _ _ _ _) ?_⟩
  simp -dsimp only [aqT,aqU,aqN,aqP,aqM,↓seqK,↓blkK,↓loopK,step,stepBin,eqB,Nat.reduceBEq,Nat.reduceBeqDiff,Nat.add_assoc nid,Nat.reduceAdd,reduceCtorEq,↓reduceIte,Nat.reduceLeDiff,Nat.reduceBneDiff,Option.toList,← Int.ofNat_tmod,← Int.ofNat_tdiv,Nat.reduceLT,Int.cast_ofNat_Int,Int.reduceBEq,Int.reduceBNe,Int.reduceLT,Int.reduceLE,Int.reduceAdd,Int.reduceSub,Int.reduceMul,Int.reduceToNat,Int.reduceNeg,Int.reduceTMod,Int.reduceEq,not_false_eq_true,Int.reducePow,Int.reduceFDiv,Nat.reducePow,Nat.reduceSub,Nat.reduceMul,Nat.min_eq_left,Nat.reduceEqDiff,BEq.rfl,Int.tdiv_one,LN_succ,out_00,List.getD_cons_zero]
  refine ⟨by unfold inI64; omega,CallX.pure (out_c _ _ _ _) ?_⟩
  simp -dsimp only [aqT,aqU,aqN,aqP,aqM,↓seqK,↓blkK,↓loopK,step,stepBin,eqB,Nat.reduceBEq,Nat.reduceBeqDiff,Nat.add_assoc nid,Nat.reduceAdd,reduceCtorEq,↓reduceIte,Nat.reduceLeDiff,Nat.reduceBneDiff,Option.toList,← Int.ofNat_tmod,← Int.ofNat_tdiv,Nat.reduceLT,Int.cast_ofNat_Int,Int.reduceBEq,Int.reduceBNe,Int.reduceLT,Int.reduceLE,Int.reduceAdd,Int.reduceSub,Int.reduceMul,Int.reduceToNat,Int.reduceNeg,Int.reduceTMod,Int.reduceEq,not_false_eq_true,Int.reducePow,Int.reduceFDiv,Nat.reducePow,Nat.reduceSub,Nat.reduceMul,Nat.min_eq_left,Nat.reduceEqDiff,BEq.rfl,Int.tdiv_one,LN_succ,out_01,List.getD_cons_zero]
  refine RetOK.pure (.inl rfl) rfl ?_
  simp [retPV,over,keys,List.map_nil,List.map_cons,List.contains_cons,List.contains_nil,Bool.or_false,Bool.or_true,Bool.true_or,Bool.false_or,beq_self_eq_true,cond_true,cond_false,HeapCov,orNil,nilSz,onBlk,srcOf,getH_hit,getH_miss,getH.eq_1,getS_hit,getS_miss,getS.eq_1,BlkCov,MEq,PVCovs,PVCov,ColsEq,AColsEq,ACEq,ColEq.refl,liveIds,SlotsCov,List.all_nil,List.all_cons,List.any_nil,List.any_cons,List.nil_append,List.cons_append,inRange,apart,nilBlk,idS1,idS2,readAll,readRes,onAll,step,res,AX.val,List.drop_zero,List.drop_succ_cons,List.take_succ_cons,List.take_zero]
 ·simp -dsimp only [a180,aqT,aqU,aqN,aqP,aqM,↓seqK,↓blkK,↓loopK,step,stepBin,eqB,Nat.reduceBEq,Nat.reduceBeqDiff,Nat.add_assoc nid,Nat.reduceAdd,reduceCtorEq,↓reduceIte,Nat.reduceLeDiff,Nat.reduceBneDiff,Option.toList,← Int.ofNat_tmod,← Int.ofNat_tdiv,Nat.reduceLT,Int.cast_ofNat_Int,Int.reduceBEq,Int.reduceBNe,Int.reduceLT,Int.reduceLE,Int.reduceAdd,Int.reduceSub,Int.reduceMul,Int.reduceToNat,Int.reduceNeg,Int.reduceTMod,Int.reduceEq,not_false_eq_true,Int.reducePow,Int.reduceFDiv,Nat.reducePow,Nat.reduceSub,Nat.reduceMul,Nat.min_eq_left,Nat.reduceEqDiff,BEq.rfl,Int.tdiv_one,LN_succ]
  refine ⟨by unfold inI64; omega,CallX.pure (out_c _ _ _ _) ?_⟩
  simp -dsimp only [aqT,aqU,aqN,aqP,aqM,↓seqK,↓blkK,↓loopK,step,stepBin,eqB,Nat.reduceBEq,Nat.reduceBeqDiff,Nat.add_assoc nid,Nat.reduceAdd,reduceCtorEq,↓reduceIte,Nat.reduceLeDiff,Nat.reduceBneDiff,Option.toList,← Int.ofNat_tmod,← Int.ofNat_tdiv,Nat.reduceLT,Int.cast_ofNat_Int,Int.reduceBEq,Int.reduceBNe,Int.reduceLT,Int.reduceLE,Int.reduceAdd,Int.reduceSub,Int.reduceMul,Int.reduceToNat,Int.reduceNeg,Int.reduceTMod,Int.reduceEq,not_false_eq_true,Int.reducePow,Int.reduceFDiv,Nat.reducePow,Nat.reduceSub,Nat.reduceMul,Nat.min_eq_left,Nat.reduceEqDiff,BEq.rfl,Int.tdiv_one,LN_succ,out_00,List.getD_cons_zero]
  refine ⟨by unfold inI64; omega,CallX.pure (out_c _ _ _ _) ?_⟩
  simp -dsimp only [aqT,aqU,aqN,aqP,aqM,↓seqK,↓blkK,↓loopK,step,stepBin,eqB,Nat.reduceBEq,Nat.reduceBeqDiff,Nat.add_assoc nid,Nat.reduceAdd,reduceCtorEq,↓reduceIte,Nat.reduceLeDiff,Nat.reduceBneDiff,Option.toList,← Int.ofNat_tmod,← Int.ofNat_tdiv,Nat.reduceLT,Int.cast_ofNat_Int,Int.reduceBEq,Int.reduceBNe,Int.reduceLT,Int.reduceLE,Int.reduceAdd,Int.reduceSub,Int.reduceMul,Int.reduceToNat,Int.reduceNeg,Int.reduceTMod,Int.reduceEq,not_false_eq_true,Int.reducePow,Int.reduceFDiv,Nat.reducePow,Nat.reduceSub,Nat.reduceMul,Nat.min_eq_left,Nat.reduceEqDiff,BEq.rfl,Int.tdiv_one,LN_succ,out_11,List.getD_cons_zero]
  refine RetOK.pure (.inl rfl) rfl ?_
  simp [retPV,over,keys,List.map_nil,List.map_cons,List.contains_cons,List.contains_nil,Bool.or_false,Bool.or_true,Bool.true_or,Bool.false_or,beq_self_eq_true,cond_true,cond_false,HeapCov,orNil,nilSz,onBlk,srcOf,getH_hit,getH_miss,getH.eq_1,getS_hit,getS_miss,getS.eq_1,BlkCov,MEq,PVCovs,PVCov,ColsEq,AColsEq,ACEq,ColEq.refl,liveIds,SlotsCov,List.all_nil,List.all_cons,List.any_nil,List.any_cons,List.nil_append,List.cons_append,inRange,apart,nilBlk,idS1,idS2,readAll,readRes,onAll,step,res,AX.val,List.drop_zero,List.drop_succ_cons,List.take_succ_cons,List.take_zero]
theorem places_c (nl:Bool) (nid:Nat):ACall Tryz.prog 135 [.agg [w1x nl,.str [49]]] [] nid (.sl nid 0 2) [(nid,some (.arr 206 2 [.i .i64 fun i=>[0,1].getD i 0,.i .i64 fun i=>[0,0].getD i 0]))]:=by
 refine acall_run c135 (by simp [a135]) ?_
 unfold w1x
 simp -dsimp only [a135,aqT,aqU,aqN,aqP,aqM,↓seqK,↓blkK,↓loopK,step,stepBin,eqB,Nat.reduceBEq,Nat.reduceBeqDiff,Nat.add_assoc nid,Nat.reduceAdd,reduceCtorEq,↓reduceIte,Nat.reduceLeDiff,Nat.reduceBneDiff,Option.toList,← Int.ofNat_tmod,← Int.ofNat_tdiv,Nat.reduceLT,Int.cast_ofNat_Int,Int.reduceBEq,Int.reduceBNe,Int.reduceLT,Int.reduceLE,Int.reduceAdd,Int.reduceSub,Int.reduceMul,Int.reduceToNat,Int.reduceNeg,Int.reduceTMod,Int.reduceEq,not_false_eq_true,Int.reducePow,Int.reduceFDiv,Nat.reducePow,Nat.reduceSub,Nat.reduceMul,Nat.min_eq_left,Nat.reduceEqDiff,BEq.rfl,Int.tdiv_one,LN_succ]
 refine LP.rounds 3 ?_
 simp -dsimp only [aqT,aqU,aqN,aqP,aqM,↓seqK,↓blkK,↓loopK,step,stepBin,eqB,Nat.reduceBEq,Nat.reduceBeqDiff,Nat.add_assoc nid,Nat.reduceAdd,reduceCtorEq,↓reduceIte,Nat.reduceLeDiff,Nat.reduceBneDiff,Option.toList,← Int.ofNat_tmod,← Int.ofNat_tdiv,Nat.reduceLT,Int.cast_ofNat_Int,Int.reduceBEq,Int.reduceBNe,Int.reduceLT,Int.reduceLE,Int.reduceAdd,Int.reduceSub,Int.reduceMul,Int.reduceToNat,Int.reduceNeg,Int.reduceTMod,Int.reduceEq,not_false_eq_true,Int.reducePow,Int.reduceFDiv,Nat.reducePow,Nat.reduceSub,Nat.reduceMul,Nat.min_eq_left,Nat.reduceEqDiff,BEq.rfl,Int.tdiv_one,LN_succ,List.getD_cons_zero]
 refine LP.rounds 4 ?_
 simp -dsimp only [aqT,aqU,aqN,aqP,aqM,↓seqK,↓blkK,↓loopK,step,stepBin,eqB,Nat.reduceBEq,Nat.reduceBeqDiff,Nat.add_assoc nid,Nat.reduceAdd,reduceCtorEq,↓reduceIte,Nat.reduceLeDiff,Nat.reduceBneDiff,Option.toList,← Int.ofNat_tmod,← Int.ofNat_tdiv,Nat.reduceLT,Int.cast_ofNat_Int,Int.reduceBEq,Int.reduceBNe,Int.reduceLT,Int.reduceLE,Int.reduceAdd,Int.reduceSub,Int.reduceMul,Int.reduceToNat,Int.reduceNeg,Int.reduceTMod,Int.reduceEq,not_false_eq_true,Int.reducePow,Int.reduceFDiv,Nat.reducePow,Nat.reduceSub,Nat.reduceMul,Nat.min_eq_left,Nat.reduceEqDiff,BEq.rfl,Int.tdiv_one,LN_succ,List.getD_cons_zero]
 refine ⟨by unfold inI64; omega,by unfold inI64; omega,by unfold inI64; omega,RetOK.go [(nid,nid+144)] [] (.inl rfl) ?_⟩
 simp [a135,retPV,over,keys,List.map_nil,List.map_cons,List.contains_cons,List.contains_nil,Bool.or_false,Bool.or_true,Bool.true_or,Bool.false_or,beq_self_eq_true,cond_true,cond_false,HeapCov,orNil,nilSz,onBlk,srcOf,getH_hit,getH_miss,getH.eq_1,getS_hit,getS_miss,getS.eq_1,BlkCov,MEq,PVCovs,PVCov,ColsEq,AColsEq,ACEq,ColEq.refl,liveIds,SlotsCov,List.all_nil,List.all_cons,List.any_nil,List.any_cons,List.nil_append,List.cons_append,inRange,apart,nilBlk,idS1,idS2,readAll,readRes,onAll,step,res,AX.val,List.drop_zero,List.drop_succ_cons,List.take_succ_cons,List.take_zero]
 constructor <;> refine ColEq.i fun i hi=>?_ <;> (have:i=0∨i=1:=by omega) <;> rcases this with rfl | rfl <;> simp
theorem share_c (nl nlp:Bool) (nid:Nat):ACall Tryz.prog 134 [.agg [w1x nl,.str [49]],.lit nlp 2 [.i .i64 fun i=>[0,1].getD i 0,.i .i64 fun i=>[0,0].getD i 0]] [] nid (.tup [.int .i64 1,.int .i64 2]) []:=by
 refine acall_run c134 (by simp [a134]) ?_
 unfold w1x
 simp -dsimp only [a134,aqT,aqU,aqN,aqP,aqM,↓seqK,↓blkK,↓loopK,step,stepBin,eqB,Nat.reduceBEq,Nat.reduceBeqDiff,Nat.add_assoc nid,Nat.reduceAdd,reduceCtorEq,↓reduceIte,Nat.reduceLeDiff,Nat.reduceBneDiff,Option.toList,← Int.ofNat_tmod,← Int.ofNat_tdiv,Nat.reduceLT,Int.cast_ofNat_Int,Int.reduceBEq,Int.reduceBNe,Int.reduceLT,Int.reduceLE,Int.reduceAdd,Int.reduceSub,Int.reduceMul,Int.reduceToNat,Int.reduceNeg,Int.reduceTMod,Int.reduceEq,not_false_eq_true,Int.reducePow,Int.reduceFDiv,Nat.reducePow,Nat.reduceSub,Nat.reduceMul,Nat.min_eq_left,Nat.reduceEqDiff,BEq.rfl,Int.tdiv_one,LN_succ]
 refine LP.rounds 4 ?_
 simp -dsimp only [aqT,aqU,aqN,aqP,aqM,↓seqK,↓blkK,↓loopK,step,stepBin,eqB,Nat.reduceBEq,Nat.reduceBeqDiff,Nat.add_assoc nid,Nat.reduceAdd,reduceCtorEq,↓reduceIte,Nat.reduceLeDiff,Nat.reduceBneDiff,Option.toList,← Int.ofNat_tmod,← Int.ofNat_tdiv,Nat.reduceLT,Int.cast_ofNat_Int,Int.reduceBEq,Int.reduceBNe,Int.reduceLT,Int.reduceLE,Int.reduceAdd,Int.reduceSub,Int.reduceMul,Int.reduceToNat,Int.reduceNeg,Int.reduceTMod,Int.reduceEq,not_false_eq_true,Int.reducePow,Int.reduceFDiv,Nat.reducePow,Nat.reduceSub,Nat.reduceMul,Nat.min_eq_left,Nat.reduceEqDiff,BEq.rfl,Int.tdiv_one,LN_succ,List.getD_cons_zero,List.getD_cons_succ]
 refine CallO.pure (at_1x nl 0 49 (.inl ⟨rfl,rfl⟩) _) ?_
 simp -dsimp only [aqT,aqU,aqN,aqP,aqM,↓seqK,↓blkK,↓loopK,step,stepBin,eqB,Nat.reduceBEq,Nat.reduceBeqDiff,Nat.add_assoc nid,Nat.reduceAdd,reduceCtorEq,↓reduceIte,Nat.reduceLeDiff,Nat.reduceBneDiff,Option.toList,← Int.ofNat_tmod,← Int.ofNat_tdiv,Nat.reduceLT,Int.cast_ofNat_Int,Int.reduceBEq,Int.reduceBNe,Int.reduceLT,Int.reduceLE,Int.reduceAdd,Int.reduceSub,Int.reduceMul,Int.reduceToNat,Int.reduceNeg,Int.reduceTMod,Int.reduceEq,not_false_eq_true,Int.reducePow,Int.reduceFDiv,Nat.reducePow,Nat.reduceSub,Nat.reduceMul,Nat.min_eq_left,Nat.reduceEqDiff,BEq.rfl,Int.tdiv_one,LN_succ]
 refine CallO.pure (tested_c _ _) ?_
 rw [t49]
 simp -dsimp only [aqT,aqU,aqN,aqP,aqM,↓seqK,↓blkK,↓loopK,step,stepBin,eqB,Nat.reduceBEq,Nat.reduceBeqDiff,Nat.add_assoc nid,Nat.reduceAdd,reduceCtorEq,↓reduceIte,Nat.reduceLeDiff,Nat.reduceBneDiff,Option.toList,← Int.ofNat_tmod,← Int.ofNat_tdiv,Nat.reduceLT,Int.cast_ofNat_Int,Int.reduceBEq,Int.reduceBNe,Int.reduceLT,Int.reduceLE,Int.reduceAdd,Int.reduceSub,Int.reduceMul,Int.reduceToNat,Int.reduceNeg,Int.reduceTMod,Int.reduceEq,not_false_eq_true,Int.reducePow,Int.reduceFDiv,Nat.reducePow,Nat.reduceSub,Nat.reduceMul,Nat.min_eq_left,Nat.reduceEqDiff,BEq.rfl,Int.tdiv_one,LN_succ]
 refine ⟨by unfold inI64; omega,CallO.pure (passed_c _ _ _ _ _ _ _ rfl) ?_⟩
 rw [p49]
 simp -dsimp only [aqT,aqU,aqN,aqP,aqM,↓seqK,↓blkK,↓loopK,step,stepBin,eqB,Nat.reduceBEq,Nat.reduceBeqDiff,Nat.add_assoc nid,Nat.reduceAdd,reduceCtorEq,↓reduceIte,Nat.reduceLeDiff,Nat.reduceBneDiff,Option.toList,← Int.ofNat_tmod,← Int.ofNat_tdiv,Nat.reduceLT,Int.cast_ofNat_Int,Int.reduceBEq,Int.reduceBNe,Int.reduceLT,Int.reduceLE,Int.reduceAdd,Int.reduceSub,Int.reduceMul,Int.reduceToNat,Int.reduceNeg,Int.reduceTMod,Int.reduceEq,not_false_eq_true,Int.reducePow,Int.reduceFDiv,Nat.reducePow,Nat.reduceSub,Nat.reduceMul,Nat.min_eq_left,Nat.reduceEqDiff,BEq.rfl,Int.tdiv_one,LN_succ,List.getD_cons_zero,List.getD_cons_succ]
 refine ⟨by unfold inI64; omega,by unfold inI64; omega,CallO.pure (at_1x nl 1 120 (.inr ⟨rfl,rfl⟩) _) ?_⟩
 simp -dsimp only [aqT,aqU,aqN,aqP,aqM,↓seqK,↓blkK,↓loopK,step,stepBin,eqB,Nat.reduceBEq,Nat.reduceBeqDiff,Nat.add_assoc nid,Nat.reduceAdd,reduceCtorEq,↓reduceIte,Nat.reduceLeDiff,Nat.reduceBneDiff,Option.toList,← Int.ofNat_tmod,← Int.ofNat_tdiv,Nat.reduceLT,Int.cast_ofNat_Int,Int.reduceBEq,Int.reduceBNe,Int.reduceLT,Int.reduceLE,Int.reduceAdd,Int.reduceSub,Int.reduceMul,Int.reduceToNat,Int.reduceNeg,Int.reduceTMod,Int.reduceEq,not_false_eq_true,Int.reducePow,Int.reduceFDiv,Nat.reducePow,Nat.reduceSub,Nat.reduceMul,Nat.min_eq_left,Nat.reduceEqDiff,BEq.rfl,Int.tdiv_one,LN_succ]
 refine CallO.pure (tested_c _ _) ?_
 rw [t120]
 simp -dsimp only [aqT,aqU,aqN,aqP,aqM,↓seqK,↓blkK,↓loopK,step,stepBin,eqB,Nat.reduceBEq,Nat.reduceBeqDiff,Nat.add_assoc nid,Nat.reduceAdd,reduceCtorEq,↓reduceIte,Nat.reduceLeDiff,Nat.reduceBneDiff,Option.toList,← Int.ofNat_tmod,← Int.ofNat_tdiv,Nat.reduceLT,Int.cast_ofNat_Int,Int.reduceBEq,Int.reduceBNe,Int.reduceLT,Int.reduceLE,Int.reduceAdd,Int.reduceSub,Int.reduceMul,Int.reduceToNat,Int.reduceNeg,Int.reduceTMod,Int.reduceEq,not_false_eq_true,Int.reducePow,Int.reduceFDiv,Nat.reducePow,Nat.reduceSub,Nat.reduceMul,Nat.min_eq_left,Nat.reduceEqDiff,BEq.rfl,Int.tdiv_one,LN_succ]
 refine ⟨by unfold inI64; omega,CallO.pure (passed_c _ _ _ _ _ _ _ rfl) ?_⟩
 rw [p120]
 simp -dsimp only [aqT,aqU,aqN,aqP,aqM,↓seqK,↓blkK,↓loopK,step,stepBin,eqB,Nat.reduceBEq,Nat.reduceBeqDiff,Nat.add_assoc nid,Nat.reduceAdd,reduceCtorEq,↓reduceIte,Nat.reduceLeDiff,Nat.reduceBneDiff,Option.toList,← Int.ofNat_tmod,← Int.ofNat_tdiv,Nat.reduceLT,Int.cast_ofNat_Int,Int.reduceBEq,Int.reduceBNe,Int.reduceLT,Int.reduceLE,Int.reduceAdd,Int.reduceSub,Int.reduceMul,Int.reduceToNat,Int.reduceNeg,Int.reduceTMod,Int.reduceEq,not_false_eq_true,Int.reducePow,Int.reduceFDiv,Nat.reducePow,Nat.reduceSub,Nat.reduceMul,Nat.min_eq_left,Nat.reduceEqDiff,BEq.rfl,Int.tdiv_one,LN_succ,List.getD_cons_zero,List.getD_cons_succ]
 refine ⟨by unfold inI64; omega,RetOK.pure (.inl rfl) rfl ?_⟩
 simp [retPV,over,keys,List.map_nil,List.map_cons,List.contains_cons,List.contains_nil,Bool.or_false,Bool.or_true,Bool.true_or,Bool.false_or,beq_self_eq_true,cond_true,cond_false,HeapCov,orNil,nilSz,onBlk,srcOf,getH_hit,getH_miss,getH.eq_1,getS_hit,getS_miss,getS.eq_1,BlkCov,MEq,PVCovs,PVCov,ColsEq,AColsEq,ACEq,ColEq.refl,liveIds,SlotsCov,List.all_nil,List.all_cons,List.any_nil,List.any_cons,List.nil_append,List.cons_append,inRange,apart,nilBlk,idS1,idS2,readAll,readRes,onAll,step,res,AX.val,List.drop_zero,List.drop_succ_cons,List.take_succ_cons,List.take_zero]
theorem checkWafer_c (nl:Bool) (nid:Nat):ACall Tryz.prog 133 [.agg [w1x nl,.str [49]]] [] nid (.int .i64 0) []:=by
 refine acall_run c133 (by simp [a133]) ?_
 unfold w1x
 simp -dsimp only [a133,aqT,aqU,aqN,aqP,aqM,↓seqK,↓blkK,↓loopK,step,stepBin,eqB,Nat.reduceBEq,Nat.reduceBeqDiff,Nat.add_assoc nid,Nat.reduceAdd,reduceCtorEq,↓reduceIte,Nat.reduceLeDiff,Nat.reduceBneDiff,Option.toList,← Int.ofNat_tmod,← Int.ofNat_tdiv,Nat.reduceLT,Int.cast_ofNat_Int,Int.reduceBEq,Int.reduceBNe,Int.reduceLT,Int.reduceLE,Int.reduceAdd,Int.reduceSub,Int.reduceMul,Int.reduceToNat,Int.reduceNeg,Int.reduceTMod,Int.reduceEq,not_false_eq_true,Int.reducePow,Int.reduceFDiv,Nat.reducePow,Nat.reduceSub,Nat.reduceMul,Nat.min_eq_left,Nat.reduceEqDiff,BEq.rfl,Int.tdiv_one,LN_succ]
 refine LP.rounds 3 ?_
 simp -dsimp only [aqT,aqU,aqN,aqP,aqM,↓seqK,↓blkK,↓loopK,step,stepBin,eqB,Nat.reduceBEq,Nat.reduceBeqDiff,Nat.add_assoc nid,Nat.reduceAdd,reduceCtorEq,↓reduceIte,Nat.reduceLeDiff,Nat.reduceBneDiff,Option.toList,← Int.ofNat_tmod,← Int.ofNat_tdiv,Nat.reduceLT,Int.cast_ofNat_Int,Int.reduceBEq,Int.reduceBNe,Int.reduceLT,Int.reduceLE,Int.reduceAdd,Int.reduceSub,Int.reduceMul,Int.reduceToNat,Int.reduceNeg,Int.reduceTMod,Int.reduceEq,not_false_eq_true,Int.reducePow,Int.reduceFDiv,Nat.reducePow,Nat.reduceSub,Nat.reduceMul,Nat.min_eq_left,Nat.reduceEqDiff,BEq.rfl,Int.tdiv_one,LN_succ,List.getD_cons_zero,List.getD_cons_succ,s1x]
 refine CallO.pure (odd_c' [49,120] _ (by simp) (fun i hi=>by
  have:i=0∨i=1:=by simp at hi; omega
  rcases this with rfl | rfl <;> decide)) ?_
 simp -dsimp only [aqT,aqU,aqN,aqP,aqM,↓seqK,↓blkK,↓loopK,step,stepBin,eqB,Nat.reduceBEq,Nat.reduceBeqDiff,Nat.add_assoc nid,Nat.reduceAdd,reduceCtorEq,↓reduceIte,Nat.reduceLeDiff,Nat.reduceBneDiff,Option.toList,← Int.ofNat_tmod,← Int.ofNat_tdiv,Nat.reduceLT,Int.cast_ofNat_Int,Int.reduceBEq,Int.reduceBNe,Int.reduceLT,Int.reduceLE,Int.reduceAdd,Int.reduceSub,Int.reduceMul,Int.reduceToNat,Int.reduceNeg,Int.reduceTMod,Int.reduceEq,not_false_eq_true,Int.reducePow,Int.reduceFDiv,Nat.reducePow,Nat.reduceSub,Nat.reduceMul,Nat.min_eq_left,Nat.reduceEqDiff,BEq.rfl,Int.tdiv_one,LN_succ,List.getD_cons_zero,List.getD_cons_succ,s1x]
 refine ⟨by unfold inI64; omega,LP.rounds 3 ?_⟩
 simp -dsimp only [aqT,aqU,aqN,aqP,aqM,↓seqK,↓blkK,↓loopK,step,stepBin,eqB,Nat.reduceBEq,Nat.reduceBeqDiff,Nat.add_assoc nid,Nat.reduceAdd,reduceCtorEq,↓reduceIte,Nat.reduceLeDiff,Nat.reduceBneDiff,Option.toList,← Int.ofNat_tmod,← Int.ofNat_tdiv,Nat.reduceLT,Int.cast_ofNat_Int,Int.reduceBEq,Int.reduceBNe,Int.reduceLT,Int.reduceLE,Int.reduceAdd,Int.reduceSub,Int.reduceMul,Int.reduceToNat,Int.reduceNeg,Int.reduceTMod,Int.reduceEq,not_false_eq_true,Int.reducePow,Int.reduceFDiv,Nat.reducePow,Nat.reduceSub,Nat.reduceMul,Nat.min_eq_left,Nat.reduceEqDiff,BEq.rfl,Int.tdiv_one,LN_succ,List.getD_cons_zero,List.getD_cons_succ,s1x]
 refine CallO.pure (isBin_c _ _) ?_
 have b49:isBinV ((UInt8.toNat 49:Nat):Int)=true:=by decide
 rw [b49]
 simp -dsimp only [aqT,aqU,aqN,aqP,aqM,↓seqK,↓blkK,↓loopK,step,stepBin,eqB,Nat.reduceBEq,Nat.reduceBeqDiff,Nat.add_assoc nid,Nat.reduceAdd,reduceCtorEq,↓reduceIte,Nat.reduceLeDiff,Nat.reduceBneDiff,Option.toList,← Int.ofNat_tmod,← Int.ofNat_tdiv,Nat.reduceLT,Int.cast_ofNat_Int,Int.reduceBEq,Int.reduceBNe,Int.reduceLT,Int.reduceLE,Int.reduceAdd,Int.reduceSub,Int.reduceMul,Int.reduceToNat,Int.reduceNeg,Int.reduceTMod,Int.reduceEq,not_false_eq_true,Int.reducePow,Int.reduceFDiv,Nat.reducePow,Nat.reduceSub,Nat.reduceMul,Nat.min_eq_left,Nat.reduceEqDiff,BEq.rfl,Int.tdiv_one,LN_succ,List.getD_cons_zero,List.getD_cons_succ,s1x]
 refine ⟨by unfold inI64; omega,RetOK.pure (.inl rfl) rfl ?_⟩
 simp [retPV,over,keys,List.map_nil,List.map_cons,List.contains_cons,List.contains_nil,Bool.or_false,Bool.or_true,Bool.true_or,Bool.false_or,beq_self_eq_true,cond_true,cond_false,HeapCov,orNil,nilSz,onBlk,srcOf,getH_hit,getH_miss,getH.eq_1,getS_hit,getS_miss,getS.eq_1,BlkCov,MEq,PVCovs,PVCov,ColsEq,AColsEq,ACEq,ColEq.refl,liveIds,SlotsCov,List.all_nil,List.all_cons,List.any_nil,List.any_cons,List.nil_append,List.cons_append,inRange,apart,nilBlk,idS1,idS2,readAll,readRes,onAll,step,res,AX.val,List.drop_zero,List.drop_succ_cons,List.take_succ_cons,List.take_zero]
theorem yield_c (nl:Bool) (nid:Nat):ACall Tryz.prog 89 [.agg [w1x nl,.str [49]]] [] nid (.tup [.agg [.int .i64 1,.int .i64 2],.bool true,.int .i64 0]) []:=by
 refine acall_run c89 (by simp [a89]) ?_
 unfold w1x
 simp -dsimp only [a89,aqT,aqU,aqN,aqP,aqM,↓seqK,↓blkK,↓loopK,step,stepBin,eqB,Nat.reduceBEq,Nat.reduceBeqDiff,Nat.add_assoc nid,Nat.reduceAdd,reduceCtorEq,↓reduceIte,Nat.reduceLeDiff,Nat.reduceBneDiff,Option.toList,← Int.ofNat_tmod,← Int.ofNat_tdiv,Nat.reduceLT,Int.cast_ofNat_Int,Int.reduceBEq,Int.reduceBNe,Int.reduceLT,Int.reduceLE,Int.reduceAdd,Int.reduceSub,Int.reduceMul,Int.reduceToNat,Int.reduceNeg,Int.reduceTMod,Int.reduceEq,not_false_eq_true,Int.reducePow,Int.reduceFDiv,Nat.reducePow,Nat.reduceSub,Nat.reduceMul,Nat.min_eq_left,Nat.reduceEqDiff,BEq.rfl,Int.tdiv_one,LN_succ]
 refine CallO.pure (checkWafer_c nl _) ?_
 simp -dsimp only [aqT,aqU,aqN,aqP,aqM,↓seqK,↓blkK,↓loopK,step,stepBin,eqB,Nat.reduceBEq,Nat.reduceBeqDiff,Nat.add_assoc nid,Nat.reduceAdd,reduceCtorEq,↓reduceIte,Nat.reduceLeDiff,Nat.reduceBneDiff,Option.toList,← Int.ofNat_tmod,← Int.ofNat_tdiv,Nat.reduceLT,Int.cast_ofNat_Int,Int.reduceBEq,Int.reduceBNe,Int.reduceLT,Int.reduceLE,Int.reduceAdd,Int.reduceSub,Int.reduceMul,Int.reduceToNat,Int.reduceNeg,Int.reduceTMod,Int.reduceEq,not_false_eq_true,Int.reducePow,Int.reduceFDiv,Nat.reducePow,Nat.reduceSub,Nat.reduceMul,Nat.min_eq_left,Nat.reduceEqDiff,BEq.rfl,Int.tdiv_one,LN_succ]
 refine CallX.pure (places_c nl _) ?_
 simp -dsimp only [aqT,aqU,aqN,aqP,aqM,↓seqK,↓blkK,↓loopK,step,stepBin,eqB,Nat.reduceBEq,Nat.reduceBeqDiff,Nat.add_assoc nid,Nat.reduceAdd,reduceCtorEq,↓reduceIte,Nat.reduceLeDiff,Nat.reduceBneDiff,Option.toList,← Int.ofNat_tmod,← Int.ofNat_tdiv,Nat.reduceLT,Int.cast_ofNat_Int,Int.reduceBEq,Int.reduceBNe,Int.reduceLT,Int.reduceLE,Int.reduceAdd,Int.reduceSub,Int.reduceMul,Int.reduceToNat,Int.reduceNeg,Int.reduceTMod,Int.reduceEq,not_false_eq_true,Int.reducePow,Int.reduceFDiv,Nat.reducePow,Nat.reduceSub,Nat.reduceMul,Nat.min_eq_left,Nat.reduceEqDiff,BEq.rfl,Int.tdiv_one,LN_succ]
 refine CallX.gave [nid+44] (fun nl'=>by
  simp only [lends,lend,aqT,aqU,aqN,aqP,aqM,↓seqK,↓blkK,↓loopK,step,stepBin,eqB,Nat.reduceBEq,Nat.reduceBeqDiff,Nat.add_assoc nid,Nat.reduceAdd,reduceCtorEq,↓reduceIte,Nat.reduceLeDiff,Nat.reduceBneDiff,Option.toList,← Int.ofNat_tmod,← Int.ofNat_tdiv,Nat.reduceLT]
  exact share_c nl (nl' _) _) (by simp [getH]) ?_
 simp -dsimp only [aqT,aqU,aqN,aqP,aqM,↓seqK,↓blkK,↓loopK,step,stepBin,eqB,Nat.reduceBEq,Nat.reduceBeqDiff,Nat.add_assoc nid,Nat.reduceAdd,reduceCtorEq,↓reduceIte,Nat.reduceLeDiff,Nat.reduceBneDiff,Option.toList,← Int.ofNat_tmod,← Int.ofNat_tdiv,Nat.reduceLT,Int.cast_ofNat_Int,Int.reduceBEq,Int.reduceBNe,Int.reduceLT,Int.reduceLE,Int.reduceAdd,Int.reduceSub,Int.reduceMul,Int.reduceToNat,Int.reduceNeg,Int.reduceTMod,Int.reduceEq,not_false_eq_true,Int.reducePow,Int.reduceFDiv,Nat.reducePow,Nat.reduceSub,Nat.reduceMul,Nat.min_eq_left,Nat.reduceEqDiff,BEq.rfl,Int.tdiv_one,LN_succ,kill]
 refine CallO.pure (frac12_c _) ?_
 simp -dsimp only [aqT,aqU,aqN,aqP,aqM,↓seqK,↓blkK,↓loopK,step,stepBin,eqB,Nat.reduceBEq,Nat.reduceBeqDiff,Nat.add_assoc nid,Nat.reduceAdd,reduceCtorEq,↓reduceIte,Nat.reduceLeDiff,Nat.reduceBneDiff,Option.toList,← Int.ofNat_tmod,← Int.ofNat_tdiv,Nat.reduceLT,Int.cast_ofNat_Int,Int.reduceBEq,Int.reduceBNe,Int.reduceLT,Int.reduceLE,Int.reduceAdd,Int.reduceSub,Int.reduceMul,Int.reduceToNat,Int.reduceNeg,Int.reduceTMod,Int.reduceEq,not_false_eq_true,Int.reducePow,Int.reduceFDiv,Nat.reducePow,Nat.reduceSub,Nat.reduceMul,Nat.min_eq_left,Nat.reduceEqDiff,BEq.rfl,Int.tdiv_one,LN_succ]
 refine RetOK.go [] [] (.inl rfl) ?_
 simp [a89,retPV,over,keys,List.map_nil,List.map_cons,List.contains_cons,List.contains_nil,Bool.or_false,Bool.or_true,Bool.true_or,Bool.false_or,beq_self_eq_true,cond_true,cond_false,HeapCov,orNil,nilSz,onBlk,srcOf,getH_hit,getH_miss,getH.eq_1,getS_hit,getS_miss,getS.eq_1,BlkCov,MEq,PVCovs,PVCov,ColsEq,AColsEq,ACEq,ColEq.refl,liveIds,SlotsCov,List.all_nil,List.all_cons,List.any_nil,List.any_cons,List.nil_append,List.cons_append,inRange,apart,nilBlk,idS1,idS2,readAll,readRes,onAll,step,res,AX.val,List.drop_zero,List.drop_succ_cons,List.take_succ_cons,List.take_zero]
end Go.Proofs.YtahjohieahehjaaGreatDoor
namespace Go.Proofs.YtahjohieahehjaaGreatDoor
open Go.RowKit
theorem enough_c (id:Nat) (k v:Int) (b:Bool) (hk:(k=0∧v=1∧b=false)∨(k=1∧v=2∧b=false)∨(k=2∧v=4∧b=false)∨(k=3∧v=8∧b=true)) (nid:Nat) (h:id<nid) :
  ACall Tryz.prog 130 [.int .i64 k,.ptr id 0] [(id,some (.box 3 [.int .i64 3]))] nid (.bool b) []:=by
 obtain ⟨e1,e2,e3,e4,e5,e6,e7,e8,e9⟩:=id_all h
 have hv:IntKind.i64.wrap (1 * 2 ^ (min k.toNat IntKind.i64.bits))=v∧0≤k∧inI64 (v - 2)∧decide (3≤v - 2)=b:=by
  rcases hk with ⟨rfl,rfl,rfl⟩ | ⟨rfl,rfl,rfl⟩ | ⟨rfl,rfl,rfl⟩ | ⟨rfl,rfl,rfl⟩ <;> exact ⟨by decide,by decide,by unfold inI64; omega,by decide⟩
 obtain ⟨h1,h2,h3,h4⟩:=hv
 refine acall_run c130 (by simp [a130]) ?_
 simp -dsimp only [a130,aqT,aqU,aqN,aqP,aqM,↓seqK,↓blkK,↓loopK,step,stepBin,eqB,Nat.reduceBEq,Nat.reduceBeqDiff,Nat.add_assoc nid,Nat.reduceAdd,reduceCtorEq,↓reduceIte,Nat.reduceLeDiff,Nat.reduceBneDiff,Option.toList,← Int.ofNat_tmod,← Int.ofNat_tdiv,Nat.reduceLT,e1,e2,e3,e4,e5,e6,e7,e8,e9,h1,h4]
 refine ⟨h2,h3,RetOK.same (.inl rfl) rfl ?_ ?_ ?_⟩ <;> simp [cvT,step,res,e1,e2,e3,e4,e5,e6,e7,e8,e9]
theorem least_c (id nid:Nat) (h:id<nid):ACall Tryz.prog 129 [.int .i64 0,.fn 130 [.ptr id 0]] [(id,some (.box 3 [.int .i64 3]))] nid (.int .i64 3) []:=by
 obtain ⟨e1,e2,e3,e4,e5,e6,e7,e8,e9⟩:=id_all h
 refine acall_run c129 (by simp [a129]) ?_
 simp -dsimp only [a129,aqT,aqU,aqN,aqP,aqM,↓seqK,↓blkK,↓loopK,step,stepBin,eqB,Nat.reduceBEq,Nat.reduceBeqDiff,Nat.add_assoc nid,Nat.reduceAdd,reduceCtorEq,↓reduceIte,Nat.reduceLeDiff,Nat.reduceBneDiff,Option.toList,← Int.ofNat_tmod,← Int.ofNat_tdiv,Nat.reduceLT,e1,e2,e3,e4,e5,e6,e7,e8,e9]
 refine LP.rounds 5 ?_
 simp -dsimp only [aqT,aqU,aqN,aqP,aqM,↓seqK,↓blkK,↓loopK,step,stepBin,eqB,Nat.reduceBEq,Nat.reduceBeqDiff,Nat.add_assoc nid,Nat.reduceAdd,reduceCtorEq,↓reduceIte,Nat.reduceLeDiff,Nat.reduceBneDiff,Option.toList,← Int.ofNat_tmod,← Int.ofNat_tdiv,Nat.reduceLT,Int.cast_ofNat_Int,Int.reduceBEq,Int.reduceBNe,Int.reduceLT,Int.reduceLE,Int.reduceAdd,Int.reduceSub,Int.reduceMul,Int.reduceToNat,Int.reduceNeg,Int.reduceTMod,Int.reduceEq,not_false_eq_true,Int.reducePow,Int.reduceFDiv,Nat.reducePow,Nat.reduceSub,Nat.reduceMul,Nat.min_eq_left,Nat.reduceEqDiff,BEq.rfl,Int.tdiv_one,LN_succ,e1,e2,e3,e4,e5,e6,e7,e8,e9]
 refine CallO.on (enough_c id 0 1 false (by simp) _ (by omega)) (subH_get (by simp only [aqT,aqU,aqN,aqP,aqM,↓seqK,↓blkK,↓loopK,step,stepBin,eqB,Nat.reduceBEq,Nat.reduceBeqDiff,Nat.add_assoc nid,Nat.reduceAdd,reduceCtorEq,↓reduceIte,Nat.reduceLeDiff,Nat.reduceBneDiff,Option.toList,← Int.ofNat_tmod,← Int.ofNat_tdiv,Nat.reduceLT,e1,e2,e3,e4,e5,e6,e7,e8,e9])) ?_
 simp -dsimp only [aqT,aqU,aqN,aqP,aqM,↓seqK,↓blkK,↓loopK,step,stepBin,eqB,Nat.reduceBEq,Nat.reduceBeqDiff,Nat.add_assoc nid,Nat.reduceAdd,reduceCtorEq,↓reduceIte,Nat.reduceLeDiff,Nat.reduceBneDiff,Option.toList,← Int.ofNat_tmod,← Int.ofNat_tdiv,Nat.reduceLT,Int.cast_ofNat_Int,Int.reduceBEq,Int.reduceBNe,Int.reduceLT,Int.reduceLE,Int.reduceAdd,Int.reduceSub,Int.reduceMul,Int.reduceToNat,Int.reduceNeg,Int.reduceTMod,Int.reduceEq,not_false_eq_true,Int.reducePow,Int.reduceFDiv,Nat.reducePow,Nat.reduceSub,Nat.reduceMul,Nat.min_eq_left,Nat.reduceEqDiff,BEq.rfl,Int.tdiv_one,LN_succ,e1,e2,e3,e4,e5,e6,e7,e8,e9]
 refine ⟨by unfold inI64; omega,CallO.on (enough_c id 1 2 false (by simp) _ (by omega)) (subH_get (by simp only [aqT,aqU,aqN,aqP,aqM,↓seqK,↓blkK,↓loopK,step,stepBin,eqB,Nat.reduceBEq,Nat.reduceBeqDiff,Nat.add_assoc nid,Nat.reduceAdd,reduceCtorEq,↓reduceIte,Nat.reduceLeDiff,Nat.reduceBneDiff,Option.toList,← Int.ofNat_tmod,← Int.ofNat_tdiv,Nat.reduceLT,e1,e2,e3,e4,e5,e6,e7,e8,e9])) ?_⟩
 simp -dsimp only [aqT,aqU,aqN,aqP,aqM,↓seqK,↓blkK,↓loopK,step,stepBin,eqB,Nat.reduceBEq,Nat.reduceBeqDiff,Nat.add_assoc nid,Nat.reduceAdd,reduceCtorEq,↓reduceIte,Nat.reduceLeDiff,Nat.reduceBneDiff,Option.toList,← Int.ofNat_tmod,← Int.ofNat_tdiv,Nat.reduceLT,Int.cast_ofNat_Int,Int.reduceBEq,Int.reduceBNe,Int.reduceLT,Int.reduceLE,Int.reduceAdd,Int.reduceSub,Int.reduceMul,Int.reduceToNat,Int.reduceNeg,Int.reduceTMod,Int.reduceEq,not_false_eq_true,Int.reducePow,Int.reduceFDiv,Nat.reducePow,Nat.reduceSub,Nat.reduceMul,Nat.min_eq_left,Nat.reduceEqDiff,BEq.rfl,Int.tdiv_one,LN_succ,e1,e2,e3,e4,e5,e6,e7,e8,e9]
 refine ⟨by unfold inI64; omega,CallO.on (enough_c id 2 4 false (by simp) _ (by omega)) (subH_get (by simp only [aqT,aqU,aqN,aqP,aqM,↓seqK,↓blkK,↓loopK,step,stepBin,eqB,Nat.reduceBEq,Nat.reduceBeqDiff,Nat.add_assoc nid,Nat.reduceAdd,reduceCtorEq,↓reduceIte,Nat.reduceLeDiff,Nat.reduceBneDiff,Option.toList,← Int.ofNat_tmod,← Int.ofNat_tdiv,Nat.reduceLT,e1,e2,e3,e4,e5,e6,e7,e8,e9])) ?_⟩
 simp -dsimp only [aqT,aqU,aqN,aqP,aqM,↓seqK,↓blkK,↓loopK,step,stepBin,eqB,Nat.reduceBEq,Nat.reduceBeqDiff,Nat.add_assoc nid,Nat.reduceAdd,reduceCtorEq,↓reduceIte,Nat.reduceLeDiff,Nat.reduceBneDiff,Option.toList,← Int.ofNat_tmod,← Int.ofNat_tdiv,Nat.reduceLT,Int.cast_ofNat_Int,Int.reduceBEq,Int.reduceBNe,Int.reduceLT,Int.reduceLE,Int.reduceAdd,Int.reduceSub,Int.reduceMul,Int.reduceToNat,Int.reduceNeg,Int.reduceTMod,Int.reduceEq,not_false_eq_true,Int.reducePow,Int.reduceFDiv,Nat.reducePow,Nat.reduceSub,Nat.reduceMul,Nat.min_eq_left,Nat.reduceEqDiff,BEq.rfl,Int.tdiv_one,LN_succ,e1,e2,e3,e4,e5,e6,e7,e8,e9]
 refine ⟨by unfold inI64; omega,CallO.on (enough_c id 3 8 true (by simp) _ (by omega)) (subH_get (by simp only [aqT,aqU,aqN,aqP,aqM,↓seqK,↓blkK,↓loopK,step,stepBin,eqB,Nat.reduceBEq,Nat.reduceBeqDiff,Nat.add_assoc nid,Nat.reduceAdd,reduceCtorEq,↓reduceIte,Nat.reduceLeDiff,Nat.reduceBneDiff,Option.toList,← Int.ofNat_tmod,← Int.ofNat_tdiv,Nat.reduceLT,e1,e2,e3,e4,e5,e6,e7,e8,e9])) ?_⟩
 simp -dsimp only [aqT,aqU,aqN,aqP,aqM,↓seqK,↓blkK,↓loopK,step,stepBin,eqB,Nat.reduceBEq,Nat.reduceBeqDiff,Nat.add_assoc nid,Nat.reduceAdd,reduceCtorEq,↓reduceIte,Nat.reduceLeDiff,Nat.reduceBneDiff,Option.toList,← Int.ofNat_tmod,← Int.ofNat_tdiv,Nat.reduceLT,Int.cast_ofNat_Int,Int.reduceBEq,Int.reduceBNe,Int.reduceLT,Int.reduceLE,Int.reduceAdd,Int.reduceSub,Int.reduceMul,Int.reduceToNat,Int.reduceNeg,Int.reduceTMod,Int.reduceEq,not_false_eq_true,Int.reducePow,Int.reduceFDiv,Nat.reducePow,Nat.reduceSub,Nat.reduceMul,Nat.min_eq_left,Nat.reduceEqDiff,BEq.rfl,Int.tdiv_one,LN_succ,e1,e2,e3,e4,e5,e6,e7,e8,e9]
 refine RetOK.same (.inl rfl) rfl ?_ ?_ ?_ <;> simp [cvT,step,res,e1,e2,e3,e4,e5,e6,e7,e8,e9]
def bitW (x:Int) (j:Nat):Int:=IntKind.i64.wrap ((BitVec.ofInt IntKind.i64.bits (x.fdiv (2 ^ min j IntKind.i64.bits)) &&& BitVec.ofInt IntKind.i64.bits 1).toNat:Int)
theorem number_c (x b2 b1 b0:Int) (s:List UInt8) (h2:bitW x 2=b2) (h1:bitW x 1=b1) (h0:bitW x 0=b0) (hb:(0≤b2∧b2≤1)∧(0≤b1∧b1≤1)∧(0≤b0∧b0≤1))
  (hs:s=[UInt8.ofNat (IntKind.u8.wrap (48+b2)).toNat,UInt8.ofNat (IntKind.u8.wrap (48+b1)).toNat,UInt8.ofNat (IntKind.u8.wrap (48+b0)).toNat]) (nid:Nat) :
  ACall Tryz.prog 131 [.int .i64 x,.int .i64 3] [] nid (.str s) []:=by
 unfold bitW at h2 h1 h0
 refine acall_run c131 (by simp [a131]) ?_
 simp -dsimp only [a131,aqT,aqU,aqN,aqP,aqM,↓seqK,↓blkK,↓loopK,step,stepBin,eqB,Nat.reduceBEq,Nat.reduceBeqDiff,Nat.add_assoc nid,Nat.reduceAdd,reduceCtorEq,↓reduceIte,Nat.reduceLeDiff,Nat.reduceBneDiff,Option.toList,← Int.ofNat_tmod,← Int.ofNat_tdiv,Nat.reduceLT,Int.cast_ofNat_Int,Int.reduceBEq,Int.reduceBNe,Int.reduceLT,Int.reduceLE,Int.reduceAdd,Int.reduceSub,Int.reduceMul,Int.reduceToNat,Int.reduceNeg,Int.reduceTMod,Int.reduceEq,not_false_eq_true,Int.reducePow,Int.reduceFDiv,Nat.reducePow,Nat.reduceSub,Nat.reduceMul,Nat.min_eq_left,Nat.reduceEqDiff,BEq.rfl,Int.tdiv_one,LN_succ]
 refine ⟨by unfold inI64; omega,LP.rounds 5 ?_⟩
 simp -dsimp only [aqT,aqU,aqN,aqP,aqM,↓seqK,↓blkK,↓loopK,step,stepBin,eqB,Nat.reduceBEq,Nat.reduceBeqDiff,Nat.add_assoc nid,Nat.reduceAdd,reduceCtorEq,↓reduceIte,Nat.reduceLeDiff,Nat.reduceBneDiff,Option.toList,← Int.ofNat_tmod,← Int.ofNat_tdiv,Nat.reduceLT,Int.cast_ofNat_Int,Int.reduceBEq,Int.reduceBNe,Int.reduceLT,Int.reduceLE,Int.reduceAdd,Int.reduceSub,Int.reduceMul,Int.reduceToNat,Int.reduceNeg,Int.reduceTMod,Int.reduceEq,not_false_eq_true,Int.reducePow,Int.reduceFDiv,Nat.reducePow,Nat.reduceSub,Nat.reduceMul,Nat.min_eq_left,Nat.reduceEqDiff,BEq.rfl,Int.tdiv_one,LN_succ]
 rw [h2,h1,h0]
 obtain ⟨⟨a1,a2⟩,⟨a3,a4⟩,a5,a6⟩:=hb
 refine ⟨by unfold inI64; omega,by unfold inI64; omega,by unfold inI64; omega,by unfold inI64; omega,by unfold inI64; omega,by unfold inI64; omega,RetOK.pure (.inl rfl) rfl ?_⟩
 subst hs
 simp [cvT,step,res,List.range_succ]
theorem netsFault_c (nid:Nat):ACall Tryz.prog 128 [.int .i64 3] [] nid (.int .i64 0) []:=by
 have ho:outB 3 1 100=false:=by decide
 refine acall_run c128 (by simp [a128]) ?_
 simp -dsimp only [a128,aqT,aqU,aqN,aqP,aqM,↓seqK,↓blkK,↓loopK,step,stepBin,eqB,Nat.reduceBEq,Nat.reduceBeqDiff,Nat.add_assoc nid,Nat.reduceAdd,reduceCtorEq,↓reduceIte,Nat.reduceLeDiff,Nat.reduceBneDiff,Option.toList,← Int.ofNat_tmod,← Int.ofNat_tdiv,Nat.reduceLT,Int.cast_ofNat_Int,Int.reduceBEq,Int.reduceBNe,Int.reduceLT,Int.reduceLE,Int.reduceAdd,Int.reduceSub,Int.reduceMul,Int.reduceToNat,Int.reduceNeg,Int.reduceTMod,Int.reduceEq,not_false_eq_true,Int.reducePow,Int.reduceFDiv,Nat.reducePow,Nat.reduceSub,Nat.reduceMul,Nat.min_eq_left,Nat.reduceEqDiff,BEq.rfl,Int.tdiv_one,LN_succ]
 refine CallO.pure (out_c _ _ _ _) ?_
 rw [ho]
 simp -dsimp only [aqT,aqU,aqN,aqP,aqM,↓seqK,↓blkK,↓loopK,step,stepBin,eqB,Nat.reduceBEq,Nat.reduceBeqDiff,Nat.add_assoc nid,Nat.reduceAdd,reduceCtorEq,↓reduceIte,Nat.reduceLeDiff,Nat.reduceBneDiff,Option.toList,← Int.ofNat_tmod,← Int.ofNat_tdiv,Nat.reduceLT,Int.cast_ofNat_Int,Int.reduceBEq,Int.reduceBNe,Int.reduceLT,Int.reduceLE,Int.reduceAdd,Int.reduceSub,Int.reduceMul,Int.reduceToNat,Int.reduceNeg,Int.reduceTMod,Int.reduceEq,not_false_eq_true,Int.reducePow,Int.reduceFDiv,Nat.reducePow,Nat.reduceSub,Nat.reduceMul,Nat.min_eq_left,Nat.reduceEqDiff,BEq.rfl,Int.tdiv_one,LN_succ]
 refine RetOK.pure (.inl rfl) rfl ?_
 simp [cvT,step,res]
def vecs:List (List UInt8):=[[48,48,48],[48,49,49],[49,48,49]]
theorem turned_c (nl:Bool) (nid:Nat):ACall Tryz.prog 132 [.lit nl 3 [.s fun i=>[[48,48,49],[48,49,48],[48,49,49]].getD i []],.int .i64 3] [] nid (.sl nid 0 3) [(nid,some (.arr 9 3 [.s fun i=>vecs.getD i []]))]:=by
 refine acall_run c132 (by simp [a132]) ?_
 simp -dsimp only [a132,aqT,aqU,aqN,aqP,aqM,↓seqK,↓blkK,↓loopK,step,stepBin,eqB,Nat.reduceBEq,Nat.reduceBeqDiff,Nat.add_assoc nid,Nat.reduceAdd,reduceCtorEq,↓reduceIte,Nat.reduceLeDiff,Nat.reduceBneDiff,Option.toList,← Int.ofNat_tmod,← Int.ofNat_tdiv,Nat.reduceLT,Int.cast_ofNat_Int,Int.reduceBEq,Int.reduceBNe,Int.reduceLT,Int.reduceLE,Int.reduceAdd,Int.reduceSub,Int.reduceMul,Int.reduceToNat,Int.reduceNeg,Int.reduceTMod,Int.reduceEq,not_false_eq_true,Int.reducePow,Int.reduceFDiv,Nat.reducePow,Nat.reduceSub,Nat.reduceMul,Nat.min_eq_left,Nat.reduceEqDiff,BEq.rfl,Int.tdiv_one,LN_succ]
 refine LP.rounds 5 ?_
 simp -dsimp only [aqT,aqU,aqN,aqP,aqM,↓seqK,↓blkK,↓loopK,step,stepBin,eqB,Nat.reduceBEq,Nat.reduceBeqDiff,Nat.add_assoc nid,Nat.reduceAdd,reduceCtorEq,↓reduceIte,Nat.reduceLeDiff,Nat.reduceBneDiff,Option.toList,← Int.ofNat_tmod,← Int.ofNat_tdiv,Nat.reduceLT,Int.cast_ofNat_Int,Int.reduceBEq,Int.reduceBNe,Int.reduceLT,Int.reduceLE,Int.reduceAdd,Int.reduceSub,Int.reduceMul,Int.reduceToNat,Int.reduceNeg,Int.reduceTMod,Int.reduceEq,not_false_eq_true,Int.reducePow,Int.reduceFDiv,Nat.reducePow,Nat.reduceSub,Nat.reduceMul,Nat.min_eq_left,Nat.reduceEqDiff,BEq.rfl,Int.tdiv_one,LN_succ]
 refine LP.rounds 5 ?_
 simp -dsimp only [aqT,aqU,aqN,aqP,aqM,↓seqK,↓blkK,↓loopK,step,stepBin,eqB,Nat.reduceBEq,Nat.reduceBeqDiff,Nat.add_assoc nid,Nat.reduceAdd,reduceCtorEq,↓reduceIte,Nat.reduceLeDiff,Nat.reduceBneDiff,Option.toList,← Int.ofNat_tmod,← Int.ofNat_tdiv,Nat.reduceLT,Int.cast_ofNat_Int,Int.reduceBEq,Int.reduceBNe,Int.reduceLT,Int.reduceLE,Int.reduceAdd,Int.reduceSub,Int.reduceMul,Int.reduceToNat,Int.reduceNeg,Int.reduceTMod,Int.reduceEq,not_false_eq_true,Int.reducePow,Int.reduceFDiv,Nat.reducePow,Nat.reduceSub,Nat.reduceMul,Nat.min_eq_left,Nat.reduceEqDiff,BEq.rfl,Int.tdiv_one,LN_succ,Col.const,List.getD_cons_zero,List.getD_cons_succ]
 refine ⟨by unfold inI64; omega,by unfold inI64; omega,by unfold inI64; omega,by unfold inI64; omega,LP.rounds 5 ?_⟩
 simp -dsimp only [aqT,aqU,aqN,aqP,aqM,↓seqK,↓blkK,↓loopK,step,stepBin,eqB,Nat.reduceBEq,Nat.reduceBeqDiff,Nat.add_assoc nid,Nat.reduceAdd,reduceCtorEq,↓reduceIte,Nat.reduceLeDiff,Nat.reduceBneDiff,Option.toList,← Int.ofNat_tmod,← Int.ofNat_tdiv,Nat.reduceLT,Int.cast_ofNat_Int,Int.reduceBEq,Int.reduceBNe,Int.reduceLT,Int.reduceLE,Int.reduceAdd,Int.reduceSub,Int.reduceMul,Int.reduceToNat,Int.reduceNeg,Int.reduceTMod,Int.reduceEq,not_false_eq_true,Int.reducePow,Int.reduceFDiv,Nat.reducePow,Nat.reduceSub,Nat.reduceMul,Nat.min_eq_left,Nat.reduceEqDiff,BEq.rfl,Int.tdiv_one,LN_succ,Col.const,List.getD_cons_zero,List.getD_cons_succ]
 refine ⟨by unfold inI64; omega,by unfold inI64; omega,by unfold inI64; omega,by unfold inI64; omega,LP.rounds 5 ?_⟩
 simp -dsimp only [aqT,aqU,aqN,aqP,aqM,↓seqK,↓blkK,↓loopK,step,stepBin,eqB,Nat.reduceBEq,Nat.reduceBeqDiff,Nat.add_assoc nid,Nat.reduceAdd,reduceCtorEq,↓reduceIte,Nat.reduceLeDiff,Nat.reduceBneDiff,Option.toList,← Int.ofNat_tmod,← Int.ofNat_tdiv,Nat.reduceLT,Int.cast_ofNat_Int,Int.reduceBEq,Int.reduceBNe,Int.reduceLT,Int.reduceLE,Int.reduceAdd,Int.reduceSub,Int.reduceMul,Int.reduceToNat,Int.reduceNeg,Int.reduceTMod,Int.reduceEq,not_false_eq_true,Int.reducePow,Int.reduceFDiv,Nat.reducePow,Nat.reduceSub,Nat.reduceMul,Nat.min_eq_left,Nat.reduceEqDiff,BEq.rfl,Int.tdiv_one,LN_succ,Col.const,List.getD_cons_zero,List.getD_cons_succ]
 refine ⟨by unfold inI64; omega,by unfold inI64; omega,by unfold inI64; omega,by unfold inI64; omega,RetOK.go [(nid,nid+768)] [] (.inl rfl) ?_⟩
 simp [a132,cvT,step,res,-List.getD_eq_getElem?_getD]
 trace_state
 refine ColEq.s fun i hi=>?_
 have:i=0∨i=1∨i=2:=by omega
 rcases this with rfl | rfl | rfl <;> decide
theorem counting_c (nid:Nat):ACall Tryz.prog 88 [.int .i64 3] [] nid (.tup [.sl nid 0 3,.int .i64 0]) [(nid,some (.arr 9 3 [.s fun i=>vecs.getD i []]))]:=by
 refine acall_run c88 (by simp [a88]) ?_
 simp -dsimp only [a88,aqT,aqU,aqN,aqP,aqM,↓seqK,↓blkK,↓loopK,step,stepBin,eqB,Nat.reduceBEq,Nat.reduceBeqDiff,Nat.add_assoc nid,Nat.reduceAdd,reduceCtorEq,↓reduceIte,Nat.reduceLeDiff,Nat.reduceBneDiff,Option.toList,← Int.ofNat_tmod,← Int.ofNat_tdiv,Nat.reduceLT,Int.cast_ofNat_Int,Int.reduceBEq,Int.reduceBNe,Int.reduceLT,Int.reduceLE,Int.reduceAdd,Int.reduceSub,Int.reduceMul,Int.reduceToNat,Int.reduceNeg,Int.reduceTMod,Int.reduceEq,not_false_eq_true,Int.reducePow,Int.reduceFDiv,Nat.reducePow,Nat.reduceSub,Nat.reduceMul,Nat.min_eq_left,Nat.reduceEqDiff,BEq.rfl,Int.tdiv_one,LN_succ]
 refine CallO.pure (netsFault_c _) ?_
 simp -dsimp only [aqT,aqU,aqN,aqP,aqM,↓seqK,↓blkK,↓loopK,step,stepBin,eqB,Nat.reduceBEq,Nat.reduceBeqDiff,Nat.add_assoc nid,Nat.reduceAdd,reduceCtorEq,↓reduceIte,Nat.reduceLeDiff,Nat.reduceBneDiff,Option.toList,← Int.ofNat_tmod,← Int.ofNat_tdiv,Nat.reduceLT,Int.cast_ofNat_Int,Int.reduceBEq,Int.reduceBNe,Int.reduceLT,Int.reduceLE,Int.reduceAdd,Int.reduceSub,Int.reduceMul,Int.reduceToNat,Int.reduceNeg,Int.reduceTMod,Int.reduceEq,not_false_eq_true,Int.reducePow,Int.reduceFDiv,Nat.reducePow,Nat.reduceSub,Nat.reduceMul,Nat.min_eq_left,Nat.reduceEqDiff,BEq.rfl,Int.tdiv_one,LN_succ]
 refine CallO.on (least_c nid _ (by omega)) (subH_get (by simp only [aqT,aqU,aqN,aqP,aqM,↓seqK,↓blkK,↓loopK,step,stepBin,eqB,Nat.reduceBEq,Nat.reduceBeqDiff,Nat.add_assoc nid,Nat.reduceAdd,reduceCtorEq,↓reduceIte,Nat.reduceLeDiff,Nat.reduceBneDiff,Option.toList,← Int.ofNat_tmod,← Int.ofNat_tdiv,Nat.reduceLT])) ?_
 simp -dsimp only [aqT,aqU,aqN,aqP,aqM,↓seqK,↓blkK,↓loopK,step,stepBin,eqB,Nat.reduceBEq,Nat.reduceBeqDiff,Nat.add_assoc nid,Nat.reduceAdd,reduceCtorEq,↓reduceIte,Nat.reduceLeDiff,Nat.reduceBneDiff,Option.toList,← Int.ofNat_tmod,← Int.ofNat_tdiv,Nat.reduceLT,Int.cast_ofNat_Int,Int.reduceBEq,Int.reduceBNe,Int.reduceLT,Int.reduceLE,Int.reduceAdd,Int.reduceSub,Int.reduceMul,Int.reduceToNat,Int.reduceNeg,Int.reduceTMod,Int.reduceEq,not_false_eq_true,Int.reducePow,Int.reduceFDiv,Nat.reducePow,Nat.reduceSub,Nat.reduceMul,Nat.min_eq_left,Nat.reduceEqDiff,BEq.rfl,Int.tdiv_one,LN_succ]
 refine LP.rounds 5 ?_
 simp -dsimp only [aqT,aqU,aqN,aqP,aqM,↓seqK,↓blkK,↓loopK,step,stepBin,eqB,Nat.reduceBEq,Nat.reduceBeqDiff,Nat.add_assoc nid,Nat.reduceAdd,reduceCtorEq,↓reduceIte,Nat.reduceLeDiff,Nat.reduceBneDiff,Option.toList,← Int.ofNat_tmod,← Int.ofNat_tdiv,Nat.reduceLT,Int.cast_ofNat_Int,Int.reduceBEq,Int.reduceBNe,Int.reduceLT,Int.reduceLE,Int.reduceAdd,Int.reduceSub,Int.reduceMul,Int.reduceToNat,Int.reduceNeg,Int.reduceTMod,Int.reduceEq,not_false_eq_true,Int.reducePow,Int.reduceFDiv,Nat.reducePow,Nat.reduceSub,Nat.reduceMul,Nat.min_eq_left,Nat.reduceEqDiff,BEq.rfl,Int.tdiv_one,LN_succ]
 refine ⟨by unfold inI64; omega,CallO.pure (number_c 1 0 0 1 [48,48,49] (by decide) (by decide) (by decide) (by omega) (by decide) _) ?_⟩
 simp -dsimp only [aqT,aqU,aqN,aqP,aqM,↓seqK,↓blkK,↓loopK,step,stepBin,eqB,Nat.reduceBEq,Nat.reduceBeqDiff,Nat.add_assoc nid,Nat.reduceAdd,reduceCtorEq,↓reduceIte,Nat.reduceLeDiff,Nat.reduceBneDiff,Option.toList,← Int.ofNat_tmod,← Int.ofNat_tdiv,Nat.reduceLT,Int.cast_ofNat_Int,Int.reduceBEq,Int.reduceBNe,Int.reduceLT,Int.reduceLE,Int.reduceAdd,Int.reduceSub,Int.reduceMul,Int.reduceToNat,Int.reduceNeg,Int.reduceTMod,Int.reduceEq,not_false_eq_true,Int.reducePow,Int.reduceFDiv,Nat.reducePow,Nat.reduceSub,Nat.reduceMul,Nat.min_eq_left,Nat.reduceEqDiff,BEq.rfl,Int.tdiv_one,LN_succ]
 refine ⟨by unfold inI64; omega,by unfold inI64; omega,CallO.pure (number_c 2 0 1 0 [48,49,48] (by decide) (by decide) (by decide) (by omega) (by decide) _) ?_⟩
 simp -dsimp only [aqT,aqU,aqN,aqP,aqM,↓seqK,↓blkK,↓loopK,step,stepBin,eqB,Nat.reduceBEq,Nat.reduceBeqDiff,Nat.add_assoc nid,Nat.reduceAdd,reduceCtorEq,↓reduceIte,Nat.reduceLeDiff,Nat.reduceBneDiff,Option.toList,← Int.ofNat_tmod,← Int.ofNat_tdiv,Nat.reduceLT,Int.cast_ofNat_Int,Int.reduceBEq,Int.reduceBNe,Int.reduceLT,Int.reduceLE,Int.reduceAdd,Int.reduceSub,Int.reduceMul,Int.reduceToNat,Int.reduceNeg,Int.reduceTMod,Int.reduceEq,not_false_eq_true,Int.reducePow,Int.reduceFDiv,Nat.reducePow,Nat.reduceSub,Nat.reduceMul,Nat.min_eq_left,Nat.reduceEqDiff,BEq.rfl,Int.tdiv_one,LN_succ]
 refine ⟨by unfold inI64; omega,by unfold inI64; omega,CallO.pure (number_c 3 0 1 1 [48,49,49] (by decide) (by decide) (by decide) (by omega) (by decide) _) ?_⟩
 simp -dsimp only [aqT,aqU,aqN,aqP,aqM,↓seqK,↓blkK,↓loopK,step,stepBin,eqB,Nat.reduceBEq,Nat.reduceBeqDiff,Nat.add_assoc nid,Nat.reduceAdd,reduceCtorEq,↓reduceIte,Nat.reduceLeDiff,Nat.reduceBneDiff,Option.toList,← Int.ofNat_tmod,← Int.ofNat_tdiv,Nat.reduceLT,Int.cast_ofNat_Int,Int.reduceBEq,Int.reduceBNe,Int.reduceLT,Int.reduceLE,Int.reduceAdd,Int.reduceSub,Int.reduceMul,Int.reduceToNat,Int.reduceNeg,Int.reduceTMod,Int.reduceEq,not_false_eq_true,Int.reducePow,Int.reduceFDiv,Nat.reducePow,Nat.reduceSub,Nat.reduceMul,Nat.min_eq_left,Nat.reduceEqDiff,BEq.rfl,Int.tdiv_one,LN_succ]
 refine ⟨by unfold inI64; omega,CallO.gave [nid+196] (fun nl'=>by
  simp only [lends,lend,aqT,aqU,aqN,aqP,aqM,↓seqK,↓blkK,↓loopK,step,stepBin,eqB,Nat.reduceBEq,Nat.reduceBeqDiff,Nat.add_assoc nid,Nat.reduceAdd,reduceCtorEq,↓reduceIte,Nat.reduceLeDiff,Nat.reduceBneDiff,Option.toList,← Int.ofNat_tmod,← Int.ofNat_tdiv,Nat.reduceLT]
  exact (turned_c (nl' _) _).args ⟨⟨rfl,rfl,ColEq.s fun i hi=>by
   have:i=0∨i=1∨i=2:=by omega
   rcases this with rfl | rfl | rfl <;> rfl,trivial⟩,rfl,trivial⟩) (fun id hid=>by simp only [List.mem_singleton] at hid; subst hid; simp only [aqT,aqU,aqN,aqP,aqM,↓seqK,↓blkK,↓loopK,step,stepBin,eqB,Nat.reduceBEq,Nat.reduceBeqDiff,Nat.add_assoc nid,Nat.reduceAdd,reduceCtorEq,↓reduceIte,Nat.reduceLeDiff,Nat.reduceBneDiff,Option.toList,← Int.ofNat_tmod,← Int.ofNat_tdiv,Nat.reduceLT]) ?_⟩
 simp -dsimp only [aqT,aqU,aqN,aqP,aqM,↓seqK,↓blkK,↓loopK,step,stepBin,eqB,Nat.reduceBEq,Nat.reduceBeqDiff,Nat.add_assoc nid,Nat.reduceAdd,reduceCtorEq,↓reduceIte,Nat.reduceLeDiff,Nat.reduceBneDiff,Option.toList,← Int.ofNat_tmod,← Int.ofNat_tdiv,Nat.reduceLT,Int.cast_ofNat_Int,Int.reduceBEq,Int.reduceBNe,Int.reduceLT,Int.reduceLE,Int.reduceAdd,Int.reduceSub,Int.reduceMul,Int.reduceToNat,Int.reduceNeg,Int.reduceTMod,Int.reduceEq,not_false_eq_true,Int.reducePow,Int.reduceFDiv,Nat.reducePow,Nat.reduceSub,Nat.reduceMul,Nat.min_eq_left,Nat.reduceEqDiff,BEq.rfl,Int.tdiv_one,LN_succ,kill]
 refine RetOK.go [(nid,nid+224)] [] (.inl rfl) ?_
 simp [a88,cvT,step,res]
end Go.Proofs.YtahjohieahehjaaGreatDoor
namespace Go.Proofs.YtahjohieahehjaaGreatDoor
open Go.RowKit
theorem isState_c (n:Int) (nid:Nat):ACall Tryz.prog 122 [.int .i64 n] [] nid (.bool (!outB n 0 15)) []:=by
 refine acall_run c122 (by simp [a122]) ?_
 simp -dsimp only [a122,aqT,aqU,aqN,aqP,aqM,↓seqK,↓blkK,↓loopK,step,stepBin,eqB,Nat.reduceBEq,Nat.reduceBeqDiff,Nat.add_assoc nid,Nat.reduceAdd,reduceCtorEq,↓reduceIte,Nat.reduceLeDiff,Nat.reduceBneDiff,Option.toList,← Int.ofNat_tmod,← Int.ofNat_tdiv,Nat.reduceLT]
 refine CallO.pure (out_c _ _ _ _) ?_
 simp -dsimp only [aqT,aqU,aqN,aqP,aqM,↓seqK,↓blkK,↓loopK,step,stepBin,eqB,Nat.reduceBEq,Nat.reduceBeqDiff,Nat.add_assoc nid,Nat.reduceAdd,reduceCtorEq,↓reduceIte,Nat.reduceLeDiff,Nat.reduceBneDiff,Option.toList,← Int.ofNat_tmod,← Int.ofNat_tdiv,Nat.reduceLT]
 refine RetOK.pure (.inl rfl) rfl ?_
 simp [cvT,step,res]
theorem pathP (s t nid:Nat) (hs:s<16) (ht:t<16):ACall Tryz.prog 72 [.int .i64 (s:Nat),.int .i64 (t:Nat)] [] nid (.tup [.str (pathV s t),.int .i64 0]) []:=by
 have h1:outB (s:Nat) 0 15=false:=by unfold outB; simp; omega
 have h2:outB (t:Nat) 0 15=false:=by unfold outB; simp; omega
 refine acall_run c72 (by simp [a72]) ?_
 simp -dsimp only [a72,aqT,aqU,aqN,aqP,aqM,↓seqK,↓blkK,↓loopK,step,stepBin,eqB,Nat.reduceBEq,Nat.reduceBeqDiff,Nat.add_assoc nid,Nat.reduceAdd,reduceCtorEq,↓reduceIte,Nat.reduceLeDiff,Nat.reduceBneDiff,Option.toList,← Int.ofNat_tmod,← Int.ofNat_tdiv,Nat.reduceLT]
 refine CallO.pure (isState_c _ _) ?_
 rw [h1]
 simp -dsimp only [aqT,aqU,aqN,aqP,aqM,↓seqK,↓blkK,↓loopK,step,stepBin,eqB,Nat.reduceBEq,Nat.reduceBeqDiff,Nat.add_assoc nid,Nat.reduceAdd,reduceCtorEq,↓reduceIte,Nat.reduceLeDiff,Nat.reduceBneDiff,Option.toList,← Int.ofNat_tmod,← Int.ofNat_tdiv,Nat.reduceLT,Bool.not_false,Bool.not_true]
 refine CallO.pure (isState_c _ _) ?_
 rw [h2]
 simp -dsimp only [aqT,aqU,aqN,aqP,aqM,↓seqK,↓blkK,↓loopK,step,stepBin,eqB,Nat.reduceBEq,Nat.reduceBeqDiff,Nat.add_assoc nid,Nat.reduceAdd,reduceCtorEq,↓reduceIte,Nat.reduceLeDiff,Nat.reduceBneDiff,Option.toList,← Int.ofNat_tmod,← Int.ofNat_tdiv,Nat.reduceLT,Bool.not_false,Bool.not_true]
 refine CallO.pure (path_st s t _ hs) ?_
 simp -dsimp only [aqT,aqU,aqN,aqP,aqM,↓seqK,↓blkK,↓loopK,step,stepBin,eqB,Nat.reduceBEq,Nat.reduceBeqDiff,Nat.add_assoc nid,Nat.reduceAdd,reduceCtorEq,↓reduceIte,Nat.reduceLeDiff,Nat.reduceBneDiff,Option.toList,← Int.ofNat_tmod,← Int.ofNat_tdiv,Nat.reduceLT]
 refine RetOK.pure (.inl rfl) rfl ?_
 simp [cvT,step,res]
theorem path41:pathV 4 1=[49,49,48]:=by decide
theorem path41_c (nid:Nat):ACall Tryz.prog 72 [.int .i64 4,.int .i64 1] [] nid (.tup [.str [49,49,48],.int .i64 0]) []:=by
 have h:=pathP 4 1 nid (by omega) (by omega)
 rw [path41] at h
 exact h
theorem e110:(([49,49,48]:List UInt8)==[49,49,48])=true:=by decide
theorem ready_c (nid:Nat):ACall Tryz.prog 38 [] [] nid (.bool true) []:=by
 refine acall_run c38 (by simp [a38]) ?_
 simp -dsimp only [a38,aqT,aqU,aqN,aqP,aqM,↓seqK,↓blkK,↓loopK,step,stepBin,eqB,Nat.reduceBEq,Nat.reduceBeqDiff,Nat.add_assoc nid,Nat.reduceAdd,reduceCtorEq,↓reduceIte,Nat.reduceLeDiff,Nat.reduceBneDiff,Option.toList,← Int.ofNat_tmod,← Int.ofNat_tdiv,Nat.reduceLT]
 refine CallO.pure (path41_c _) ?_
 simp -dsimp only [aqT,aqU,aqN,aqP,aqM,↓seqK,↓blkK,↓loopK,step,stepBin,eqB,Nat.reduceBEq,Nat.reduceBeqDiff,Nat.add_assoc nid,Nat.reduceAdd,reduceCtorEq,↓reduceIte,Nat.reduceLeDiff,Nat.reduceBneDiff,Option.toList,← Int.ofNat_tmod,← Int.ofNat_tdiv,Nat.reduceLT]
 refine CallO.pure (counting_c _) ?_
 simp -dsimp only [aqT,aqU,aqN,aqP,aqM,↓seqK,↓blkK,↓loopK,step,stepBin,eqB,Nat.reduceBEq,Nat.reduceBeqDiff,Nat.add_assoc nid,Nat.reduceAdd,reduceCtorEq,↓reduceIte,Nat.reduceLeDiff,Nat.reduceBneDiff,Option.toList,← Int.ofNat_tmod,← Int.ofNat_tdiv,Nat.reduceLT]
 refine CallO.gave [nid+52] (fun nl'=>by
  simp only [lends,lend,aqT,aqU,aqN,aqP,aqM,↓seqK,↓blkK,↓loopK,step,stepBin,eqB,Nat.reduceBEq,Nat.reduceBeqDiff,Nat.add_assoc nid,Nat.reduceAdd,reduceCtorEq,↓reduceIte,Nat.reduceLeDiff,Nat.reduceBneDiff,Option.toList,← Int.ofNat_tmod,← Int.ofNat_tdiv,Nat.reduceLT]
  exact yield_c (nl' _) _) (by simp [getH]) ?_
 simp -dsimp only [aqT,aqU,aqN,aqP,aqM,↓seqK,↓blkK,↓loopK,step,stepBin,eqB,Nat.reduceBEq,Nat.reduceBeqDiff,Nat.add_assoc nid,Nat.reduceAdd,reduceCtorEq,↓reduceIte,Nat.reduceLeDiff,Nat.reduceBneDiff,Option.toList,← Int.ofNat_tmod,← Int.ofNat_tdiv,Nat.reduceLT,kill,e110,-seqK]
 refine S2.yes (by decide) ?_
 simp -dsimp only [aqT,aqU,aqN,aqP,aqM,↓seqK,↓blkK,↓loopK,step,stepBin,eqB,Nat.reduceBEq,Nat.reduceBeqDiff,Nat.add_assoc nid,Nat.reduceAdd,reduceCtorEq,↓reduceIte,Nat.reduceLeDiff,Nat.reduceBneDiff,Option.toList,← Int.ofNat_tmod,← Int.ofNat_tdiv,Nat.reduceLT,-seqK]
 refine RetOK.pure (.inl rfl) rfl ?_
 simp [cvT,step,res]
end Go.Proofs.YtahjohieahehjaaGreatDoor
namespace Go.Proofs.YtahjohieahehjaaGreatDoor
open Go.RowKit
theorem Scoped.cons {b i:Nat} {c:Option ABlk} {Hs:Heap} (hi:i<b) (hc:lowBlk b c=true) (h:Scoped b Hs):Scoped b ((i,c)::Hs):=by
 have:=lowHeap_cons hi hc h.lowHeap
 exact ⟨this.1,this.2⟩
theorem subH_swap {s:Nat} {A:Option ABlk} {Hs:Heap} (h:s ∉ keys Hs):subH ((s,A)::Hs) (Hs++[(s,A)]):=fun id x hx=>by
 simp only [getH] at hx
 rw [getH_appC]
 cases e:(s==id)
 ·rw [e] at hx
  simp only [cond_false] at hx
  rw [getH_key hx]
  exact hx
 ·rw [e] at hx
  simp only [cond_true] at hx
  have e':=eq_of_beq e
  subst e'
  have:(keys Hs).contains s=false:=by simpa using h
  rw [this]
  simp only [cond_false,getH,e,cond_true]
  exact hx
theorem chH_off {c s:Nat} {x:ChV} (h:s<c):s ∉ keys (chH c x):=by
 intro hid
 unfold chH chainH at hid
 simp only [keys,List.map_cons,List.mem_cons,List.mem_map] at hid
 rcases hid with rfl | rfl | ⟨y,hy,hy2⟩
 ·omega
 ·omega
 ·have:=portsH_ge x.P (c+2) y hy
  omega
theorem portsK_ok {D:List Dev} (he:devsE D=0) (f:(Nat→Bool) × (Nat→Bool)):ChOk D.length ⟨0,portsK D f D.length⟩ :=
 ⟨by simp only; omega,portsK_len _ _ _,fun p hp=>by
  unfold portsK at hp
  obtain ⟨j,hj,rfl⟩:=List.mem_map.1 hp
  have hj':=List.mem_range.1 hj
  exact port0_V (devR_of he _ (by rw [List.getD_eq_getElem?_getD,List.getElem?_eq_getElem hj']; exact List.getElem_mem _)) _ _⟩
end Go.Proofs.YtahjohieahehjaaGreatDoor
namespace Go.Proofs.YtahjohieahehjaaGreatDoor
def nameR (d:Dev) (code:Bs):Bs:=d.ins.foldl (fun n x=>if x.1=code then x.2 else n) (if code=[]∧d.id≠0 then idL else byL)
def selR (d:Dev) (code:Bs):Bs × Int:=match d.regs.find? (fun x=>x.1==nameR d code) with
 | some r=>r
 | none=>(nameR d code,if nameR d code=idL then 32 else 1)
structure DevN (d:Dev):Prop where
 nb:∀ r∈d.regs,r.1≠byL∧r.1≠idL
 nd:∀ r∈d.regs,∀ x∈d.regs,x.1=r.1→x=r
 ic:∀ x∈d.ins,((x.1.length:Nat):Int)=d.long
 io:d.id≠0→d.id % 2=1
theorem devN_of {D:List Dev} (h:devsE D=0):∀ d∈D,DevN d:=by
 intro d hd
 have hR:=devR_of h d hd
 unfold devsE at h
 split at h
 ·cases h
 split at h
 ·cases h
 obtain ⟨i,hi,rfl⟩:=List.getElem_of_mem hd
 have hf:=fb_all h i (List.mem_range.2 hi)
 have e:D.getD i dev0=D[i]:=by rw [List.getD_eq_getElem?_getD,List.getElem?_eq_getElem hi]; rfl
 unfold devE at hf
 rw [e] at hf
 generalize D[i]=d at *
 split at hf
 ·cases hf
 split at hf
 ·cases hf
 split at hf
 ·cases hf
 rename_i h1 h2 h3
 split at hf
 ·cases hf
 split at hf
 ·cases hf
 rename_i h4 h5
 have hr:regsE d=0:=Classical.byContradiction fun hne=>by rw [if_pos hne] at hf; exact hne hf
 have hi:inssE d=0:=by rw [if_neg (by simpa using hr)] at hf; exact hf
 have hreg:∀ j,j<d.regs.length→¬ ((d.regs.getD j reg0).1=byL∨(d.regs.getD j reg0).1=idL∨(d.regs.take j).any (fun x=>x.1==(d.regs.getD j reg0).1)=true):=by
  intro j hj hc
  have hz:=fb_all hr j (List.mem_range.2 hj)
  unfold regE at hz
  split at hz
  ·cases hz
  ·cases hz
 have hlt:∀ j k,j<k→k<d.regs.length→¬ (d.regs.getD j reg0).1=(d.regs.getD k reg0).1:=by
  intro j k hjk hk hn
  refine hreg k hk (.inr (.inr (List.any_eq_true.2 ⟨d.regs.getD j reg0,?_,by simp only [beq_iff_eq]; exact hn⟩)))
  rw [List.getD_eq_getElem?_getD,List.getElem?_eq_getElem (by omega)]
  exact List.mem_take_iff_getElem.2 ⟨j,by omega,rfl⟩
 have hg:∀ j (hj:j<d.regs.length),d.regs.getD j reg0=d.regs[j]:=fun j hj=>by rw [List.getD_eq_getElem?_getD,List.getElem?_eq_getElem hj]; rfl
 refine ⟨fun r hr'=>?_,fun r hr' x hx hn=>?_,fun x hx=>?_,fun h0=>?_⟩
 ·obtain ⟨j,hj,rfl⟩:=List.getElem_of_mem hr'
  have:=hreg j hj
  rw [hg j hj] at this
  exact ⟨fun h=>this (.inl h),fun h=>this (.inr (.inl h))⟩
 ·obtain ⟨j,hj,rfl⟩:=List.getElem_of_mem hr'
  obtain ⟨k,hk,rfl⟩:=List.getElem_of_mem hx
  rcases Nat.lt_trichotomy j k with hjk | hjk | hjk
  ·have:=hlt j k hjk hk
   rw [hg j hj,hg k hk] at this
   exact absurd hn.symm this
  ·subst hjk; rfl
  ·have:=hlt k j hjk hj
   rw [hg j hj,hg k hk] at this
   exact absurd hn this
 ·obtain ⟨j,hj,rfl⟩:=List.getElem_of_mem hx
  have hz:=fb_all hi j (List.mem_range.2 hj)
  have e2:d.ins.getD j ins0=d.ins[j]:=by rw [List.getD_eq_getElem?_getD,List.getElem?_eq_getElem hj]; rfl
  unfold insE at hz
  rw [e2] at hz
  split at hz
  ·cases hz
  rename_i h6
  exact Classical.byContradiction fun h=>h6 h
 ·have h6:¬ d.id.tmod 2=0:=fun h=>h4 ⟨h0,h⟩
  have h7:=hR.idb
  rw [Int.tmod_eq_emod_of_nonneg h7.1] at h6
  omega
theorem nameR_of {d:Dev} (hR:DevR d) (hN:DevN d) (code:Bs):nameR d code=if code=[]∧d.id≠0 then idL else nameOf d code:=by
 by_cases hc:code=[]
 ·subst hc
  have key:∀ (l:List (Bs × Bs)) (n:Bs),(∀ x∈l,x.1≠[])→l.foldl (fun n x=>if x.1=[] then x.2 else n) n=n:=by
   intro l
   induction l with
   | nil=>intro n _; rfl
   | cons x l ih =>
    intro n hl
    simp only [List.foldl_cons]
    rw [if_neg (hl x List.mem_cons_self)]
    exact ih n fun y hy=>hl y (List.mem_cons_of_mem _ hy)
  have hne:∀ x∈d.ins,x.1≠[]:=fun x hx h=>by
   have h1:=hN.ic x hx
   have h2:=hR.lg
   rw [h] at h1
   simp at h1
   omega
  unfold nameR nameOf
  rw [key _ _ hne,key _ _ hne]
 ·unfold nameR nameOf
  rw [if_neg (fun h=>hc h.1),if_neg (fun h=>hc h.1)]
theorem findR_no {R:List (Bs × Int)} {n:Bs} (h:∀ r∈R,r.1≠n):R.find? (fun x=>x.1==n)=none:=by
 rw [List.find?_eq_none]
 intro r hr
 simp only [beq_iff_eq]
 exact h r hr
theorem selR_eq {d:Dev} (hR:DevR d) (hN:DevN d) (code:Bs):selR d code=selP d code:=by
 have hid0:regIs d idL=decide (d.id≠0):=by
  have h1:ownB d idL=false:=by
   unfold ownB
   rw [List.any_eq_false]
   intro r hr
   simp only [beq_iff_eq]
   exact (hN.nb r hr).2
  unfold regIs
  rw [h1]
  have:decide (idL=byL)=false:=by decide
  rw [this]
  simp
 have hreg:∀ n,regIs d n=true→(match d.regs.find? (fun x=>x.1==n) with | some r=>r | none=>(n,if n=idL then (32:Int) else 1))=regOf d n:=by
  intro n hn
  unfold regOf
  by_cases h1:n=byL
  ·rw [if_pos h1,findR_no fun r hr=>by rw [h1]; exact (hN.nb r hr).1]
   subst h1
   rfl
  ·rw [if_neg h1]
   by_cases h2:n=idL∧d.id≠0
   ·rw [if_pos h2,findR_no fun r hr=>by rw [h2.1]; exact (hN.nb r hr).2]
    simp [h2.1]
   ·rw [if_neg h2]
    have ho:ownB d n=true:=by
     unfold regIs at hn
     simp only [Bool.or_eq_true,Bool.and_eq_true,decide_eq_true_eq] at hn
     rcases hn with (hn | hn) | hn
     ·exact absurd hn h1
     ·exact absurd hn h2
     ·exact hn
    rw [ownB_find] at ho
    obtain ⟨r,hr⟩:=Option.isSome_iff_exists.1 ho
    rw [hr]
    rfl
 have hkey:∀ n,nameR d code=n→regIs d n=true→selR d code=regOf d n:=fun n hn hr=>by
  unfold selR
  rw [hn]
  exact hreg n hr
 have hnm:=nameR_of hR hN code
 unfold selP
 by_cases hc:code=[]
 ·rw [if_pos hc,hid0]
  by_cases hz:d.id=0
  ·rw [if_neg (fun h=>h.2 hz)] at hnm
   have e2:decide (d.id≠0)=false:=by simp [hz]
   rw [e2]
   have e3:nameOf d code=byL:=by
    have key:∀ (l:List (Bs × Bs)) (n:Bs),(∀ x∈l,x.1≠[])→l.foldl (fun n x=>if x.1=[] then x.2 else n) n=n:=by
     intro l
     induction l with
     | nil=>intro n _; rfl
     | cons x l ih =>
      intro n hl
      simp only [List.foldl_cons]
      rw [if_neg (hl x List.mem_cons_self)]
      exact ih n fun y hy=>hl y (List.mem_cons_of_mem _ hy)
    unfold nameOf
    rw [hc]
    exact key _ _ fun x hx h=>by
     have h1:=hN.ic x hx
     have h2:=hR.lg
     rw [h] at h1
     simp at h1
     omega
   rw [e3] at hnm
   rw [hkey _ hnm (by unfold regIs; simp)]
   simp [regOf]
  ·rw [if_pos ⟨hc,hz⟩] at hnm
   have e2:decide (d.id≠0)=true:=by simp [hz]
   rw [e2,if_pos rfl]
   exact hkey idL hnm (by rw [hid0]; exact e2)
 ·rw [if_neg hc]
  rw [if_neg (fun h=>hc h.1)] at hnm
  exact hkey _ hnm (nameOf_ok hR code)
structure PortN (p:Port):Prop where
 r:DevR p.d
 n:DevN p.d
 iD:p.iD=mapD p.d.regs
 iV:p.iV=mapV p.d.regs
theorem mapV_eq {R : List (Bs × Int)} {r : Bs × Int} (hr : r ∈ R) (h : ∀ x ∈ R,x.1 = r.1 → x = r) : mapV R (.s r.1) = Lib.repeatL [48] r.2.toNat := by
  have key : ∀ (L : List (Bs × Int)) (v : Bs),(∀ x ∈ L,x.1 = r.1 → x = r) → (r ∈ L ∨ v = Lib.repeatL [48] r.2.toNat) → L.foldl (fun v x => if MK.s r.1 = .s x.1 then Lib.repeatL [48] x.2.toNat else v) v = Lib.repeatL [48] r.2.toNat := by
    intro L
    induction L with
    | nil => intro v _ hv; rcases hv with hv | hv
             · cases hv
             · exact hv
    | cons x L ih =>
      intro v hL hv
      simp only [List.foldl_cons]
      refine ih _ (fun y hy => hL y (List.mem_cons_of_mem _ hy)) ?_
      by_cases hx : MK.s r.1 = .s x.1
      · rw [if_pos hx]
        have : x.1 = r.1 := by injection hx with h; exact h.symm
        exact .inr (by rw [hL x List.mem_cons_self this])
      · rw [if_neg hx]
        rcases hv with hv | hv
        · rcases List.mem_cons.1 hv with rfl | hv
          · exact absurd rfl hx
          · exact .inl hv
        · exact .inr hv
  exact key R [] h (.inl hr)
theorem selP_reg {d:Dev} (hd:DevR d) (code:Bs):selP d code=(byL,1)∨selP d code=(idL,32)∨selP d code∈d.regs:=by
 have key:∀ n,regIs d n=true→regOf d n=(byL,1)∨regOf d n=(idL,32)∨regOf d n∈d.regs:=by
  intro n hn
  unfold regOf
  split
  ·exact .inl rfl
  ·split
   ·exact .inr (.inl rfl)
   ·rename_i h1 h2
    refine .inr (.inr ?_)
    have ho:ownB d n=true:=by
     unfold regIs at hn
     simp only [Bool.or_eq_true,Bool.and_eq_true,decide_eq_true_eq] at hn
     rcases hn with (hn | hn) | hn
     ·exact absurd hn h1
     ·exact absurd hn h2
     ·exact hn
    rw [ownB_find] at ho
    obtain ⟨r,hr⟩:=Option.isSome_iff_exists.1 ho
    rw [hr]
    exact List.mem_of_find?_eq_some hr
 unfold selP
 split
 ·split
  ·rename_i h
   exact key _ h
  ·exact .inl rfl
 ·exact key _ (nameOf_ok hd code)
theorem capt_len {p:Port} (h:PortN p):(((captV p).length:Nat):Int)=(selP p.d p.instr).2∧1≤(selP p.d p.instr).2∧(selP p.d p.instr).2≤1000:=by
 unfold captV
 rcases selP_reg h.r p.instr with e | e | e
 ·rw [e]; simp
 ·rw [e]
  rw [if_neg (by decide),if_pos rfl,idBits_len]
  omega
 ·generalize selP p.d p.instr=r at *
  have h1:=h.n.nb r e
  have h2:=h.r.rs r e
  rw [if_neg h1.1,if_neg h1.2,h.iD,h.iV]
  have hm:mapD p.d.regs (.s r.1)=true:=by
   unfold mapD
   exact List.any_eq_true.2 ⟨r,e,by simp⟩
  rw [hm]
  simp only [cond_true]
  rw [mapV_eq e (fun x hx hn=>h.n.nd r e x hx hn),rep48,List.length_replicate]
  omega
def capD (p:Port):Port:={ p with shift:=captV p }
theorem scan1_dr1 (P:List Port):scan1 ⟨1,P⟩ 4=⟨4,P.map capD⟩:=by
 have hp:pathV 1 4=[49,48,48]:=by decide
 unfold scan1
 show walkV nextN ⟨1,P⟩ (pathV 1 4)=_
 rw [hp]
 unfold walkV
 simp only [List.foldl_cons,List.foldl_nil,tickV]
 rw [show nextN 1 (bitM 49)=2 from rfl,show nextN 2 (bitM 48)=3 from rfl,show nextN 3 (bitM 48)=4 from rfl]
 rw [clock_still (st:=1) rfl,clock_still (st:=2) rfl,clock_still (st:=3) rfl]
 simp only [List.map_map]
 congr 1
theorem scan_out {x:ChV} {P:List Port} {l:Bs} (hx:scan1 x 4=⟨4,P⟩) (h:∀ p∈P,0<p.shift.length):scanO x 4 l=(flatS P++l).take l.length:=by
 have e:scanO x 4 l=(List.range l.length).map (fedO 4 P l):=by
  unfold scanO
  rw [hx]
  exact List.map_congr_left fun k hk=>feedO_fed rfl (.inl rfl) (List.mem_range.1 hk)
 obtain ⟨h1,_⟩:=fed_law (st:=4) (l:=l) rfl h l.length (Nat.le_refl _)
 rw [List.take_length] at h1
 rw [e,← h1,List.take_append_of_le_length (by simp),List.take_of_length_le (by simp)]
def selTo (P:List Port) (k:Nat):Int:=((P.take k).map fun p=>(selP p.d p.instr).2).sum
theorem selTo_succ {P:List Port} {k:Nat} {p:Port} (h:P[k]?=some p):selTo P (k+1)=selTo P k+(selP p.d p.instr).2:=by
 unfold selTo
 rw [List.take_add_one,h,Option.toList_some,List.map_append,List.sum_append]
 simp
theorem selTo_bound {P:List Port} (h:∀ p∈P,PortN p):∀ k,k≤P.length→(k:Int)≤selTo P k∧selTo P k≤1000 * (k:Int)
 | 0,_=>by simp [selTo]
 | k+1,hk=>by
  have h1:=selTo_bound h k (by omega)
  have hp:P[k]?=some P[k]:=List.getElem?_eq_getElem (by omega)
  have h2:=(capt_len (h _ (List.getElem_mem (by omega:k<P.length)))).2
  rw [selTo_succ hp]
  omega
theorem flat_capD:∀ {P:List Port},(∀ p∈P,PortN p)→(((flatS (P.map capD)).length:Nat):Int)=selTo P P.length
 | [],_=>rfl
 | p::P,h=>by
  have h1:=flat_capD (P:=P) fun q hq=>h q (List.mem_cons_of_mem _ hq)
  have h2:=(capt_len (h p List.mem_cons_self)).1
  unfold selTo at *
  simp only [List.map_cons,flatS,List.length_append,List.take_length,List.sum_cons] at *
  simp only [capD] at *
  omega
theorem scan_irN {D:List Dev} (he:devsE D=0) (f:(Nat→Bool) × (Nat→Bool)) {l:Bs} (h0:0<l.length) (P:List Port) (hP:P=portsK D f D.length) :
  (scanV ⟨0,P⟩ 11 l).st=1∧(scanV ⟨0,P⟩ 11 l).P.length=D.length∧∀ k q,(scanV ⟨0,P⟩ 11 l).P[k]?=some q→k<D.length∧q.d=D.getD k dev0∧PortN q:=by
 obtain ⟨hV,_⟩:=scan_ir P l h0
 rw [hV]
 have hpos:∀ p∈P.map capI,0<p.shift.length:=fun p hp=>by
  obtain ⟨q,hq,rfl⟩:=List.mem_map.1 hp
  simp [capI,capIR]
 obtain ⟨_,w3,_⟩:=fed_law (st:=11) (l:=l) rfl hpos l.length (Nat.le_refl _)
 generalize fedP 11 (P.map capI) l l.length=Q at *
 have slen:∀ {P Q:List Port},SamePs P Q→Q.length=P.length:=fun h=>by
  induction h with
  | nil=>rfl
  | cons _ _ ih=>simp only [List.length_cons,ih]
 have sat:∀ {P Q:List Port},SamePs P Q→∀ (k:Nat) (q:Port),Q[k]?=some q→∃ p,P[k]?=some p∧SameP p q:=fun h=>by
  induction h with
  | nil=>intro k q h; simp at h
  | cons hpq _ ih =>
   intro k q h
   cases k with
   | zero =>
    simp only [List.getElem?_cons_zero,Option.some.injEq] at h
    subst h
    exact ⟨_,rfl,hpq⟩
   | succ k =>
    obtain ⟨p,hp,hs'⟩:=ih k q (by simpa using h)
    exact ⟨p,by simpa using hp,hs'⟩
 have hl:P.length=D.length:=by rw [hP,portsK_len]
 refine ⟨rfl,by simp only [List.length_map]; rw [slen w3,List.length_map,hl],fun k q hq=>?_⟩
 simp only [List.getElem?_map] at hq
 cases hr:Q[k]? with
 | none=>rw [hr] at hq; cases hq
 | some p =>
  rw [hr] at hq
  simp only [Option.map_some,Option.some.injEq] at hq
  subst hq
  obtain ⟨p1,hp1,hs⟩:=sat w3 k p hr
  rw [List.getElem?_map,hP] at hp1
  unfold portsK at hp1
  rw [List.getElem?_map] at hp1
  cases hk:(List.range D.length)[k]? with
  | none=>rw [hk] at hp1; cases hp1
  | some j =>
   rw [hk] at hp1
   simp only [Option.map_some,Option.some.injEq] at hp1
   rw [List.getElem?_eq_some_iff] at hk
   obtain ⟨hk1,hk2⟩:=hk
   simp only [List.getElem_range] at hk2
   subst hk2
   subst hp1
   have hlt:k<D.length:=by simpa using hk1
   have hm:D.getD k dev0∈D:=by rw [List.getD_eq_getElem?_getD,List.getElem?_eq_getElem hlt]; exact List.getElem_mem _
   have hd:p.d=D.getD k dev0:=hs.d
   refine ⟨hlt,hd,?_⟩
   refine ⟨?_,?_,?_,?_⟩
   ·show DevR p.d; rw [hd]; exact devR_of he _ hm
   ·show DevN p.d; rw [hd]; exact devN_of he _ hm
   ·show p.iD=mapD p.d.regs; rw [hd]; exact hs.iD
   ·show p.iV=mapV p.d.regs; rw [hd]; exact hs.iV
theorem shifted_law {P:List Port} (h:∀ p∈P,PortN p) {n:Nat} (hn:(n:Int)=selTo P P.length) (b:Bs) :
  (scanO ⟨1,P⟩ 4 (b++List.replicate n 48)).length=b.length+n∧(scanO ⟨1,P⟩ 4 (b++List.replicate n 48)).drop n=b:=by
 have hpos:∀ p∈P.map capD,0<p.shift.length:=fun p hp=>by
  obtain ⟨q,hq,rfl⟩:=List.mem_map.1 hp
  have:=capt_len (h q hq)
  simp only [capD]
  omega
 have hfl:=flat_capD h
 have hlen:(flatS (P.map capD)).length=n:=by omega
 have e:scanO ⟨1,P⟩ 4 (b++List.replicate n 48)=flatS (P.map capD)++b:=by
  rw [scan_out (scan1_dr1 P) hpos,← List.append_assoc,List.take_append_of_le_length (by simp; omega),List.take_of_length_le (by simp; omega)]
 rw [e,← hlen]
 exact ⟨by simp; omega,by simp⟩
end Go.Proofs.YtahjohieahehjaaGreatDoor
namespace Go.Proofs.YtahjohieahehjaaGreatDoor
end Go.Proofs.YtahjohieahehjaaGreatDoor
namespace Go.Proofs.YtahjohieahehjaaGreatDoor
open Go.RowKit
theorem findR_at {n:Bs}:∀ {R:List (Bs × Int)} {k:Nat},k<R.length→(R.getD k reg0).1=n→(∀ j,j<k→(R.getD j reg0).1≠n)→R.find? (fun x=>x.1==n)=some (R.getD k reg0)
 | [],k,hk,_,_=>by simp at hk
 | r::R,0,_,h,_=>by
  have h':r.1=n:=h
  rw [List.find?_cons_of_pos (by simp [h'])]
  rfl
 | r::R,k+1,hk,h,hj=>by
  have h0:r.1≠n:=hj 0 (by omega)
  rw [List.find?_cons_of_neg (by simp [h0])]
  exact findR_at (R:=R) (by simpa using hk) h fun j hjk=>hj (j+1) (by omega)
theorem findR_off {R:List (Bs × Int)} {n:Bs} (h:∀ j,j<R.length→(R.getD j reg0).1≠n):R.find? (fun x=>x.1==n)=none :=
 findR_no fun r hr=>by
  obtain ⟨j,hj,rfl⟩:=List.getElem_of_mem hr
  have:=h j hj
  rwa [List.getD_eq_getElem?_getD,List.getElem?_eq_getElem hj] at this
def nameFrom (d:Dev) (code n:Bs) (k:Nat):Bs:=(d.ins.take k).foldl (fun n x=>if x.1=code then x.2 else n) n
theorem nameFrom_succ (d:Dev) (code n:Bs) {k:Nat} (hk:k<d.ins.length):nameFrom d code n (k+1)=if (d.ins.getD k ins0).1=code then (d.ins.getD k ins0).2 else nameFrom d code n k:=by
 have e:d.ins.getD k ins0=d.ins[k]:=by rw [List.getD_eq_getElem?_getD,List.getElem?_eq_getElem hk]; rfl
 unfold nameFrom
 rw [List.take_add_one,List.getElem?_eq_getElem hk,List.foldl_append,e]
 rfl
set_option maxHeartbeats 4000000 in
theorem selR_c (n1 n2:Bool) (d:Dev) (code:Bs) (nid:Nat) (hR:d.regs.length≤1000) (hI:d.ins.length≤1000) :
  ACall Tryz.prog 49 [dvP n1 n2 d,.str code] [] nid (.agg [.str (selR d code).1,.int .i64 (selR d code).2]) []:=by
 refine acall_sr c49 (by simp [a49]) ?_
 unfold a49 dvP litRg litIn
 refine SR.seqTo ⟨[(2,.ptr nid 0),(4,.ptr (nid+4) 0),(1,.str code)],[(nid,boxL n1 n2 d),(nid+4,boxRg reg0)],nid+100,nid⟩ ?_ ?_
 ·simp -dsimp only [aqA,↓seqK,↓blkK,↓loopK,step,stepBin,eqB,Nat.add_assoc nid,↓reduceIte,simprocAttr,LN_succ]
  refine Cov.go [] [] ?_
  simp [cvT,step,res,boxL,boxRg,reg0,litRg,litIn,-List.getD_eq_getElem?_getD]
 refine SR.seq ?_
 simp -dsimp only [aqA,↓seqK,↓blkK,↓loopK,step,stepBin,eqB,Nat.add_assoc nid,↓reduceIte,simprocAttr,LN_succ]
 obtain ⟨n0,hn0⟩:∃ n0,(if code=[]∧d.id≠0 then idL else byL)=n0:=⟨_,rfl⟩
 refine SR.seqTo ⟨[(5,.str n0),(2,.ptr nid 0),(4,.ptr (nid+4) 0),(1,.str code)],[(nid,boxL n1 n2 d),(nid+4,boxRg reg0)],nid+200,nid⟩ ?_ ?_
 ·unfold boxL boxRg litRg litIn
  have e1:=strEq code []
  by_cases h1:code=[]
  ·rw [decide_eq_true h1] at e1
   by_cases h2:d.id=0
   ·have e2:(d.id != 0)=false:=by simp [h2]
    rw [if_neg (fun h=>h.2 h2)] at hn0
    subst hn0
    simp -dsimp only [aqA,↓seqK,↓blkK,↓loopK,step,stepBin,eqB,Nat.add_assoc nid,↓reduceIte,simprocAttr,LN_succ,e1,e2]
    refine Cov.go [] [] ?_
    simp [cvT,step,res,boxL,boxRg,litRg,litIn,byL,-List.getD_eq_getElem?_getD]
   ·have e2:(d.id != 0)=true:=by simp [h2]
    rw [if_pos ⟨h1,h2⟩] at hn0
    subst hn0
    simp -dsimp only [aqA,↓seqK,↓blkK,↓loopK,step,stepBin,eqB,Nat.add_assoc nid,↓reduceIte,simprocAttr,LN_succ,e1,e2]
    refine Cov.go [] [] ?_
    simp [cvT,step,res,boxL,boxRg,litRg,litIn,idL,-List.getD_eq_getElem?_getD]
  ·rw [decide_eq_false h1] at e1
   rw [if_neg (fun h=>h1 h.1)] at hn0
   subst hn0
   simp -dsimp only [aqA,↓seqK,↓blkK,↓loopK,step,stepBin,eqB,Nat.add_assoc nid,↓reduceIte,simprocAttr,LN_succ,e1]
   refine Cov.go [] [] ?_
   simp [cvT,step,res,boxL,boxRg,litRg,litIn,byL,-List.getD_eq_getElem?_getD]
 have hfin:nameFrom d code n0 d.ins.length=nameR d code:=by unfold nameFrom nameR; rw [List.take_length,hn0]
 refine SR.seqTo ⟨[(5,.str (nameR d code)),(2,.ptr nid 0),(4,.ptr (nid+4) 0)],[(nid,boxL n1 n2 d),(nid+4,boxRg reg0)],nid+2000,nid⟩ ?_ ?_
 ·unfold boxL boxRg litRg litIn
  simp -dsimp only [aqA,↓seqK,↓blkK,↓loopK,step,stepBin,eqB,Nat.add_assoc nid,↓reduceIte,simprocAttr,LN_succ]
  refine LP.mkP (fun k:Nat=>k≤d.ins.length) (fun k:Nat=>⟨[(5,.str (nameFrom d code n0 k)),(18,litIn n2 d.ins),(19,.int .i64 d.ins.length),(20,.int .i64 k),(2,.ptr nid 0),(4,.ptr (nid+4) 0),(1,.str code)],[(nid,boxL n1 n2 d),(nid+4,boxRg reg0)],nid+300,nid⟩) (fun k=>d.ins.length+1 - k) 0 (by omega) (Cov.go [] [] ?_) (fun k hk=>?_)
  ·simp [cvT,step,res,boxL,boxRg,litRg,litIn,nameFrom,-List.getD_eq_getElem?_getD]
  unfold boxL boxRg litRg litIn
  simp -dsimp only [aqA,↓seqK,↓blkK,↓loopK,step,stepBin,eqB,Nat.add_assoc nid,↓reduceIte,simprocAttr,LN_succ]
  refine S2.dec (fun h3=>?_) (fun h3=>?_) <;> simp -dsimp only [aqA,↓seqK,↓blkK,↓loopK,step,stepBin,eqB,Nat.add_assoc nid,↓reduceIte,simprocAttr,LN_succ]
  ·have hkl:k<d.ins.length:=by omega
   have hs:=nameFrom_succ d code n0 hkl
   have e5:=strEq (d.ins.getD k ins0).1 code
   refine ⟨⟨by omega,by omega⟩,?_⟩
   by_cases h:(d.ins.getD k ins0).1=code
   ·rw [if_pos h] at hs
    rw [decide_eq_true h] at e5
    simp -dsimp only [aqA,↓seqK,↓blkK,↓loopK,step,stepBin,eqB,Nat.add_assoc nid,↓reduceIte,simprocAttr,LN_succ,e5]
    refine ⟨by unfold inI64; omega,k+1,⟨by omega,by omega⟩,Cov.go [] [] ?_⟩
    rw [hs]
    simp [cvT,step,res,boxL,boxRg,litRg,litIn,-List.getD_eq_getElem?_getD]
   ·rw [if_neg h] at hs
    rw [decide_eq_false h] at e5
    simp -dsimp only [aqA,↓seqK,↓blkK,↓loopK,step,stepBin,eqB,Nat.add_assoc nid,↓reduceIte,simprocAttr,LN_succ,e5]
    refine ⟨by unfold inI64; omega,k+1,⟨by omega,by omega⟩,Cov.go [] [] ?_⟩
    rw [hs]
    simp [cvT,step,res,boxL,boxRg,litRg,litIn,-List.getD_eq_getElem?_getD]
  ·have hkn:k=d.ins.length:=by omega
   rw [hkn,hfin]
   refine Cov.go [] [] ?_
   simp [cvT,step,res,boxL,boxRg,litRg,litIn,-List.getD_eq_getElem?_getD]
 obtain ⟨sv,hsv⟩:∃ sv,selR d code=sv:=⟨_,rfl⟩
 unfold selR at hsv
 rw [show selR d code=sv from hsv]
 generalize nameR d code=nm at *
 refine SR.seqW (ι:={_x:Unit // d.regs.find? (fun x=>x.1==nm)=none}) (fun _=>⟨[(5,.str nm),(4,.ptr (nid+4) 0)],[(nid+4,boxRg reg0)],nid+8000,nid⟩) ?_ (fun ⟨_,hno⟩=>?_)
 ·refine SR.seq ?_
  unfold boxL boxRg litRg litIn
  simp -dsimp only [aqA,↓seqK,↓blkK,↓loopK,step,stepBin,eqB,Nat.add_assoc nid,↓reduceIte,simprocAttr,LN_succ]
  refine SR.block ?_
  refine SR.loopP (fun k:Nat=>k≤d.regs.length∧∀ j,j<k→(d.regs.getD j reg0).1≠nm) (fun k:Nat=>⟨[(5,.str nm),(32,litRg n1 d.regs),(33,.int .i64 d.regs.length),(34,.int .i64 k),(4,.ptr (nid+4) 0)],[(nid+4,boxRg reg0)],nid+3000,nid⟩) (fun k=>d.regs.length+1 - k) 0 ⟨by omega,fun j hj=>by omega⟩ ?_ (fun k ⟨hk,hb⟩=>?_)
  ·refine Cov.go [] [] ?_
   simp [cvT,step,res,boxL,boxRg,litRg,litIn,-List.getD_eq_getElem?_getD]
  refine SR.run (t:=.mk) ?_
  unfold boxRg litRg
  simp -dsimp only [aqA,↓seqK,↓blkK,↓loopK,step,stepBin,eqB,Nat.add_assoc nid,↓reduceIte,simprocAttr,LN_succ]
  refine S2.dec (fun h3=>?_) (fun h3=>?_) <;> simp -dsimp only [aqA,↓seqK,↓blkK,↓loopK,step,stepBin,eqB,Nat.add_assoc nid,↓reduceIte,simprocAttr,LN_succ]
  ·have hkl:k<d.regs.length:=by omega
   have e5:=strEq (d.regs.getD k reg0).1 nm
   refine ⟨⟨by omega,by omega⟩,?_⟩
   by_cases h:(d.regs.getD k reg0).1=nm
   ·rw [decide_eq_true h] at e5
    rw [findR_at hkl h hb] at hsv
    simp only at hsv
    subst hsv
    simp -dsimp only [aqA,↓seqK,↓blkK,↓loopK,step,stepBin,eqB,Nat.add_assoc nid,↓reduceIte,simprocAttr,LN_succ,e5]
    refine RetOK.go [] [] (.inl rfl) ?_
    simp [a49,cvT,step,res,-List.getD_eq_getElem?_getD]
   ·rw [decide_eq_false h] at e5
    simp -dsimp only [aqA,↓seqK,↓blkK,↓loopK,step,stepBin,eqB,Nat.add_assoc nid,↓reduceIte,simprocAttr,LN_succ,e5]
    refine ⟨by unfold inI64; omega,k+1,⟨⟨by omega,fun j hj=>?_⟩,by omega⟩,Cov.go [] [] ?_⟩
    ·rcases (by omega:j<k∨j=k) with hj | rfl
     ·exact hb j hj
     ·exact h
    simp [cvT,step,res,boxRg,litRg,-List.getD_eq_getElem?_getD]
  ·have hkn:k=d.regs.length:=by omega
   refine ⟨⟨(),findR_off fun j hj=>hb j (by omega)⟩,Cov.go [] [] ?_⟩
   simp [cvT,step,res,boxRg,litRg,-List.getD_eq_getElem?_getD]
 rw [hno] at hsv
 simp only at hsv
 subst hsv
 refine SR.run (t:=.mk) ?_
 unfold boxRg
 have e5:=strEq nm idL
 by_cases h:nm=idL
 ·rw [decide_eq_true h] at e5
  unfold idL at e5
  rw [if_pos h]
  simp -dsimp only [aqA,↓seqK,↓blkK,↓loopK,step,stepBin,eqB,Nat.add_assoc nid,↓reduceIte,simprocAttr,LN_succ,e5]
  refine RetOK.go [] [] (.inl rfl) ?_
  simp [a49,cvT,step,res,-List.getD_eq_getElem?_getD]
 ·rw [decide_eq_false h] at e5
  unfold idL at e5
  rw [if_neg h]
  simp -dsimp only [aqA,↓seqK,↓blkK,↓loopK,step,stepBin,eqB,Nat.add_assoc nid,↓reduceIte,simprocAttr,LN_succ,e5]
  refine RetOK.go [] [] (.inl rfl) ?_
  simp [a49,cvT,step,res,-List.getD_eq_getElem?_getD]
end Go.Proofs.YtahjohieahehjaaGreatDoor
namespace Go.Proofs.YtahjohieahehjaaGreatDoor
theorem names_ne {D:List Dev} (he:devsE D=0) {j k:Nat} (hj:j<k) (hk:k<D.length):¬ (D.getD j dev0).name=(D.getD k dev0).name:=by
 unfold devsE at he
 split at he
 ·cases he
 split at he
 ·cases he
 have hf:=fb_all he k (List.mem_range.2 hk)
 unfold devE at hf
 split at hf
 ·cases hf
 split at hf
 ·cases hf
 rename_i h1 h2
 intro hn
 apply h2
 refine List.any_eq_true.2 ⟨D.getD j dev0,?_,by simp only [beq_iff_eq]; exact hn⟩
 rw [List.getD_eq_getElem?_getD,List.getElem?_eq_getElem (by omega)]
 exact List.mem_take_iff_getElem.2 ⟨j,by omega,rfl⟩
end Go.Proofs.YtahjohieahehjaaGreatDoor
namespace Go.Proofs.YtahjohieahehjaaGreatDoor
open Go.RowKit
set_option maxHeartbeats 4000000 in
theorem state_c (y:ChV) (c nid:Nat) (hc:c+11≤nid) (hP:y.P.length≤3) :
  ACall Tryz.prog 31 [.ptr c 0] (chH c y) nid (.int .i64 (y.st:Nat)) []:=by
 have hs:Scoped nid (chH c y):=chainH_scoped c nid y.st y.P hP hc
 have hld:getH (chH c y) c=chB y.st (c+1) y.P.length:=by simp only [chH,chainH,getH,BEq.rfl,cond_true]
 generalize chH c y=Hs at *
 unfold chB at hld
 refine acall_run c31 (by simp [a31]) ?_
 simp -dsimp only [a31,aqA,↓seqK,↓blkK,↓loopK,step,stepBin,eqB,Nat.add_assoc nid,↓reduceIte,simprocAttr,LN_succ,hld]
 refine RetOK.goF Hs [] [] [] [] [] (.inl rfl) hs (by simp [kOK]) rfl ?_
 simp [a31,cvT,step,res]
set_option maxHeartbeats 8000000 in
theorem selLong_c (n0:Bool) (n1 n2:Nat→Bool) (D:List Dev) (y:ChV) (c nid:Nat) (hc:c+11≤nid) (hn:y.P.length=D.length) (h3:D.length≤3) (hP:∀ k q,y.P[k]?=some q→k<D.length∧q.d=D.getD k dev0∧PortN q)
  (hne:∀ j k,j<k→k<D.length→¬ (D.getD j dev0).name=(D.getD k dev0).name) :
  ACall Tryz.prog 39 [.lit n0 D.length (devP n1 n2 D),.ptr c 0] (chH c y) nid (.int .i64 (selTo y.P D.length)) []:=by
 have hall:∀ p∈y.P,PortN p:=fun p hp=>by
  obtain ⟨i,hi,rfl⟩:=List.getElem_of_mem hp
  exact (hP i _ (List.getElem?_eq_getElem hi)).2.2
 have hb:=selTo_bound hall
 have hcc:∀ k,(nid+k==c)=false:=fun k=>by simp; omega
 have hs:Scoped nid (chH c y):=chainH_scoped c nid y.st y.P (by omega) hc
 have hins:∀ m,nid≤m→∀ k,k<D.length→∃ p,y.P[k]?=some p∧p.d=D.getD k dev0∧PortN p∧ACall Tryz.prog 36 [.ptr c 0,.str (D.getD k dev0).name] (chH c y) m (.tup [.str p.instr,.int .i64 0]) []:=fun m hm k hk=>by
  have hp:y.P[k]?=some y.P[k]:=List.getElem?_eq_getElem (by omega)
  obtain ⟨_,e1,e2⟩:=hP k _ hp
  have h:=instr_c y.st y.P k c m _ (by omega) (by omega) hp (fun j hj q hq=>by
   obtain ⟨_,e3,_⟩:=hP j q hq
   rw [e3,e1]
   exact hne j k hj hk)
  rw [e1] at h
  exact ⟨_,hp,e1,e2,h⟩
 generalize hH:chH c y=Hs at *
 generalize y.P=P at *
 refine acall_sr c39 (by simp [a39]) ?_
 unfold a39
 refine SR.seq ?_
 simp -dsimp only [aqA,↓seqK,↓blkK,↓loopK,step,stepBin,eqB,Nat.add_assoc nid,↓reduceIte,simprocAttr,LN_succ]
 refine SR.seq ?_
 simp -dsimp only [aqA,↓seqK,↓blkK,↓loopK,step,stepBin,eqB,Nat.add_assoc nid,↓reduceIte,simprocAttr,LN_succ]
 refine SR.seqW (ι:=Unit) (fun _=>⟨[(5,.int .i64 (selTo P D.length))],[]++Hs,nid+9000,nid⟩) ?_ (fun _=>?_)
 ·refine SR.seq ?_
  simp -dsimp only [aqA,↓seqK,↓blkK,↓loopK,step,stepBin,eqB,Nat.add_assoc nid,↓reduceIte,simprocAttr,LN_succ]
  refine SR.block ?_
  refine SR.loopP (fun k:Nat=>k≤D.length) (fun k=>⟨[(12,.int .i64 k),(11,.int .i64 D.length),(10,.lit n0 D.length (devP n1 n2 D)),(5,.int .i64 (selTo P k)),(1,.ptr c 0)],[]++Hs,nid+1000,nid⟩) (fun k=>D.length+1 - k) 0 (by omega) ?_ (fun k hk=>?_)
  ·refine Cov.goG nid Hs [] [] [] [] (by omega) hs (by simp [kOK]) (by simp) ?_
   simp [cvT,step,res,selTo,ColsEq.refl]
   omega
  refine SR.seq ?_
  simp -dsimp only [aqA,↓seqK,↓blkK,↓loopK,step,stepBin,eqB,Nat.add_assoc nid,↓reduceIte,simprocAttr,LN_succ]
  refine SR.seq ?_
  simp -dsimp only [aqA,↓seqK,↓blkK,↓loopK,step,stepBin,eqB,Nat.add_assoc nid,↓reduceIte,simprocAttr,LN_succ]
  refine S2.dec (fun h3=>?_) (fun h3=>?_) <;> simp -dsimp only [aqA,↓seqK,↓blkK,↓loopK,step,stepBin,eqB,Nat.add_assoc nid,↓reduceIte,simprocAttr,LN_succ]
  ·have hkl:k<D.length:=by omega
   obtain ⟨p,hp1,hp2,hp3,_⟩:=hins nid (Nat.le_refl _) k hkl
   have hin:∀ m,nid≤m→ACall Tryz.prog 36 [.ptr c 0,.str (D.getD k dev0).name] Hs m (.tup [.str p.instr,.int .i64 0]) []:=fun m hm=>by
    obtain ⟨p',q1,_,_,q4⟩:=hins m hm k hkl
    rw [hp1] at q1
    injection q1 with q1
    subst q1
    exact q4
   have hR:=hp3.r
   have hN:=hp3.n
   rw [hp2] at hR hN
   have hsucc:=selTo_succ hp1
   rw [hp2,← selR_eq hR hN] at hsucc
   have hsel:=fun m=>selR_c (n1 k) (n2 k) (D.getD k dev0) p.instr m (by have:=hR.rl; omega) (by have:=hR.il; omega)
   have hbk:=hb k (by omega)
   have hbk1:=hb (k+1) (by omega)
   unfold dvP litRg litIn at hsel
   clear hins
   refine SR.seqW (ι:=Unit) (fun _=>⟨[(12,.int .i64 k),(11,.int .i64 D.length),(10,.lit n0 D.length (devP n1 n2 D)),(5,.int .i64 (selTo P (k+1))),(1,.ptr c 0)],[]++Hs,nid+4000,nid⟩) ?_ (fun _=>?_)
   ·refine SR.block ?_
    refine SR.seqTo ⟨[(7,.ptr (nid+1100) 0),(12,.int .i64 k),(11,.int .i64 D.length),(10,.lit n0 D.length (devP n1 n2 D)),(5,.int .i64 (selTo P k)),(1,.ptr c 0)],[(nid+1100,boxL (n1 k) (n2 k) (D.getD k dev0))]++Hs,nid+1200,nid⟩ ?_ ?_
    ·unfold devP
     simp -dsimp only [aqA,↓seqK,↓blkK,↓loopK,step,stepBin,eqB,Nat.add_assoc nid,↓reduceIte,simprocAttr,LN_succ]
     refine ⟨⟨by omega,by omega⟩,?_⟩
     refine Cov.goG nid Hs [_,_] [_] [(nid+1100,nid+1012)] [] (by omega) hs (by simp [kOK]) (by simp) ?_
     simp [cvT,step,res,hcc,boxL,litRg,litIn,ColsEq.refl,-List.getD_eq_getElem?_getD]
     omega
    refine SR.seqTo ⟨[(8,.str p.instr),(9,.int .i64 0),(7,.ptr (nid+1100) 0),(12,.int .i64 k),(11,.int .i64 D.length),(10,.lit n0 D.length (devP n1 n2 D)),(5,.int .i64 (selTo P k)),(1,.ptr c 0)],[(nid+1100,boxL (n1 k) (n2 k) (D.getD k dev0))]++Hs,nid+1300,nid⟩ ?_ ?_
    ·unfold boxL litRg litIn
     simp -dsimp only [aqA,↓seqK,↓blkK,↓loopK,step,stepBin,eqB,Nat.add_assoc nid,↓reduceIte,simprocAttr,LN_succ]
     refine CallO.on (hin _ (by omega)) (subH_frame (X:=[(nid+1100,_)]) hs (by simp [kOK])) ?_
     simp -dsimp only [aqA,↓seqK,↓blkK,↓loopK,step,stepBin,eqB,Nat.add_assoc nid,↓reduceIte,simprocAttr,LN_succ]
     refine Cov.goG nid Hs [(nid+1100,_)] [(nid+1100,_)] [] [] (by omega) hs (by simp [kOK]) (by simp) ?_
     simp [cvT,step,res,boxL,litRg,litIn,ColsEq.refl,-List.getD_eq_getElem?_getD]
     omega
    refine SR.run (t:=.mk) ?_
    unfold boxL litRg litIn
    simp -dsimp only [aqA,↓seqK,↓blkK,↓loopK,step,stepBin,eqB,Nat.add_assoc nid,↓reduceIte,simprocAttr,LN_succ]
    refine CallO.pure (hsel _) ?_
    simp -dsimp only [aqA,↓seqK,↓blkK,↓loopK,step,stepBin,eqB,Nat.add_assoc nid,↓reduceIte,simprocAttr,LN_succ]
    rw [← hsucc]
    refine ⟨by unfold inI64; omega,(),?_⟩
    refine Cov.goG nid Hs [(nid+1100,_)] [] [] [] (by omega) hs (by simp [kOK]) (by simp) ?_
    simp [cvT,step,res,boxL,litRg,litIn,ColsEq.refl,-List.getD_eq_getElem?_getD]
    omega
   ·refine SR.run (t:=.mk) ?_
    simp -dsimp only [aqA,↓seqK,↓blkK,↓loopK,step,stepBin,eqB,Nat.add_assoc nid,↓reduceIte,simprocAttr,LN_succ]
    refine ⟨by unfold inI64; omega,k+1,⟨by omega,by omega⟩,?_⟩
    refine Cov.goG nid Hs [] [] [] [] (by omega) hs (by simp [kOK]) (by simp) ?_
    simp [cvT,step,res,ColsEq.refl]
    omega
  ·have hkn:k=D.length:=by omega
   subst hkn
   refine ⟨(),?_⟩
   refine Cov.goG nid Hs [] [] [] [] (by omega) hs (by simp [kOK]) (by simp) ?_
   simp [cvT,step,res,ColsEq.refl]
 refine SR.run (t:=.mk) ?_
 simp -dsimp only [aqA,↓seqK,↓blkK,↓loopK,step,stepBin,eqB,Nat.add_assoc nid,↓reduceIte,simprocAttr,LN_succ]
 refine RetOK.goF Hs [] [] [] [] [] (.inl rfl) hs (by simp [kOK]) rfl ?_
 simp [a39,cvT,step,res]
end Go.Proofs.YtahjohieahehjaaGreatDoor
namespace Go.Proofs.YtahjohieahehjaaGreatDoor
open Go.RowKit
theorem subH_swapR {s:Nat} {A:Option ABlk} {Hs R:Heap} (h:s ∉ keys Hs):subH ((s,A)::Hs) (Hs++(s,A)::R):=fun id x hx=>by
 simp only [getH] at hx
 rw [getH_appC]
 cases e:(s==id)
 ·rw [e] at hx
  simp only [cond_false] at hx
  rw [getH_key hx]
  exact hx
 ·rw [e] at hx
  simp only [cond_true] at hx
  have e':=eq_of_beq e
  subst e'
  have:(keys Hs).contains s=false:=by simpa using h
  rw [this]
  simp only [cond_false,getH,e,cond_true]
  exact hx
def dlTo (D:List Dev) (k:Nat):Int:=((D.take k).map fun d=>d.long).sum
theorem dlTo_succ (D:List Dev) {k:Nat} (hk:k<D.length):dlTo D (k+1)=dlTo D k+(D.getD k dev0).long:=by
 unfold dlTo
 rw [List.take_add_one,List.getElem?_eq_getElem hk,Option.toList_some,List.map_append,List.sum_append,List.getD_eq_getElem?_getD,List.getElem?_eq_getElem hk]
 simp
theorem dlTo_bound {D:List Dev} (h:∀ d∈D,DevR d):∀ k,k≤D.length→2 * (k:Int)≤dlTo D k∧dlTo D k≤32 * (k:Int)
 | 0,_=>by simp [dlTo]
 | k+1,hk=>by
  have h1:=dlTo_bound h k (by omega)
  have hm:D.getD k dev0∈D:=by rw [List.getD_eq_getElem?_getD,List.getElem?_eq_getElem (by omega)]; exact List.getElem_mem _
  have h2:=(h _ hm).lg
  rw [dlTo_succ D (by omega)]
  omega
theorem bits_of {l:Bs} (h:l.all oneBit=true) (hl:l.length≤20000):bitsFaultV l=0:=by
 have h2:bitsOk l=true:=h
 unfold bitsFaultV
 rw [if_neg (by omega),if_pos h2]
set_option maxHeartbeats 16000000 in
theorem shifted_c (nl:Bool) (A:List Int) (nid:Nat) (hA:A.length≤17592186044416):ACall Tryz.prog 6 [litI nl A] [] nid (.bool true) []:=by
 refine acall_sr c6 (by simp [a6]) ?_
 unfold a6 litI
 refine SR.seq ?_
 simp -dsimp only [aqA,↓seqK,↓blkK,↓loopK,step,stepBin,eqB,Nat.add_assoc nid,↓reduceIte,simprocAttr,LN_succ]
 refine SR.seqTo ⟨[(3,.ptr (nid+12) 0)],[(nid+12,strmC nl A 0)],nid+50,nid⟩ ?_ ?_
 ·simp -dsimp only [aqA,↓seqK,↓blkK,↓loopK,step,stepBin,eqB,Nat.add_assoc nid,↓reduceIte,simprocAttr,LN_succ]
  refine Cov.go [] [] ?_
  simp [cvT,step,res,strmC,-List.getD_eq_getElem?_getD]
  trace_state
 refine SR.seqEx (ι:={x:DvX // (DevB 3 x.D∧devsE x.D=0)∧x.q≤0+360}) (fun x=>⟨[(4,.lit x.1.n0 x.1.D.length (devP x.1.n1 x.1.n2 x.1.D)),(3,.ptr (nid+12) 0)],[(nid+12,strmC nl A x.1.q)],nid+200,nid⟩) ?_ (fun ⟨x,⟨hB,he⟩,hq⟩=>?_)
 ·simp -dsimp only [aqA,↓seqK,↓blkK,↓loopK,step,stepBin,eqB,Nat.add_assoc nid,↓reduceIte,simprocAttr,LN_succ,strmC_low]
  refine CallO.any (rightDevices_I (nid+12) _ nl A 0 3 (by omega) (by omega) hA (by omega) (by omega)) (subH_get (by simp only [aqA,↓seqK,↓blkK,↓loopK,step,stepBin,eqB,Nat.add_assoc nid,↓reduceIte,simprocAttr,LN_succ])) (fun x hx=>?_)
  simp -dsimp only [aqA,↓seqK,↓blkK,↓loopK,step,stepBin,eqB,Nat.add_assoc nid,↓reduceIte,simprocAttr,LN_succ,strmC_low]
  refine ⟨⟨x,hx⟩,Cov.go [] [] ?_⟩
  simp [cvT,step,res,strmC,ColsEq.refl]
 simp only at hq ⊢
 have hlen:0<x.D.length:=by
  rcases Nat.eq_zero_or_pos x.D.length with h | h
  ·unfold devsE at he; rw [if_pos h] at he; cases he
  ·exact h
 have hl3:=hB.len
 have hR:=devR_of he
 have hS:∀ d∈x.D,DevS d∧∀ r∈d.regs,0≤r.2∧r.2≤1000:=fun d hd=>⟨(hB.ok d hd).s,fun r hr=>by have:=(hR d hd).rs r hr; omega⟩
 refine SR.seqMvCallW (k:=11) (Hs:=[]) (by omega) (fun id b h=>by cases h) (new_I x.n0 x.n1 x.n2 x.D (nid+204) hlen hl3 hS he) (fun f _=>?_)
 have hok:=portsK_ok he f
 have hch:chainH (nid+204) 0 (portsK x.D f x.D.length)=chH (nid+204) ⟨0,portsK x.D f x.D.length⟩:=rfl
 rw [hch]
 generalize hy:(⟨0,portsK x.D f x.D.length⟩:ChV)=y at *
 have hsc:∀ (z:ChV),ChOk x.D.length z→∀ m,nid+215≤m→Scoped m (chH (nid+204) z):=fun z hz m hm=>chainH_scoped (nid+204) m z.st z.P (by rw [hz.len]; exact hl3) hm
 have hoff:=chH_off (c:=nid+204) (s:=nid+12) (x:=y) (by omega)
 have hsy:=Scoped.cons (b:=nid+300) (i:=nid+12) (c:=strmC nl A x.q) (by omega) rfl (hsc y hok (nid+300) (by omega))
 have hsw:=subH_swap (A:=strmC nl A x.q) hoff
 generalize hH:chH (nid+204) y=Hs at *
 simp -dsimp only [aqA,↓seqK,↓blkK,↓loopK,step,stepBin,eqB,Nat.add_assoc nid,↓reduceIte,simprocAttr,LN_succ,strmC_low]
 refine SR.cov (t':=.mk) (st':=⟨[(5,.ptr (nid+204) 0),(6,.int .i64 0),(4,.lit x.n0 x.D.length (devP x.n1 x.n2 x.D)),(3,.ptr (nid+12) 0)],(nid+12,strmC nl A x.q)::Hs,nid+400,nid⟩) ?_ ?_
 ·refine Cov.wholeG (nid+300) (by omega) hsy hsw (by omega) ?_
  simp [cvT,step,res,ColsEq.refl]
 clear hsw hsy
 have hsH:=hsc y hok
 rw [hH] at hsH
 have hs:=hsH (nid+300) (by omega)
 refine SR.seqTo ⟨[(5,.ptr (nid+204) 0),(4,.lit x.n0 x.D.length (devP x.n1 x.n2 x.D)),(3,.ptr (nid+12) 0)],[(nid+12,strmC nl A x.q)]++Hs,nid+400,nid⟩ ?_ ?_
 ·simp -dsimp only [aqA,↓seqK,↓blkK,↓loopK,step,stepBin,eqB,Nat.add_assoc nid,↓reduceIte,simprocAttr,LN_succ,strmC_low]
  first | refine Cov.goG (nid+300) Hs [_] [_] [] [] (by omega) hs (by simp [kOK,hoff]) (by simp) ?_ | refine Cov.goG (nid+300) Hs [_,_] [_] [] [] (by omega) hs (by simp [kOK,hoff]) (by simp) ?_ | refine Cov.goG (nid+300) Hs [_,_,_] [_] [] [] (by omega) hs (by simp [kOK,hoff]) (by simp) ?_ | refine Cov.goG (nid+300) Hs [_,_,_,_] [_] [] [] (by omega) hs (by simp [kOK,hoff]) (by simp) ?_ | refine Cov.goG (nid+300) Hs [_,_,_,_,_] [_] [] [] (by omega) hs (by simp [kOK,hoff]) (by simp) ?_ | refine Cov.goG (nid+300) Hs [_,_,_,_,_,_] [_] [] [] (by omega) hs (by simp [kOK,hoff]) (by simp) ?_ | refine Cov.goG (nid+300) Hs [_,_,_,_,_,_,_] [_] [] [] (by omega) hs (by simp [kOK,hoff]) (by simp) ?_ | refine Cov.goG (nid+300) Hs [_,_,_,_,_,_,_,_] [_] [] [] (by omega) hs (by simp [kOK,hoff]) (by simp) ?_ | refine Cov.goG (nid+300) Hs [_,_,_,_,_,_,_,_,_] [_] [] [] (by omega) hs (by simp [kOK,hoff]) (by simp) ?_ | refine Cov.goG (nid+300) Hs [_,_,_,_,_,_,_,_,_,_] [_] [] [] (by omega) hs (by simp [kOK,hoff]) (by simp) ?_ | refine Cov.goG (nid+300) Hs [_,_,_,_,_,_,_,_,_,_,_] [_] [] [] (by omega) hs (by simp [kOK,hoff]) (by simp) ?_ | refine Cov.goG (nid+300) Hs [_,_,_,_,_,_,_,_,_,_,_,_] [_] [] [] (by omega) hs (by simp [kOK,hoff]) (by simp) ?_ | refine Cov.goG (nid+300) Hs [_,_,_,_,_,_,_,_,_,_,_,_,_] [_] [] [] (by omega) hs (by simp [kOK,hoff]) (by simp) ?_ | refine Cov.goG (nid+300) Hs [_,_,_,_,_,_,_,_,_,_,_,_,_,_] [_] [] [] (by omega) hs (by simp [kOK,hoff]) (by simp) ?_ | refine Cov.goG (nid+300) Hs [_,_,_,_,_,_,_,_,_,_,_,_,_,_,_] [_] [] [] (by omega) hs (by simp [kOK,hoff]) (by simp) ?_ | refine Cov.goG (nid+300) Hs [_,_,_,_,_,_,_,_,_,_,_,_,_,_,_,_] [_] [] [] (by omega) hs (by simp [kOK,hoff]) (by simp) ?_ | refine Cov.goG (nid+300) Hs [_,_,_,_,_,_,_,_,_,_,_,_,_,_,_,_,_] [_] [] [] (by omega) hs (by simp [kOK,hoff]) (by simp) ?_ | refine Cov.goG (nid+300) Hs [_,_,_,_,_,_,_,_,_,_,_,_,_,_,_,_,_,_] [_] [] [] (by omega) hs (by simp [kOK,hoff]) (by simp) ?_ | refine Cov.goG (nid+300) Hs [_,_,_,_,_,_,_,_,_,_,_,_,_,_,_,_,_,_,_] [_] [] [] (by omega) hs (by simp [kOK,hoff]) (by simp) ?_ | refine Cov.goG (nid+300) Hs [_,_,_,_,_,_,_,_,_,_,_,_,_,_,_,_,_,_,_,_] [_] [] [] (by omega) hs (by simp [kOK,hoff]) (by simp) ?_ | refine Cov.goG (nid+300) Hs [_,_,_,_,_,_,_,_,_,_,_,_,_,_,_,_,_,_,_,_,_] [_] [] [] (by omega) hs (by simp [kOK,hoff]) (by simp) ?_ | refine Cov.goG (nid+300) Hs [_,_,_,_,_,_,_,_,_,_,_,_,_,_,_,_,_,_,_,_,_,_] [_] [] [] (by omega) hs (by simp [kOK,hoff]) (by simp) ?_ | refine Cov.goG (nid+300) Hs [_,_,_,_,_,_,_,_,_,_,_,_,_,_,_,_,_,_,_,_,_,_,_] [_] [] [] (by omega) hs (by simp [kOK,hoff]) (by simp) ?_
  simp [cvT,step,res,strmC,ColsEq.refl]
 have hdb:=dlTo_bound hR
 refine SR.seq ?_
 simp -dsimp only [aqA,↓seqK,↓blkK,↓loopK,step,stepBin,eqB,Nat.add_assoc nid,↓reduceIte,simprocAttr,LN_succ,strmC_low]
 refine SR.seqW (ι:=Unit) (fun _=>⟨[(7,.int .i64 (dlTo x.D x.D.length)),(5,.ptr (nid+204) 0),(4,.lit x.n0 x.D.length (devP x.n1 x.n2 x.D)),(3,.ptr (nid+12) 0)],[(nid+12,strmC nl A x.q)]++Hs,nid+3000,nid⟩) ?_ (fun _=>?_)
 ·refine SR.seq ?_
  simp -dsimp only [aqA,↓seqK,↓blkK,↓loopK,step,stepBin,eqB,Nat.add_assoc nid,↓reduceIte,simprocAttr,LN_succ,strmC_low]
  refine SR.block ?_
  refine SR.loopP (fun k:Nat=>k≤x.D.length) (fun k=>⟨[(33,.int .i64 k),(32,.int .i64 x.D.length),(31,.lit x.n0 x.D.length (devP x.n1 x.n2 x.D)),(7,.int .i64 (dlTo x.D k)),(5,.ptr (nid+204) 0),(4,.lit x.n0 x.D.length (devP x.n1 x.n2 x.D)),(3,.ptr (nid+12) 0)],[(nid+12,strmC nl A x.q)]++Hs,nid+1000,nid⟩) (fun k=>x.D.length+1 - k) 0 (by omega) ?_ (fun k hk=>?_)
  ·first | refine Cov.goG (nid+300) Hs [_] [_] [] [] (by omega) hs (by simp [kOK,hoff]) (by simp) ?_ | refine Cov.goG (nid+300) Hs [_,_] [_] [] [] (by omega) hs (by simp [kOK,hoff]) (by simp) ?_ | refine Cov.goG (nid+300) Hs [_,_,_] [_] [] [] (by omega) hs (by simp [kOK,hoff]) (by simp) ?_ | refine Cov.goG (nid+300) Hs [_,_,_,_] [_] [] [] (by omega) hs (by simp [kOK,hoff]) (by simp) ?_ | refine Cov.goG (nid+300) Hs [_,_,_,_,_] [_] [] [] (by omega) hs (by simp [kOK,hoff]) (by simp) ?_ | refine Cov.goG (nid+300) Hs [_,_,_,_,_,_] [_] [] [] (by omega) hs (by simp [kOK,hoff]) (by simp) ?_ | refine Cov.goG (nid+300) Hs [_,_,_,_,_,_,_] [_] [] [] (by omega) hs (by simp [kOK,hoff]) (by simp) ?_ | refine Cov.goG (nid+300) Hs [_,_,_,_,_,_,_,_] [_] [] [] (by omega) hs (by simp [kOK,hoff]) (by simp) ?_ | refine Cov.goG (nid+300) Hs [_,_,_,_,_,_,_,_,_] [_] [] [] (by omega) hs (by simp [kOK,hoff]) (by simp) ?_ | refine Cov.goG (nid+300) Hs [_,_,_,_,_,_,_,_,_,_] [_] [] [] (by omega) hs (by simp [kOK,hoff]) (by simp) ?_ | refine Cov.goG (nid+300) Hs [_,_,_,_,_,_,_,_,_,_,_] [_] [] [] (by omega) hs (by simp [kOK,hoff]) (by simp) ?_ | refine Cov.goG (nid+300) Hs [_,_,_,_,_,_,_,_,_,_,_,_] [_] [] [] (by omega) hs (by simp [kOK,hoff]) (by simp) ?_ | refine Cov.goG (nid+300) Hs [_,_,_,_,_,_,_,_,_,_,_,_,_] [_] [] [] (by omega) hs (by simp [kOK,hoff]) (by simp) ?_ | refine Cov.goG (nid+300) Hs [_,_,_,_,_,_,_,_,_,_,_,_,_,_] [_] [] [] (by omega) hs (by simp [kOK,hoff]) (by simp) ?_ | refine Cov.goG (nid+300) Hs [_,_,_,_,_,_,_,_,_,_,_,_,_,_,_] [_] [] [] (by omega) hs (by simp [kOK,hoff]) (by simp) ?_ | refine Cov.goG (nid+300) Hs [_,_,_,_,_,_,_,_,_,_,_,_,_,_,_,_] [_] [] [] (by omega) hs (by simp [kOK,hoff]) (by simp) ?_ | refine Cov.goG (nid+300) Hs [_,_,_,_,_,_,_,_,_,_,_,_,_,_,_,_,_] [_] [] [] (by omega) hs (by simp [kOK,hoff]) (by simp) ?_ | refine Cov.goG (nid+300) Hs [_,_,_,_,_,_,_,_,_,_,_,_,_,_,_,_,_,_] [_] [] [] (by omega) hs (by simp [kOK,hoff]) (by simp) ?_ | refine Cov.goG (nid+300) Hs [_,_,_,_,_,_,_,_,_,_,_,_,_,_,_,_,_,_,_] [_] [] [] (by omega) hs (by simp [kOK,hoff]) (by simp) ?_ | refine Cov.goG (nid+300) Hs [_,_,_,_,_,_,_,_,_,_,_,_,_,_,_,_,_,_,_,_] [_] [] [] (by omega) hs (by simp [kOK,hoff]) (by simp) ?_ | refine Cov.goG (nid+300) Hs [_,_,_,_,_,_,_,_,_,_,_,_,_,_,_,_,_,_,_,_,_] [_] [] [] (by omega) hs (by simp [kOK,hoff]) (by simp) ?_ | refine Cov.goG (nid+300) Hs [_,_,_,_,_,_,_,_,_,_,_,_,_,_,_,_,_,_,_,_,_,_] [_] [] [] (by omega) hs (by simp [kOK,hoff]) (by simp) ?_ | refine Cov.goG (nid+300) Hs [_,_,_,_,_,_,_,_,_,_,_,_,_,_,_,_,_,_,_,_,_,_,_] [_] [] [] (by omega) hs (by simp [kOK,hoff]) (by simp) ?_
   simp [cvT,step,res,strmC,dlTo,ColsEq.refl]
  refine SR.run (t:=.mk) ?_
  unfold devP
  simp -dsimp only [aqA,↓seqK,↓blkK,↓loopK,step,stepBin,eqB,Nat.add_assoc nid,↓reduceIte,simprocAttr,LN_succ,strmC_low]
  refine S2.dec (fun h3=>?_) (fun h3=>?_) <;> simp -dsimp only [aqA,↓seqK,↓blkK,↓loopK,step,stepBin,eqB,Nat.add_assoc nid,↓reduceIte,simprocAttr,LN_succ,strmC_low]
  ·have hkl:k<x.D.length:=by omega
   have h1:=hdb k (by omega)
   have h2:=hdb (k+1) (by omega)
   rw [dlTo_succ x.D hkl] at h2
   refine ⟨⟨by omega,by omega⟩,by unfold inI64; omega,by unfold inI64; omega,k+1,⟨by omega,by omega⟩,?_⟩
   rw [dlTo_succ x.D hkl]
   first | refine Cov.goG (nid+300) Hs [_] [_] [] [] (by omega) hs (by simp [kOK,hoff]) (by simp) ?_ | refine Cov.goG (nid+300) Hs [_,_] [_] [] [] (by omega) hs (by simp [kOK,hoff]) (by simp) ?_ | refine Cov.goG (nid+300) Hs [_,_,_] [_] [] [] (by omega) hs (by simp [kOK,hoff]) (by simp) ?_ | refine Cov.goG (nid+300) Hs [_,_,_,_] [_] [] [] (by omega) hs (by simp [kOK,hoff]) (by simp) ?_ | refine Cov.goG (nid+300) Hs [_,_,_,_,_] [_] [] [] (by omega) hs (by simp [kOK,hoff]) (by simp) ?_ | refine Cov.goG (nid+300) Hs [_,_,_,_,_,_] [_] [] [] (by omega) hs (by simp [kOK,hoff]) (by simp) ?_ | refine Cov.goG (nid+300) Hs [_,_,_,_,_,_,_] [_] [] [] (by omega) hs (by simp [kOK,hoff]) (by simp) ?_ | refine Cov.goG (nid+300) Hs [_,_,_,_,_,_,_,_] [_] [] [] (by omega) hs (by simp [kOK,hoff]) (by simp) ?_ | refine Cov.goG (nid+300) Hs [_,_,_,_,_,_,_,_,_] [_] [] [] (by omega) hs (by simp [kOK,hoff]) (by simp) ?_ | refine Cov.goG (nid+300) Hs [_,_,_,_,_,_,_,_,_,_] [_] [] [] (by omega) hs (by simp [kOK,hoff]) (by simp) ?_ | refine Cov.goG (nid+300) Hs [_,_,_,_,_,_,_,_,_,_,_] [_] [] [] (by omega) hs (by simp [kOK,hoff]) (by simp) ?_ | refine Cov.goG (nid+300) Hs [_,_,_,_,_,_,_,_,_,_,_,_] [_] [] [] (by omega) hs (by simp [kOK,hoff]) (by simp) ?_ | refine Cov.goG (nid+300) Hs [_,_,_,_,_,_,_,_,_,_,_,_,_] [_] [] [] (by omega) hs (by simp [kOK,hoff]) (by simp) ?_ | refine Cov.goG (nid+300) Hs [_,_,_,_,_,_,_,_,_,_,_,_,_,_] [_] [] [] (by omega) hs (by simp [kOK,hoff]) (by simp) ?_ | refine Cov.goG (nid+300) Hs [_,_,_,_,_,_,_,_,_,_,_,_,_,_,_] [_] [] [] (by omega) hs (by simp [kOK,hoff]) (by simp) ?_ | refine Cov.goG (nid+300) Hs [_,_,_,_,_,_,_,_,_,_,_,_,_,_,_,_] [_] [] [] (by omega) hs (by simp [kOK,hoff]) (by simp) ?_ | refine Cov.goG (nid+300) Hs [_,_,_,_,_,_,_,_,_,_,_,_,_,_,_,_,_] [_] [] [] (by omega) hs (by simp [kOK,hoff]) (by simp) ?_ | refine Cov.goG (nid+300) Hs [_,_,_,_,_,_,_,_,_,_,_,_,_,_,_,_,_,_] [_] [] [] (by omega) hs (by simp [kOK,hoff]) (by simp) ?_ | refine Cov.goG (nid+300) Hs [_,_,_,_,_,_,_,_,_,_,_,_,_,_,_,_,_,_,_] [_] [] [] (by omega) hs (by simp [kOK,hoff]) (by simp) ?_ | refine Cov.goG (nid+300) Hs [_,_,_,_,_,_,_,_,_,_,_,_,_,_,_,_,_,_,_,_] [_] [] [] (by omega) hs (by simp [kOK,hoff]) (by simp) ?_ | refine Cov.goG (nid+300) Hs [_,_,_,_,_,_,_,_,_,_,_,_,_,_,_,_,_,_,_,_,_] [_] [] [] (by omega) hs (by simp [kOK,hoff]) (by simp) ?_ | refine Cov.goG (nid+300) Hs [_,_,_,_,_,_,_,_,_,_,_,_,_,_,_,_,_,_,_,_,_,_] [_] [] [] (by omega) hs (by simp [kOK,hoff]) (by simp) ?_ | refine Cov.goG (nid+300) Hs [_,_,_,_,_,_,_,_,_,_,_,_,_,_,_,_,_,_,_,_,_,_,_] [_] [] [] (by omega) hs (by simp [kOK,hoff]) (by simp) ?_
   simp [cvT,step,res,strmC,devP,ColsEq.refl]
  ·have hkn:k=x.D.length:=by omega
   rw [hkn]
   refine ⟨(),?_⟩
   first | refine Cov.goG (nid+300) Hs [_] [_] [] [] (by omega) hs (by simp [kOK,hoff]) (by simp) ?_ | refine Cov.goG (nid+300) Hs [_,_] [_] [] [] (by omega) hs (by simp [kOK,hoff]) (by simp) ?_ | refine Cov.goG (nid+300) Hs [_,_,_] [_] [] [] (by omega) hs (by simp [kOK,hoff]) (by simp) ?_ | refine Cov.goG (nid+300) Hs [_,_,_,_] [_] [] [] (by omega) hs (by simp [kOK,hoff]) (by simp) ?_ | refine Cov.goG (nid+300) Hs [_,_,_,_,_] [_] [] [] (by omega) hs (by simp [kOK,hoff]) (by simp) ?_ | refine Cov.goG (nid+300) Hs [_,_,_,_,_,_] [_] [] [] (by omega) hs (by simp [kOK,hoff]) (by simp) ?_ | refine Cov.goG (nid+300) Hs [_,_,_,_,_,_,_] [_] [] [] (by omega) hs (by simp [kOK,hoff]) (by simp) ?_ | refine Cov.goG (nid+300) Hs [_,_,_,_,_,_,_,_] [_] [] [] (by omega) hs (by simp [kOK,hoff]) (by simp) ?_ | refine Cov.goG (nid+300) Hs [_,_,_,_,_,_,_,_,_] [_] [] [] (by omega) hs (by simp [kOK,hoff]) (by simp) ?_ | refine Cov.goG (nid+300) Hs [_,_,_,_,_,_,_,_,_,_] [_] [] [] (by omega) hs (by simp [kOK,hoff]) (by simp) ?_ | refine Cov.goG (nid+300) Hs [_,_,_,_,_,_,_,_,_,_,_] [_] [] [] (by omega) hs (by simp [kOK,hoff]) (by simp) ?_ | refine Cov.goG (nid+300) Hs [_,_,_,_,_,_,_,_,_,_,_,_] [_] [] [] (by omega) hs (by simp [kOK,hoff]) (by simp) ?_ | refine Cov.goG (nid+300) Hs [_,_,_,_,_,_,_,_,_,_,_,_,_] [_] [] [] (by omega) hs (by simp [kOK,hoff]) (by simp) ?_ | refine Cov.goG (nid+300) Hs [_,_,_,_,_,_,_,_,_,_,_,_,_,_] [_] [] [] (by omega) hs (by simp [kOK,hoff]) (by simp) ?_ | refine Cov.goG (nid+300) Hs [_,_,_,_,_,_,_,_,_,_,_,_,_,_,_] [_] [] [] (by omega) hs (by simp [kOK,hoff]) (by simp) ?_ | refine Cov.goG (nid+300) Hs [_,_,_,_,_,_,_,_,_,_,_,_,_,_,_,_] [_] [] [] (by omega) hs (by simp [kOK,hoff]) (by simp) ?_ | refine Cov.goG (nid+300) Hs [_,_,_,_,_,_,_,_,_,_,_,_,_,_,_,_,_] [_] [] [] (by omega) hs (by simp [kOK,hoff]) (by simp) ?_ | refine Cov.goG (nid+300) Hs [_,_,_,_,_,_,_,_,_,_,_,_,_,_,_,_,_,_] [_] [] [] (by omega) hs (by simp [kOK,hoff]) (by simp) ?_ | refine Cov.goG (nid+300) Hs [_,_,_,_,_,_,_,_,_,_,_,_,_,_,_,_,_,_,_] [_] [] [] (by omega) hs (by simp [kOK,hoff]) (by simp) ?_ | refine Cov.goG (nid+300) Hs [_,_,_,_,_,_,_,_,_,_,_,_,_,_,_,_,_,_,_,_] [_] [] [] (by omega) hs (by simp [kOK,hoff]) (by simp) ?_ | refine Cov.goG (nid+300) Hs [_,_,_,_,_,_,_,_,_,_,_,_,_,_,_,_,_,_,_,_,_] [_] [] [] (by omega) hs (by simp [kOK,hoff]) (by simp) ?_ | refine Cov.goG (nid+300) Hs [_,_,_,_,_,_,_,_,_,_,_,_,_,_,_,_,_,_,_,_,_,_] [_] [] [] (by omega) hs (by simp [kOK,hoff]) (by simp) ?_ | refine Cov.goG (nid+300) Hs [_,_,_,_,_,_,_,_,_,_,_,_,_,_,_,_,_,_,_,_,_,_,_] [_] [] [] (by omega) hs (by simp [kOK,hoff]) (by simp) ?_
   simp [cvT,step,res,strmC,devP,ColsEq.refl]
 have hdl:=hdb x.D.length (Nat.le_refl _)
 obtain ⟨L,hL⟩:∃ L:Nat,dlTo x.D x.D.length=L:=⟨_,(Int.toNat_of_nonneg (by omega)).symm⟩
 rw [hL] at hdl ⊢
 have hsh:=fun (b:Bs) (h1:b.length=L) (h2:b.all oneBit=true) m (hm:nid+215≤m)=>shiftIR_c y b x.D.length (nid+204) m (by omega) hok (by rw [← hy]; simp only; omega) (by omega) (bits_of h2 (by omega)) hlen hl3
 rw [hH] at hsh
 refine SR.seqEx (ι:={b:Bs // b.length=L∧b.all oneBit=true}) (fun b=>⟨[(5,.ptr (nid+204) 0),(4,.lit x.n0 x.D.length (devP x.n1 x.n2 x.D)),(3,.ptr (nid+12) 0)],[(nid+12,strmC nl A (x.q+L))]++chH (nid+204) (scanV y 11 b.1),nid+3400,nid⟩) ?_ (fun ⟨b,hb1,hb2⟩=>?_)
 ·simp -dsimp only [aqA,↓seqK,↓blkK,↓loopK,step,stepBin,eqB,Nat.add_assoc nid,↓reduceIte,simprocAttr,LN_succ,strmC_low]
  refine CallO.onE (bitsX (nid+12) _ nl A x.q L (by omega) (by omega) (by omega) hA) (subH_get (by simp only [aqA,↓seqK,↓blkK,↓loopK,step,stepBin,eqB,Nat.add_assoc nid,↓reduceIte,simprocAttr,LN_succ])) (fun b hb=>?_)
  obtain ⟨hb1,hb2⟩:=hb
  simp -dsimp only [aqA,↓seqK,↓blkK,↓loopK,step,stepBin,eqB,Nat.add_assoc nid,↓reduceIte,simprocAttr,LN_succ,strmC_low]
  refine CallO.on (hsh b hb1 hb2 _ (by omega)) (subH_frame (X:=[(nid+12,_),(nid+12,_)]) (hsH (nid+300) (by omega)) (by simp [kOK,hoff])) ?_
  simp -dsimp only [aqA,↓seqK,↓blkK,↓loopK,step,stepBin,eqB,Nat.add_assoc nid,↓reduceIte,simprocAttr,LN_succ]
  have hok1:ChOk x.D.length (scanV y 11 b):=scanV_ok hok (by rw [← hy]; simp only; omega) (.inr rfl) hb2
  have hs1:=hsc _ hok1 (nid+300) (by omega)
  have hoff1:=chH_off (c:=nid+204) (s:=nid+12) (x:=scanV y 11 b) (by omega)
  refine ⟨⟨b,hb1,hb2⟩,?_⟩
  simp only
  generalize chH (nid+204) (scanV y 11 b)=Hs1 at *
  refine Cov.trans (Cov.heap (subH_swapR hoff1)) (Cov.goG (nid+300) Hs1 [(nid+12,_)] [(nid+12,_)] [] [] (by omega) hs1 (by simp [kOK,hoff1]) (by simp) ?_)
  simp [cvT,step,res,strmC,ColsEq.refl]
 have hok1:ChOk x.D.length (scanV y 11 b):=scanV_ok hok (by rw [← hy]; simp only; omega) (.inr rfl) hb2
 obtain ⟨g1,g2,g3⟩:=scan_irN he f (l:=b) (by omega) _ rfl
 rw [hy] at g1 g2 g3
 have hoff1:=chH_off (c:=nid+204) (s:=nid+12) (x:=scanV y 11 b) (by omega)
 have hs1:=hsc _ hok1 (nid+300) (by omega)
 clear hsh hs hsH hdb
 generalize hy1:scanV y 11 b=y1 at *
 have hPN:∀ p∈y1.P,PortN p:=fun p hp=>by
  obtain ⟨i,hi,rfl⟩:=List.getElem_of_mem hp
  exact (g3 i _ (List.getElem?_eq_getElem hi)).2.2
 have hnb:=selTo_bound hPN y1.P.length (Nat.le_refl _)
 obtain ⟨N,hN⟩:∃ N:Nat,selTo y1.P y1.P.length=N:=⟨_,(Int.toNat_of_nonneg (by omega)).symm⟩
 rw [hN] at hnb
 have hsel:=fun m (hm:nid+215≤m)=>selLong_c x.n0 x.n1 x.n2 x.D y1 (nid+204) m (by omega) g2 hl3 g3 (fun j k hj hk=>names_ne he hj hk)
 rw [← g2,hN,g2] at hsel
 have hstt:=fun m (hm:nid+215≤m)=>state_c y1 (nid+204) m (by omega) (by omega)
 rw [g1] at hstt
 have hdr:=fun (l:Bs) h1 h2 m (hm:nid+215≤m)=>shiftDR_c y1 l x.D.length (nid+204) m (by omega) hok1 (by omega) h1 h2 hlen hl3
 have hlaw:=fun b2=>shifted_law hPN hN.symm b2
 have hy1e:y1=⟨1,y1.P⟩:=by rw [← g1]
 rw [← hy1e] at hlaw
 have hs3:∀ l:Bs,l.all oneBit=true→∀ m,nid+215≤m→Scoped m (chH (nid+204) (scanV y1 4 l)):=fun l hl m hm=>hsc _ (scanV_ok hok1 (by omega) (.inl rfl) hl) m hm
 generalize hH1:chH (nid+204) y1=Hs at *
 have hs:=hs1
 have hoff:=hoff1
 have hc1:decide (((N:Nat):Int)<1)=false:=by simp; omega
 refine SR.seqTo ⟨[(12,.int .i64 (N:Nat)),(5,.ptr (nid+204) 0),(3,.ptr (nid+12) 0)],[(nid+12,strmC nl A (x.q+L))]++Hs,nid+3600,nid⟩ ?_ ?_
 ·simp -dsimp only [aqA,↓seqK,↓blkK,↓loopK,step,stepBin,eqB,Nat.add_assoc nid,↓reduceIte,simprocAttr,LN_succ,strmC_low]
  refine CallO.on (hsel _ (by omega)) (subH_frame (X:=[(nid+12,_)]) hs (by simp [kOK,hoff])) ?_
  simp -dsimp only [aqA,↓seqK,↓blkK,↓loopK,step,stepBin,eqB,Nat.add_assoc nid,↓reduceIte,simprocAttr,LN_succ,strmC_low]
  first | refine Cov.goG (nid+300) Hs [_] [_] [] [] (by omega) hs (by simp [kOK,hoff]) (by simp) ?_ | refine Cov.goG (nid+300) Hs [_,_] [_] [] [] (by omega) hs (by simp [kOK,hoff]) (by simp) ?_ | refine Cov.goG (nid+300) Hs [_,_,_] [_] [] [] (by omega) hs (by simp [kOK,hoff]) (by simp) ?_ | refine Cov.goG (nid+300) Hs [_,_,_,_] [_] [] [] (by omega) hs (by simp [kOK,hoff]) (by simp) ?_ | refine Cov.goG (nid+300) Hs [_,_,_,_,_] [_] [] [] (by omega) hs (by simp [kOK,hoff]) (by simp) ?_ | refine Cov.goG (nid+300) Hs [_,_,_,_,_,_] [_] [] [] (by omega) hs (by simp [kOK,hoff]) (by simp) ?_ | refine Cov.goG (nid+300) Hs [_,_,_,_,_,_,_] [_] [] [] (by omega) hs (by simp [kOK,hoff]) (by simp) ?_ | refine Cov.goG (nid+300) Hs [_,_,_,_,_,_,_,_] [_] [] [] (by omega) hs (by simp [kOK,hoff]) (by simp) ?_ | refine Cov.goG (nid+300) Hs [_,_,_,_,_,_,_,_,_] [_] [] [] (by omega) hs (by simp [kOK,hoff]) (by simp) ?_ | refine Cov.goG (nid+300) Hs [_,_,_,_,_,_,_,_,_,_] [_] [] [] (by omega) hs (by simp [kOK,hoff]) (by simp) ?_ | refine Cov.goG (nid+300) Hs [_,_,_,_,_,_,_,_,_,_,_] [_] [] [] (by omega) hs (by simp [kOK,hoff]) (by simp) ?_ | refine Cov.goG (nid+300) Hs [_,_,_,_,_,_,_,_,_,_,_,_] [_] [] [] (by omega) hs (by simp [kOK,hoff]) (by simp) ?_ | refine Cov.goG (nid+300) Hs [_,_,_,_,_,_,_,_,_,_,_,_,_] [_] [] [] (by omega) hs (by simp [kOK,hoff]) (by simp) ?_ | refine Cov.goG (nid+300) Hs [_,_,_,_,_,_,_,_,_,_,_,_,_,_] [_] [] [] (by omega) hs (by simp [kOK,hoff]) (by simp) ?_ | refine Cov.goG (nid+300) Hs [_,_,_,_,_,_,_,_,_,_,_,_,_,_,_] [_] [] [] (by omega) hs (by simp [kOK,hoff]) (by simp) ?_ | refine Cov.goG (nid+300) Hs [_,_,_,_,_,_,_,_,_,_,_,_,_,_,_,_] [_] [] [] (by omega) hs (by simp [kOK,hoff]) (by simp) ?_ | refine Cov.goG (nid+300) Hs [_,_,_,_,_,_,_,_,_,_,_,_,_,_,_,_,_] [_] [] [] (by omega) hs (by simp [kOK,hoff]) (by simp) ?_ | refine Cov.goG (nid+300) Hs [_,_,_,_,_,_,_,_,_,_,_,_,_,_,_,_,_,_] [_] [] [] (by omega) hs (by simp [kOK,hoff]) (by simp) ?_ | refine Cov.goG (nid+300) Hs [_,_,_,_,_,_,_,_,_,_,_,_,_,_,_,_,_,_,_] [_] [] [] (by omega) hs (by simp [kOK,hoff]) (by simp) ?_ | refine Cov.goG (nid+300) Hs [_,_,_,_,_,_,_,_,_,_,_,_,_,_,_,_,_,_,_,_] [_] [] [] (by omega) hs (by simp [kOK,hoff]) (by simp) ?_ | refine Cov.goG (nid+300) Hs [_,_,_,_,_,_,_,_,_,_,_,_,_,_,_,_,_,_,_,_,_] [_] [] [] (by omega) hs (by simp [kOK,hoff]) (by simp) ?_ | refine Cov.goG (nid+300) Hs [_,_,_,_,_,_,_,_,_,_,_,_,_,_,_,_,_,_,_,_,_,_] [_] [] [] (by omega) hs (by simp [kOK,hoff]) (by simp) ?_ | refine Cov.goG (nid+300) Hs [_,_,_,_,_,_,_,_,_,_,_,_,_,_,_,_,_,_,_,_,_,_,_] [_] [] [] (by omega) hs (by simp [kOK,hoff]) (by simp) ?_
  simp [cvT,step,res,strmC,ColsEq.refl]
 refine SR.seqTo ⟨[(12,.int .i64 (N:Nat)),(5,.ptr (nid+204) 0),(3,.ptr (nid+12) 0)],[(nid+12,strmC nl A (x.q+L))]++Hs,nid+3700,nid⟩ ?_ ?_
 ·simp -dsimp only [aqA,↓seqK,↓blkK,↓loopK,step,stepBin,eqB,Nat.add_assoc nid,↓reduceIte,simprocAttr,LN_succ,strmC_low,hc1]
  refine CallO.on (hstt _ (by omega)) (subH_frame (X:=[(nid+12,_)]) hs (by simp [kOK,hoff])) ?_
  simp -dsimp only [aqA,↓seqK,↓blkK,↓loopK,step,stepBin,eqB,Nat.add_assoc nid,↓reduceIte,simprocAttr,LN_succ,strmC_low]
  first | refine Cov.goG (nid+300) Hs [_] [_] [] [] (by omega) hs (by simp [kOK,hoff]) (by simp) ?_ | refine Cov.goG (nid+300) Hs [_,_] [_] [] [] (by omega) hs (by simp [kOK,hoff]) (by simp) ?_ | refine Cov.goG (nid+300) Hs [_,_,_] [_] [] [] (by omega) hs (by simp [kOK,hoff]) (by simp) ?_ | refine Cov.goG (nid+300) Hs [_,_,_,_] [_] [] [] (by omega) hs (by simp [kOK,hoff]) (by simp) ?_ | refine Cov.goG (nid+300) Hs [_,_,_,_,_] [_] [] [] (by omega) hs (by simp [kOK,hoff]) (by simp) ?_ | refine Cov.goG (nid+300) Hs [_,_,_,_,_,_] [_] [] [] (by omega) hs (by simp [kOK,hoff]) (by simp) ?_ | refine Cov.goG (nid+300) Hs [_,_,_,_,_,_,_] [_] [] [] (by omega) hs (by simp [kOK,hoff]) (by simp) ?_ | refine Cov.goG (nid+300) Hs [_,_,_,_,_,_,_,_] [_] [] [] (by omega) hs (by simp [kOK,hoff]) (by simp) ?_ | refine Cov.goG (nid+300) Hs [_,_,_,_,_,_,_,_,_] [_] [] [] (by omega) hs (by simp [kOK,hoff]) (by simp) ?_ | refine Cov.goG (nid+300) Hs [_,_,_,_,_,_,_,_,_,_] [_] [] [] (by omega) hs (by simp [kOK,hoff]) (by simp) ?_ | refine Cov.goG (nid+300) Hs [_,_,_,_,_,_,_,_,_,_,_] [_] [] [] (by omega) hs (by simp [kOK,hoff]) (by simp) ?_ | refine Cov.goG (nid+300) Hs [_,_,_,_,_,_,_,_,_,_,_,_] [_] [] [] (by omega) hs (by simp [kOK,hoff]) (by simp) ?_ | refine Cov.goG (nid+300) Hs [_,_,_,_,_,_,_,_,_,_,_,_,_] [_] [] [] (by omega) hs (by simp [kOK,hoff]) (by simp) ?_ | refine Cov.goG (nid+300) Hs [_,_,_,_,_,_,_,_,_,_,_,_,_,_] [_] [] [] (by omega) hs (by simp [kOK,hoff]) (by simp) ?_ | refine Cov.goG (nid+300) Hs [_,_,_,_,_,_,_,_,_,_,_,_,_,_,_] [_] [] [] (by omega) hs (by simp [kOK,hoff]) (by simp) ?_ | refine Cov.goG (nid+300) Hs [_,_,_,_,_,_,_,_,_,_,_,_,_,_,_,_] [_] [] [] (by omega) hs (by simp [kOK,hoff]) (by simp) ?_ | refine Cov.goG (nid+300) Hs [_,_,_,_,_,_,_,_,_,_,_,_,_,_,_,_,_] [_] [] [] (by omega) hs (by simp [kOK,hoff]) (by simp) ?_ | refine Cov.goG (nid+300) Hs [_,_,_,_,_,_,_,_,_,_,_,_,_,_,_,_,_,_] [_] [] [] (by omega) hs (by simp [kOK,hoff]) (by simp) ?_ | refine Cov.goG (nid+300) Hs [_,_,_,_,_,_,_,_,_,_,_,_,_,_,_,_,_,_,_] [_] [] [] (by omega) hs (by simp [kOK,hoff]) (by simp) ?_ | refine Cov.goG (nid+300) Hs [_,_,_,_,_,_,_,_,_,_,_,_,_,_,_,_,_,_,_,_] [_] [] [] (by omega) hs (by simp [kOK,hoff]) (by simp) ?_ | refine Cov.goG (nid+300) Hs [_,_,_,_,_,_,_,_,_,_,_,_,_,_,_,_,_,_,_,_,_] [_] [] [] (by omega) hs (by simp [kOK,hoff]) (by simp) ?_ | refine Cov.goG (nid+300) Hs [_,_,_,_,_,_,_,_,_,_,_,_,_,_,_,_,_,_,_,_,_,_] [_] [] [] (by omega) hs (by simp [kOK,hoff]) (by simp) ?_ | refine Cov.goG (nid+300) Hs [_,_,_,_,_,_,_,_,_,_,_,_,_,_,_,_,_,_,_,_,_,_,_] [_] [] [] (by omega) hs (by simp [kOK,hoff]) (by simp) ?_
  simp [cvT,step,res,strmC,ColsEq.refl]
 have hRb:=rangeV_bd A (x.q+L) (lo:=1) (hi:=20) (by decide)
 obtain ⟨R,hR0⟩:∃ R:Nat,rangeV A (x.q+L) 1 20=R:=⟨_,(Int.toNat_of_nonneg (by omega)).symm⟩
 rw [hR0] at hRb
 refine SR.seqEx (ι:={b:Bs // b.length=R∧b.all oneBit=true}) (fun b=>⟨[(13,.str b.1),(12,.int .i64 (N:Nat)),(5,.ptr (nid+204) 0)],[]++Hs,nid+3900,nid⟩) ?_ (fun ⟨b2,hb3,hb4⟩=>?_)
 ·simp -dsimp only [aqA,↓seqK,↓blkK,↓loopK,step,stepBin,eqB,Nat.add_assoc nid,↓reduceIte,simprocAttr,LN_succ,strmC_low]
  refine CallO.on (range_c (nid+12) _ nl A (x.q+L) 1 20 (by omega) (by omega) hA (by decide) (by decide) (by decide)) (subH_get (by simp only [aqA,↓seqK,↓blkK,↓loopK,step,stepBin,eqB,Nat.add_assoc nid,↓reduceIte,simprocAttr,LN_succ])) ?_
  rw [hR0]
  simp -dsimp only [aqA,↓seqK,↓blkK,↓loopK,step,stepBin,eqB,Nat.add_assoc nid,↓reduceIte,simprocAttr,LN_succ,strmC_low]
  refine CallO.onE (bitsX (nid+12) _ nl A (x.q+L+1) R (by omega) (by omega) (by omega) hA) (subH_get (by simp only [aqA,↓seqK,↓blkK,↓loopK,step,stepBin,eqB,Nat.add_assoc nid,↓reduceIte,simprocAttr,LN_succ])) (fun b hb=>?_)
  obtain ⟨hb1,hb2⟩:=hb
  simp -dsimp only [aqA,↓seqK,↓blkK,↓loopK,step,stepBin,eqB,Nat.add_assoc nid,↓reduceIte,simprocAttr,LN_succ,strmC_low]
  refine ⟨⟨b,hb1,hb2⟩,?_⟩
  first | refine Cov.goG (nid+300) Hs [_] [] [] [] (by omega) hs (by simp [kOK,hoff]) (by simp) ?_ | refine Cov.goG (nid+300) Hs [_,_] [] [] [] (by omega) hs (by simp [kOK,hoff]) (by simp) ?_ | refine Cov.goG (nid+300) Hs [_,_,_] [] [] [] (by omega) hs (by simp [kOK,hoff]) (by simp) ?_ | refine Cov.goG (nid+300) Hs [_,_,_,_] [] [] [] (by omega) hs (by simp [kOK,hoff]) (by simp) ?_ | refine Cov.goG (nid+300) Hs [_,_,_,_,_] [] [] [] (by omega) hs (by simp [kOK,hoff]) (by simp) ?_ | refine Cov.goG (nid+300) Hs [_,_,_,_,_,_] [] [] [] (by omega) hs (by simp [kOK,hoff]) (by simp) ?_ | refine Cov.goG (nid+300) Hs [_,_,_,_,_,_,_] [] [] [] (by omega) hs (by simp [kOK,hoff]) (by simp) ?_ | refine Cov.goG (nid+300) Hs [_,_,_,_,_,_,_,_] [] [] [] (by omega) hs (by simp [kOK,hoff]) (by simp) ?_ | refine Cov.goG (nid+300) Hs [_,_,_,_,_,_,_,_,_] [] [] [] (by omega) hs (by simp [kOK,hoff]) (by simp) ?_ | refine Cov.goG (nid+300) Hs [_,_,_,_,_,_,_,_,_,_] [] [] [] (by omega) hs (by simp [kOK,hoff]) (by simp) ?_ | refine Cov.goG (nid+300) Hs [_,_,_,_,_,_,_,_,_,_,_] [] [] [] (by omega) hs (by simp [kOK,hoff]) (by simp) ?_ | refine Cov.goG (nid+300) Hs [_,_,_,_,_,_,_,_,_,_,_,_] [] [] [] (by omega) hs (by simp [kOK,hoff]) (by simp) ?_ | refine Cov.goG (nid+300) Hs [_,_,_,_,_,_,_,_,_,_,_,_,_] [] [] [] (by omega) hs (by simp [kOK,hoff]) (by simp) ?_ | refine Cov.goG (nid+300) Hs [_,_,_,_,_,_,_,_,_,_,_,_,_,_] [] [] [] (by omega) hs (by simp [kOK,hoff]) (by simp) ?_ | refine Cov.goG (nid+300) Hs [_,_,_,_,_,_,_,_,_,_,_,_,_,_,_] [] [] [] (by omega) hs (by simp [kOK,hoff]) (by simp) ?_ | refine Cov.goG (nid+300) Hs [_,_,_,_,_,_,_,_,_,_,_,_,_,_,_,_] [] [] [] (by omega) hs (by simp [kOK,hoff]) (by simp) ?_ | refine Cov.goG (nid+300) Hs [_,_,_,_,_,_,_,_,_,_,_,_,_,_,_,_,_] [] [] [] (by omega) hs (by simp [kOK,hoff]) (by simp) ?_ | refine Cov.goG (nid+300) Hs [_,_,_,_,_,_,_,_,_,_,_,_,_,_,_,_,_,_] [] [] [] (by omega) hs (by simp [kOK,hoff]) (by simp) ?_ | refine Cov.goG (nid+300) Hs [_,_,_,_,_,_,_,_,_,_,_,_,_,_,_,_,_,_,_] [] [] [] (by omega) hs (by simp [kOK,hoff]) (by simp) ?_ | refine Cov.goG (nid+300) Hs [_,_,_,_,_,_,_,_,_,_,_,_,_,_,_,_,_,_,_,_] [] [] [] (by omega) hs (by simp [kOK,hoff]) (by simp) ?_ | refine Cov.goG (nid+300) Hs [_,_,_,_,_,_,_,_,_,_,_,_,_,_,_,_,_,_,_,_,_] [] [] [] (by omega) hs (by simp [kOK,hoff]) (by simp) ?_ | refine Cov.goG (nid+300) Hs [_,_,_,_,_,_,_,_,_,_,_,_,_,_,_,_,_,_,_,_,_,_] [] [] [] (by omega) hs (by simp [kOK,hoff]) (by simp) ?_ | refine Cov.goG (nid+300) Hs [_,_,_,_,_,_,_,_,_,_,_,_,_,_,_,_,_,_,_,_,_,_,_] [] [] [] (by omega) hs (by simp [kOK,hoff]) (by simp) ?_
  simp [cvT,step,res,strmC,ColsEq.refl]
 have hl4:(b2++List.replicate N 48).all oneBit=true:=by
  rw [List.all_append,hb4,List.all_replicate]
  simp [oneBit]
 obtain ⟨q1,q2⟩:=hlaw b2
 have hdr1:=fun m hm=>hdr (b2++List.replicate N 48) (by simp; omega) (bits_of hl4 (by simp; omega)) m hm
 clear hdr hlaw hsel hstt hs3
 generalize scanO y1 4 (b2++List.replicate N 48)=got at *
 generalize chH (nid+204) (scanV y1 4 (b2++List.replicate N 48))=Hs4 at *
 refine SR.seqTo ⟨[(14,.str got),(13,.str b2),(12,.int .i64 (N:Nat)),(6,.int .i64 0)],[],nid+4200,nid⟩ ?_ ?_
 ·simp -dsimp only [aqA,↓seqK,↓blkK,↓loopK,step,stepBin,eqB,Nat.add_assoc nid,↓reduceIte,simprocAttr,LN_succ]
  refine CallO.pure (repeat_cc [48] N _ (by omega) (by simp; omega)) ?_
  rw [rep48]
  simp -dsimp only [aqA,↓seqK,↓blkK,↓loopK,step,stepBin,eqB,Nat.add_assoc nid,↓reduceIte,simprocAttr,LN_succ]
  refine ⟨by simp; omega,?_⟩
  refine CallO.on (hdr1 _ (by omega)) (subH_frame (X:=[]) hs (by simp [kOK])) ?_
  simp -dsimp only [aqA,↓seqK,↓blkK,↓loopK,step,stepBin,eqB,Nat.add_assoc nid,↓reduceIte,simprocAttr,LN_succ]
  refine Cov.go [] [] ?_
  simp [cvT,step,res]
 have d1:(((got.length:Nat):Int)==((b2.length:Nat):Int)+((N:Nat):Int))=true:=by rw [q1]; simp
 have d2:(got.drop N==b2)=true:=by rw [q2]; simp
 refine SR.run (t:=.mk) ?_
 simp -dsimp only [aqA,↓seqK,↓blkK,↓loopK,step,stepBin,eqB,Nat.add_assoc nid,↓reduceIte,simprocAttr,LN_succ,d1,d2]
 refine ⟨by unfold inI64; omega,⟨by omega,by omega⟩,?_⟩
 refine CallO.pure (ready_c _) ?_
 simp -dsimp only [aqA,↓seqK,↓blkK,↓loopK,step,stepBin,eqB,Nat.add_assoc nid,↓reduceIte,simprocAttr,LN_succ]
 refine RetOK.go [] [] (.inl rfl) ?_
 simp [a6,cvT,step,res]
end Go.Proofs.YtahjohieahehjaaGreatDoor
namespace Go.Proofs.YtahjohieahehjaaGreatDoor
open Go.RowKit
theorem handed_shaped {H:Type} {enc:TypeId × Value→H} {a:Assume} {C:Checked} {os:Os} {f:FuncId} {fn:Func} {s:ChangeSpec} {conds:List PathCond} {apart fresh handsOn again:Bool} {X:World→Array Value→Prop}
  (hX:∀ (w w':World) (args:Array Value),w.heap=w'.heap→X w args→X w' args)
  (own:ownKnob C.prog.godebug=none) (started:os.Started) (noInit:C.prog.inits.idxOf? f=none) (hfn:C.prog.funcs[f]?=some fn)
  (witness:∃ (w:World) (tape:Tape) (i:Input),w.os=os∧(w.forCall tape i).Shaped C.prog∧i.vars=[]∧Input.okWide C.prog (w.forCall tape i) .any w.heap.size f i ∧
   ((s.pre enc C.prog fn conds apart (w.forCall tape i).memory i.args∧X (w.forCall tape i).memory i.args)∧sizedMet enc C.prog fn (OpenSpec.ofChange s) apart (w.forCall tape i).memory i.args)∧a.holds C.prog (lone (Frame.enter C.prog f i.args .normal) [] (w.forCall tape i)))
  (contract:∀ (W:World) (base:Nat) (args:Array Value) (ds gs:List (DataW H)) (before:List MemPlace),
   (∀ (j:Nat) t v,fn.params[j]?=some t→args[j]?=some v→Value.okWide C.prog W .any base t v) →
   DataW.Whole enc C.prog fn.params.toList s.vars apart W args.toList ds gs before →
   conds.all (PathCond.test C.prog ⟨fn.params.toList,ds,s.plain.varTypes C.prog,gs⟩)=true →
   (DataW.weightsEach C.prog (fn.params.toList++s.plain.varTypes C.prog) (ds++gs)).all (·≤reachBytes)=true→X W args→W.ShapedOpen C.prog →
   Calls C.prog f args W fun e W'=>∃ v,e=.returned v∧s.post enc C.prog fn apart fresh handsOn again W args v W') :
  ReturnsInHanded a C os f .any (fun w args=>(s.pre enc C.prog fn conds apart w args∧X w args)∧sizedMet enc C.prog fn (OpenSpec.ofChange s) apart w args) (s.post enc C.prog fn apart fresh handsOn again):=by
 refine returnsInHanded_of_calls own started noInit witness ?_
 intro w tape i _ hsh _ hok hpre _
 obtain ⟨_,_,_,fn',hfn',_,_,_,_,hval⟩:=hok
 have e:fn'=fn:=Option.some.inj (hfn'.symm.trans hfn)
 subst e
 obtain ⟨⟨⟨ds,gs,before,hw,hc⟩,hx⟩,hz⟩:=hpre
 have hw':=DataW.Whole.of_heap (w':=w.forCall tape i) (by rfl) hw
 refine (contract (w.forCall tape i) w.heap.size i.args ds gs before hval hw' hc (hz.weights hw) (hX _ _ _ (by rfl) hx) hsh).mono fun e W' ⟨v,he,hp⟩=>?_
 subst he
 exact ChangeSpec.post_blind hp
theorem gok_cell {W:World} {g:Nat} {m:Int} (h:W.cell? ⟨g,0,none⟩=some (.int .i64 m)):g<W.heap.size∧∃ o,W.heap[g]?=some o∧cell0 o=some (.int .i64 m):=by
 unfold World.cell? at h
 simp only at h
 split at h
 ·rename_i c t f hc
  refine ⟨?_,_,hc,?_⟩
  ·rcases Nat.lt_or_ge g W.heap.size with hl | hl
   ·exact hl
   ·rw [Array.getElem?_eq_none hl] at hc; cases hc
  ·simpa [cell0] using h
 ·cases h
set_option maxRecDepth 1000000 in
theorem gok0_of {W:World} (h:W.ShapedOpen Tryz.prog):GOK0 (fun b=>W.heap[b]?) W.heap.size:=by
 obtain ⟨m,hm⟩:=cell_of_shapedOpen_int (g:=0) (t:=3) (zero:=#[.int .i64 0]) (k:=.i64) h (of_decide_eq_true (by kernel_rfl)) (by kernel_rfl) rfl (by kernel_rfl) (by kernel_rfl) Tryz.underlying3
 obtain ⟨h1,o,h2,h3⟩:=gok_cell hm
 exact ⟨o,m,h1,h2,h3⟩
theorem blk_of {W:World} {g j:Nat} {v:Value} (h:W.cell? ⟨g,j,none⟩=some v):g<W.heap.size:=World.block_lt_of_cell? W _ h
theorem gok_of {W:World} (h:W.ShapedOpen Tryz.prog) (ht:TabW W):GOK (fun b=>W.heap[b]?) W.heap.size :=
 ⟨gok0_of h,⟨blk_of ht.1,blk_of (ht.2.1 0 (by decide)),blk_of (ht.2.2 0 (by decide)).1⟩,W,fun _ _=>rfl,ht⟩
end Go.Proofs.YtahjohieahehjaaGreatDoor
