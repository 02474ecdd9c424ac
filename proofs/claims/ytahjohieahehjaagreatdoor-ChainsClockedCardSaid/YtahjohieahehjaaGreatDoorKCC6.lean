/-
 Bit strings,ranges and the first fault of several,by the abstract machine.
-/
import Derived.Test.YtahjohieahehjaaGreatDoorKCC5
import Derived.Test.YtahjohieahehjaaGreatDoorKCC3
import Derived.Test.YtahjohieahehjaaGreatDoorProg
import Derived.WalkKit
import Derived.Ground.NamesProg
import Derived.Shelf.Strings.OnBuilder
import Derived.Shelf.Strings.Search3
import Derived.Lib.Bytealg
import Derived.Laws.Externs
import Derived.KernelRfl
import Derived.Test.YtahjohieahehjaaGreatDoorKCC4
import Derived.Shelf.Spec.TrailingZeros
set_option linter.unusedVariables false
set_option linter.unusedSimpArgs false
set_option maxRecDepth 100000
namespace Go.Proofs.YtahjohieahehjaaGreatDoor
open Go.RowKit
theorem bits_c (s:List UInt8) (nid:Nat) (hs:s.length≤1099511627776):ACall Tryz.prog 61 [.str s] [] nid (.bool (bitsOk s)) []:=by
 refine acall_run c61 (by simp [a61]) ?_
 simp -dsimp only [aqA,↓seqK,↓blkK,↓loopK,step,stepBin,eqB,Nat.add_assoc nid,simprocAttr,a61]
 refine CallO.pure (trim_cc s [48,49] _ (by omega) (by decide) (by decide)) ?_
 simp -dsimp only [aqA,↓seqK,↓blkK,↓loopK,step,stepBin,eqB,Nat.add_assoc nid,simprocAttr]
 rw [trim_bits]
 refine RetOK.pure (.inl rfl) rfl ?_
 simp [cvT,step,res]
def spanV (x lo hi:Int):Int:=if outB x lo hi=true then 1 else 0
theorem span_c (x lo hi:Int) (nid:Nat):ACall Tryz.prog 84 [.int .i64 x,.int .i64 lo,.int .i64 hi] [] nid (.int .i64 (spanV x lo hi)) []:=by
 refine acall_run c84 (by simp [a84]) ?_
 simp -dsimp only [aqA,↓seqK,↓blkK,↓loopK,step,stepBin,eqB,Nat.add_assoc nid,simprocAttr,a84]
 refine CallO.pure (in_c x lo hi _) ?_
 simp -dsimp only [aqA,↓seqK,↓blkK,↓loopK,step,stepBin,eqB,Nat.add_assoc nid,simprocAttr]
 unfold spanV
 cases h:outB x lo hi <;> simp -dsimp only [aqA,↓seqK,↓blkK,↓loopK,step,stepBin,eqB,Nat.add_assoc nid,simprocAttr]
 ·refine RetOK.pure (.inl rfl) rfl ?_
  simp [cvT,step,res]
 ·refine RetOK.pure (.inl rfl) rfl ?_
  simp [cvT,step,res]
theorem bitsFaultR_c (s:List UInt8) (nid:Nat) (hs:s.length≤1099511627776):ACall Tryz.prog 67 [.str s] [] nid (.int .i64 (if bitsOk s=true then 0 else 9)) []:=by
 refine acall_run c67 (by simp [a67]) ?_
 simp -dsimp only [aqA,↓seqK,↓blkK,↓loopK,step,stepBin,eqB,Nat.add_assoc nid,simprocAttr,a67]
 refine CallO.pure (trim_cc s [48,49] _ (by omega) (by decide) (by decide)) ?_
 simp -dsimp only [aqA,↓seqK,↓blkK,↓loopK,step,stepBin,eqB,Nat.add_assoc nid,simprocAttr]
 rw [trim_bits]
 cases h:bitsOk s <;> simp -dsimp only [aqA,↓seqK,↓blkK,↓loopK,step,stepBin,eqB,Nat.add_assoc nid,simprocAttr]
 ·refine RetOK.pure (.inl rfl) rfl ?_
  simp [cvT,step,res]
 ·refine RetOK.pure (.inl rfl) rfl ?_
  simp [cvT,step,res]
theorem or_c (nl:Bool) (l:List Int) (nid:Nat) (hl:l.length≤1000000000):ACall Tryz.prog 16 [litI nl l] [] nid (.int .i64 (firstBad (fun x:Int=>x) l)) []:=by
 refine acall_run c16 (by simp [a16]) ?_
 unfold litI
 simp -dsimp only [aqA,↓seqK,↓blkK,↓loopK,step,stepBin,eqB,Nat.add_assoc nid,simprocAttr,a16]
 refine LP.mkP (fun k:Nat=>k≤l.length∧firstBad (fun x:Int=>x) (l.take k)=0) (fun k:Nat=>⟨[(8,.int .i64 k),(7,.int .i64 l.length),(6,litI nl l),(3,.int .i64 0)],[],nid+100,nid⟩) (fun k=>l.length+1 - k) 0 ⟨by omega,rfl⟩ (Cov.go [] [] ?_) (fun k hk=>?_)
 ·simp [cvT,step,res,litI]
 unfold litI
 obtain ⟨hk,hb⟩:=hk
 simp -dsimp only [aqA,↓seqK,↓blkK,↓loopK,step,stepBin,eqB,Nat.add_assoc nid,simprocAttr,LN_succ]
 refine S2.dec (fun h3=>?_) (fun h3=>?_) <;> simp -dsimp only [aqA,↓seqK,↓blkK,↓loopK,step,stepBin,eqB,Nat.add_assoc nid,simprocAttr,LN_succ]
 ·have hkl:k<l.length:=by omega
  have bad:l.getD k 0≠0→firstBad (fun x:Int=>x) l=l.getD k 0:=fun h=>firstBad_hit (x:=l.getD k 0) (by rw [List.getD_eq_getElem?_getD,List.getElem?_eq_getElem hkl]; rfl) hb h
  have good:l.getD k 0=0→firstBad (fun x:Int=>x) (l.take (k+1))=0:=fun h=>firstBad_step (x:=l.getD k 0) (by rw [List.getD_eq_getElem?_getD,List.getElem?_eq_getElem hkl]; rfl) hb h
  refine ⟨by omega,S2.intro (fun h4=>?_) (fun h4=>?_)⟩ <;> simp -dsimp only [aqA,↓seqK,↓blkK,↓loopK,step,stepBin,eqB,Nat.add_assoc nid,simprocAttr,LN_succ]
  ·rw [bad (by simpa using h4)]
   refine RetOK.pure (.inl rfl) rfl ?_
   simp [cvT,step,res]
  ·refine ⟨by unfold inI64; omega,k+1,⟨⟨by omega,good (by simpa using h4)⟩,by omega⟩,Cov.go [] [] ?_⟩
   simp [cvT,step,res,litI]
 ·have hkn:k=l.length:=by omega
  subst hkn
  rw [List.take_length] at hb
  rw [hb]
  refine RetOK.pure (.inl rfl) rfl ?_
  simp [cvT,step,res]
open Go.RowKit Go.Shelf Go.Lib
theorem contains_cc (s:List UInt8) (c:UInt8) (nid:Nat):ACall Tryz.prog 37 [.str s,.str [c]] [] nid (.bool (decide (0≤Lib.indexByte s c))) [] :=
 acall_below (us:=[.string ⟨s.toArray⟩,.string ⟨[c].toArray⟩]) nid Tryz.func37 (by kernel_rfl) (by kernel_rfl) rfl rfl (fun w=>by
  have h:=Any.strings_Contains_one Tryz.lays144 ⟨s.toArray⟩ c w
  have hf:Tryz.lays144_ren.f 144=37:=by kernel_rfl
  rw [hf] at h
  exact h.mono fun e w' ⟨he,hw⟩=>⟨by simpa using he,hw ▸ Below.refl _ _⟩)
open Go.RowKit
def isBinV (c:Int):Bool:=(decide (48≤c) && decide (c≤57)) || (decide (97≤c) && decide (c≤122))
def placeB (c:Int):Bool:=isBinV c || c==46 || c==63 || c==42
structure Waf where
 rows:List (List UInt8)
 pass:List UInt8
deriving DecidableEq
def byteI (b:UInt8):Int:=(b.toNat:Nat)
def wideOf (W:Waf):Nat:=(W.rows.getD 0 []).length
def oddB (r:List UInt8):Bool:=r.any fun c=>!placeB (byteI c)
structure WafOk (W:Waf):Prop where
 pos:0<W.rows.length
 len:W.rows.length≤60
 row:∀ r∈W.rows,r≠[]∧r.length≤60∧r.length=wideOf W∧oddB r=false
 bins:∀ b∈W.pass,isBinV (byteI b)=true
theorem WafOk.wide {W:Waf} (h:WafOk W):0<wideOf W∧wideOf W≤60:=by
 have hm:W.rows.getD 0 []∈W.rows:=by
  rw [List.getD_eq_getElem?_getD,List.getElem?_eq_getElem h.pos]; exact List.getElem_mem _
 obtain ⟨h1,h2,h3,_⟩:=h.row _ hm
 have:0<(W.rows.getD 0 []).length:=List.length_pos_iff.2 h1
 exact ⟨this,h2⟩
theorem WafOk.at {W:Waf} (h:WafOk W) {y:Nat} (hy:y<W.rows.length):(W.rows.getD y []).length=wideOf W∧oddB (W.rows.getD y [])=false:=by
 have hm:W.rows.getD y []∈W.rows:=by
  rw [List.getD_eq_getElem?_getD,List.getElem?_eq_getElem hy]; exact List.getElem_mem _
 exact (h.row _ hm).2.2
theorem firstBad_nil0 {α:Type} {f:α→Int}:∀ {l:List α},(∀ a∈l,f a=0)→firstBad f l=0
 | [],_=>rfl
 | a::l,h=>by
  have h0:=h a (by simp)
  have ih:=firstBad_nil0 (f:=f) (l:=l) fun b hb=>h b (by simp [hb])
  simp [firstBad,h0,ih]
open Go.RowKit
theorem fb_hit {f:Nat→Int} {n k:Nat} (hk:k<n) (h0:∀ j,j<k→f j=0) (hf:f k≠0):firstBad f (List.range n)=f k :=
 firstBad_hit (k:=k) (by simp [hk]) (firstBad_nil0 fun a ha=>h0 a (by
  rw [List.mem_take_iff_getElem] at ha
  obtain ⟨i,hi,rfl⟩:=ha
  simp only [List.getElem_range]
  omega)) hf
theorem fb_zero {f:Nat→Int} {n:Nat} (h0:∀ j,j<n→f j=0):firstBad f (List.range n)=0:=firstBad_nil0 fun a ha=>h0 a (List.mem_range.1 ha)
def litRg (nl:Bool) (l:List (Bs × Int)):PV:=.lit nl l.length [.s fun j=>(l.getD j reg0).1,.i .i64 fun j=>(l.getD j reg0).2]
def litIn (nl:Bool) (l:List (Bs × Bs)):PV:=.lit nl l.length [.s fun j=>(l.getD j ins0).1,.s fun j=>(l.getD j ins0).2]
def dvP (n1 n2:Bool) (d:Dev):PV:=.agg [.str d.name,.int .i64 d.long,.int .i64 d.id,litRg n1 d.regs,litIn n2 d.ins]
def boxL (n1 n2:Bool) (d:Dev):Option ABlk:=some (.box 57 [.str d.name,.int .i64 d.long,.int .i64 d.id,litRg n1 d.regs,litIn n2 d.ins])
def boxRg (x:Bs × Int):Option ABlk:=some (.box 70 [.str x.1,.int .i64 x.2])
def boxIn (x:Bs × Bs):Option ABlk:=some (.box 68 [.str x.1,.str x.2])
theorem pf1_c (ia:Nat) (x:Bs × Int) (a:Bs) (b:Int) (nid:Nat) (h:ia<nid):ACall Tryz.prog 118 [.agg [.str a,.int .i64 b],.ptr ia 0] [(ia,boxRg x)] nid (.bool (a==x.1)) []:=by
 obtain ⟨e1,e2,e3,e4,e5,e6,e7,e8,e9⟩:=id_all h
 refine acall_run c118 (by simp [a118]) ?_
 unfold boxRg
 simp -dsimp only [aqA,↓seqK,↓blkK,↓loopK,step,stepBin,eqB,Nat.add_assoc nid,simprocAttr,e1,e2,e3,e4,e5,e6,e7,e8,e9,a118]
 refine RetOK.go [] [] (.inl rfl) ?_
 simp [a118,cvT,step,res,e1,e2,e3,e4,e5,e6,e7,e8,e9]
theorem if1_c (ia:Nat) (x:Bs × Bs) (a:Bs) (b:Int) (nid:Nat) (h:ia<nid):ACall Tryz.prog 171 [.agg [.str a,.int .i64 b],.ptr ia 0] [(ia,boxIn x)] nid (.bool (a==x.2)) []:=by
 obtain ⟨e1,e2,e3,e4,e5,e6,e7,e8,e9⟩:=id_all h
 refine acall_run c171 (by simp [a171]) ?_
 unfold boxIn
 simp -dsimp only [aqA,↓seqK,↓blkK,↓loopK,step,stepBin,eqB,Nat.add_assoc nid,simprocAttr,e1,e2,e3,e4,e5,e6,e7,e8,e9,a171]
 refine RetOK.go [] [] (.inl rfl) ?_
 simp [a171,cvT,step,res,e1,e2,e3,e4,e5,e6,e7,e8,e9]
theorem if2_c (ia:Nat) (x:Bs × Bs) (a b:Bs) (nid:Nat) (h:ia<nid):ACall Tryz.prog 173 [.agg [.str a,.str b],.ptr ia 0] [(ia,boxIn x)] nid (.bool (a==x.1)) []:=by
 obtain ⟨e1,e2,e3,e4,e5,e6,e7,e8,e9⟩:=id_all h
 refine acall_run c173 (by simp [a173]) ?_
 unfold boxIn
 simp -dsimp only [aqA,↓seqK,↓blkK,↓loopK,step,stepBin,eqB,Nat.add_assoc nid,simprocAttr,e1,e2,e3,e4,e5,e6,e7,e8,e9,a173]
 refine RetOK.go [] [] (.inl rfl) ?_
 simp [a173,cvT,step,res,e1,e2,e3,e4,e5,e6,e7,e8,e9]
theorem any_takeR (l:List (Bs × Int)) (k:Nat) (hk:k≤l.length) (F:Bs × Int→Bool):((List.range k).any fun j=>F (l.getD j reg0))=(l.take k).any F:=by
 rw [Bool.eq_iff_iff,List.any_eq_true,List.any_eq_true]
 constructor
 ·rintro ⟨i,hi,h⟩
  have hi':=List.mem_range.1 hi
  refine ⟨l.getD i reg0,?_,h⟩
  rw [List.getD_eq_getElem?_getD,List.getElem?_eq_getElem (by omega)]
  exact List.mem_take_iff_getElem.2 ⟨i,by omega,rfl⟩
 ·rintro ⟨x,hx,h⟩
  obtain ⟨i,hi,rfl⟩:=List.mem_take_iff_getElem.1 hx
  refine ⟨i,List.mem_range.2 (by omega),?_⟩
  rw [List.getD_eq_getElem?_getD,List.getElem?_eq_getElem (by omega)]
  exact h
theorem any_takeI (l:List (Bs × Bs)) (k:Nat) (hk:k≤l.length) (F:Bs × Bs→Bool):((List.range k).any fun j=>F (l.getD j ins0))=(l.take k).any F:=by
 rw [Bool.eq_iff_iff,List.any_eq_true,List.any_eq_true]
 constructor
 ·rintro ⟨i,hi,h⟩
  have hi':=List.mem_range.1 hi
  refine ⟨l.getD i ins0,?_,h⟩
  rw [List.getD_eq_getElem?_getD,List.getElem?_eq_getElem (by omega)]
  exact List.mem_take_iff_getElem.2 ⟨i,by omega,rfl⟩
 ·rintro ⟨x,hx,h⟩
  obtain ⟨i,hi,rfl⟩:=List.mem_take_iff_getElem.1 hx
  refine ⟨i,List.mem_range.2 (by omega),?_⟩
  rw [List.getD_eq_getElem?_getD,List.getElem?_eq_getElem (by omega)]
  exact h
theorem regDup_c (ia:Nat) (nl:Bool) (R:List (Bs × Int)) (k:Nat) (x:Bs × Int) (nid:Nat) (h:ia<nid) (hk:k≤R.length) (hR:R.length≤1000) :
  ACall Tryz.prog 117 [.lit nl k [.s fun j=>(R.getD j reg0).1,.i .i64 fun j=>(R.getD j reg0).2],.fn 118 [.ptr ia 0]] [(ia,boxRg x)] nid (.bool ((R.take k).any fun y=>y.1==x.1)) []:=by
 rw [← any_takeR R k hk]
 exact containsRg_h _ _ _ (fun j=>(R.getD j reg0).1==x.1) nl k _ _ nid (scp1 h rfl) (by simp [lowAll,idsOfs,idsOf,h]) (by omega) (fun j hj nid' hn=>pf1_c ia x _ _ nid' (by omega))
theorem own_c (ia:Nat) (nl:Bool) (R:List (Bs × Int)) (x:Bs × Bs) (nid:Nat) (h:ia<nid) (hR:R.length≤1000) :
  ACall Tryz.prog 117 [litRg nl R,.fn 171 [.ptr ia 0]] [(ia,boxIn x)] nid (.bool (R.any fun y=>y.1==x.2)) []:=by
 have e:=any_takeR R R.length (Nat.le_refl _) (fun y=>y.1==x.2)
 rw [List.take_length] at e
 rw [← e]
 exact containsRg_h _ _ _ (fun j=>(R.getD j reg0).1==x.2) nl R.length _ _ nid (scp1 h rfl) (by simp [lowAll,idsOfs,idsOf,h]) (by omega) (fun j hj nid' hn=>if1_c ia x _ _ nid' (by omega))
theorem insDup_c (ia:Nat) (nl:Bool) (R:List (Bs × Bs)) (k:Nat) (x:Bs × Bs) (nid:Nat) (h:ia<nid) (hk:k≤R.length) (hR:R.length≤1000) :
  ACall Tryz.prog 172 [.lit nl k [.s fun j=>(R.getD j ins0).1,.s fun j=>(R.getD j ins0).2],.fn 173 [.ptr ia 0]] [(ia,boxIn x)] nid (.bool ((R.take k).any fun y=>y.1==x.1)) []:=by
 rw [← any_takeI R k hk]
 exact containsIn_h _ _ _ (fun j=>(R.getD j ins0).1==x.1) nl k _ _ nid (scp1 h rfl) (by simp [lowAll,idsOfs,idsOf,h]) (by omega) (fun j hj nid' hn=>if2_c ia x _ _ nid' (by omega))
structure DevS (d:Dev):Prop where
 nm:d.name.length≤1000
 lg:inI64 d.long
 idb:inI64 d.id
 rl:d.regs.length≤1000
 rs:∀ x∈d.regs,x.1.length≤1000∧inI64 x.2
 il:d.ins.length≤1000
 is:∀ x∈d.ins,x.1.length≤1000∧x.2.length≤1000
theorem indexByte_in {l:List UInt8} {c:UInt8}:0≤Lib.indexByte l c↔c∈l:=by
 induction l with
 | nil=>simp [Lib.indexByte]
 | cons b l ih =>
  have hg:=Lib.indexByte_ge l c
  simp only [Lib.indexByte,List.mem_cons]
  by_cases h:b=c
  ·simp [h]
  ·have h1:(b==c)=false:=by simpa using h
   have h2:¬ c=b:=fun e=>h e.symm
   simp only [h1,Bool.false_eq_true,if_false,h2,false_or]
   split
   ·rename_i h3
    have:Lib.indexByte l c = -1:=by simpa using h3
    rw [← ih]
    omega
   ·rename_i h3
    have:Lib.indexByte l c ≠ -1:=by simpa using h3
    rw [← ih]
    omega
theorem instrFault_c (n1 n2:Bool) (d:Dev) (i nid:Nat) (hd:DevS d) (hi:i<d.ins.length):ACall Tryz.prog 119 [dvP n1 n2 d,.int .i64 i] [] nid (.int .i64 (insE d i)) []:=by
 have hm:d.ins.getD i ins0∈d.ins:=by rw [List.getD_eq_getElem?_getD,List.getElem?_eq_getElem hi]; exact List.getElem_mem _
 have hb:=hd.is _ hm
 have hil:=hd.il
 refine acall_sr c119 (by simp [a119]) ?_
 unfold a119 dvP litRg litIn
 refine SR.seq ?_
 simp -dsimp only [aqA,↓seqK,↓blkK,↓loopK,step,stepBin,eqB,Nat.add_assoc nid,simprocAttr,LN_succ]
 refine SR.seqTo ⟨[(5,.ptr (nid+20) 0),(1,.int .i64 i),(2,.ptr nid 0)],[(nid+20,boxIn (d.ins.getD i ins0)),(nid,boxL n1 n2 d)],nid+100,nid⟩ ?_ ?_
 ·simp -dsimp only [aqA,↓seqK,↓blkK,↓loopK,step,stepBin,eqB,Nat.add_assoc nid,simprocAttr,LN_succ]
  refine ⟨⟨by omega,by omega⟩,Cov.go [(nid+20,nid+28)] [] ?_⟩
  simp [cvT,step,res,boxIn,boxL,litRg,litIn,-List.getD_eq_getElem?_getD]
 obtain ⟨v,hI⟩:∃ v,insE d i=v:=⟨_,rfl⟩
 rw [hI]
 unfold insE at hI
 have hdup:=fun m (hm:nid+20<m)=>insDup_c (nid+20) n2 d.ins i (d.ins.getD i ins0) m hm (by omega) (by omega)
 generalize hx:d.ins.getD i ins0=x at *
 refine SR.seqTo ⟨[(6,.bool (ownB d x.2)),(5,.ptr (nid+20) 0),(1,.int .i64 i),(2,.ptr nid 0)],[(nid+20,boxIn x),(nid,boxL n1 n2 d)],nid+200,nid⟩ ?_ ?_
 ·unfold boxL boxIn litRg litIn
  simp -dsimp only [aqA,↓seqK,↓blkK,↓loopK,step,stepBin,eqB,Nat.add_assoc nid,simprocAttr,LN_succ]
  refine CallO.on (own_c (nid+20) n1 d.regs x _ (by omega) hd.rl) (subH_get (by simp only [aqA,↓seqK,↓blkK,↓loopK,step,stepBin,eqB,Nat.add_assoc nid,simprocAttr,LN_succ,boxIn])) ?_
  simp -dsimp only [aqA,↓seqK,↓blkK,↓loopK,step,stepBin,eqB,Nat.add_assoc nid,simprocAttr,LN_succ]
  refine Cov.go [] [] ?_
  simp [cvT,step,res,ownB,boxIn,boxL,litRg,litIn,-List.getD_eq_getElem?_getD]
 have hcn:∀ k,ACall Tryz.prog 37 [.str x.1,.str [48]] [] k (.bool (x.1.contains 48)) []:=fun k=>by
  have h:=contains_cc x.1 48 k
  have e:decide (0≤Lib.indexByte x.1 48)=x.1.contains 48:=by
   rw [Bool.eq_iff_iff,decide_eq_true_eq,indexByte_in,List.contains_iff_mem]
  rwa [e] at h
 have hbf:=fun k=>bitsFaultR_c x.1 k (by omega)
 by_cases h1:((x.1.length:Nat):Int)=d.long
 rotate_left
 ·rw [if_pos h1] at hI
  rw [← hI]
  have b1:(((x.1.length:Nat):Int) != d.long)=true:=by rw [bne_iff_ne]; exact h1
  unfold boxL boxIn litRg litIn
  refine SR.run (t:=.mk) ?_
  simp -dsimp only [aqA,↓seqK,↓blkK,↓loopK,step,stepBin,eqB,Nat.add_assoc nid,simprocAttr,LN_succ,b1]
  refine RetOK.go [] [] (.inl rfl) ?_
  simp [a119,cvT,step,res]
 rw [if_neg (by simpa using h1)] at hI
 have b1:(((x.1.length:Nat):Int) != d.long)=false:=by rw [bne_eq_false_iff_eq]; exact h1
 cases h2:bitsOk x.1 <;> rw [h2] at hI <;> simp only [h2,if_true,if_false,Bool.false_eq_true] at hbf
 ·rw [if_pos rfl] at hI
  rw [← hI]
  unfold boxL boxIn litRg litIn
  refine SR.run (t:=.mk) ?_
  simp -dsimp only [aqA,↓seqK,↓blkK,↓loopK,step,stepBin,eqB,Nat.add_assoc nid,simprocAttr,LN_succ,b1]
  refine CallO.pure (hbf _) ?_
  simp -dsimp only [aqA,↓seqK,↓blkK,↓loopK,step,stepBin,eqB,Nat.add_assoc nid,simprocAttr,LN_succ]
  refine RetOK.go [] [] (.inl rfl) ?_
  simp [a119,cvT,step,res]
 rw [if_neg (by simp)] at hI
 cases h3:x.1.contains 48 <;> rw [h3] at hI <;> simp only [h3] at hcn
 ·rw [if_pos rfl] at hI
  rw [← hI]
  unfold boxL boxIn litRg litIn
  refine SR.run (t:=.mk) ?_
  simp -dsimp only [aqA,↓seqK,↓blkK,↓loopK,step,stepBin,eqB,Nat.add_assoc nid,simprocAttr,LN_succ,b1]
  refine CallO.pure (hbf _) ?_
  simp -dsimp only [aqA,↓seqK,↓blkK,↓loopK,step,stepBin,eqB,Nat.add_assoc nid,simprocAttr,LN_succ]
  refine CallO.pure (hcn _) ?_
  simp -dsimp only [aqA,↓seqK,↓blkK,↓loopK,step,stepBin,eqB,Nat.add_assoc nid,simprocAttr,LN_succ]
  refine RetOK.go [] [] (.inl rfl) ?_
  simp [a119,cvT,step,res]
 rw [if_neg (by simp)] at hI
 cases h4:(d.ins.take i).any (fun y=>y.1==x.1) <;> rw [h4] at hI <;> simp only [h4] at hdup
 rotate_left
 ·rw [if_pos rfl] at hI
  rw [← hI]
  unfold boxL boxIn litRg litIn
  refine SR.run (t:=.mk) ?_
  simp -dsimp only [aqA,↓seqK,↓blkK,↓loopK,step,stepBin,eqB,Nat.add_assoc nid,simprocAttr,LN_succ,b1]
  refine CallO.pure (hbf _) ?_
  simp -dsimp only [aqA,↓seqK,↓blkK,↓loopK,step,stepBin,eqB,Nat.add_assoc nid,simprocAttr,LN_succ]
  refine CallO.pure (hcn _) ?_
  simp -dsimp only [aqA,↓seqK,↓blkK,↓loopK,step,stepBin,eqB,Nat.add_assoc nid,simprocAttr,LN_succ]
  refine ⟨⟨by omega,by omega⟩,?_⟩
  refine CallO.on (hdup _ (by omega)) (subH_get (by simp only [aqA,↓seqK,↓blkK,↓loopK,step,stepBin,eqB,Nat.add_assoc nid,simprocAttr,LN_succ,boxIn])) ?_
  simp -dsimp only [aqA,↓seqK,↓blkK,↓loopK,step,stepBin,eqB,Nat.add_assoc nid,simprocAttr,LN_succ]
  refine RetOK.go [] [] (.inl rfl) ?_
  simp [a119,cvT,step,res]
 rw [if_neg (by simp)] at hI
 have e5:(x.2==[98,121,112,97,115,115])=decide (x.2=byL):=by rw [Bool.eq_iff_iff,beq_iff_eq,decide_eq_true_eq]; rfl
 have e6:(x.2==[105,100,99,111,100,101])=decide (x.2=idL):=by rw [Bool.eq_iff_iff,beq_iff_eq,decide_eq_true_eq]; rfl
 have e7:(d.id != 0)=decide (d.id≠0):=by rw [Bool.eq_iff_iff]; simp
 by_cases h5:x.2=byL
 ·rw [if_pos (.inl h5)] at hI
  rw [← hI]
  rw [decide_eq_true h5] at e5
  unfold boxL boxIn litRg litIn
  refine SR.run (t:=.mk) ?_
  simp -dsimp only [aqA,↓seqK,↓blkK,↓loopK,step,stepBin,eqB,Nat.add_assoc nid,simprocAttr,LN_succ,b1]
  refine CallO.pure (hbf _) ?_
  simp -dsimp only [aqA,↓seqK,↓blkK,↓loopK,step,stepBin,eqB,Nat.add_assoc nid,simprocAttr,LN_succ]
  refine CallO.pure (hcn _) ?_
  simp -dsimp only [aqA,↓seqK,↓blkK,↓loopK,step,stepBin,eqB,Nat.add_assoc nid,simprocAttr,LN_succ]
  refine ⟨⟨by omega,by omega⟩,?_⟩
  refine CallO.on (hdup _ (by omega)) (subH_get (by simp only [aqA,↓seqK,↓blkK,↓loopK,step,stepBin,eqB,Nat.add_assoc nid,simprocAttr,LN_succ,boxIn])) ?_
  simp -dsimp only [aqA,↓seqK,↓blkK,↓loopK,step,stepBin,eqB,Nat.add_assoc nid,simprocAttr,LN_succ,e5]
  refine RetOK.go [] [] (.inl rfl) ?_
  simp [a119,cvT,step,res]
 rw [decide_eq_false h5] at e5
 by_cases h6:x.2=idL∧d.id≠0
 ·rw [if_pos (.inr (.inl h6))] at hI
  rw [← hI]
  rw [decide_eq_true h6.1] at e6
  rw [decide_eq_true h6.2] at e7
  unfold boxL boxIn litRg litIn
  refine SR.run (t:=.mk) ?_
  simp -dsimp only [aqA,↓seqK,↓blkK,↓loopK,step,stepBin,eqB,Nat.add_assoc nid,simprocAttr,LN_succ,b1]
  refine CallO.pure (hbf _) ?_
  simp -dsimp only [aqA,↓seqK,↓blkK,↓loopK,step,stepBin,eqB,Nat.add_assoc nid,simprocAttr,LN_succ]
  refine CallO.pure (hcn _) ?_
  simp -dsimp only [aqA,↓seqK,↓blkK,↓loopK,step,stepBin,eqB,Nat.add_assoc nid,simprocAttr,LN_succ]
  refine ⟨⟨by omega,by omega⟩,?_⟩
  refine CallO.on (hdup _ (by omega)) (subH_get (by simp only [aqA,↓seqK,↓blkK,↓loopK,step,stepBin,eqB,Nat.add_assoc nid,simprocAttr,LN_succ,boxIn])) ?_
  simp -dsimp only [aqA,↓seqK,↓blkK,↓loopK,step,stepBin,eqB,Nat.add_assoc nid,simprocAttr,LN_succ,e5,e6,e7]
  refine RetOK.go [] [] (.inl rfl) ?_
  simp [a119,cvT,step,res]
 have h67:(decide (x.2=idL) && decide (d.id≠0))=false:=by
  rw [Bool.and_eq_false_iff,decide_eq_false_iff_not,decide_eq_false_iff_not]
  exact Decidable.not_and_iff_or_not.1 h6
 have hfin:(if x.2=byL∨(x.2=idL∧d.id≠0)∨ownB d x.2=true then (0:Int) else 8)=if ownB d x.2=true then 0 else 8:=by
  by_cases h:ownB d x.2=true
  ·rw [if_pos h,if_pos (.inr (.inr h))]
  ·rw [if_neg h,if_neg (by rintro (h1 | h1 | h1); exact h5 h1; exact h6 h1; exact h h1)]
 rw [hfin] at hI
 rw [← hI]
 unfold boxL boxIn litRg litIn
 refine SR.run (t:=.mk) ?_
 cases h8:decide (x.2=idL) <;> rw [h8] at e6 h67
 ·simp -dsimp only [aqA,↓seqK,↓blkK,↓loopK,step,stepBin,eqB,Nat.add_assoc nid,simprocAttr,LN_succ,b1]
  refine CallO.pure (hbf _) ?_
  simp -dsimp only [aqA,↓seqK,↓blkK,↓loopK,step,stepBin,eqB,Nat.add_assoc nid,simprocAttr,LN_succ]
  refine CallO.pure (hcn _) ?_
  simp -dsimp only [aqA,↓seqK,↓blkK,↓loopK,step,stepBin,eqB,Nat.add_assoc nid,simprocAttr,LN_succ]
  refine ⟨⟨by omega,by omega⟩,?_⟩
  refine CallO.on (hdup _ (by omega)) (subH_get (by simp only [aqA,↓seqK,↓blkK,↓loopK,step,stepBin,eqB,Nat.add_assoc nid,simprocAttr,LN_succ,boxIn])) ?_
  simp -dsimp only [aqA,↓seqK,↓blkK,↓loopK,step,stepBin,eqB,Nat.add_assoc nid,simprocAttr,LN_succ,e5,e6]
  cases ownB d x.2 <;> simp -dsimp only [aqA,↓seqK,↓blkK,↓loopK,step,stepBin,eqB,Nat.add_assoc nid,simprocAttr,LN_succ]
  ·refine RetOK.go [] [] (.inl rfl) ?_
   simp [a119,cvT,step,res]
  ·refine RetOK.go [] [] (.inl rfl) ?_
   simp [a119,cvT,step,res]
 ·rw [Bool.true_and] at h67
  rw [h67] at e7
  simp -dsimp only [aqA,↓seqK,↓blkK,↓loopK,step,stepBin,eqB,Nat.add_assoc nid,simprocAttr,LN_succ,b1]
  refine CallO.pure (hbf _) ?_
  simp -dsimp only [aqA,↓seqK,↓blkK,↓loopK,step,stepBin,eqB,Nat.add_assoc nid,simprocAttr,LN_succ]
  refine CallO.pure (hcn _) ?_
  simp -dsimp only [aqA,↓seqK,↓blkK,↓loopK,step,stepBin,eqB,Nat.add_assoc nid,simprocAttr,LN_succ]
  refine ⟨⟨by omega,by omega⟩,?_⟩
  refine CallO.on (hdup _ (by omega)) (subH_get (by simp only [aqA,↓seqK,↓blkK,↓loopK,step,stepBin,eqB,Nat.add_assoc nid,simprocAttr,LN_succ,boxIn])) ?_
  simp -dsimp only [aqA,↓seqK,↓blkK,↓loopK,step,stepBin,eqB,Nat.add_assoc nid,simprocAttr,LN_succ,e5,e6,e7]
  cases ownB d x.2 <;> simp -dsimp only [aqA,↓seqK,↓blkK,↓loopK,step,stepBin,eqB,Nat.add_assoc nid,simprocAttr,LN_succ]
  ·refine RetOK.go [] [] (.inl rfl) ?_
   simp [a119,cvT,step,res]
  ·refine RetOK.go [] [] (.inl rfl) ?_
   simp [a119,cvT,step,res]
open Go.RowKit
def partsE (d:Dev):Int:=if 10<d.regs.length∨100<d.ins.length then 2 else if regsE d≠0 then regsE d else inssE d
theorem strEq (a b:Bs):(a==b)=decide (a=b):=by rw [Bool.eq_iff_iff,beq_iff_eq,decide_eq_true_eq]
set_option maxHeartbeats 4000000 in
theorem partsFault_c (n1 n2:Bool) (d:Dev) (nid:Nat) (hd:DevS d):ACall Tryz.prog 66 [dvP n1 n2 d] [] nid (.int .i64 (partsE d)) []:=by
 have hrl:=hd.rl
 have hil:=hd.il
 refine acall_sr c66 (by simp [a66]) ?_
 unfold a66 dvP litRg litIn
 refine SR.seq ?_
 simp -dsimp only [aqA,↓seqK,↓blkK,↓loopK,step,stepBin,eqB,Nat.add_assoc nid,simprocAttr,LN_succ]
 by_cases h0:10<d.regs.length∨100<d.ins.length
 ·have e:partsE d=2:=by unfold partsE; rw [if_pos h0]
  rw [e]
  refine SR.run (t:=.mk) ?_
  by_cases h1:10<d.regs.length
  ·simp -dsimp only [aqA,↓seqK,↓blkK,↓loopK,step,stepBin,eqB,Nat.add_assoc nid,simprocAttr,LN_succ,show decide ((10:Int)<(d.regs.length:Nat))=true from decide_eq_true (by omega)]
   refine RetOK.go [] [] (.inl rfl) ?_
   simp [a66,cvT,step,res]
  ·simp -dsimp only [aqA,↓seqK,↓blkK,↓loopK,step,stepBin,eqB,Nat.add_assoc nid,simprocAttr,LN_succ,show decide ((10:Int)<(d.regs.length:Nat))=false from decide_eq_false (by omega),show decide ((100:Int)<(d.ins.length:Nat))=true from decide_eq_true (by omega)]
   refine RetOK.go [] [] (.inl rfl) ?_
   simp [a66,cvT,step,res]
 have e:partsE d=if regsE d≠0 then regsE d else inssE d:=by unfold partsE; rw [if_neg h0]
 rw [e]
 refine SR.seqTo ⟨[(1,.ptr nid 0)],[(nid,boxL n1 n2 d)],nid+200,nid⟩ ?_ ?_
 ·simp -dsimp only [aqA,↓seqK,↓blkK,↓loopK,step,stepBin,eqB,Nat.add_assoc nid,simprocAttr,LN_succ,show decide ((10:Int)<(d.regs.length:Nat))=false from decide_eq_false (by omega),show decide ((100:Int)<(d.ins.length:Nat))=false from decide_eq_false (by omega)]
  refine Cov.go [] [] ?_
  simp [cvT,step,res,boxL,litRg,litIn,-List.getD_eq_getElem?_getD]
 refine SR.seqW (ι:={_u:Unit // regsE d=0}) (fun _=>⟨[(1,.ptr nid 0)],[(nid,boxL n1 n2 d)],nid+9000,nid⟩) ?_ (fun ⟨_,hr0⟩=>?_)
 ·refine SR.seqTo ⟨[(18,litRg n1 d.regs),(19,.int .i64 d.regs.length),(20,.int .i64 0),(1,.ptr nid 0)],[(nid,boxL n1 n2 d)],nid+300,nid⟩ ?_ ?_
  ·unfold boxL litRg litIn
   simp -dsimp only [aqA,↓seqK,↓blkK,↓loopK,step,stepBin,eqB,Nat.add_assoc nid,simprocAttr,LN_succ]
   refine Cov.go [] [] ?_
   simp [cvT,step,res,-List.getD_eq_getElem?_getD]
  refine SR.block ?_
  refine SR.loopP (fun k:Nat=>k≤d.regs.length∧∀ j,j<k→regE d.regs j=0) (fun k=>⟨[(18,litRg n1 d.regs),(19,.int .i64 d.regs.length),(20,.int .i64 k),(1,.ptr nid 0)],[(nid,boxL n1 n2 d)],nid+400,nid⟩) (fun k=>d.regs.length+1 - k) 0 ⟨by omega,fun j hj=>by omega⟩ (Cov.go [] [] ?_) (fun k hk=>?_)
  ·simp [cvT,step,res,boxL,litRg,litIn,-List.getD_eq_getElem?_getD]
  obtain ⟨hk,hall⟩:=hk
  refine SR.seq ?_
  unfold boxL litRg litIn
  simp -dsimp only [aqA,↓seqK,↓blkK,↓loopK,step,stepBin,eqB,Nat.add_assoc nid,simprocAttr,LN_succ]
  refine SR.seq ?_
  simp -dsimp only [aqA,↓seqK,↓blkK,↓loopK,step,stepBin,eqB,Nat.add_assoc nid,simprocAttr,LN_succ]
  refine S2.dec (fun h3=>?_) (fun h3=>?_) <;> simp -dsimp only [aqA,↓seqK,↓blkK,↓loopK,step,stepBin,eqB,Nat.add_assoc nid,simprocAttr,LN_succ]
  ·have hkl:k<d.regs.length:=by omega
   have hm:d.regs.getD k reg0∈d.regs:=by rw [List.getD_eq_getElem?_getD,List.getElem?_eq_getElem hkl]; exact List.getElem_mem _
   have hb:=hd.rs _ hm
   have hret:regE d.regs k≠0→(if regsE d≠0 then regsE d else inssE d)=regE d.regs k:=fun h=>by
    have:regsE d=regE d.regs k:=fb_hit hkl hall h
    rw [this,if_pos h]
   generalize (if regsE d≠0 then regsE d else inssE d)=v at *
   obtain ⟨w,hw⟩:∃ w,regE d.regs k=w:=⟨_,rfl⟩
   rw [hw] at hret
   have hw0:=hw
   unfold regE at hw
   have hdup:=fun m (hm:nid+420<m)=>regDup_c (nid+420) n1 d.regs k (d.regs.getD k reg0) m hm (by omega) (by omega)
   generalize hx:d.regs.getD k reg0=x at *
   refine SR.seqW (ι:={_u:Unit // w=0}) (fun _=>⟨[(18,litRg n1 d.regs),(19,.int .i64 d.regs.length),(20,.int .i64 k),(1,.ptr nid 0)],[(nid,boxL n1 n2 d)],nid+3000,nid⟩) ?_ (fun ⟨_,hw1⟩=>?_)
   ·refine SR.block ?_
    refine SR.seqTo ⟨[(3,.int .i64 k),(4,.ptr (nid+420) 0),(18,litRg n1 d.regs),(19,.int .i64 d.regs.length),(20,.int .i64 k),(1,.ptr nid 0)],[(nid+420,boxRg x),(nid,boxL n1 n2 d)],nid+1000,nid⟩ ?_ ?_
    ·simp -dsimp only [aqA,↓seqK,↓blkK,↓loopK,step,stepBin,eqB,Nat.add_assoc nid,simprocAttr,LN_succ,hx]
     refine ⟨⟨by omega,by omega⟩,Cov.go [(nid+420,nid+416)] [] ?_⟩
     simp [cvT,step,res,boxRg,boxL,litRg,litIn,-List.getD_eq_getElem?_getD]
    have hkc:=fun m=>keyR_c x.1 m
    have hin:=fun m=>in_c x.2 1 1000 m
    have e5:=strEq x.1 [98,121,112,97,115,115]
    have e6:=strEq x.1 [105,100,99,111,100,101]
    refine SR.run (t:=.mk) ?_
    unfold boxRg boxL litRg litIn
    simp -dsimp only [aqA,↓seqK,↓blkK,↓loopK,step,stepBin,eqB,Nat.add_assoc nid,simprocAttr,LN_succ]
    refine CallO.pure (hkc _) ?_
    cases hk1:keyB x.1 <;> rw [hk1] at hw
    ·rw [if_pos rfl] at hw
     subst hw
     rw [hret (by omega)]
     simp -dsimp only [aqA,↓seqK,↓blkK,↓loopK,step,stepBin,eqB,Nat.add_assoc nid,simprocAttr,LN_succ]
     refine RetOK.go [] [] (.inl rfl) ?_
     simp [a66,cvT,step,res]
    rw [if_neg (by simp)] at hw
    simp -dsimp only [aqA,↓seqK,↓blkK,↓loopK,step,stepBin,eqB,Nat.add_assoc nid,simprocAttr,LN_succ]
    by_cases h5:x.1=byL
    ·rw [if_pos (.inl h5)] at hw
     subst hw
     rw [hret (by omega)]
     rw [decide_eq_true (show x.1=[98,121,112,97,115,115] from h5)] at e5
     simp -dsimp only [aqA,↓seqK,↓blkK,↓loopK,step,stepBin,eqB,Nat.add_assoc nid,simprocAttr,LN_succ,e5]
     refine RetOK.go [] [] (.inl rfl) ?_
     simp [a66,cvT,step,res]
    rw [decide_eq_false (show ¬ x.1=[98,121,112,97,115,115] from h5)] at e5
    by_cases h6:x.1=idL
    ·rw [if_pos (.inr (.inl h6))] at hw
     subst hw
     rw [hret (by omega)]
     rw [decide_eq_true (show x.1=[105,100,99,111,100,101] from h6)] at e6
     simp -dsimp only [aqA,↓seqK,↓blkK,↓loopK,step,stepBin,eqB,Nat.add_assoc nid,simprocAttr,LN_succ,e5,e6]
     refine RetOK.go [] [] (.inl rfl) ?_
     simp [a66,cvT,step,res]
    rw [decide_eq_false (show ¬ x.1=[105,100,99,111,100,101] from h6)] at e6
    simp -dsimp only [aqA,↓seqK,↓blkK,↓loopK,step,stepBin,eqB,Nat.add_assoc nid,simprocAttr,LN_succ,e5,e6]
    refine ⟨⟨by omega,by omega⟩,?_⟩
    refine CallO.on (hdup _ (by omega)) (subH_get (by simp only [aqA,↓seqK,↓blkK,↓loopK,step,stepBin,eqB,Nat.add_assoc nid,simprocAttr,LN_succ,boxRg])) ?_
    cases h7:(d.regs.take k).any (fun y=>y.1==x.1) <;> rw [h7] at hw
    rotate_left
    ·rw [if_pos (.inr (.inr rfl))] at hw
     subst hw
     rw [hret (by omega)]
     simp -dsimp only [aqA,↓seqK,↓blkK,↓loopK,step,stepBin,eqB,Nat.add_assoc nid,simprocAttr,LN_succ]
     refine RetOK.go [] [] (.inl rfl) ?_
     simp [a66,cvT,step,res]
    rw [if_neg (by rintro (h | h | h); exact h5 h; exact h6 h; cases h)] at hw
    simp -dsimp only [aqA,↓seqK,↓blkK,↓loopK,step,stepBin,eqB,Nat.add_assoc nid,simprocAttr,LN_succ]
    refine CallO.pure (hin _) ?_
    cases h8:outB x.2 1 1000 <;> rw [h8] at hw <;> simp -dsimp only [aqA,↓seqK,↓blkK,↓loopK,step,stepBin,eqB,Nat.add_assoc nid,simprocAttr,LN_succ,Bool.not_true,Bool.not_false]
    ·rw [if_neg (by simp)] at hw
     refine ⟨⟨(),hw.symm⟩,Cov.go [] [] ?_⟩
     simp [cvT,step,res,boxL,litRg,litIn,-List.getD_eq_getElem?_getD]
    ·rw [if_pos rfl] at hw
     subst hw
     rw [hret (by omega)]
     refine RetOK.go [] [] (.inl rfl) ?_
     simp [a66,cvT,step,res]
   subst hw1
   refine SR.run (t:=.mk) ?_
   unfold boxL litRg litIn
   simp -dsimp only [aqA,↓seqK,↓blkK,↓loopK,step,stepBin,eqB,Nat.add_assoc nid,simprocAttr,LN_succ]
   refine ⟨by unfold inI64; omega,k+1,⟨⟨by omega,fun j hj=>?_⟩,by omega⟩,Cov.go [] [] ?_⟩
   ·rcases (by omega:j<k∨j=k) with hj | hj
    ·exact hall j hj
    ·rw [hj]; exact hw0
   ·simp [cvT,step,res,boxL,litRg,litIn,-List.getD_eq_getElem?_getD]
  ·refine ⟨⟨(),fb_zero fun j hj=>hall j (by omega)⟩,Cov.go [] [] ?_⟩
   simp [cvT,step,res,boxL,litRg,litIn,-List.getD_eq_getElem?_getD]
 rw [if_neg (by simpa using hr0)] at *
 clear e
 refine SR.seqW (ι:={_u:Unit // inssE d=0}) (fun _=>⟨[(1,.ptr nid 0)],[(nid,boxL n1 n2 d)],nid+19000,nid⟩) ?_ (fun ⟨_,hi0⟩=>?_)
 ·refine SR.seqTo ⟨[(55,.int .i64 d.ins.length),(56,.int .i64 0),(1,.ptr nid 0)],[(nid,boxL n1 n2 d)],nid+9300,nid⟩ ?_ ?_
  ·unfold boxL litRg litIn
   simp -dsimp only [aqA,↓seqK,↓blkK,↓loopK,step,stepBin,eqB,Nat.add_assoc nid,simprocAttr,LN_succ]
   refine Cov.go [] [] ?_
   simp [cvT,step,res,-List.getD_eq_getElem?_getD]
  refine SR.block ?_
  refine SR.loopP (fun k:Nat=>k≤d.ins.length∧∀ j,j<k→insE d j=0) (fun k=>⟨[(55,.int .i64 d.ins.length),(56,.int .i64 k),(1,.ptr nid 0)],[(nid,boxL n1 n2 d)],nid+9400,nid⟩) (fun k=>d.ins.length+1 - k) 0 ⟨by omega,fun j hj=>by omega⟩ (Cov.go [] [] ?_) (fun k hk=>?_)
  ·simp [cvT,step,res,boxL,litRg,litIn,-List.getD_eq_getElem?_getD]
  obtain ⟨hk,hall⟩:=hk
  refine SR.seq ?_
  simp -dsimp only [aqA,↓seqK,↓blkK,↓loopK,step,stepBin,eqB,Nat.add_assoc nid,simprocAttr,LN_succ]
  refine SR.seq ?_
  simp -dsimp only [aqA,↓seqK,↓blkK,↓loopK,step,stepBin,eqB,Nat.add_assoc nid,simprocAttr,LN_succ]
  refine S2.dec (fun h3=>?_) (fun h3=>?_) <;> simp -dsimp only [aqA,↓seqK,↓blkK,↓loopK,step,stepBin,eqB,Nat.add_assoc nid,simprocAttr,LN_succ]
  ·have hkl:k<d.ins.length:=by omega
   have hret:insE d k≠0→inssE d=insE d k:=fun h=>fb_hit hkl hall h
   have hfc:=fun m=>instrFault_c n1 n2 d k m hd hkl
   generalize inssE d=v at *
   have hw0:∀ j,j<k+1→insE d k=0→insE d j=0:=fun j hj h=>by
    rcases (by omega:j<k∨j=k) with hj | hj
    ·exact hall j hj
    ·rw [hj]; exact h
   unfold dvP litRg litIn at hfc
   generalize insE d k=w at *
   unfold boxL litRg litIn
   refine SR.run (t:=.mk) ?_
   simp -dsimp only [aqA,↓seqK,↓blkK,↓loopK,step,stepBin,eqB,Nat.add_assoc nid,simprocAttr,LN_succ]
   refine CallO.pure (hfc _) ?_
   simp -dsimp only [aqA,↓seqK,↓blkK,↓loopK,step,stepBin,eqB,Nat.add_assoc nid,simprocAttr,LN_succ]
   by_cases hwz:w=0
   ·have b1:(w != 0)=false:=by simp [hwz]
    simp -dsimp only [aqA,↓seqK,↓blkK,↓loopK,step,stepBin,eqB,Nat.add_assoc nid,simprocAttr,LN_succ,b1]
    refine ⟨by unfold inI64; omega,k+1,⟨⟨by omega,fun j hj=>hw0 j hj hwz⟩,by omega⟩,Cov.go [] [] ?_⟩
    simp [cvT,step,res,boxL,litRg,litIn,-List.getD_eq_getElem?_getD]
   ·have b1:(w != 0)=true:=by simp [hwz]
    rw [hret hwz]
    simp -dsimp only [aqA,↓seqK,↓blkK,↓loopK,step,stepBin,eqB,Nat.add_assoc nid,simprocAttr,LN_succ,b1]
    refine RetOK.go [] [] (.inl rfl) ?_
    simp [a66,cvT,step,res]
  ·refine ⟨⟨(),fb_zero fun j hj=>hall j (by omega)⟩,Cov.go [] [] ?_⟩
   simp [cvT,step,res,boxL,litRg,litIn,-List.getD_eq_getElem?_getD]
 rw [hi0]
 refine SR.run (t:=.mk) ?_
 simp -dsimp only [aqA,↓seqK,↓blkK,↓loopK,step,stepBin,eqB,Nat.add_assoc nid,simprocAttr,LN_succ]
 refine RetOK.go [] [] (.inl rfl) ?_
 simp [a66,cvT,step,res]
structure Port where
 d:Dev
 m1:Bool
 m2:Bool
 instr:Bs
 shift:Bs
 iD:MK→Bool
 iV:MK→Bs
 oD:MK→Bool
 oV:MK→Bs
def regIs (d:Dev) (n:Bs):Bool:=decide (n=byL) || (decide (n=idL) && decide (d.id≠0)) || ownB d n
def selP (d:Dev) (code:Bs):Bs × Int:=if code=[] then (if regIs d idL=true then regOf d idL else (byL,1)) else selV d code
def idBits (n:Int):Bs:=(List.range 32).map fun i=>UInt8.ofNat (48+(n.toNat >>> i) % 2)
def captV (p:Port):Bs :=
 if (selP p.d p.instr).1=byL then [48]
 else if (selP p.d p.instr).1=idL then idBits p.d.id
 else bif p.iD (.s (selP p.d p.instr).1) then p.iV (.s (selP p.d p.instr).1) else []
def capIR (d:Dev):Bs:=49::List.replicate (d.long - 1).toNat 48
def actV (st:Nat) (p:Port) (b:UInt8):Port × UInt8 :=
 if st=0 then ({ p with instr:=[] },b)
 else if st=3 then ({ p with shift:=captV p },b)
 else if st=4∨st=11 then ({ p with shift:=p.shift.drop 1++[b] },p.shift.getD 0 0)
 else if st=8 then
  (if (selP p.d p.instr).1≠byL∧(selP p.d p.instr).1≠idL then { p with oD:=fun q=>if q=.s (selP p.d p.instr).1 then true else p.oD q,oV:=fun q=>if q=.s (selP p.d p.instr).1 then p.shift else p.oV q } else p,b)
 else if st=10 then ({ p with shift:=capIR p.d },b)
 else if st=15 then ({ p with instr:=p.shift },b)
 else (p,b)
def shifts (st:Nat):Bool:=(st==4) || (st==11)
def clockP (st:Nat):List Port→UInt8→List Port × UInt8
 | [],b=>([],b)
 | p::r,b=>((actV st p b).1::(clockP st r (actV st p b).2).1,(clockP st r (actV st p b).2).2)
open Go.RowKit
theorem first_or (F:Nat→Bool):∀ n,(∃ k,k<n∧F k=true∧∀ j,j<k→F j=false)∨∀ j,j<n→F j=false
 | 0=>.inr fun j hj=>by omega
 | n+1=>by
  rcases first_or F n with ⟨k,hk,h1,h2⟩ | h
  ·exact .inl ⟨k,by omega,h1,h2⟩
  ·cases hf:F n
   ·exact .inr fun j hj=>by
     rcases (by omega:j<n∨j=n) with hj | hj
     ·exact h j hj
     ·rw [hj]; exact hf
   ·exact .inl ⟨n,by omega,hf,h⟩
theorem find_at {l:List (Bs × Int)} {n:Bs} {k:Nat} (hk:k<l.length) (h:((l.getD k reg0).1==n)=true) (h0:∀ j,j<k→((l.getD j reg0).1==n)=false):(l.find? fun x=>x.1==n)=some (l.getD k reg0):=by
 have e:∀ j (hj:j<l.length),l.getD j reg0=l[j]:=fun j hj=>by rw [List.getD_eq_getElem?_getD,List.getElem?_eq_getElem hj]; rfl
 rw [List.find?_eq_some_iff_getElem]
 refine ⟨h,k,hk,(e k hk).symm,fun j hj=>?_⟩
 have:=h0 j hj
 rw [e j (by omega)] at this
 simp [this]
theorem find_no {l:List (Bs × Int)} {n:Bs} (h0:∀ j,j<l.length→((l.getD j reg0).1==n)=false):(l.find? fun x=>x.1==n)=none:=by
 rw [List.find?_eq_none]
 intro x hx
 obtain ⟨i,hi,rfl⟩:=List.getElem_of_mem hx
 have:=h0 i hi
 rw [List.getD_eq_getElem?_getD,List.getElem?_eq_getElem hi] at this
 simp only [Option.getD_some] at this
 simp [this]
theorem ownB_find (d:Dev) (n:Bs):ownB d n=(d.regs.find? fun x=>x.1==n).isSome:=by
 unfold ownB
 rw [Bool.eq_iff_iff,List.any_eq_true,List.find?_isSome]
theorem tr1_c (ia:Nat) (n:Bs) (a:Bs) (b:Int) (nid:Nat) (h:ia<nid):ACall Tryz.prog 188 [.agg [.str a,.int .i64 b],.ptr ia 0] [(ia,some (.box 9 [.str n]))] nid (.bool (a==n)) []:=by
 obtain ⟨e1,e2,e3,e4,e5,e6,e7,e8,e9⟩:=id_all h
 refine acall_run c188 (by simp [a188]) ?_
 simp -dsimp only [aqA,↓seqK,↓blkK,↓loopK,step,stepBin,eqB,Nat.add_assoc nid,simprocAttr,e1,e2,e3,e4,e5,e6,e7,e8,e9,a188]
 refine RetOK.go [] [] (.inl rfl) ?_
 simp [a188,cvT,step,res,e1,e2,e3,e4,e5,e6,e7,e8,e9]
theorem trIdx_c (ia:Nat) (n:Bs) (nl:Bool) (R:List (Bs × Int)) (nid:Nat) (h:ia<nid) (hR:R.length≤1000) :
  ACall Tryz.prog 170 [litRg nl R,.fn 188 [.ptr ia 0]] [(ia,some (.box 9 [.str n]))] nid (.int .i64 (idxR (fun j=>(R.getD j reg0).1==n) R.length)) [] :=
 indexRg_h _ _ _ (fun j=>(R.getD j reg0).1==n) nl R.length _ _ nid (scp1 h rfl) (by simp [lowAll,idsOfs,idsOf,h]) (by omega) (fun j hj nid' hn=>tr1_c ia n _ _ nid' (by omega))
theorem register_c (n1 n2:Bool) (d:Dev) (n:Bs) (nid:Nat) (hR:d.regs.length≤1000) :
  ACall Tryz.prog 146 [dvP n1 n2 d,.str n] [] nid (.tup [.agg [.str (regOf d n).1,.int .i64 (regOf d n).2],.bool (regIs d n)]) []:=by
 have ef:=ownB_find d n
 refine acall_sr c146 (by simp [a146]) ?_
 unfold a146 dvP litRg litIn
 refine SR.seqTo ⟨[(2,.ptr (nid+10) 0),(3,.ptr (nid+11) 0),(4,.ptr (nid+12) 0),(5,.bool false)],[(nid+10,boxL n1 n2 d),(nid+11,some (.box 9 [.str n])),(nid+12,boxRg reg0)],nid+100,nid⟩ ?_ ?_
 ·simp -dsimp only [aqA,↓seqK,↓blkK,↓loopK,step,stepBin,eqB,Nat.add_assoc nid,simprocAttr,LN_succ]
  refine Cov.go [(nid+10,nid),(nid+11,nid+4),(nid+12,nid+8)] [] ?_
  simp [cvT,step,res,boxL,boxRg,reg0,litRg,litIn,-List.getD_eq_getElem?_getD]
 have e5:=strEq n [98,121,112,97,115,115]
 have e6:=strEq n [105,100,99,111,100,101]
 have hix:=fun m (hm:nid+11<m)=>trIdx_c (nid+11) n n1 d.regs m hm hR
 unfold boxL boxRg litRg litIn
 unfold litRg at hix
 by_cases h5:n=byL
 ·have e:regOf d n=(byL,1):=by unfold regOf; rw [if_pos h5]
  have e':regIs d n=true:=by unfold regIs; simp [h5]
  rw [e,e']
  rw [decide_eq_true (show n=[98,121,112,97,115,115] from h5)] at e5
  refine SR.run (t:=.mk) ?_
  simp -dsimp only [aqA,↓seqK,↓blkK,↓loopK,step,stepBin,eqB,Nat.add_assoc nid,simprocAttr,LN_succ,e5]
  refine RetOK.go [] [] (.inl rfl) ?_
  simp [a146,cvT,step,res,byL]
 rw [decide_eq_false (show ¬ n=[98,121,112,97,115,115] from h5)] at e5
 by_cases h6:n=idL∧d.id≠0
 ·have e:regOf d n=(idL,32):=by unfold regOf; rw [if_neg h5,if_pos h6]
  have e':regIs d n=true:=by unfold regIs; simp [h6]
  rw [e,e']
  rw [decide_eq_true (show n=[105,100,99,111,100,101] from h6.1)] at e6
  have b1:(d.id != 0)=true:=by simp [h6.2]
  refine SR.run (t:=.mk) ?_
  simp -dsimp only [aqA,↓seqK,↓blkK,↓loopK,step,stepBin,eqB,Nat.add_assoc nid,simprocAttr,LN_succ,e5,e6,b1]
  refine RetOK.go [] [] (.inl rfl) ?_
  simp [a146,cvT,step,res,idL]
 have e:regOf d n=(d.regs.find? fun x=>x.1==n).getD reg0:=by unfold regOf; rw [if_neg h5,if_neg h6]
 have e':regIs d n=(d.regs.find? fun x=>x.1==n).isSome:=by
  unfold regIs
  rw [← ef,decide_eq_false h5,← Bool.decide_and,decide_eq_false h6]
  simp
 rw [e,e']
 clear e e' ef
 refine SR.seqTo ⟨[(2,.ptr (nid+10) 0),(3,.ptr (nid+11) 0),(4,.ptr (nid+12) 0),(5,.bool false)],[(nid+10,boxL n1 n2 d),(nid+11,some (.box 9 [.str n])),(nid+12,boxRg reg0)],nid+200,nid⟩ ?_ ?_
 ·by_cases h7:n=idL
  ·rw [decide_eq_true (show n=[105,100,99,111,100,101] from h7)] at e6
   have b1:(d.id != 0)=false:=by simp; exact Classical.byContradiction fun h=>h6 ⟨h7,h⟩
   simp -dsimp only [aqA,↓seqK,↓blkK,↓loopK,step,stepBin,eqB,Nat.add_assoc nid,simprocAttr,LN_succ,e5,e6,b1]
   refine Cov.go [] [] ?_
   simp [cvT,step,res,boxL,boxRg,litRg,litIn,-List.getD_eq_getElem?_getD]
  ·rw [decide_eq_false (show ¬ n=[105,100,99,111,100,101] from h7)] at e6
   simp -dsimp only [aqA,↓seqK,↓blkK,↓loopK,step,stepBin,eqB,Nat.add_assoc nid,simprocAttr,LN_succ,e5,e6]
   refine Cov.go [] [] ?_
   simp [cvT,step,res,boxL,boxRg,litRg,litIn,-List.getD_eq_getElem?_getD]
 unfold boxL boxRg litRg litIn
 refine SR.seq ?_
 simp -dsimp only [aqA,↓seqK,↓blkK,↓loopK,step,stepBin,eqB,Nat.add_assoc nid,simprocAttr,LN_succ]
 refine CallO.on (hix _ (by omega)) (subH_get (by simp only [aqA,↓seqK,↓blkK,↓loopK,step,stepBin,eqB,Nat.add_assoc nid,simprocAttr,LN_succ])) ?_
 rcases first_or (fun j=>(d.regs.getD j reg0).1==n) d.regs.length with ⟨k,hk,h1,h2⟩ | h0
 ·have b1:decide (((k:Nat):Int)<0)=false:=decide_eq_false (by omega)
  rw [find_at (l:=d.regs) (n:=n) hk h1 h2,idxR_at hk h1 h2]
  simp -dsimp only [aqA,↓seqK,↓blkK,↓loopK,step,stepBin,eqB,Nat.add_assoc nid,simprocAttr,LN_succ]
  refine SR.run (t:=.mk) ?_
  simp -dsimp only [aqA,↓seqK,↓blkK,↓loopK,step,stepBin,eqB,Nat.add_assoc nid,simprocAttr,LN_succ,b1]
  refine ⟨⟨by omega,by omega⟩,?_⟩
  refine RetOK.go [] [] (.inl rfl) ?_
  simp [a146,cvT,step,res,-List.getD_eq_getElem?_getD]
 ·rw [find_no (l:=d.regs) (n:=n) h0,idxR_no h0]
  simp -dsimp only [aqA,↓seqK,↓blkK,↓loopK,step,stepBin,eqB,Nat.add_assoc nid,simprocAttr,LN_succ]
  refine SR.run (t:=.mk) ?_
  simp -dsimp only [aqA,↓seqK,↓blkK,↓loopK,step,stepBin,eqB,Nat.add_assoc nid,simprocAttr,LN_succ]
  refine RetOK.go [] [] (.inl rfl) ?_
  simp [a146,cvT,step,res,reg0,-List.getD_eq_getElem?_getD]
open Go.RowKit
theorem df1_c (ia:Nat) (n1 n2:Bool) (x:Dev) (a:Bs) (b c:Int) (nb:Bool) (ln:Nat) (cs:List Col) (nb2:Bool) (ln2:Nat) (cs2:List Col) (nid:Nat) (h:ia<nid):ACall Tryz.prog 64 [.agg [.str a,.int .i64 b,.int .i64 c,.lit nb ln cs,.lit nb2 ln2 cs2],.ptr ia 0] [(ia,boxL n1 n2 x)] nid (.bool (a==x.name)) []:=by
 obtain ⟨e1,e2,e3,e4,e5,e6,e7,e8,e9⟩:=id_all h
 refine acall_run c64 (by simp [a64]) ?_
 unfold boxL litRg litIn
 simp -dsimp only [aqA,↓seqK,↓blkK,↓loopK,step,stepBin,eqB,Nat.add_assoc nid,simprocAttr,e1,e2,e3,e4,e5,e6,e7,e8,e9,a64]
 refine RetOK.go [] [] (.inl rfl) ?_
 simp [a64,cvT,step,res,e1,e2,e3,e4,e5,e6,e7,e8,e9,ColsEq.refl]
theorem any_takeD (l:List Dev) (k:Nat) (hk:k≤l.length) (F:Dev→Bool):((List.range k).any fun j=>F (l.getD j dev0))=(l.take k).any F:=by
 rw [Bool.eq_iff_iff,List.any_eq_true,List.any_eq_true]
 constructor
 ·rintro ⟨i,hi,h⟩
  have hi':=List.mem_range.1 hi
  refine ⟨l.getD i dev0,?_,h⟩
  rw [List.getD_eq_getElem?_getD,List.getElem?_eq_getElem (by omega)]
  exact List.mem_take_iff_getElem.2 ⟨i,by omega,rfl⟩
 ·rintro ⟨x,hx,h⟩
  obtain ⟨i,hi,rfl⟩:=List.mem_take_iff_getElem.1 hx
  refine ⟨i,List.mem_range.2 (by omega),?_⟩
  rw [List.getD_eq_getElem?_getD,List.getElem?_eq_getElem (by omega)]
  exact h
theorem devDup_c (ia:Nat) (n0:Bool) (m1 m2:Bool) (n1 n2:Nat→Bool) (D:List Dev) (k:Nat) (x:Dev) (nid:Nat) (h:ia<nid) (hk:k≤D.length) (hD:D.length≤1000) :
  ACall Tryz.prog 42 [.lit n0 k (devP n1 n2 D),.fn 64 [.ptr ia 0]] [(ia,boxL m1 m2 x)] nid (.bool ((D.take k).any fun y=>y.name==x.name)) []:=by
 rw [← any_takeD D k hk]
 exact containsDv_h _ _ _ (fun j=>(D.getD j dev0).name==x.name) n0 k _ _ _ _ _ _ _ _ _ nid (scp1 h rfl) (by simp [lowAll,idsOfs,idsOf,h]) (by omega) (fun j hj nid' hn=>df1_c ia m1 m2 x _ _ _ _ _ _ _ _ _ nid' (by omega))
set_option maxHeartbeats 4000000 in
theorem devsFault_c (n0:Bool) (n1 n2:Nat→Bool) (D:List Dev) (nid:Nat) (hD:D.length≤1000) (hS:∀ d∈D,DevS d):ACall Tryz.prog 17 [.lit n0 D.length (devP n1 n2 D)] [] nid (.int .i64 (devsE D)) []:=by
 refine acall_sr c17 (by simp [a17]) ?_
 unfold a17
 refine SR.seq ?_
 simp -dsimp only [aqA,↓seqK,↓blkK,↓loopK,step,stepBin,eqB,Nat.add_assoc nid,simprocAttr,LN_succ]
 by_cases h0:D.length=0
 ·have e:devsE D=8:=by unfold devsE; rw [if_pos h0]
  rw [e]
  have b1:(((D.length:Nat):Int)==0)=true:=by rw [h0]; rfl
  refine SR.run (t:=.mk) ?_
  simp -dsimp only [aqA,↓seqK,↓blkK,↓loopK,step,stepBin,eqB,Nat.add_assoc nid,simprocAttr,LN_succ,b1]
  refine RetOK.go [] [] (.inl rfl) ?_
  simp [a17,cvT,step,res]
 have b1:(((D.length:Nat):Int)==0)=false:=by rw [beq_eq_false_iff_ne]; omega
 by_cases h20:20<D.length
 ·have e:devsE D=2:=by unfold devsE; rw [if_neg h0,if_pos h20]
  rw [e]
  have b2:decide ((20:Int)<((D.length:Nat):Int))=true:=decide_eq_true (by omega)
  refine SR.run (t:=.mk) ?_
  simp -dsimp only [aqA,↓seqK,↓blkK,↓loopK,step,stepBin,eqB,Nat.add_assoc nid,simprocAttr,LN_succ,b1,b2]
  refine RetOK.go [] [] (.inl rfl) ?_
  simp [a17,cvT,step,res]
 have b2:decide ((20:Int)<((D.length:Nat):Int))=false:=decide_eq_false (by omega)
 have e:devsE D=firstBad (devE D) (List.range D.length):=by unfold devsE; rw [if_neg h0,if_neg h20]
 rw [e]
 refine SR.seqTo ⟨[(0,.lit n0 D.length (devP n1 n2 D))],[],nid+200,nid⟩ ?_ ?_
 ·simp -dsimp only [aqA,↓seqK,↓blkK,↓loopK,step,stepBin,eqB,Nat.add_assoc nid,simprocAttr,LN_succ,b1,b2]
  refine Cov.go [] [] ?_
  simp [cvT,step,res,ColsEq.refl]
 refine SR.seqW (ι:={_u:Unit // firstBad (devE D) (List.range D.length)=0}) (fun _=>⟨[],[],nid+9000,nid⟩) ?_ (fun ⟨_,hr0⟩=>?_)
 ·refine SR.seqTo ⟨[(14,.lit n0 D.length (devP n1 n2 D)),(15,.int .i64 D.length),(16,.int .i64 0),(0,.lit n0 D.length (devP n1 n2 D))],[],nid+300,nid⟩ ?_ ?_
  ·simp -dsimp only [aqA,↓seqK,↓blkK,↓loopK,step,stepBin,eqB,Nat.add_assoc nid,simprocAttr,LN_succ]
   refine Cov.go [] [] ?_
   simp [cvT,step,res,ColsEq.refl]
  refine SR.block ?_
  refine SR.loopP (fun k:Nat=>k≤D.length∧∀ j,j<k→devE D j=0) (fun k=>⟨[(14,.lit n0 D.length (devP n1 n2 D)),(15,.int .i64 D.length),(16,.int .i64 k),(0,.lit n0 D.length (devP n1 n2 D))],[],nid+400,nid⟩) (fun k=>D.length+1 - k) 0 ⟨by omega,fun j hj=>by omega⟩ (Cov.go [] [] ?_) (fun k hk=>?_)
  ·simp [cvT,step,res,ColsEq.refl]
  obtain ⟨hk,hall⟩:=hk
  refine SR.seq ?_
  simp -dsimp only [aqA,↓seqK,↓blkK,↓loopK,step,stepBin,eqB,Nat.add_assoc nid,simprocAttr,LN_succ]
  refine SR.seq ?_
  simp -dsimp only [aqA,↓seqK,↓blkK,↓loopK,step,stepBin,eqB,Nat.add_assoc nid,simprocAttr,LN_succ]
  refine S2.dec (fun h3=>?_) (fun h3=>?_) <;> simp -dsimp only [aqA,↓seqK,↓blkK,↓loopK,step,stepBin,eqB,Nat.add_assoc nid,simprocAttr,LN_succ]
  ·have hkl:k<D.length:=by omega
   have hm:D.getD k dev0∈D:=by rw [List.getD_eq_getElem?_getD,List.getElem?_eq_getElem hkl]; exact List.getElem_mem _
   have hb:=hS _ hm
   have hret:devE D k≠0→firstBad (devE D) (List.range D.length)=devE D k:=fun h=>fb_hit hkl hall h
   generalize firstBad (devE D) (List.range D.length)=v at *
   obtain ⟨w,hw⟩:∃ w,devE D k=w:=⟨_,rfl⟩
   rw [hw] at hret
   have hw0:=hw
   unfold devE at hw
   have hdup:=fun m (hm:nid+420<m)=>devDup_c (nid+420) n0 (n1 k) (n2 k) n1 n2 D k (D.getD k dev0) m hm (by omega) (by omega)
   have hpf:=fun m=>partsFault_c (n1 k) (n2 k) (D.getD k dev0) m hb
   have hpe:partsE (D.getD k dev0)=_:=rfl
   refine SR.seqW (ι:={_u:Unit // w=0}) (fun _=>⟨[(14,.lit n0 D.length (devP n1 n2 D)),(15,.int .i64 D.length),(16,.int .i64 k),(0,.lit n0 D.length (devP n1 n2 D))],[],nid+3000,nid⟩) ?_ (fun ⟨_,hw1⟩=>?_)
   ·refine SR.block ?_
    refine SR.seqTo ⟨[(3,.int .i64 k),(4,.ptr (nid+420) 0),(14,.lit n0 D.length (devP n1 n2 D)),(15,.int .i64 D.length),(16,.int .i64 k),(0,.lit n0 D.length (devP n1 n2 D))],[(nid+420,boxL (n1 k) (n2 k) (D.getD k dev0))],nid+1000,nid⟩ ?_ ?_
    ·unfold devP
     simp -dsimp only [aqA,↓seqK,↓blkK,↓loopK,step,stepBin,eqB,Nat.add_assoc nid,simprocAttr,LN_succ]
     refine ⟨⟨by omega,by omega⟩,Cov.go [(nid+420,nid+416)] [] ?_⟩
     simp [cvT,step,res,boxL,litRg,litIn,-List.getD_eq_getElem?_getD]
    generalize hx:D.getD k dev0=x at *
    have hkc:=fun m=>keyR_c x.name m
    have hin1:=fun m=>in_c x.long 2 32 m
    have hin2:=fun m=>in_c x.id 0 4294967295 m
    refine SR.seqW (ι:={_u:Unit // partsE x=w}) (fun _=>⟨[(3,.int .i64 k),(4,.ptr (nid+420) 0),(14,.lit n0 D.length (devP n1 n2 D)),(15,.int .i64 D.length),(16,.int .i64 k),(0,.lit n0 D.length (devP n1 n2 D))],[(nid+420,boxL (n1 k) (n2 k) x)],nid+2000,nid⟩) ?_ (fun ⟨_,hw2⟩=>?_)
    ·refine SR.block ?_
     refine SR.run (t:=.mk) ?_
     unfold boxL litRg litIn
     simp -dsimp only [aqA,↓seqK,↓blkK,↓loopK,step,stepBin,eqB,Nat.add_assoc nid,simprocAttr,LN_succ]
     refine CallO.pure (hkc _) ?_
     cases hk1:keyB x.name <;> rw [hk1] at hw
     ·rw [if_pos rfl] at hw
      subst hw
      rw [hret (by omega)]
      simp -dsimp only [aqA,↓seqK,↓blkK,↓loopK,step,stepBin,eqB,Nat.add_assoc nid,simprocAttr,LN_succ]
      refine RetOK.go [] [] (.inl rfl) ?_
      simp [a17,cvT,step,res]
     rw [if_neg (by simp)] at hw
     simp -dsimp only [aqA,↓seqK,↓blkK,↓loopK,step,stepBin,eqB,Nat.add_assoc nid,simprocAttr,LN_succ]
     refine ⟨⟨by omega,by omega⟩,?_⟩
     simp -dsimp only [aqA,↓seqK,↓blkK,↓loopK,step,stepBin,eqB,Nat.add_assoc nid,simprocAttr,LN_succ]
     refine CallO.on (hdup _ (by omega)) (subH_get (by simp only [aqA,↓seqK,↓blkK,↓loopK,step,stepBin,eqB,Nat.add_assoc nid,simprocAttr,LN_succ,boxL,litRg,litIn])) ?_
     cases h7:(D.take k).any (fun y=>y.name==x.name) <;> rw [h7] at hw
     rotate_left
     ·rw [if_pos rfl] at hw
      subst hw
      rw [hret (by omega)]
      simp -dsimp only [aqA,↓seqK,↓blkK,↓loopK,step,stepBin,eqB,Nat.add_assoc nid,simprocAttr,LN_succ]
      refine RetOK.go [] [] (.inl rfl) ?_
      simp [a17,cvT,step,res]
     rw [if_neg (by simp)] at hw
     simp -dsimp only [aqA,↓seqK,↓blkK,↓loopK,step,stepBin,eqB,Nat.add_assoc nid,simprocAttr,LN_succ]
     refine CallO.pure (hin1 _) ?_
     cases h8:outB x.long 2 32 <;> rw [h8] at hw <;> simp -dsimp only [aqA,↓seqK,↓blkK,↓loopK,step,stepBin,eqB,Nat.add_assoc nid,simprocAttr,LN_succ,Bool.not_true,Bool.not_false]
     rotate_left
     ·rw [if_pos (.inl rfl)] at hw
      subst hw
      rw [hret (by omega)]
      refine RetOK.go [] [] (.inl rfl) ?_
      simp [a17,cvT,step,res]
     refine CallO.pure (hin2 _) ?_
     cases h9:outB x.id 0 4294967295 <;> rw [h9] at hw <;> simp -dsimp only [aqA,↓seqK,↓blkK,↓loopK,step,stepBin,eqB,Nat.add_assoc nid,simprocAttr,LN_succ,Bool.not_true,Bool.not_false]
     rotate_left
     ·rw [if_pos (.inr rfl)] at hw
      subst hw
      rw [hret (by omega)]
      refine RetOK.go [] [] (.inl rfl) ?_
      simp [a17,cvT,step,res]
     rw [if_neg (by simp)] at hw
     by_cases hid:x.id=0
     ·have b3:(x.id != 0)=false:=by simp [hid]
      rw [if_neg (by simp [hid])] at hw
      simp -dsimp only [aqA,↓seqK,↓blkK,↓loopK,step,stepBin,eqB,Nat.add_assoc nid,simprocAttr,LN_succ,b3]
      refine ⟨⟨(),hw⟩,Cov.go [] [] ?_⟩
      simp [cvT,step,res,ColsEq.refl,boxL,litRg,litIn,-List.getD_eq_getElem?_getD]
     have b3:(x.id != 0)=true:=by simp [hid]
     by_cases hev:x.id.tmod 2=0
     ·have b4:(x.id.tmod 2==0)=true:=by simp [hev]
      rw [if_pos ⟨hid,hev⟩] at hw
      subst hw
      rw [hret (by omega)]
      simp -dsimp only [aqA,↓seqK,↓blkK,↓loopK,step,stepBin,eqB,Nat.add_assoc nid,simprocAttr,LN_succ,b3,b4]
      refine RetOK.go [] [] (.inl rfl) ?_
      simp [a17,cvT,step,res]
     ·have b4:(x.id.tmod 2==0)=false:=by simp [hev]
      rw [if_neg (by simp [hev])] at hw
      simp -dsimp only [aqA,↓seqK,↓blkK,↓loopK,step,stepBin,eqB,Nat.add_assoc nid,simprocAttr,LN_succ,b3,b4]
      refine ⟨⟨(),hw⟩,Cov.go [] [] ?_⟩
      simp [cvT,step,res,ColsEq.refl,boxL,litRg,litIn,-List.getD_eq_getElem?_getD]
    ·refine SR.run (t:=.mk) ?_
     unfold boxL litRg litIn
     unfold dvP litRg litIn at hpf
     simp -dsimp only [aqA,↓seqK,↓blkK,↓loopK,step,stepBin,eqB,Nat.add_assoc nid,simprocAttr,LN_succ]
     refine CallO.pure (hpf _) ?_
     rw [hw2]
     simp -dsimp only [aqA,↓seqK,↓blkK,↓loopK,step,stepBin,eqB,Nat.add_assoc nid,simprocAttr,LN_succ]
     by_cases hwz:w=0
     ·have b1:(w != 0)=false:=by simp [hwz]
      simp -dsimp only [aqA,↓seqK,↓blkK,↓loopK,step,stepBin,eqB,Nat.add_assoc nid,simprocAttr,LN_succ,b1]
      refine ⟨⟨(),hwz⟩,Cov.go [] [] ?_⟩
      simp [cvT,step,res,ColsEq.refl]
     ·have b1:(w != 0)=true:=by simp [hwz]
      rw [hret hwz]
      simp -dsimp only [aqA,↓seqK,↓blkK,↓loopK,step,stepBin,eqB,Nat.add_assoc nid,simprocAttr,LN_succ,b1]
      refine RetOK.go [] [] (.inl rfl) ?_
      simp [a17,cvT,step,res]
   subst hw1
   refine SR.run (t:=.mk) ?_
   simp -dsimp only [aqA,↓seqK,↓blkK,↓loopK,step,stepBin,eqB,Nat.add_assoc nid,simprocAttr,LN_succ]
   refine ⟨by unfold inI64; omega,k+1,⟨⟨by omega,fun j hj=>?_⟩,by omega⟩,Cov.go [] [] ?_⟩
   ·rcases (by omega:j<k∨j=k) with hj | hj
    ·exact hall j hj
    ·rw [hj]; exact hw0
   ·simp [cvT,step,res,ColsEq.refl]
  ·refine ⟨⟨(),fb_zero fun j hj=>hall j (by omega)⟩,Cov.go [] [] ?_⟩
   simp [cvT,step,res,ColsEq.refl]
 rw [hr0]
 refine SR.run (t:=.mk) ?_
 simp -dsimp only [aqA,↓seqK,↓blkK,↓loopK,step,stepBin,eqB,Nat.add_assoc nid,simprocAttr,LN_succ]
 refine RetOK.go [] [] (.inl rfl) ?_
 simp [a17,cvT,step,res]
open Go.RowKit
theorem rf1_c (ia:Nat) (x:Bs × Int) (a:Bs) (b:Int) (nid:Nat) (h:ia<nid):ACall Tryz.prog 186 [.agg [.str a,.int .i64 b],.ptr ia 0] [(ia,boxRg x)] nid (.bool (a==x.1)) []:=by
 obtain ⟨e1,e2,e3,e4,e5,e6,e7,e8,e9⟩:=id_all h
 refine acall_run c186 (by simp [a186]) ?_
 unfold boxRg
 simp -dsimp only [aqA,↓seqK,↓blkK,↓loopK,step,stepBin,eqB,Nat.add_assoc nid,simprocAttr,e1,e2,e3,e4,e5,e6,e7,e8,e9,a186]
 refine RetOK.go [] [] (.inl rfl) ?_
 simp [a186,cvT,step,res,e1,e2,e3,e4,e5,e6,e7,e8,e9]
theorem if3_c (ia:Nat) (x:Bs × Bs) (a b:Bs) (nid:Nat) (h:ia<nid):ACall Tryz.prog 187 [.agg [.str a,.str b],.ptr ia 0] [(ia,boxIn x)] nid (.bool (a==x.1)) []:=by
 obtain ⟨e1,e2,e3,e4,e5,e6,e7,e8,e9⟩:=id_all h
 refine acall_run c187 (by simp [a187]) ?_
 unfold boxIn
 simp -dsimp only [aqA,↓seqK,↓blkK,↓loopK,step,stepBin,eqB,Nat.add_assoc nid,simprocAttr,e1,e2,e3,e4,e5,e6,e7,e8,e9,a187]
 refine RetOK.go [] [] (.inl rfl) ?_
 simp [a187,cvT,step,res,e1,e2,e3,e4,e5,e6,e7,e8,e9]
theorem df2_c (ia:Nat) (n1 n2:Bool) (x:Dev) (a:Bs) (b c:Int) (nb:Bool) (ln:Nat) (cs:List Col) (nb2:Bool) (ln2:Nat) (cs2:List Col) (nid:Nat) (h:ia<nid):ACall Tryz.prog 142 [.agg [.str a,.int .i64 b,.int .i64 c,.lit nb ln cs,.lit nb2 ln2 cs2],.ptr ia 0] [(ia,boxL n1 n2 x)] nid (.bool (a==x.name)) []:=by
 obtain ⟨e1,e2,e3,e4,e5,e6,e7,e8,e9⟩:=id_all h
 refine acall_run c142 (by simp [a142]) ?_
 unfold boxL litRg litIn
 simp -dsimp only [aqA,↓seqK,↓blkK,↓loopK,step,stepBin,eqB,Nat.add_assoc nid,simprocAttr,e1,e2,e3,e4,e5,e6,e7,e8,e9,a142]
 refine RetOK.go [] [] (.inl rfl) ?_
 simp [a142,cvT,step,res,e1,e2,e3,e4,e5,e6,e7,e8,e9,ColsEq.refl]
theorem regDup2_c (ia:Nat) (nl:Bool) (R:List (Bs × Int)) (k:Nat) (x:Bs × Int) (nid:Nat) (h:ia<nid) (hk:k≤R.length) (hR:R.length≤1000) :
  ACall Tryz.prog 117 [.lit nl k [.s fun j=>(R.getD j reg0).1,.i .i64 fun j=>(R.getD j reg0).2],.fn 186 [.ptr ia 0]] [(ia,boxRg x)] nid (.bool ((R.take k).any fun y=>y.1==x.1)) []:=by
 rw [← any_takeR R k hk]
 exact containsRg_h _ _ _ (fun j=>(R.getD j reg0).1==x.1) nl k _ _ nid (scp1 h rfl) (by simp [lowAll,idsOfs,idsOf,h]) (by omega) (fun j hj nid' hn=>rf1_c ia x _ _ nid' (by omega))
theorem insDup2_c (ia:Nat) (nl:Bool) (R:List (Bs × Bs)) (k:Nat) (x:Bs × Bs) (nid:Nat) (h:ia<nid) (hk:k≤R.length) (hR:R.length≤1000) :
  ACall Tryz.prog 172 [.lit nl k [.s fun j=>(R.getD j ins0).1,.s fun j=>(R.getD j ins0).2],.fn 187 [.ptr ia 0]] [(ia,boxIn x)] nid (.bool ((R.take k).any fun y=>y.1==x.1)) []:=by
 rw [← any_takeI R k hk]
 exact containsIn_h _ _ _ (fun j=>(R.getD j ins0).1==x.1) nl k _ _ nid (scp1 h rfl) (by simp [lowAll,idsOfs,idsOf,h]) (by omega) (fun j hj nid' hn=>if3_c ia x _ _ nid' (by omega))
theorem devDup2_c (ia:Nat) (n0:Bool) (m1 m2:Bool) (n1 n2:Nat→Bool) (D:List Dev) (k:Nat) (x:Dev) (nid:Nat) (h:ia<nid) (hk:k≤D.length) (hD:D.length≤1000) :
  ACall Tryz.prog 42 [.lit n0 k (devP n1 n2 D),.fn 142 [.ptr ia 0]] [(ia,boxL m1 m2 x)] nid (.bool ((D.take k).any fun y=>y.name==x.name)) []:=by
 rw [← any_takeD D k hk]
 exact containsDv_h _ _ _ (fun j=>(D.getD j dev0).name==x.name) n0 k _ _ _ _ _ _ _ _ _ nid (scp1 h rfl) (by simp [lowAll,idsOfs,idsOf,h]) (by omega) (fun j hj nid' hn=>df2_c ia m1 m2 x _ _ _ _ _ _ _ _ _ nid' (by omega))
set_option maxHeartbeats 4000000 in
theorem registersFault_c (n1 n2:Bool) (d:Dev) (nid:Nat) (hd:DevS d):ACall Tryz.prog 144 [dvP n1 n2 d] [] nid (.int .i64 (regsE d)) []:=by
 have hrl:=hd.rl
 have hil:=hd.il
 refine acall_sr c144 (by simp [a144]) ?_
 unfold a144 dvP litRg litIn
 refine SR.seqTo ⟨[(1,.ptr nid 0)],[(nid,boxL n1 n2 d)],nid+200,nid⟩ ?_ ?_
 ·simp -dsimp only [aqA,↓seqK,↓blkK,↓loopK,step,stepBin,eqB,Nat.add_assoc nid,simprocAttr,LN_succ]
  refine Cov.go [] [] ?_
  simp [cvT,step,res,boxL,litRg,litIn,-List.getD_eq_getElem?_getD]
 refine SR.seqW (ι:={_u:Unit // regsE d=0}) (fun _=>⟨[(1,.ptr nid 0)],[(nid,boxL n1 n2 d)],nid+9000,nid⟩) ?_ (fun ⟨_,hr0⟩=>?_)
 ·refine SR.seqTo ⟨[(6,litRg n1 d.regs),(7,.int .i64 d.regs.length),(8,.int .i64 0),(1,.ptr nid 0)],[(nid,boxL n1 n2 d)],nid+300,nid⟩ ?_ ?_
  ·unfold boxL litRg litIn
   simp -dsimp only [aqA,↓seqK,↓blkK,↓loopK,step,stepBin,eqB,Nat.add_assoc nid,simprocAttr,LN_succ]
   refine Cov.go [] [] ?_
   simp [cvT,step,res,-List.getD_eq_getElem?_getD]
  refine SR.block ?_
  refine SR.loopP (fun k:Nat=>k≤d.regs.length∧∀ j,j<k→regE d.regs j=0) (fun k=>⟨[(6,litRg n1 d.regs),(7,.int .i64 d.regs.length),(8,.int .i64 k),(1,.ptr nid 0)],[(nid,boxL n1 n2 d)],nid+400,nid⟩) (fun k=>d.regs.length+1 - k) 0 ⟨by omega,fun j hj=>by omega⟩ (Cov.go [] [] ?_) (fun k hk=>?_)
  ·simp [cvT,step,res,boxL,litRg,litIn,-List.getD_eq_getElem?_getD]
  obtain ⟨hk,hall⟩:=hk
  refine SR.seq ?_
  unfold boxL litRg litIn
  simp -dsimp only [aqA,↓seqK,↓blkK,↓loopK,step,stepBin,eqB,Nat.add_assoc nid,simprocAttr,LN_succ]
  refine SR.seq ?_
  simp -dsimp only [aqA,↓seqK,↓blkK,↓loopK,step,stepBin,eqB,Nat.add_assoc nid,simprocAttr,LN_succ]
  refine S2.dec (fun h3=>?_) (fun h3=>?_) <;> simp -dsimp only [aqA,↓seqK,↓blkK,↓loopK,step,stepBin,eqB,Nat.add_assoc nid,simprocAttr,LN_succ]
  ·have hkl:k<d.regs.length:=by omega
   have hm:d.regs.getD k reg0∈d.regs:=by rw [List.getD_eq_getElem?_getD,List.getElem?_eq_getElem hkl]; exact List.getElem_mem _
   have hb:=hd.rs _ hm
   have hret:regE d.regs k≠0→regsE d=regE d.regs k:=fun h=>by
    have:regsE d=regE d.regs k:=fb_hit hkl hall h
    exact this
   generalize regsE d=v at *
   obtain ⟨w,hw⟩:∃ w,regE d.regs k=w:=⟨_,rfl⟩
   rw [hw] at hret
   have hw0:=hw
   unfold regE at hw
   have hdup:=fun m (hm:nid+420<m)=>regDup2_c (nid+420) n1 d.regs k (d.regs.getD k reg0) m hm (by omega) (by omega)
   generalize hx:d.regs.getD k reg0=x at *
   refine SR.seqW (ι:={_u:Unit // w=0}) (fun _=>⟨[(6,litRg n1 d.regs),(7,.int .i64 d.regs.length),(8,.int .i64 k),(1,.ptr nid 0)],[(nid,boxL n1 n2 d)],nid+3000,nid⟩) ?_ (fun ⟨_,hw1⟩=>?_)
   ·refine SR.block ?_
    refine SR.seqTo ⟨[(3,.int .i64 k),(4,.ptr (nid+420) 0),(6,litRg n1 d.regs),(7,.int .i64 d.regs.length),(8,.int .i64 k),(1,.ptr nid 0)],[(nid+420,boxRg x),(nid,boxL n1 n2 d)],nid+1000,nid⟩ ?_ ?_
    ·simp -dsimp only [aqA,↓seqK,↓blkK,↓loopK,step,stepBin,eqB,Nat.add_assoc nid,simprocAttr,LN_succ,hx]
     refine ⟨⟨by omega,by omega⟩,Cov.go [(nid+420,nid+416)] [] ?_⟩
     simp [cvT,step,res,boxRg,boxL,litRg,litIn,-List.getD_eq_getElem?_getD]
    have hkc:=fun m=>keyD_c x.1 m (by omega)
    have hin:=fun m=>out_c x.2 1 1000 m
    have e5:=strEq x.1 [98,121,112,97,115,115]
    have e6:=strEq x.1 [105,100,99,111,100,101]
    refine SR.run (t:=.mk) ?_
    unfold boxRg boxL litRg litIn
    simp -dsimp only [aqA,↓seqK,↓blkK,↓loopK,step,stepBin,eqB,Nat.add_assoc nid,simprocAttr,LN_succ]
    refine CallO.pure (hkc _) ?_
    cases hk1:keyB x.1 <;> rw [hk1] at hw
    ·rw [if_pos rfl] at hw
     subst hw
     rw [hret (by omega)]
     simp -dsimp only [aqA,↓seqK,↓blkK,↓loopK,step,stepBin,eqB,Nat.add_assoc nid,simprocAttr,LN_succ]
     refine RetOK.go [] [] (.inl rfl) ?_
     simp [a144,cvT,step,res]
    rw [if_neg (by simp)] at hw
    simp -dsimp only [aqA,↓seqK,↓blkK,↓loopK,step,stepBin,eqB,Nat.add_assoc nid,simprocAttr,LN_succ]
    by_cases h5:x.1=byL
    ·rw [if_pos (.inl h5)] at hw
     subst hw
     rw [hret (by omega)]
     rw [decide_eq_true (show x.1=[98,121,112,97,115,115] from h5)] at e5
     simp -dsimp only [aqA,↓seqK,↓blkK,↓loopK,step,stepBin,eqB,Nat.add_assoc nid,simprocAttr,LN_succ,e5]
     refine RetOK.go [] [] (.inl rfl) ?_
     simp [a144,cvT,step,res]
    rw [decide_eq_false (show ¬ x.1=[98,121,112,97,115,115] from h5)] at e5
    by_cases h6:x.1=idL
    ·rw [if_pos (.inr (.inl h6))] at hw
     subst hw
     rw [hret (by omega)]
     rw [decide_eq_true (show x.1=[105,100,99,111,100,101] from h6)] at e6
     simp -dsimp only [aqA,↓seqK,↓blkK,↓loopK,step,stepBin,eqB,Nat.add_assoc nid,simprocAttr,LN_succ,e5,e6]
     refine RetOK.go [] [] (.inl rfl) ?_
     simp [a144,cvT,step,res]
    rw [decide_eq_false (show ¬ x.1=[105,100,99,111,100,101] from h6)] at e6
    simp -dsimp only [aqA,↓seqK,↓blkK,↓loopK,step,stepBin,eqB,Nat.add_assoc nid,simprocAttr,LN_succ,e5,e6]
    refine ⟨⟨by omega,by omega⟩,?_⟩
    refine CallO.on (hdup _ (by omega)) (subH_get (by simp only [aqA,↓seqK,↓blkK,↓loopK,step,stepBin,eqB,Nat.add_assoc nid,simprocAttr,LN_succ,boxRg])) ?_
    cases h7:(d.regs.take k).any (fun y=>y.1==x.1) <;> rw [h7] at hw
    rotate_left
    ·rw [if_pos (.inr (.inr rfl))] at hw
     subst hw
     rw [hret (by omega)]
     simp -dsimp only [aqA,↓seqK,↓blkK,↓loopK,step,stepBin,eqB,Nat.add_assoc nid,simprocAttr,LN_succ]
     refine RetOK.go [] [] (.inl rfl) ?_
     simp [a144,cvT,step,res]
    rw [if_neg (by rintro (h | h | h); exact h5 h; exact h6 h; cases h)] at hw
    simp -dsimp only [aqA,↓seqK,↓blkK,↓loopK,step,stepBin,eqB,Nat.add_assoc nid,simprocAttr,LN_succ]
    refine CallO.pure (hin _) ?_
    cases h8:outB x.2 1 1000 <;> rw [h8] at hw <;> simp -dsimp only [aqA,↓seqK,↓blkK,↓loopK,step,stepBin,eqB,Nat.add_assoc nid,simprocAttr,LN_succ,Bool.not_true,Bool.not_false]
    ·rw [if_neg (by simp)] at hw
     refine ⟨⟨(),hw.symm⟩,Cov.go [] [] ?_⟩
     simp [cvT,step,res,boxL,litRg,litIn,-List.getD_eq_getElem?_getD]
    ·rw [if_pos rfl] at hw
     subst hw
     rw [hret (by omega)]
     refine RetOK.go [] [] (.inl rfl) ?_
     simp [a144,cvT,step,res]
   subst hw1
   refine SR.run (t:=.mk) ?_
   unfold boxL litRg litIn
   simp -dsimp only [aqA,↓seqK,↓blkK,↓loopK,step,stepBin,eqB,Nat.add_assoc nid,simprocAttr,LN_succ]
   refine ⟨by unfold inI64; omega,k+1,⟨⟨by omega,fun j hj=>?_⟩,by omega⟩,Cov.go [] [] ?_⟩
   ·rcases (by omega:j<k∨j=k) with hj | hj
    ·exact hall j hj
    ·rw [hj]; exact hw0
   ·simp [cvT,step,res,boxL,litRg,litIn,-List.getD_eq_getElem?_getD]
  ·refine ⟨⟨(),fb_zero fun j hj=>hall j (by omega)⟩,Cov.go [] [] ?_⟩
   simp [cvT,step,res,boxL,litRg,litIn,-List.getD_eq_getElem?_getD]
 rw [hr0]
 refine SR.run (t:=.mk) ?_
 simp -dsimp only [aqA,↓seqK,↓blkK,↓loopK,step,stepBin,eqB,Nat.add_assoc nid,simprocAttr,LN_succ]
 refine RetOK.go [] [] (.inl rfl) ?_
 simp [a144,cvT,step,res]
open Go.RowKit
theorem insE_is (d:Dev) (x:Bs × Bs):(if x.2=byL∨(x.2=idL∧d.id≠0)∨ownB d x.2=true then (0:Int) else 8)=if regIs d x.2=true then 0 else 8:=by
 have e:(x.2=byL∨(x.2=idL∧d.id≠0)∨ownB d x.2=true)↔regIs d x.2=true:=by
  unfold regIs
  simp only [Bool.or_eq_true,Bool.and_eq_true,decide_eq_true_eq]
  constructor
  ·rintro (h | h | h)
   ·exact .inl (.inl h)
   ·exact .inl (.inr h)
   ·exact .inr h
  ·rintro ((h | h) | h)
   ·exact .inl h
   ·exact .inr (.inl h)
   ·exact .inr (.inr h)
 by_cases h:regIs d x.2=true
 ·rw [if_pos h,if_pos (e.2 h)]
 ·rw [if_neg h,if_neg fun h'=>h (e.1 h')]
set_option maxHeartbeats 4000000 in
theorem instrsFault_c (n1 n2:Bool) (d:Dev) (nid:Nat) (hd:DevS d):ACall Tryz.prog 145 [dvP n1 n2 d] [] nid (.int .i64 (inssE d)) []:=by
 have hrl:=hd.rl
 have hil:=hd.il
 refine acall_sr c145 (by simp [a145]) ?_
 unfold a145 dvP litRg litIn
 refine SR.seqTo ⟨[(1,.ptr nid 0)],[(nid,boxL n1 n2 d)],nid+200,nid⟩ ?_ ?_
 ·simp -dsimp only [aqA,↓seqK,↓blkK,↓loopK,step,stepBin,eqB,Nat.add_assoc nid,simprocAttr,LN_succ]
  refine Cov.go [] [] ?_
  simp [cvT,step,res,boxL,litRg,litIn,-List.getD_eq_getElem?_getD]
 refine SR.seqW (ι:={_u:Unit // inssE d=0}) (fun _=>⟨[(1,.ptr nid 0)],[(nid,boxL n1 n2 d)],nid+9000,nid⟩) ?_ (fun ⟨_,hr0⟩=>?_)
 ·refine SR.seqTo ⟨[(8,litIn n2 d.ins),(9,.int .i64 d.ins.length),(10,.int .i64 0),(1,.ptr nid 0)],[(nid,boxL n1 n2 d)],nid+300,nid⟩ ?_ ?_
  ·unfold boxL litRg litIn
   simp -dsimp only [aqA,↓seqK,↓blkK,↓loopK,step,stepBin,eqB,Nat.add_assoc nid,simprocAttr,LN_succ]
   refine Cov.go [] [] ?_
   simp [cvT,step,res,-List.getD_eq_getElem?_getD]
  refine SR.block ?_
  refine SR.loopP (fun k:Nat=>k≤d.ins.length∧∀ j,j<k→insE d j=0) (fun k=>⟨[(8,litIn n2 d.ins),(9,.int .i64 d.ins.length),(10,.int .i64 k),(1,.ptr nid 0)],[(nid,boxL n1 n2 d)],nid+400,nid⟩) (fun k=>d.ins.length+1 - k) 0 ⟨by omega,fun j hj=>by omega⟩ (Cov.go [] [] ?_) (fun k hk=>?_)
  ·simp [cvT,step,res,boxL,litRg,litIn,-List.getD_eq_getElem?_getD]
  obtain ⟨hk,hall⟩:=hk
  refine SR.seq ?_
  unfold boxL litRg litIn
  simp -dsimp only [aqA,↓seqK,↓blkK,↓loopK,step,stepBin,eqB,Nat.add_assoc nid,simprocAttr,LN_succ]
  refine SR.seq ?_
  simp -dsimp only [aqA,↓seqK,↓blkK,↓loopK,step,stepBin,eqB,Nat.add_assoc nid,simprocAttr,LN_succ]
  refine S2.dec (fun h3=>?_) (fun h3=>?_) <;> simp -dsimp only [aqA,↓seqK,↓blkK,↓loopK,step,stepBin,eqB,Nat.add_assoc nid,simprocAttr,LN_succ]
  ·have hkl:k<d.ins.length:=by omega
   have hm:d.ins.getD k ins0∈d.ins:=by rw [List.getD_eq_getElem?_getD,List.getElem?_eq_getElem hkl]; exact List.getElem_mem _
   have hb:=hd.is _ hm
   have hret:insE d k≠0→inssE d=insE d k:=fun h=>fb_hit hkl hall h
   generalize inssE d=v at *
   obtain ⟨w,hw⟩:∃ w,insE d k=w:=⟨_,rfl⟩
   rw [hw] at hret
   have hw0:=hw
   unfold insE at hw
   rw [insE_is] at hw
   have hdup:=fun m (hm:nid+420<m)=>insDup2_c (nid+420) n2 d.ins k (d.ins.getD k ins0) m hm (by omega) (by omega)
   generalize hx:d.ins.getD k ins0=x at *
   refine SR.seqW (ι:={_u:Unit // w=0}) (fun _=>⟨[(8,litIn n2 d.ins),(9,.int .i64 d.ins.length),(10,.int .i64 k),(1,.ptr nid 0)],[(nid,boxL n1 n2 d)],nid+3000,nid⟩) ?_ (fun ⟨_,hw1⟩=>?_)
   ·refine SR.block ?_
    refine SR.seqTo ⟨[(3,.int .i64 k),(4,.ptr (nid+420) 0),(8,litIn n2 d.ins),(9,.int .i64 d.ins.length),(10,.int .i64 k),(1,.ptr nid 0)],[(nid+420,boxIn x),(nid,boxL n1 n2 d)],nid+1000,nid⟩ ?_ ?_
    ·simp -dsimp only [aqA,↓seqK,↓blkK,↓loopK,step,stepBin,eqB,Nat.add_assoc nid,simprocAttr,LN_succ,hx]
     refine ⟨⟨by omega,by omega⟩,Cov.go [(nid+420,nid+416)] [] ?_⟩
     simp [cvT,step,res,boxIn,boxL,litRg,litIn,-List.getD_eq_getElem?_getD]
    have hcn:∀ m,ACall Tryz.prog 37 [.str x.1,.str [48]] [] m (.bool (x.1.contains 48)) []:=fun m=>by
     have h:=contains_cc x.1 48 m
     have e:decide (0≤Lib.indexByte x.1 48)=x.1.contains 48:=by
      rw [Bool.eq_iff_iff,decide_eq_true_eq,indexByte_in,List.contains_iff_mem]
     rwa [e] at h
    have hbf:=fun m=>bits_c x.1 m (by omega)
    have hrg:=fun m=>register_c n1 n2 d x.2 m (by omega)
    unfold dvP litRg litIn at hrg
    refine SR.seqW (ι:={_u:Unit // (if regIs d x.2=true then (0:Int) else 8)=w}) (fun _=>⟨[(4,.ptr (nid+420) 0),(8,litIn n2 d.ins),(9,.int .i64 d.ins.length),(10,.int .i64 k),(1,.ptr nid 0)],[(nid+420,boxIn x),(nid,boxL n1 n2 d)],nid+2000,nid⟩) ?_ (fun ⟨_,hw2⟩=>?_)
    ·refine SR.block ?_
     refine SR.run (t:=.mk) ?_
     unfold boxIn boxL litRg litIn
     by_cases h1:((x.1.length:Nat):Int)=d.long
     rotate_left
     ·have b1:(((x.1.length:Nat):Int) != d.long)=true:=by rw [bne_iff_ne]; exact h1
      rw [if_pos h1] at hw
      subst hw
      rw [hret (by omega)]
      simp -dsimp only [aqA,↓seqK,↓blkK,↓loopK,step,stepBin,eqB,Nat.add_assoc nid,simprocAttr,LN_succ,b1]
      refine RetOK.go [] [] (.inl rfl) ?_
      simp [a145,cvT,step,res]
     rw [if_neg (by simpa using h1)] at hw
     have b1:(((x.1.length:Nat):Int) != d.long)=false:=by rw [bne_eq_false_iff_eq]; exact h1
     simp -dsimp only [aqA,↓seqK,↓blkK,↓loopK,step,stepBin,eqB,Nat.add_assoc nid,simprocAttr,LN_succ,b1]
     refine CallO.pure (hbf _) ?_
     cases h2:bitsOk x.1 <;> rw [h2] at hw
     ·rw [if_pos rfl] at hw
      subst hw
      rw [hret (by omega)]
      simp -dsimp only [aqA,↓seqK,↓blkK,↓loopK,step,stepBin,eqB,Nat.add_assoc nid,simprocAttr,LN_succ]
      refine RetOK.go [] [] (.inl rfl) ?_
      simp [a145,cvT,step,res]
     rw [if_neg (by simp)] at hw
     simp -dsimp only [aqA,↓seqK,↓blkK,↓loopK,step,stepBin,eqB,Nat.add_assoc nid,simprocAttr,LN_succ]
     refine CallO.pure (hcn _) ?_
     cases h3:x.1.contains 48 <;> rw [h3] at hw
     ·rw [if_pos rfl] at hw
      subst hw
      rw [hret (by omega)]
      simp -dsimp only [aqA,↓seqK,↓blkK,↓loopK,step,stepBin,eqB,Nat.add_assoc nid,simprocAttr,LN_succ]
      refine RetOK.go [] [] (.inl rfl) ?_
      simp [a145,cvT,step,res]
     rw [if_neg (by simp)] at hw
     simp -dsimp only [aqA,↓seqK,↓blkK,↓loopK,step,stepBin,eqB,Nat.add_assoc nid,simprocAttr,LN_succ]
     refine ⟨⟨by omega,by omega⟩,?_⟩
     refine CallO.on (hdup _ (by omega)) (subH_get (by simp only [aqA,↓seqK,↓blkK,↓loopK,step,stepBin,eqB,Nat.add_assoc nid,simprocAttr,LN_succ,boxIn])) ?_
     cases h4:(d.ins.take k).any (fun y=>y.1==x.1) <;> rw [h4] at hw
     rotate_left
     ·rw [if_pos rfl] at hw
      subst hw
      rw [hret (by omega)]
      simp -dsimp only [aqA,↓seqK,↓blkK,↓loopK,step,stepBin,eqB,Nat.add_assoc nid,simprocAttr,LN_succ]
      refine RetOK.go [] [] (.inl rfl) ?_
      simp [a145,cvT,step,res]
     rw [if_neg (by simp)] at hw
     simp -dsimp only [aqA,↓seqK,↓blkK,↓loopK,step,stepBin,eqB,Nat.add_assoc nid,simprocAttr,LN_succ]
     refine ⟨⟨(),hw⟩,Cov.go [] [] ?_⟩
     simp [cvT,step,res,boxIn,boxL,litRg,litIn,-List.getD_eq_getElem?_getD]
    ·refine SR.run (t:=.mk) ?_
     unfold boxIn boxL litRg litIn
     simp -dsimp only [aqA,↓seqK,↓blkK,↓loopK,step,stepBin,eqB,Nat.add_assoc nid,simprocAttr,LN_succ]
     refine CallO.pure (hrg _) ?_
     cases h5:regIs d x.2 <;> rw [h5] at hw2
     ·rw [if_neg (by simp)] at hw2
      subst hw2
      rw [hret (by omega)]
      simp -dsimp only [aqA,↓seqK,↓blkK,↓loopK,step,stepBin,eqB,Nat.add_assoc nid,simprocAttr,LN_succ]
      refine RetOK.go [] [] (.inl rfl) ?_
      simp [a145,cvT,step,res]
     ·rw [if_pos rfl] at hw2
      simp -dsimp only [aqA,↓seqK,↓blkK,↓loopK,step,stepBin,eqB,Nat.add_assoc nid,simprocAttr,LN_succ]
      refine ⟨⟨(),hw2.symm⟩,Cov.go [] [] ?_⟩
      simp [cvT,step,res,boxL,litRg,litIn,-List.getD_eq_getElem?_getD]
   subst hw1
   refine SR.run (t:=.mk) ?_
   unfold boxL litRg litIn
   simp -dsimp only [aqA,↓seqK,↓blkK,↓loopK,step,stepBin,eqB,Nat.add_assoc nid,simprocAttr,LN_succ]
   refine ⟨by unfold inI64; omega,k+1,⟨⟨by omega,fun j hj=>?_⟩,by omega⟩,Cov.go [] [] ?_⟩
   ·rcases (by omega:j<k∨j=k) with hj | hj
    ·exact hall j hj
    ·rw [hj]; exact hw0
   ·simp [cvT,step,res,boxL,litRg,litIn,-List.getD_eq_getElem?_getD]
  ·refine ⟨⟨(),fb_zero fun j hj=>hall j (by omega)⟩,Cov.go [] [] ?_⟩
   simp [cvT,step,res,boxL,litRg,litIn,-List.getD_eq_getElem?_getD]
 rw [hr0]
 refine SR.run (t:=.mk) ?_
 simp -dsimp only [aqA,↓seqK,↓blkK,↓loopK,step,stepBin,eqB,Nat.add_assoc nid,simprocAttr,LN_succ]
 refine RetOK.go [] [] (.inl rfl) ?_
 simp [a145,cvT,step,res]
open Go.RowKit
theorem firstT_c (nl:Bool) (l:List Int) (nid:Nat) (hl:l.length≤1000000000):ACall Tryz.prog 143 [litI nl l] [] nid (.int .i64 (firstBad (fun x:Int=>x) l)) []:=by
 refine acall_run c143 (by simp [a143]) ?_
 unfold litI
 simp -dsimp only [aqA,↓seqK,↓blkK,↓loopK,step,stepBin,eqB,Nat.add_assoc nid,simprocAttr,a143]
 refine LP.mkP (fun k:Nat=>k≤l.length∧firstBad (fun x:Int=>x) (l.take k)=0) (fun k:Nat=>⟨[(7,.int .i64 k),(6,.int .i64 l.length),(5,litI nl l)],[],nid+100,nid⟩) (fun k=>l.length+1 - k) 0 ⟨by omega,rfl⟩ (Cov.go [] [] ?_) (fun k hk=>?_)
 ·simp [cvT,step,res,litI]
 unfold litI
 obtain ⟨hk,hb⟩:=hk
 simp -dsimp only [aqA,↓seqK,↓blkK,↓loopK,step,stepBin,eqB,Nat.add_assoc nid,simprocAttr,LN_succ]
 refine S2.dec (fun h3=>?_) (fun h3=>?_) <;> simp -dsimp only [aqA,↓seqK,↓blkK,↓loopK,step,stepBin,eqB,Nat.add_assoc nid,simprocAttr,LN_succ]
 ·have hkl:k<l.length:=by omega
  obtain ⟨bad,good⟩:=rowsFB (d:=0) (f:=fun x:Int=>x) hkl hb
  refine ⟨by omega,S2.intro (fun h4=>?_) (fun h4=>?_)⟩ <;> simp -dsimp only [aqA,↓seqK,↓blkK,↓loopK,step,stepBin,eqB,Nat.add_assoc nid,simprocAttr,LN_succ]
  ·rw [bad (by simpa using h4)]
   refine RetOK.pure (.inl rfl) rfl ?_
   simp [cvT,step,res]
  ·refine ⟨by unfold inI64; omega,k+1,⟨⟨by omega,good (by simpa using h4)⟩,by omega⟩,Cov.go [] [] ?_⟩
   simp [cvT,step,res,litI]
 ·have hkn:k=l.length:=by omega
  subst hkn
  rw [List.take_length] at hb
  rw [hb]
  refine RetOK.pure (.inl rfl) rfl ?_
  simp [cvT,step,res]
theorem first2_v (a b:Int):firstBad (fun x:Int=>x) [a,b]=if a≠0 then a else b:=by
 by_cases h:a=0
 ·subst h
  by_cases hb:b=0 <;> simp [firstBad,hb]
 ·simp [firstBad,h]
set_option maxHeartbeats 4000000 in
theorem deviceFault_c (n0 m1 m2 : Bool) (n1 n2 : Nat → Bool) (D : List Dev) (k nid : Nat) (hk : k < D.length) (hD : D.length ≤ 1000) (hd : DevS (D.getD k dev0)) : ACall Tryz.prog 96 [dvP m1 m2 (D.getD k dev0),.lit n0 k (devP n1 n2 D)] [] nid (.int .i64 (devE D k)) [] := by
  have hnm := hd.nm
  have hrl := hd.rl
  have hil := hd.il
  obtain ⟨w,hw⟩ : ∃ w,devE D k = w := ⟨_,rfl⟩
  rw [hw]
  unfold devE at hw
  have hdup := fun m (hm : nid < m) => devDup2_c nid n0 m1 m2 n1 n2 D k (D.getD k dev0) m hm (by omega) (by omega)
  generalize hx : D.getD k dev0 = x at *
  have hkc := fun m => keyD_c x.name m (by omega)
  have hin1 := fun m => out_c x.long 2 32 m
  have hin2 := fun m => out_c x.id 0 4294967295 m
  refine acall_sr c96 (by simp [a96]) ?_
  unfold a96
  refine SR.seqTo ⟨[(2,.ptr nid 0),(1,.lit n0 k (devP n1 n2 D))],[(nid,boxL m1 m2 x)],nid + 100,nid⟩ ?_ ?_
  · unfold dvP litRg litIn
    simp -dsimp only [aqA,↓seqK,↓blkK,↓loopK,step,stepBin,eqB,Nat.add_assoc nid,simprocAttr,LN_succ]
    refine Cov.go [] [] ?_
    simp [cvT,step,res,ColsEq.refl,boxL,litRg,litIn,-List.getD_eq_getElem?_getD]
  refine SR.seqW (ι := {_u : Unit // (if regsE x ≠ 0 then regsE x else inssE x) = w}) (fun _ => ⟨[(2,.ptr nid 0)],[(nid,boxL m1 m2 x)],nid + 2000,nid⟩) ?_ (fun ⟨_,hw2⟩ => ?_)
  · refine SR.block ?_
    refine SR.run (t := .mk) ?_
    unfold boxL litRg litIn
    simp -dsimp only [aqA,↓seqK,↓blkK,↓loopK,step,stepBin,eqB,Nat.add_assoc nid,simprocAttr,LN_succ]
    refine CallO.pure (hkc _) ?_
    cases hk1 : keyB x.name <;> rw [hk1] at hw
    · rw [if_pos rfl] at hw
      subst hw
      simp -dsimp only [aqA,↓seqK,↓blkK,↓loopK,step,stepBin,eqB,Nat.add_assoc nid,simprocAttr,LN_succ]
      refine RetOK.go [] [] (.inl rfl) ?_
      simp [a96,cvT,step,res]
    rw [if_neg (by simp)] at hw
    simp -dsimp only [aqA,↓seqK,↓blkK,↓loopK,step,stepBin,eqB,Nat.add_assoc nid,simprocAttr,LN_succ]
    refine CallO.on (hdup _ (by omega)) (subH_get (by simp only [aqA,↓seqK,↓blkK,↓loopK,step,stepBin,eqB,Nat.add_assoc nid,simprocAttr,LN_succ,boxL,litRg,litIn])) ?_
    cases h7 : (D.take k).any (fun y => y.name == x.name) <;> rw [h7] at hw
    rotate_left
    · rw [if_pos rfl] at hw
      subst hw
      simp -dsimp only [aqA,↓seqK,↓blkK,↓loopK,step,stepBin,eqB,Nat.add_assoc nid,simprocAttr,LN_succ]
      refine RetOK.go [] [] (.inl rfl) ?_
      simp [a96,cvT,step,res]
    rw [if_neg (by simp)] at hw
    simp -dsimp only [aqA,↓seqK,↓blkK,↓loopK,step,stepBin,eqB,Nat.add_assoc nid,simprocAttr,LN_succ]
    refine CallO.pure (hin1 _) ?_
    cases h8 : outB x.long 2 32 <;> rw [h8] at hw <;> simp -dsimp only [aqA,↓seqK,↓blkK,↓loopK,step,stepBin,eqB,Nat.add_assoc nid,simprocAttr,LN_succ]
    rotate_left
    · rw [if_pos (.inl rfl)] at hw
      subst hw
      refine RetOK.go [] [] (.inl rfl) ?_
      simp [a96,cvT,step,res]
    refine CallO.pure (hin2 _) ?_
    cases h9 : outB x.id 0 4294967295 <;> rw [h9] at hw <;> simp -dsimp only [aqA,↓seqK,↓blkK,↓loopK,step,stepBin,eqB,Nat.add_assoc nid,simprocAttr,LN_succ]
    rotate_left
    · rw [if_pos (.inr rfl)] at hw
      subst hw
      refine RetOK.go [] [] (.inl rfl) ?_
      simp [a96,cvT,step,res]
    rw [if_neg (by simp)] at hw
    have hlast : (if 10 < x.regs.length ∨ 100 < x.ins.length then (2 : Int) else if regsE x ≠ 0 then regsE x else inssE x) = w → ∀ (b1 b2 : Bool),b1 = decide ((10 : Int) < (x.regs.length : Nat)) → b2 = decide ((100 : Int) < (x.ins.length : Nat)) → ((b1 || b2) = true ∧ w = 2) ∨ ((b1 || b2) = false ∧ (if regsE x ≠ 0 then regsE x else inssE x) = w) := by
      rintro h b1 b2 rfl rfl
      by_cases h0 : 10 < x.regs.length ∨ 100 < x.ins.length
      · rw [if_pos h0] at h
        left
        refine ⟨?_,h.symm⟩
        rw [Bool.or_eq_true,decide_eq_true_eq,decide_eq_true_eq]
        omega
      · rw [if_neg h0] at h
        right
        refine ⟨?_,h⟩
        rw [Bool.or_eq_false_iff,decide_eq_false_iff_not,decide_eq_false_iff_not]
        omega
    obtain ⟨r1,hr1⟩ : ∃ b,b = decide ((10 : Int) < (x.regs.length : Nat)) := ⟨_,rfl⟩
    obtain ⟨r2,hr2⟩ : ∃ b,b = decide ((100 : Int) < (x.ins.length : Nat)) := ⟨_,rfl⟩
    have hl := fun h => hlast h r1 r2 hr1 hr2
    by_cases hid : x.id = 0
    · have b3 : (x.id != 0) = false := by simp [hid]
      rw [if_neg (by simp [hid])] at hw
      cases r1 <;> cases r2 <;> rcases hl hw with ⟨q1,q2⟩ | ⟨q1,q2⟩ <;> simp only [Bool.or_true,Bool.or_false,Bool.false_or,Bool.true_or] at q1
      all_goals first
        | exact absurd q1 (by decide)
        | (simp -dsimp only [aqA,↓seqK,↓blkK,↓loopK,step,stepBin,eqB,Nat.add_assoc nid,simprocAttr,LN_succ,b3,← hr1,← hr2]
           first
            | (refine ⟨⟨(),q2⟩,Cov.go [] [] ?_⟩
               simp [cvT,step,res,ColsEq.refl,boxL,litRg,litIn,-List.getD_eq_getElem?_getD])
            | (subst q2
               refine RetOK.go [] [] (.inl rfl) ?_
               simp [a96,cvT,step,res]))
    have b3 : (x.id != 0) = true := by simp [hid]
    by_cases hev : x.id.tmod 2 = 0
    · have b4 : (x.id.tmod 2 == 0) = true := by simp [hev]
      rw [if_pos ⟨hid,hev⟩] at hw
      subst hw
      simp -dsimp only [aqA,↓seqK,↓blkK,↓loopK,step,stepBin,eqB,Nat.add_assoc nid,simprocAttr,LN_succ,b3,b4]
      refine RetOK.go [] [] (.inl rfl) ?_
      simp [a96,cvT,step,res]
    · have b4 : (x.id.tmod 2 == 0) = false := by simp [hev]
      rw [if_neg (by simp [hev])] at hw
      cases r1 <;> cases r2 <;> rcases hl hw with ⟨q1,q2⟩ | ⟨q1,q2⟩ <;> simp only [Bool.or_true,Bool.or_false,Bool.false_or,Bool.true_or] at q1
      all_goals first
        | exact absurd q1 (by decide)
        | (simp -dsimp only [aqA,↓seqK,↓blkK,↓loopK,step,stepBin,eqB,Nat.add_assoc nid,simprocAttr,LN_succ,b3,b4,← hr1,← hr2]
           first
            | (refine ⟨⟨(),q2⟩,Cov.go [] [] ?_⟩
               simp [cvT,step,res,ColsEq.refl,boxL,litRg,litIn,-List.getD_eq_getElem?_getD])
            | (subst q2
               refine RetOK.go [] [] (.inl rfl) ?_
               simp [a96,cvT,step,res]))
  · have h1 := fun m => registersFault_c m1 m2 x m hd
    have h2 := fun m => instrsFault_c m1 m2 x m hd
    unfold dvP litRg litIn at h1 h2
    unfold boxL litRg litIn
    refine SR.run (t := .mk) ?_
    simp -dsimp only [aqA,↓seqK,↓blkK,↓loopK,step,stepBin,eqB,Nat.add_assoc nid,simprocAttr,LN_succ]
    refine CallX.pure (h1 _) ?_
    simp -dsimp only [aqA,↓seqK,↓blkK,↓loopK,step,stepBin,eqB,Nat.add_assoc nid,simprocAttr,LN_succ]
    refine CallX.pure (h2 _) ?_
    simp -dsimp only [aqA,↓seqK,↓blkK,↓loopK,step,stepBin,eqB,Nat.add_assoc nid,simprocAttr,LN_succ]
    refine CallX.gave [nid + 2016] (fun nl' => by
      simp only [lends,lend,aqA,↓seqK,↓blkK,↓loopK,step,stepBin,eqB,Nat.add_assoc nid,simprocAttr,LN_succ]
      exact firstT_c (nl' _) [regsE x,inssE x] _ (by simp)) (by simp [getH]) ?_
    simp -dsimp only [aqA,↓seqK,↓blkK,↓loopK,step,stepBin,eqB,Nat.add_assoc nid,simprocAttr,LN_succ,kill]
    rw [first2_v,hw2]
    refine RetOK.go [] [] (.inl rfl) ?_
    simp [a96,cvT,step,res]
set_option maxHeartbeats 4000000 in
theorem checkDevices_c (n0:Bool) (n1 n2:Nat→Bool) (D:List Dev) (nid:Nat) (hD:D.length≤1000) (hS:∀ d∈D,DevS d):ACall Tryz.prog 44 [.lit n0 D.length (devP n1 n2 D)] [] nid (.int .i64 (devsE D)) []:=by
 refine acall_sr c44 (by simp [a44]) ?_
 unfold a44
 refine SR.seq ?_
 simp -dsimp only [aqA,↓seqK,↓blkK,↓loopK,step,stepBin,eqB,Nat.add_assoc nid,simprocAttr,LN_succ]
 by_cases h0:D.length=0
 ·have e:devsE D=8:=by unfold devsE; rw [if_pos h0]
  rw [e]
  have b1:(((D.length:Nat):Int)==0)=true:=by rw [h0]; rfl
  refine SR.run (t:=.mk) ?_
  simp -dsimp only [aqA,↓seqK,↓blkK,↓loopK,step,stepBin,eqB,Nat.add_assoc nid,simprocAttr,LN_succ,b1]
  refine RetOK.go [] [] (.inl rfl) ?_
  simp [a44,cvT,step,res]
 have b1:(((D.length:Nat):Int)==0)=false:=by rw [beq_eq_false_iff_ne]; omega
 by_cases h20:20<D.length
 ·have e:devsE D=2:=by unfold devsE; rw [if_neg h0,if_pos h20]
  rw [e]
  have b2:decide ((20:Int)<((D.length:Nat):Int))=true:=decide_eq_true (by omega)
  refine SR.run (t:=.mk) ?_
  simp -dsimp only [aqA,↓seqK,↓blkK,↓loopK,step,stepBin,eqB,Nat.add_assoc nid,simprocAttr,LN_succ,b1,b2]
  refine RetOK.go [] [] (.inl rfl) ?_
  simp [a44,cvT,step,res]
 have b2:decide ((20:Int)<((D.length:Nat):Int))=false:=decide_eq_false (by omega)
 have e:devsE D=firstBad (devE D) (List.range D.length):=by unfold devsE; rw [if_neg h0,if_neg h20]
 rw [e]
 refine SR.seqTo ⟨[(0,.lit n0 D.length (devP n1 n2 D))],[],nid+200,nid⟩ ?_ ?_
 ·simp -dsimp only [aqA,↓seqK,↓blkK,↓loopK,step,stepBin,eqB,Nat.add_assoc nid,simprocAttr,LN_succ,b1,b2]
  refine Cov.go [] [] ?_
  simp [cvT,step,res,ColsEq.refl]
 refine SR.seqW (ι:={_u:Unit // firstBad (devE D) (List.range D.length)=0}) (fun _=>⟨[],[],nid+9000,nid⟩) ?_ (fun ⟨_,hr0⟩=>?_)
 ·refine SR.seqTo ⟨[(14,.lit n0 D.length (devP n1 n2 D)),(15,.int .i64 D.length),(16,.int .i64 0),(0,.lit n0 D.length (devP n1 n2 D))],[],nid+300,nid⟩ ?_ ?_
  ·simp -dsimp only [aqA,↓seqK,↓blkK,↓loopK,step,stepBin,eqB,Nat.add_assoc nid,simprocAttr,LN_succ]
   refine Cov.go [] [] ?_
   simp [cvT,step,res,ColsEq.refl]
  refine SR.block ?_
  refine SR.loopP (fun k:Nat=>k≤D.length∧∀ j,j<k→devE D j=0) (fun k=>⟨[(14,.lit n0 D.length (devP n1 n2 D)),(15,.int .i64 D.length),(16,.int .i64 k),(0,.lit n0 D.length (devP n1 n2 D))],[],nid+400,nid⟩) (fun k=>D.length+1 - k) 0 ⟨by omega,fun j hj=>by omega⟩ (Cov.go [] [] ?_) (fun k hk=>?_)
  ·simp [cvT,step,res,ColsEq.refl]
  obtain ⟨hk,hall⟩:=hk
  refine SR.seq ?_
  simp -dsimp only [aqA,↓seqK,↓blkK,↓loopK,step,stepBin,eqB,Nat.add_assoc nid,simprocAttr,LN_succ]
  refine SR.seq ?_
  simp -dsimp only [aqA,↓seqK,↓blkK,↓loopK,step,stepBin,eqB,Nat.add_assoc nid,simprocAttr,LN_succ]
  refine S2.dec (fun h3=>?_) (fun h3=>?_) <;> simp -dsimp only [aqA,↓seqK,↓blkK,↓loopK,step,stepBin,eqB,Nat.add_assoc nid,simprocAttr,LN_succ]
  ·have hkl:k<D.length:=by omega
   have hm:D.getD k dev0∈D:=by rw [List.getD_eq_getElem?_getD,List.getElem?_eq_getElem hkl]; exact List.getElem_mem _
   have hb:=hS _ hm
   have hret:devE D k≠0→firstBad (devE D) (List.range D.length)=devE D k:=fun h=>fb_hit hkl hall h
   have hdf:=fun m=>deviceFault_c n0 (n1 k) (n2 k) n1 n2 D k m hkl hD hb
   generalize firstBad (devE D) (List.range D.length)=v at *
   obtain ⟨w,hw⟩:∃ w,devE D k=w:=⟨_,rfl⟩
   rw [hw] at hret
   simp only [hw] at hdf
   unfold dvP litRg litIn at hdf
   refine SR.seqW (ι:={_u:Unit // w=0}) (fun _=>⟨[(14,.lit n0 D.length (devP n1 n2 D)),(15,.int .i64 D.length),(16,.int .i64 k),(0,.lit n0 D.length (devP n1 n2 D))],[],nid+3000,nid⟩) ?_ (fun ⟨_,hw1⟩=>?_)
   ·refine SR.block ?_
    refine SR.seqTo ⟨[(3,.int .i64 k),(4,.ptr (nid+420) 0),(14,.lit n0 D.length (devP n1 n2 D)),(15,.int .i64 D.length),(16,.int .i64 k),(0,.lit n0 D.length (devP n1 n2 D))],[(nid+420,boxL (n1 k) (n2 k) (D.getD k dev0))],nid+1000,nid⟩ ?_ ?_
    ·unfold devP
     simp -dsimp only [aqA,↓seqK,↓blkK,↓loopK,step,stepBin,eqB,Nat.add_assoc nid,simprocAttr,LN_succ]
     refine ⟨⟨by omega,by omega⟩,Cov.go [(nid+420,nid+416)] [] ?_⟩
     simp [cvT,step,res,boxL,litRg,litIn,-List.getD_eq_getElem?_getD]
    refine SR.run (t:=.mk) ?_
    unfold boxL litRg litIn
    simp -dsimp only [aqA,↓seqK,↓blkK,↓loopK,step,stepBin,eqB,Nat.add_assoc nid,simprocAttr,LN_succ]
    refine ⟨⟨by omega,by omega⟩,?_⟩
    simp -dsimp only [aqA,↓seqK,↓blkK,↓loopK,step,stepBin,eqB,Nat.add_assoc nid,simprocAttr,LN_succ]
    refine CallX.pure (hdf _) ?_
    simp -dsimp only [aqA,↓seqK,↓blkK,↓loopK,step,stepBin,eqB,Nat.add_assoc nid,simprocAttr,LN_succ]
    by_cases hwz:w=0
    ·have b1:(w != 0)=false:=by simp [hwz]
     simp -dsimp only [aqA,↓seqK,↓blkK,↓loopK,step,stepBin,eqB,Nat.add_assoc nid,simprocAttr,LN_succ,b1]
     refine ⟨⟨(),hwz⟩,Cov.go [] [] ?_⟩
     simp [cvT,step,res,ColsEq.refl]
    ·have b1:(w != 0)=true:=by simp [hwz]
     rw [hret hwz]
     simp -dsimp only [aqA,↓seqK,↓blkK,↓loopK,step,stepBin,eqB,Nat.add_assoc nid,simprocAttr,LN_succ,b1]
     refine RetOK.go [] [] (.inl rfl) ?_
     simp [a44,cvT,step,res]
   subst hw1
   refine SR.run (t:=.mk) ?_
   simp -dsimp only [aqA,↓seqK,↓blkK,↓loopK,step,stepBin,eqB,Nat.add_assoc nid,simprocAttr,LN_succ]
   refine ⟨by unfold inI64; omega,k+1,⟨⟨by omega,fun j hj=>?_⟩,by omega⟩,Cov.go [] [] ?_⟩
   ·rcases (by omega:j<k∨j=k) with hj | hj
    ·exact hall j hj
    ·rw [hj]; exact hw
   ·simp [cvT,step,res,ColsEq.refl]
  ·refine ⟨⟨(),fb_zero fun j hj=>hall j (by omega)⟩,Cov.go [] [] ?_⟩
   simp [cvT,step,res,ColsEq.refl]
 rw [hr0]
 refine SR.run (t:=.mk) ?_
 simp -dsimp only [aqA,↓seqK,↓blkK,↓loopK,step,stepBin,eqB,Nat.add_assoc nid,simprocAttr,LN_succ]
 refine RetOK.go [] [] (.inl rfl) ?_
 simp [a44,cvT,step,res]
open Go.RowKit
def nameTo (d:Dev) (code:Bs) (k:Nat):Bs:=(d.ins.take k).foldl (fun n x=>if x.1=code then x.2 else n) byL
theorem nameTo_succ (d:Dev) (code:Bs) {k:Nat} (hk:k<d.ins.length):nameTo d code (k+1)=if (d.ins.getD k ins0).1=code then (d.ins.getD k ins0).2 else nameTo d code k:=by
 have e:d.ins.getD k ins0=d.ins[k]:=by rw [List.getD_eq_getElem?_getD,List.getElem?_eq_getElem hk]; rfl
 unfold nameTo
 rw [List.take_add_one,List.getElem?_eq_getElem hk,List.foldl_append,e]
 rfl
set_option maxHeartbeats 2000000 in
theorem selected_c (n1 n2:Bool) (d:Dev) (code:Bs) (nid:Nat) (hR:d.regs.length≤1000) (hI:d.ins.length≤1000) :
  ACall Tryz.prog 98 [dvP n1 n2 d,.str code] [] nid (.agg [.str (selV d code).1,.int .i64 (selV d code).2]) []:=by
 refine acall_sr c98 (by simp [a98]) ?_
 unfold a98 dvP litRg litIn
 refine SR.seqTo ⟨[(2,.ptr nid 0),(4,.ptr (nid+4) 0),(1,.str code)],[(nid,boxL n1 n2 d),(nid+4,boxRg reg0)],nid+100,nid⟩ ?_ ?_
 ·simp -dsimp only [aqA,↓seqK,↓blkK,↓loopK,step,stepBin,eqB,Nat.add_assoc nid,simprocAttr,LN_succ]
  refine Cov.go [] [] ?_
  simp [cvT,step,res,boxL,boxRg,reg0,litRg,litIn,-List.getD_eq_getElem?_getD]
 refine SR.seq ?_
 simp -dsimp only [aqA,↓seqK,↓blkK,↓loopK,step,stepBin,eqB,Nat.add_assoc nid,simprocAttr,LN_succ]
 refine SR.seqTo ⟨[(5,.str (nameOf d code)),(2,.ptr nid 0),(4,.ptr (nid+4) 0),(1,.str code)],[(nid,boxL n1 n2 d),(nid+4,boxRg reg0)],nid+2000,nid⟩ ?_ ?_
 ·unfold boxL boxRg litRg litIn
  simp -dsimp only [aqA,↓seqK,↓blkK,↓loopK,step,stepBin,eqB,Nat.add_assoc nid,simprocAttr,LN_succ]
  refine LP.mkP (fun k:Nat=>k≤d.ins.length) (fun k:Nat=>⟨[(5,.str (nameTo d code k)),(11,litIn n2 d.ins),(12,.int .i64 d.ins.length),(13,.int .i64 k),(2,.ptr nid 0),(4,.ptr (nid+4) 0),(1,.str code)],[(nid,boxL n1 n2 d),(nid+4,boxRg reg0)],nid+200,nid⟩) (fun k=>d.ins.length+1 - k) 0 (by omega) (Cov.go [] [] ?_) (fun k hk=>?_)
  ·simp [cvT,step,res,boxL,boxRg,litRg,litIn,nameTo,byL,-List.getD_eq_getElem?_getD]
  unfold boxL boxRg litRg litIn
  simp -dsimp only [aqA,↓seqK,↓blkK,↓loopK,step,stepBin,eqB,Nat.add_assoc nid,simprocAttr,LN_succ]
  refine S2.dec (fun h3=>?_) (fun h3=>?_) <;> simp -dsimp only [aqA,↓seqK,↓blkK,↓loopK,step,stepBin,eqB,Nat.add_assoc nid,simprocAttr,LN_succ]
  ·have hkl:k<d.ins.length:=by omega
   have hs:=nameTo_succ d code hkl
   have e5:=strEq (d.ins.getD k ins0).1 code
   refine ⟨⟨by omega,by omega⟩,?_⟩
   by_cases h:(d.ins.getD k ins0).1=code
   ·rw [if_pos h] at hs
    rw [decide_eq_true h] at e5
    simp -dsimp only [aqA,↓seqK,↓blkK,↓loopK,step,stepBin,eqB,Nat.add_assoc nid,simprocAttr,LN_succ,e5]
    refine ⟨by unfold inI64; omega,k+1,⟨by omega,by omega⟩,Cov.go [] [] ?_⟩
    rw [hs]
    simp [cvT,step,res,boxL,boxRg,litRg,litIn,-List.getD_eq_getElem?_getD]
   ·rw [if_neg h] at hs
    rw [decide_eq_false h] at e5
    simp -dsimp only [aqA,↓seqK,↓blkK,↓loopK,step,stepBin,eqB,Nat.add_assoc nid,simprocAttr,LN_succ,e5]
    refine ⟨by unfold inI64; omega,k+1,⟨by omega,by omega⟩,Cov.go [] [] ?_⟩
    rw [hs]
    simp [cvT,step,res,boxL,boxRg,litRg,litIn,-List.getD_eq_getElem?_getD]
  ·have hkn:k=d.ins.length:=by omega
   have e:nameTo d code k=nameOf d code:=by unfold nameTo nameOf; rw [hkn,List.take_length]
   rw [e]
   refine Cov.go [] [] ?_
   simp [cvT,step,res,boxL,boxRg,litRg,litIn,-List.getD_eq_getElem?_getD]
 have hrg:=fun m=>register_c n1 n2 d (nameOf d code) m hR
 unfold dvP litRg litIn at hrg
 refine SR.run (t:=.mk) ?_
 unfold boxL boxRg litRg litIn
 simp -dsimp only [aqA,↓seqK,↓blkK,↓loopK,step,stepBin,eqB,Nat.add_assoc nid,simprocAttr,LN_succ]
 refine CallO.pure (hrg _) ?_
 simp -dsimp only [aqA,↓seqK,↓blkK,↓loopK,step,stepBin,eqB,Nat.add_assoc nid,simprocAttr,LN_succ]
 refine RetOK.go [] [] (.inl rfl) ?_
 simp [a98,cvT,step,res,selV,-List.getD_eq_getElem?_getD]
def portB (p:Port) (im om:Nat):Option ABlk:=some (.box 101 [.str p.d.name,.int .i64 p.d.long,.int .i64 p.d.id,litRg p.m1 p.d.regs,litIn p.m2 p.d.ins,.str p.instr,.str p.shift,.mp im,.mp om])
def mapS (D:MK→Bool) (V:MK→Bs):Option ABlk:=some (.map .s D (.s V))
set_option maxHeartbeats 2000000 in
theorem portSel_c (p:Port) (i im om nid:Nat) (h:i<nid) (h1:im<nid) (h2:om<nid) (hR:p.d.regs.length≤1000) (hI:p.d.ins.length≤1000) :
  ACall Tryz.prog 168 [.ptr i 0] [(i,portB p im om)] nid (.agg [.str (selP p.d p.instr).1,.int .i64 (selP p.d p.instr).2]) []:=by
 obtain ⟨e1,e2,e3,e4,e5,e6,e7,e8,e9⟩:=id_all h
 have g1:=id_all h1
 have g2:=id_all h2
 have hrg:=fun m=>register_c p.m1 p.m2 p.d idL m hR
 have hsl:=fun m=>selected_c p.m1 p.m2 p.d p.instr m hR hI
 unfold dvP litRg litIn idL at hrg
 unfold dvP litRg litIn at hsl
 refine acall_run c168 (by simp [a168]) ?_
 unfold portB litRg litIn
 simp -dsimp only [aqA,↓seqK,↓blkK,↓loopK,step,stepBin,eqB,Nat.reduceBEq,Nat.reduceBeqDiff,Nat.add_assoc nid,Nat.reduceAdd,reduceCtorEq,↓reduceIte,Nat.reduceLeDiff,Nat.reduceBneDiff,Nat.reduceLT,e1,e2,e3,e4,e5,e6,e7,e8,e9,a168]
 refine S2.intro (fun h3=>?_) (fun h3=>?_)
 ·have h3:p.instr=[]:=by simpa using h3
  have e:selP p.d p.instr=if regIs p.d idL=true then regOf p.d idL else (byL,1):=by unfold selP; rw [if_pos h3]
  rw [e]
  simp -dsimp only [aqA,↓seqK,↓blkK,↓loopK,step,stepBin,eqB,Nat.reduceBEq,Nat.reduceBeqDiff,Nat.add_assoc nid,Nat.reduceAdd,reduceCtorEq,↓reduceIte,Nat.reduceLeDiff,Nat.reduceBneDiff,Nat.reduceLT,e1,e2,e3,e4,e5,e6,e7,e8,e9]
  refine CallO.pure (hrg _) ?_
  cases h4:regIs p.d [105,100,99,111,100,101]
  ·have e':(if regIs p.d idL=true then regOf p.d idL else (byL,1))=(byL,1):=if_neg (by unfold idL; rw [h4]; simp)
   rw [e']
   simp -dsimp only [aqA,↓seqK,↓blkK,↓loopK,step,stepBin,eqB,Nat.reduceBEq,Nat.reduceBeqDiff,Nat.add_assoc nid,Nat.reduceAdd,reduceCtorEq,↓reduceIte,Nat.reduceLeDiff,Nat.reduceBneDiff,Nat.reduceLT,e1,e2,e3,e4,e5,e6,e7,e8,e9]
   refine RetOK.go [] [] (.inl rfl) ?_
   simp [a168,cvT,step,res,e1,e2,e3,e4,e5,e6,e7,e8,e9,byL,g1,g2,-List.getD_eq_getElem?_getD]
  ·have e':(if regIs p.d idL=true then regOf p.d idL else (byL,1))=regOf p.d idL:=if_pos h4
   rw [e']
   simp -dsimp only [aqA,↓seqK,↓blkK,↓loopK,step,stepBin,eqB,Nat.reduceBEq,Nat.reduceBeqDiff,Nat.add_assoc nid,Nat.reduceAdd,reduceCtorEq,↓reduceIte,Nat.reduceLeDiff,Nat.reduceBneDiff,Nat.reduceLT,e1,e2,e3,e4,e5,e6,e7,e8,e9]
   refine RetOK.go [] [] (.inl rfl) ?_
   simp [a168,cvT,step,res,e1,e2,e3,e4,e5,e6,e7,e8,e9,idL,g1,g2,-List.getD_eq_getElem?_getD]
 ·have h3:¬ p.instr=[]:=by simpa using h3
  have e:selP p.d p.instr=selV p.d p.instr:=by unfold selP; rw [if_neg h3]
  rw [e]
  simp -dsimp only [aqA,↓seqK,↓blkK,↓loopK,step,stepBin,eqB,Nat.reduceBEq,Nat.reduceBeqDiff,Nat.add_assoc nid,Nat.reduceAdd,reduceCtorEq,↓reduceIte,Nat.reduceLeDiff,Nat.reduceBneDiff,Nat.reduceLT,e1,e2,e3,e4,e5,e6,e7,e8,e9]
  refine CallX.pure (hsl _) ?_
  simp -dsimp only [aqA,↓seqK,↓blkK,↓loopK,step,stepBin,eqB,Nat.reduceBEq,Nat.reduceBeqDiff,Nat.add_assoc nid,Nat.reduceAdd,reduceCtorEq,↓reduceIte,Nat.reduceLeDiff,Nat.reduceBneDiff,Nat.reduceLT,e1,e2,e3,e4,e5,e6,e7,e8,e9]
  refine RetOK.go [] [] (.inl rfl) ?_
  simp [a168,cvT,step,res,e1,e2,e3,e4,e5,e6,e7,e8,e9,g1,g2,-List.getD_eq_getElem?_getD]
open Go.RowKit
def bitU (n i:Nat):UInt8:=UInt8.ofNat (48+(n >>> i) % 2)
theorem bitU_nat (n i:Nat):(bitU n i).toNat=48+(n >>> i) % 2:=by
 unfold bitU
 have:(n >>> i) % 2<2:=Nat.mod_lt _ (by omega)
 rw [UInt8.toNat_ofNat']
 omega
theorem idBits_get (n i:Nat) (hi:i<32):(idBits (n:Nat)).getD i 0=bitU n i:=by
 unfold idBits bitU
 rw [List.getD_eq_getElem?_getD,List.getElem?_map,List.getElem?_range hi]
 rfl
theorem idBits_len (n:Int):(idBits n).length=32:=by unfold idBits; simp
theorem bit1 (n i:Nat) (hn:n<4611686018427387904) (hi:i<62):IntKind.i64.wrap ((BitVec.ofInt IntKind.i64.bits ((n:Int).fdiv (2 ^ (min i IntKind.i64.bits))) &&& BitVec.ofInt IntKind.i64.bits 1).toNat:Int)=(((n >>> i) % 2:Nat):Int):=by
 rw [shr64 n i hi]
 have h:n >>> i<4611686018427387904:=by rw [Nat.shiftRight_eq_div_pow]; exact Nat.lt_of_le_of_lt (Nat.div_le_self _ _) hn
 have:=and64 (n >>> i) 1 h (by omega)
 rw [show ((1:Nat):Int)=1 from rfl] at this
 rw [this,Nat.and_one_is_mod]
theorem bitWq (n i:Nat):IntKind.u8.wrap (48+(((n >>> i) % 2:Nat):Int))=((bitU n i).toNat:Nat):=by
 rw [bitU_nat]
 rcases Nat.mod_two_eq_zero_or_one (n >>> i) with e | e <;> rw [e] <;> rfl
theorem idBits_all (N:Nat):(List.range 32).map (fun i=>UInt8.ofNat (List.getD (idBits (N:Nat)) i 0).toNat)=idBits (N:Nat):=by
 refine List.ext_getElem (by rw [idBits_len]; simp) fun i h1 h2=>?_
 simp only [List.getElem_map,List.getElem_range,UInt8.ofNat_toNat]
 rw [List.getD_eq_getElem?_getD,List.getElem?_eq_getElem h2]
 rfl
set_option maxHeartbeats 4000000 in
theorem captured_c (p:Port) (i im om nid:Nat) (h:i<nid) (h1:im<nid) (h2:om<nid) (hne:i≠im) (hR:p.d.regs.length≤1000) (hI:p.d.ins.length≤1000) (hid:0≤p.d.id∧p.d.id≤4294967295) :
  ACall Tryz.prog 167 [.ptr i 0] [(i,portB p im om),(im,mapS p.iD p.iV)] nid (.str (captV p)) []:=by
 obtain ⟨e1,e2,e3,e4,e5,e6,e7,e8,e9⟩:=id_all h
 have g1:=id_all h1
 have g2:=id_all h2
 have n1:(i==im)=false:=by simpa using hne
 have n2:(im==i)=false∧¬ im=i∧¬ i=im:=⟨beq_eq_false_iff_ne.2 fun e=>hne e.symm,fun e=>hne e.symm,hne⟩
 have hsl:=fun m (h:i<m) (h1:im<m) (h2:om<m)=>portSel_c p i im om m h h1 h2 hR hI
 refine acall_sr c167 (by simp [a167]) ?_
 unfold a167
 refine SR.seq ?_
 simp -dsimp only [aqA,↓seqK,↓blkK,↓loopK,step,stepBin,eqB,Nat.reduceBEq,Nat.reduceBeqDiff,Nat.add_assoc nid,Nat.reduceAdd,reduceCtorEq,↓reduceIte,Nat.reduceLeDiff,Nat.reduceBneDiff,Nat.reduceLT,e1,e2,e3,e4,e5,e6,e7,e8,e9,g1,g2,n1,n2]
 obtain ⟨r,hr⟩:∃ r,selP p.d p.instr=r:=⟨_,rfl⟩
 have hcv:captV p=if r.1=byL then [48] else if r.1=idL then idBits p.d.id else bif p.iD (.s r.1) then p.iV (.s r.1) else []:=by unfold captV; rw [hr]
 rw [hcv]
 rw [hr] at hsl
 refine SR.seqTo ⟨[(3,.ptr (nid+10) 0),(0,.ptr i 0)],[(i,portB p im om),(im,mapS p.iD p.iV),(nid+10,boxRg r)],nid+100,nid⟩ ?_ ?_
 ·simp -dsimp only [aqA,↓seqK,↓blkK,↓loopK,step,stepBin,eqB,Nat.reduceBEq,Nat.reduceBeqDiff,Nat.add_assoc nid,Nat.reduceAdd,reduceCtorEq,↓reduceIte,Nat.reduceLeDiff,Nat.reduceBneDiff,Nat.reduceLT,e1,e2,e3,e4,e5,e6,e7,e8,e9,g1,g2,n1,n2]
  refine CallO.on (hsl _ (by omega) (by omega) (by omega)) (subH_get (by simp only [aqA,↓seqK,↓blkK,↓loopK,step,stepBin,eqB,Nat.add_assoc nid,simprocAttr,LN_succ])) ?_
  simp -dsimp only [aqA,↓seqK,↓blkK,↓loopK,step,stepBin,eqB,Nat.reduceBEq,Nat.reduceBeqDiff,Nat.add_assoc nid,Nat.reduceAdd,reduceCtorEq,↓reduceIte,Nat.reduceLeDiff,Nat.reduceBneDiff,Nat.reduceLT,e1,e2,e3,e4,e5,e6,e7,e8,e9,g1,g2,n1,n2]
  refine Cov.go [(nid+10,nid+12)] [] ?_
  simp [cvT,step,res,e1,e2,e3,e4,e5,e6,e7,e8,e9,boxRg,portB,mapS,litRg,litIn,g1,g2,n1,n2,-List.getD_eq_getElem?_getD]
 have q5:=strEq r.1 [98,121,112,97,115,115]
 have q6:=strEq r.1 [105,100,99,111,100,101]
 unfold boxRg mapS portB litRg litIn
 refine SR.seq ?_
 simp -dsimp only [aqA,↓seqK,↓blkK,↓loopK,step,stepBin,eqB,Nat.reduceBEq,Nat.reduceBeqDiff,Nat.add_assoc nid,Nat.reduceAdd,reduceCtorEq,↓reduceIte,Nat.reduceLeDiff,Nat.reduceBneDiff,Nat.reduceLT,e1,e2,e3,e4,e5,e6,e7,e8,e9,g1,g2,n1,n2]
 by_cases h5:r.1=byL
 ·rw [if_pos h5]
  rw [decide_eq_true (show r.1=[98,121,112,97,115,115] from h5)] at q5
  refine SR.run (t:=.mk) ?_
  simp -dsimp only [aqA,↓seqK,↓blkK,↓loopK,step,stepBin,eqB,Nat.reduceBEq,Nat.reduceBeqDiff,Nat.add_assoc nid,Nat.reduceAdd,reduceCtorEq,↓reduceIte,Nat.reduceLeDiff,Nat.reduceBneDiff,Nat.reduceLT,e1,e2,e3,e4,e5,e6,e7,e8,e9,q5,g1,g2,n1,n2]
  refine RetOK.go [] [] (.inl rfl) ?_
  simp [a167,cvT,step,res,e1,e2,e3,e4,e5,e6,e7,e8,e9,g1,g2,n1,n2]
 rw [if_neg h5]
 rw [decide_eq_false (show ¬ r.1=[98,121,112,97,115,115] from h5)] at q5
 by_cases h6:r.1=idL
 ·rw [if_pos h6]
  rw [decide_eq_true (show r.1=[105,100,99,111,100,101] from h6)] at q6
  refine SR.run (t:=.mk) ?_
  simp -dsimp only [aqA,↓seqK,↓blkK,↓loopK,step,stepBin,eqB,Nat.reduceBEq,Nat.reduceBeqDiff,Nat.add_assoc nid,Nat.reduceAdd,reduceCtorEq,↓reduceIte,Nat.reduceLeDiff,Nat.reduceBneDiff,Nat.reduceLT,e1,e2,e3,e4,e5,e6,e7,e8,e9,q5,q6,g1,g2,n1,n2]
  obtain ⟨N,hN⟩:∃ N:Nat,p.d.id=N:=⟨_,(Int.toNat_of_nonneg hid.1).symm⟩
  have hpc:∀ a b,p.d.id=(N:Int)→portB p a b=some (.box 101 [.str p.d.name,.int .i64 p.d.long,.int .i64 (N:Nat),litRg p.m1 p.d.regs,litIn p.m2 p.d.ins,.str p.instr,.str p.shift,.mp a,.mp b]):=fun a b h=>by unfold portB; rw [h]
  rw [hN] at hid ⊢
  refine LP.mkP (fun k:Nat=>k≤32) (fun k=>⟨[(4,.sl (nid+200) 0 k),(21,.int .i64 (k:Nat)),(0,.ptr i 0)],[(i,portB p im om),(im,mapS p.iD p.iV),(nid+200,some (.arr 5 k [.i .u8 fun j=>(((idBits (N:Nat)).getD j 0).toNat:Nat)]))],nid+300,nid⟩) (fun k=>33 - k) 0 (by omega) (Cov.go [] [(nid+200,1)] ?_) (fun k hk=>?_)
  ·simp [cvT,step,res,e1,e2,e3,e4,e5,e6,e7,e8,e9,boxRg,portB,mapS,litRg,litIn,hN,g1,g2,n1,n2,-List.getD_eq_getElem?_getD]
  rw [hpc im om hN]
  unfold mapS litRg litIn
  simp -dsimp only [aqA,↓seqK,↓blkK,↓loopK,step,stepBin,eqB,Nat.reduceBEq,Nat.reduceBeqDiff,Nat.add_assoc nid,Nat.reduceAdd,reduceCtorEq,↓reduceIte,Nat.reduceLeDiff,Nat.reduceBneDiff,Nat.reduceLT,e1,e2,e3,e4,e5,e6,e7,e8,e9,g1,g2,n1,n2]
  refine S2.dec (fun h3=>?_) (fun h3=>?_) <;> simp -dsimp only [aqA,↓seqK,↓blkK,↓loopK,step,stepBin,eqB,Nat.reduceBEq,Nat.reduceBeqDiff,Nat.add_assoc nid,Nat.reduceAdd,reduceCtorEq,↓reduceIte,Nat.reduceLeDiff,Nat.reduceBneDiff,Nat.reduceLT,e1,e2,e3,e4,e5,e6,e7,e8,e9,g1,g2,n1,n2]
  ·have hm:=Nat.mod_lt (N >>> k) (show 0<2 by omega)
   rw [bit1 N k (by omega) (by omega),bitWq]
   refine ⟨by omega,by unfold inI64; omega,⟨by omega,by omega⟩,by unfold inI64; omega,k+1,⟨by omega,by omega⟩,Cov.go [(nid+200,nid+360)] [] ?_⟩
   simp [cvT,step,res,e1,e2,e3,e4,e5,e6,e7,e8,e9,boxRg,portB,mapS,litRg,litIn,hN,g1,g2,n1,n2,-List.getD_eq_getElem?_getD]
   refine ColEq.i fun j hj=>?_
   by_cases hjk:j<k
   ·rw [if_pos hjk]
   ·have e:j=k:=by omega
    rw [if_neg hjk,e,Nat.sub_self,idBits_get N k (by omega)]
    rfl
  ·have hk2:k=32:=by omega
   subst hk2
   rw [idBits_all]
   refine RetOK.go [] [] (.inl rfl) ?_
   simp [a167,cvT,step,res,e1,e2,e3,e4,e5,e6,e7,e8,e9,hN,g1,g2,n1,n2,-List.getD_eq_getElem?_getD]
 ·rw [if_neg h6]
  rw [decide_eq_false (show ¬ r.1=[105,100,99,111,100,101] from h6)] at q6
  refine SR.run (t:=.mk) ?_
  simp -dsimp only [aqA,↓seqK,↓blkK,↓loopK,step,stepBin,eqB,Nat.reduceBEq,Nat.reduceBeqDiff,Nat.add_assoc nid,Nat.reduceAdd,reduceCtorEq,↓reduceIte,Nat.reduceLeDiff,Nat.reduceBneDiff,Nat.reduceLT,e1,e2,e3,e4,e5,e6,e7,e8,e9,q5,q6,g1,g2,n1,n2,mkKey,mGet,keyIn]
  refine RetOK.go [] [] (.inl rfl) ?_
  simp [a167,cvT,step,res,e1,e2,e3,e4,e5,e6,e7,e8,e9,g1,g2,n1,n2,-List.getD_eq_getElem?_getD]
open Go.RowKit
def stT:List (Nat × Nat):=[(1,0),(1,2),(3,9),(4,5),(4,5),(6,8),(6,7),(4,8),(1,2),(10,0),(11,12),(11,12),(13,15),(13,14),(11,15),(1,2)]
def nextN (s t:Nat):Nat:=if t=0 then (stT.getD s (0,0)).1 else (stT.getD s (0,0)).2
def stCells:List PV:=stT.flatMap fun x=>[.int .i64 (x.1:Nat),.int .i64 (x.2:Nat)]
theorem stCells_get:∀ s,s<16→∀ t,t<2→∃ r,stCells.drop (s * 2+t)=.int .i64 (nextN s t:Nat)::r:=by
 intro s hs t ht
 rcases t with _ | _ | t
 ·rcases s with _ | _ | _ | _ | _ | _ | _ | _ | _ | _ | _ | _ | _ | _ | _ | _ | s <;> first | exact ⟨_,rfl⟩ | omega
 ·rcases s with _ | _ | _ | _ | _ | _ | _ | _ | _ | _ | _ | _ | _ | _ | _ | _ | s <;> first | exact ⟨_,rfl⟩ | omega
 ·omega
theorem nextN_lt {s t:Nat} (hs:s<16) (ht:t<2):nextN s t<16:=by
 have:∀ s,s<16→∀ t,t<2→nextN s t<16:=by decide
 exact this s hs t ht
theorem next_st (s t nid:Nat) (hs:s<16) (ht:t<2):ACall Tryz.prog 115 [.int .i64 (s:Nat),.int .i64 (t:Nat)] [] nid (.int .i64 (nextN s t:Nat)) []:=by
 refine acall_run c115 (by simp [a115]) ?_
 obtain ⟨r,hr⟩:=stCells_get s hs t ht
 have e:stCells=[.int .i64 1,.int .i64 0,.int .i64 1,.int .i64 2,.int .i64 3,.int .i64 9,.int .i64 4,.int .i64 5,.int .i64 4,.int .i64 5,.int .i64 6,.int .i64 8,.int .i64 6,.int .i64 7,.int .i64 4,.int .i64 8,
  .int .i64 1,.int .i64 2,.int .i64 10,.int .i64 0,.int .i64 11,.int .i64 12,.int .i64 11,.int .i64 12,.int .i64 13,.int .i64 15,.int .i64 13,.int .i64 14,.int .i64 11,.int .i64 15,.int .i64 1,.int .i64 2]:=rfl
 rw [e] at hr
 simp -dsimp only [a115,aqT,aqU,aqN,aqP,aqM,↓seqK,↓blkK,↓loopK,step,stepBin,eqB,Nat.reduceBEq,Nat.reduceBeqDiff,Nat.add_assoc nid,Nat.reduceAdd,reduceCtorEq,↓reduceIte,Nat.reduceLeDiff,Nat.reduceBneDiff,Option.toList,← Int.ofNat_tmod,← Int.ofNat_tdiv,Nat.reduceLT]
 refine ⟨by omega,by omega,?_⟩
 rw [Nat.mul_one,hr]
 simp -dsimp only [aqT,aqU,aqN,aqP,aqM,↓seqK,↓blkK,↓loopK,step,stepBin,eqB,Nat.reduceBEq,Nat.reduceBeqDiff,Nat.add_assoc nid,Nat.reduceAdd,reduceCtorEq,↓reduceIte,Nat.reduceLeDiff,Nat.reduceBneDiff,Option.toList,← Int.ofNat_tmod,← Int.ofNat_tdiv,Nat.reduceLT]
 refine RetOK.pure (.inl rfl) rfl ?_
 simp [cvT,step,res]
def tlook:List (Nat × List UInt8)→MK→Option (List UInt8)
 | [],_=>none
 | (k,v)::r,q=>if q=.i (k:Nat) then some v else tlook r q
def pIn (a t:Nat) (x:List Nat × List (Nat × List UInt8)):List Nat × List (Nat × List UInt8) :=
 if (tlook x.2 (.i (nextN a t:Nat))).isSome then x else (x.1++[nextN a t],(nextN a t,(tlook x.2 (.i (a:Nat))).getD []++[UInt8.ofNat (48+t)])::x.2)
def pOut (x:List Nat × List (Nat × List UInt8)):List Nat × List (Nat × List UInt8):=match x.1 with
 | []=>x
 | a::r=>pIn a 1 (pIn a 0 (r,x.2))
def pAt (s:Nat):Nat→List Nat × List (Nat × List UInt8)
 | 0=>([s],[(s,[])])
 | n+1=>pOut (pAt s n)
def pathV (s t:Nat):List UInt8:=(tlook (pAt s 16).2 (.i (t:Nat))).getD []
theorem pAt_ok:∀ s,s<16→((pAt s 16).1=[]∧∀ n,n<17→((pAt s n).1.all (·<16)=true∧(pAt s n).1.length≤16∧(pAt s n).2.all (fun x=>decide (x.2.length≤16))=true)):=by decide
def pInTo (a:Nat) (x:List Nat × List (Nat × List UInt8)):Nat→List Nat × List (Nat × List UInt8)
 | 0=>x
 | k+1=>pIn a k (pInTo a x k)
theorem pInTo_len (a:Nat) (x:List Nat × List (Nat × List UInt8)) (k:Nat):(pInTo a x k).1.length≤x.1.length+k:=by
 induction k with
 | zero=>exact Nat.le_refl _
 | succ k ih =>
  unfold pInTo pIn
  split
  ·omega
  ·simp; omega
theorem tlook_len {L:Nat}:∀ {T:List (Nat × List UInt8)},T.all (fun x=>decide (x.2.length≤L))=true→∀ q,((tlook T q).getD []).length≤L
 | [],_,q=>by simp [tlook]
 | (k,v)::r,h,q=>by
  simp only [List.all_cons,Bool.and_eq_true,decide_eq_true_eq] at h
  unfold tlook
  split
  ·exact h.1
  ·exact tlook_len h.2 q
theorem pInTo_vals {L:Nat} (a:Nat) {x:List Nat × List (Nat × List UInt8)} (h:x.2.all (fun x=>decide (x.2.length≤L))=true):∀ k,(pInTo a x k).2.all (fun x=>decide (x.2.length≤L+k))=true
 | 0=>h
 | k+1=>by
  have ih:=pInTo_vals a h k
  have ih':(pInTo a x k).2.all (fun x=>decide (x.2.length≤L+(k+1)))=true:=by
   rw [List.all_eq_true] at ih ⊢
   intro y hy
   have:=ih y hy
   simp only [decide_eq_true_eq] at this ⊢
   omega
  unfold pInTo pIn
  split
  ·exact ih'
  ·simp only [List.all_cons,Bool.and_eq_true,decide_eq_true_eq,ih',and_true,List.length_append,List.length_singleton]
   have:=tlook_len ih (.i (a:Nat))
   omega
theorem optD (o:Option (List UInt8)):(bif o.isSome then o.getD [] else [])=o.getD []:=by cases o <;> rfl
theorem utf8_bit {k:Nat} (hk:k<2):(Utf8.encode (IntKind.i32.wrap (48+(k:Int)))).data.toList=[UInt8.ofNat (48+k)]:=by
 have:k=0∨k=1:=by omega
 rcases this with rfl | rfl <;> rfl
theorem getD_snocN (l:List Nat) (x i:Nat):(l++[x]).getD i 0=if i<l.length then l.getD i 0 else if i=l.length then x else 0:=by
 simp only [List.getD_eq_getElem?_getD,List.getElem?_append]
 split
 ·rfl
 ·split
  ·simp [*]
  ·rw [List.getElem?_eq_none (by simp; omega)]; rfl
def mapT (T:List (Nat × List UInt8)):Option ABlk:=some (.map (.i .i64) (fun q=>(tlook T q).isSome) (.s fun q=>(tlook T q).getD []))
set_option maxHeartbeats 1000000 in
theorem path_st (s t nid:Nat) (hs:s<16):ACall Tryz.prog 123 [.int .i64 (s:Nat),.int .i64 (t:Nat)] [] nid (.str (pathV s t)) []:=by
 refine acall_run c123 (by simp [a123]) ?_
 simp -dsimp only [a123,aqT,aqU,aqN,aqP,aqM,↓seqK,↓blkK,↓loopK,step,stepBin,eqB,Nat.reduceBEq,Nat.reduceBeqDiff,Nat.add_assoc nid,Nat.reduceAdd,reduceCtorEq,↓reduceIte,Nat.reduceLeDiff,Nat.reduceBneDiff,Option.toList,← Int.ofNat_tmod,← Int.ofNat_tdiv,Nat.reduceLT,mNew,mkKey,keyIn,mPut]
 refine LP.mkP (fun x:Nat × Nat × (Nat→Int)=>x.1≤16) (fun x=>⟨[(6,.sl (nid+4) x.2.1 (pAt s x.1).1.length),(5,.mp (nid+8)),(1,.int .i64 (t:Nat))],
  [(nid+4,some (.arr 3 (x.2.1+(pAt s x.1).1.length) [.i .i64 fun i=>if i<x.2.1 then x.2.2 i else (((pAt s x.1).1.getD (i - x.2.1) 0:Nat):Int)])),(nid+8,mapT (pAt s x.1).2)],nid+100,nid⟩)
  (fun x=>17 - x.1) (0,0,fun _=>0) (by simp) (Cov.go [(nid+4,nid+28),(nid+8,nid+4)] [] ?_) (fun x hx=>?_)
 ·simp [cvT,step,res,pAt,mapT]
  refine ⟨ColEq.i fun i hi=>?_,fun q hq=>?_⟩
  ·have:i=0:=by omega
   subst this; rfl
  ·unfold tlook tlook
   split <;> simp [*,mVal]
 obtain ⟨n,d,g⟩:=x
 simp only at hx
 obtain ⟨ok1,ok2⟩:=pAt_ok s hs
 have ok:=ok2 n (by omega)
 have hst:pAt s (n+1)=pOut (pAt s n):=rfl
 unfold mapT
 simp -dsimp only [aqT,aqU,aqN,aqP,aqM,↓seqK,↓blkK,↓loopK,step,stepBin,eqB,Nat.reduceBEq,Nat.reduceBeqDiff,Nat.add_assoc nid,Nat.reduceAdd,reduceCtorEq,↓reduceIte,Nat.reduceLeDiff,Nat.reduceBneDiff,Option.toList,← Int.ofNat_tmod,← Int.ofNat_tdiv,Nat.reduceLT]
 refine S2.dec (fun h1=>?_) (fun h1=>?_)
 ·have hn:n<16:=by
   rcases Nat.lt_or_ge n 16 with h | h
   ·exact h
   ·have:n=16:=by omega
    subst this; rw [ok1] at h1; simp at h1
  rcases hQ:pAt s n with ⟨Q,T⟩
  rw [hQ] at ok hst h1
  rcases Q with _ | ⟨a,r⟩
  ·simp at h1
  simp only [List.all_cons,Bool.and_eq_true,decide_eq_true_eq,List.length_cons] at ok
  obtain ⟨⟨ha,hr⟩,hlen,hvl⟩:=ok
  have hst:pAt s (n+1)=pInTo a (r,T) 2:=hst
  simp -dsimp only [aqT,aqU,aqN,aqP,aqM,↓seqK,↓blkK,↓loopK,step,stepBin,eqB,Nat.reduceBEq,Nat.reduceBeqDiff,Nat.add_assoc nid,Nat.reduceAdd,reduceCtorEq,↓reduceIte,Nat.reduceLeDiff,Nat.reduceBneDiff,Option.toList,← Int.ofNat_tmod,← Int.ofNat_tdiv,Nat.reduceLT]
  refine ⟨by omega,by omega,LP.mkP (fun x:Nat × Nat × (Nat→Int)=>x.1≤2) (fun x=>⟨[(25,.int .i64 (x.1:Nat)),(7,.int .i64 (a:Nat)),(6,.sl (nid+4) x.2.1 (pInTo a (r,T) x.1).1.length),(5,.mp (nid+8)),(1,.int .i64 (t:Nat))],
   [(nid+4,some (.arr 3 (x.2.1+(pInTo a (r,T) x.1).1.length) [.i .i64 fun i=>if i<x.2.1 then x.2.2 i else (((pInTo a (r,T) x.1).1.getD (i - x.2.1) 0:Nat):Int)])),(nid+8,mapT (pInTo a (r,T) x.1).2)],nid+200,nid⟩)
   (fun x=>3 - x.1) (0,d+1,fun i=>if i<d then g i else (((a::r).getD (i - d) 0:Nat):Int)) (by simp) (Cov.go [] [] ?_) (fun y hy=>?_)⟩
  ·simp [cvT,step,res,pInTo,mapT,-List.getD_eq_getElem?_getD]
   refine ⟨⟨by omega,ColEq.i fun i hi=>?_⟩,by simp⟩
   by_cases hid:i<d+1
   ·rw [if_pos hid]
   ·rw [if_neg hid,if_neg (by omega),show i - d=i - (d+1)+1 from by omega]
    rfl
  obtain ⟨k,d2,g2⟩:=y
  simp only at hy
  unfold mapT
  have hql:=pInTo_len a (r,T) k
  have hqv:=pInTo_vals a (x:=(r,T)) hvl k
  rcases hX:pInTo a (r,T) k with ⟨Q2,T2⟩
  have hk1:pInTo a (r,T) (k+1)=pIn a k (Q2,T2):=by rw [← hX]; rfl
  rw [hX] at hql hqv
  simp only at hql hqv
  have hsl:=tlook_len hqv (.i (a:Nat))
  simp -dsimp only [aqT,aqU,aqN,aqP,aqM,↓seqK,↓blkK,↓loopK,step,stepBin,eqB,Nat.reduceBEq,Nat.reduceBeqDiff,Nat.add_assoc nid,Nat.reduceAdd,reduceCtorEq,↓reduceIte,Nat.reduceLeDiff,Nat.reduceBneDiff,Option.toList,← Int.ofNat_tmod,← Int.ofNat_tdiv,Nat.reduceLT,hX]
  refine S2.dec (fun h2=>?_) (fun h2=>?_)
  ·simp -dsimp only [aqT,aqU,aqN,aqP,aqM,↓seqK,↓blkK,↓loopK,step,stepBin,eqB,Nat.reduceBEq,Nat.reduceBeqDiff,Nat.add_assoc nid,Nat.reduceAdd,reduceCtorEq,↓reduceIte,Nat.reduceLeDiff,Nat.reduceBneDiff,Option.toList,← Int.ofNat_tmod,← Int.ofNat_tdiv,Nat.reduceLT]
   refine CallO.pure (next_st a k _ ha (by omega)) ?_
   simp -dsimp only [aqT,aqU,aqN,aqP,aqM,↓seqK,↓blkK,↓loopK,step,stepBin,eqB,Nat.reduceBEq,Nat.reduceBeqDiff,Nat.add_assoc nid,Nat.reduceAdd,reduceCtorEq,↓reduceIte,Nat.reduceLeDiff,Nat.reduceBneDiff,Option.toList,← Int.ofNat_tmod,← Int.ofNat_tdiv,Nat.reduceLT,mkKey,keyIn,mGet,optD]
   refine S2.intro (fun h3=>?_) (fun h3=>?_)
   ·have h3':(tlook T2 (.i (nextN a k:Nat))).isSome=false:=by simpa using h3
    rw [show pIn a k (Q2,T2)=(Q2++[nextN a k],(nextN a k,(tlook T2 (.i (a:Nat))).getD []++[UInt8.ofNat (48+k)])::T2) from by unfold pIn; rw [if_neg (by rw [h3']; simp)]] at hk1
    simp -dsimp only [aqT,aqU,aqN,aqP,aqM,↓seqK,↓blkK,↓loopK,step,stepBin,eqB,Nat.reduceBEq,Nat.reduceBeqDiff,Nat.add_assoc nid,Nat.reduceAdd,reduceCtorEq,↓reduceIte,Nat.reduceLeDiff,Nat.reduceBneDiff,Option.toList,← Int.ofNat_tmod,← Int.ofNat_tdiv,Nat.reduceLT,mkKey,keyIn,mGet,mPut,optD,utf8_bit (show k<2 by omega)]
    refine ⟨by unfold inI64; omega,by simp; omega,?_⟩
    cases hd2:d2==0
    ·simp -dsimp only [aqT,aqU,aqN,aqP,aqM,↓seqK,↓blkK,↓loopK,step,stepBin,eqB,Nat.reduceBEq,Nat.reduceBeqDiff,Nat.add_assoc nid,Nat.reduceAdd,reduceCtorEq,↓reduceIte,Nat.reduceLeDiff,Nat.reduceBneDiff,Option.toList,← Int.ofNat_tmod,← Int.ofNat_tdiv,Nat.reduceLT,Col.shift]
     refine ⟨⟨by omega,by omega⟩,by unfold inI64; omega,(k+1,0,fun _=>0),⟨by omega,by omega⟩,Cov.go [(nid+4,nid+324)] [] ?_⟩
     rw [hk1]
     simp [cvT,step,res,mapT,-List.getD_eq_getElem?_getD]
     refine ⟨ColEq.i fun i hi=>?_,fun q hq=>?_⟩
     ·rw [getD_snocN]
      by_cases h:i<Q2.length
      ·simp only [if_pos h,if_neg (show ¬ d2+i<d2 by omega)]
      ·have:i=Q2.length:=by omega
       subst this
       simp
     ·simp only [tlook,mVal]
      by_cases h:q=.i (nextN a k:Nat)
      ·simp [h]
      ·simp [h]
    ·have hd0:d2=0:=by simpa using hd2
     subst hd0
     simp -dsimp only [aqT,aqU,aqN,aqP,aqM,↓seqK,↓blkK,↓loopK,step,stepBin,eqB,Nat.reduceBEq,Nat.reduceBeqDiff,Nat.add_assoc nid,Nat.reduceAdd,reduceCtorEq,↓reduceIte,Nat.reduceLeDiff,Nat.reduceBneDiff,Option.toList,← Int.ofNat_tmod,← Int.ofNat_tdiv,Nat.reduceLT]
     refine ⟨⟨by omega,by omega⟩,by unfold inI64; omega,(k+1,0,fun _=>0),⟨by omega,by omega⟩,Cov.go [(nid+4,nid+324)] [] ?_⟩
     rw [hk1]
     simp [cvT,step,res,mapT,-List.getD_eq_getElem?_getD]
     refine ⟨ColEq.i fun i hi=>?_,fun q hq=>?_⟩
     ·rw [getD_snocN]
      by_cases h:i<Q2.length
      ·simp only [if_pos h]
      ·have:i=Q2.length:=by omega
       subst this
       simp
     ·simp only [tlook,mVal]
      by_cases h:q=.i (nextN a k:Nat)
      ·simp [h]
      ·simp [h]
   ·have h3':(tlook T2 (.i (nextN a k:Nat))).isSome=true:=by simpa using h3
    rw [show pIn a k (Q2,T2)=(Q2,T2) from by unfold pIn; rw [if_pos h3']] at hk1
    simp -dsimp only [aqT,aqU,aqN,aqP,aqM,↓seqK,↓blkK,↓loopK,step,stepBin,eqB,Nat.reduceBEq,Nat.reduceBeqDiff,Nat.add_assoc nid,Nat.reduceAdd,reduceCtorEq,↓reduceIte,Nat.reduceLeDiff,Nat.reduceBneDiff,Option.toList,← Int.ofNat_tmod,← Int.ofNat_tdiv,Nat.reduceLT]
    refine ⟨by unfold inI64; omega,(k+1,d2,g2),⟨by omega,by omega⟩,Cov.go [] [] ?_⟩
    rw [hk1]
    simp [cvT,step,res,mapT]
  ·have hk2:k=2:=by omega
   subst hk2
   simp -dsimp only [aqT,aqU,aqN,aqP,aqM,↓seqK,↓blkK,↓loopK,step,stepBin,eqB,Nat.reduceBEq,Nat.reduceBeqDiff,Nat.add_assoc nid,Nat.reduceAdd,reduceCtorEq,↓reduceIte,Nat.reduceLeDiff,Nat.reduceBneDiff,Option.toList,← Int.ofNat_tmod,← Int.ofNat_tdiv,Nat.reduceLT]
   refine ⟨(n+1,d2,g2),⟨by omega,by omega⟩,Cov.go [] [] ?_⟩
   rw [hst,hX]
   simp [cvT,step,res,mapT]
 ·simp -dsimp only [aqT,aqU,aqN,aqP,aqM,↓seqK,↓blkK,↓loopK,step,stepBin,eqB,Nat.reduceBEq,Nat.reduceBeqDiff,Nat.add_assoc nid,Nat.reduceAdd,reduceCtorEq,↓reduceIte,Nat.reduceLeDiff,Nat.reduceBneDiff,Option.toList,← Int.ofNat_tmod,← Int.ofNat_tdiv,Nat.reduceLT,mkKey,keyIn,mGet,optD]
  have h0:(pAt s n).1=[]:=List.eq_nil_of_length_eq_zero (by omega)
  have h16:∀ j,(pAt s (n+j))=pAt s n:=by
   intro j
   induction j with
   | zero=>rfl
   | succ j ih =>
    show pOut (pAt s (n+j))=_
    rw [ih]
    unfold pOut
    rw [h0]
  have:=h16 (16 - n)
  rw [show n+(16 - n)=16 from by omega] at this
  refine RetOK.pure (.inl rfl) rfl ?_
  simp [cvT,step,res,pathV,this]
open Go.RowKit
structure PortOk (p:Port):Prop where
 rl:p.d.regs.length≤1000
 il:p.d.ins.length≤1000
 idb:0≤p.d.id∧p.d.id≤4294967295
 lg:2≤p.d.long∧p.d.long≤32
def chB (st a n:Nat):Option ABlk:=some (.box 95 [.int .i64 (st:Nat),.sl a 0 n])
theorem utf8_low:((List.range 128).all fun n=>decide ((Utf8.encode (IntKind.i32.wrap (n:Int))).data.toList=[UInt8.ofNat n]))=true:=by kernel_rfl
theorem utf8_of {b:UInt8} (hb:b.toNat<128):(Utf8.encode (IntKind.i32.wrap ((b.toNat:Nat):Int))).data.toList=[b]:=by
 have:=List.all_eq_true.1 utf8_low b.toNat (List.mem_range.2 hb)
 simp only [decide_eq_true_eq,UInt8.ofNat_toNat] at this
 exact this
theorem rep48 (k:Nat):Lib.repeatL [48] k=List.replicate k 48:=by
 induction k with
 | zero=>rfl
 | succ k ih=>rw [List.replicate_succ,← ih]; rfl
theorem subH_two {H:Heap} {i j:Nat} {A B:Option ABlk} (h1:getH H i=A) (h2:getH H j=B):subH [(i,A),(j,B)] H:=fun id b hb=>by
 simp only [getH] at hb
 cases e:(i==id)
 ·rw [e] at hb
  simp only [cond_false] at hb
  cases e2:(j==id)
  ·rw [e2] at hb; cases hb
  ·rw [e2] at hb
   rw [← eq_of_beq e2,h2]; exact hb
 ·rw [e] at hb
  rw [← eq_of_beq e,h1]; exact hb
set_option maxHeartbeats 8000000 in
theorem act_c (st:Nat) (p:Port) (b:UInt8) (c a n i im om nid:Nat) (hc:c<nid) (ha:a<nid) (h:i<nid) (h1:im<nid) (h2:om<nid) (d1:c≠i) (d2:c≠im) (d3:c≠om) (d4:i≠im) (d5:i≠om) (d6:im≠om)
  (hp:PortOk p) (hst:st<16) (hb:b.toNat<128) (hl:p.shift.length≤1000000) (hs:shifts st=true→0<p.shift.length) :
  ACall Tryz.prog 114 [.ptr c 0,.ptr i 0,.int .u8 (b.toNat:Nat)] [(c,chB st a n),(i,portB p im om),(im,mapS p.iD p.iV),(om,mapS p.oD p.oV)] nid (.int .u8 ((actV st p b).2.toNat:Nat)) [(i,portB (actV st p b).1 im om),(om,mapS (actV st p b).1.oD (actV st p b).1.oV)]:=by
 obtain ⟨e1,e2,e3,e4,e5,e6,e7,e8,e9⟩:=id_all h
 have g1:=id_all h1
 have g2:=id_all h2
 have g3:=id_all hc
 have g4:=id_all ha
 have q:∀ {x y:Nat},x≠y→(x==y)=false∧(y==x)=false∧¬ x=y∧¬ y=x:=fun h=>⟨beq_eq_false_iff_ne.2 h,beq_eq_false_iff_ne.2 fun e=>h e.symm,h,fun e=>h e.symm⟩
 have n1:=q d1
 have n2:=q d2
 have n3:=q d3
 have n4:=q d4
 have n5:=q d5
 have n6:=q d6
 clear q d1 d2 d3 d5 d6
 have hcp:=fun m (h:i<m) (h1:im<m) (h2:om<m)=>captured_c p i im om m h h1 h2 d4 hp.rl hp.il hp.idb
 have hsl:=fun m (h:i<m) (h1:im<m) (h2:om<m)=>portSel_c p i im om m h h1 h2 hp.rl hp.il
 refine acall_sr c114 (by simp [a114]) ?_
 unfold a114 chB
 obtain ⟨X,hX⟩:∃ X:Int,(st:Int)=X:=⟨_,rfl⟩
 rw [hX]
 refine SR.run (t:=.mk) ?_
 by_cases s0:st=0
 ·have hv:actV st p b=({ p with instr:=[] },b):=by unfold actV; rw [if_pos s0]
  rw [hv]
  have t0:(X==0)=true:=by rw [beq_iff_eq]; omega
  unfold portB litRg litIn
  simp -dsimp only [aqA,↓seqK,↓blkK,↓loopK,step,stepBin,eqB,Nat.reduceBEq,Nat.reduceBeqDiff,Nat.add_assoc nid,Nat.reduceAdd,reduceCtorEq,↓reduceIte,Nat.reduceLeDiff,Nat.reduceBneDiff,Nat.reduceLT,e1,e2,e3,e4,e5,e6,e7,e8,e9,t0,g1,g2,g3,g4,n1,n2,n3,n4,n5,n6]
  refine RetOK.go [] [] (.inl rfl) ?_
  simp [a114,cvT,step,res,e1,e2,e3,e4,e5,e6,e7,e8,e9,mapS,g1,g2,g3,g4,n1,n2,n3,n4,n5,n6,-List.getD_eq_getElem?_getD]
 have t0:(X==0)=false:=by rw [beq_eq_false_iff_ne]; omega
 by_cases s3:st=3
 ·have hv:actV st p b=({ p with shift:=captV p },b):=by unfold actV; rw [if_neg s0,if_pos s3]
  rw [hv]
  have t3:(X==3)=true:=by rw [beq_iff_eq]; omega
  simp -dsimp only [aqA,↓seqK,↓blkK,↓loopK,step,stepBin,eqB,Nat.reduceBEq,Nat.reduceBeqDiff,Nat.add_assoc nid,Nat.reduceAdd,reduceCtorEq,↓reduceIte,Nat.reduceLeDiff,Nat.reduceBneDiff,Nat.reduceLT,e1,e2,e3,e4,e5,e6,e7,e8,e9,t0,t3,g1,g2,g3,g4,n1,n2,n3,n4,n5,n6]
  refine CallO.on (hcp _ (by omega) (by omega) (by omega)) (subH_two (by simp only [aqA,↓seqK,↓blkK,↓loopK,step,stepBin,eqB,Nat.add_assoc nid,simprocAttr,LN_succ,g1,g2,g3,g4,n1,n2,n3,n4,n5,n6]) (by simp only [aqA,↓seqK,↓blkK,↓loopK,step,stepBin,eqB,Nat.add_assoc nid,simprocAttr,LN_succ,g1,g2,g3,g4,n1,n2,n3,n4,n5,n6])) ?_
  unfold portB litRg litIn
  simp -dsimp only [aqA,↓seqK,↓blkK,↓loopK,step,stepBin,eqB,Nat.reduceBEq,Nat.reduceBeqDiff,Nat.add_assoc nid,Nat.reduceAdd,reduceCtorEq,↓reduceIte,Nat.reduceLeDiff,Nat.reduceBneDiff,Nat.reduceLT,e1,e2,e3,e4,e5,e6,e7,e8,e9,g1,g2,g3,g4,n1,n2,n3,n4,n5,n6]
  refine RetOK.go [] [] (.inl rfl) ?_
  simp [a114,cvT,step,res,e1,e2,e3,e4,e5,e6,e7,e8,e9,mapS,g1,g2,g3,g4,n1,n2,n3,n4,n5,n6,-List.getD_eq_getElem?_getD]
 have t3:(X==3)=false:=by rw [beq_eq_false_iff_ne]; omega
 by_cases s4:st=4
 ·have hv:actV st p b=({ p with shift:=p.shift.drop 1++[b] },p.shift.getD 0 0):=by unfold actV; rw [if_neg s0,if_neg s3,if_pos (.inl s4)]
  rw [hv]
  have t4:(X==4)=true:=by rw [beq_iff_eq]; omega
  unfold portB litRg litIn
  have hs0:=hs (by unfold shifts; rw [s4]; rfl)
  simp -dsimp only [aqA,↓seqK,↓blkK,↓loopK,step,stepBin,eqB,Nat.reduceBEq,Nat.reduceBeqDiff,Nat.add_assoc nid,Nat.reduceAdd,reduceCtorEq,↓reduceIte,Nat.reduceLeDiff,Nat.reduceBneDiff,Nat.reduceLT,e1,e2,e3,e4,e5,e6,e7,e8,e9,t0,t3,t4,g1,g2,g3,g4,n1,n2,n3,n4,n5,n6]
  rw [utf8_of hb]
  refine ⟨⟨by omega,by omega⟩,⟨by omega,by omega⟩,by simp; omega,?_⟩
  refine RetOK.go [] [] (.inl rfl) ?_
  simp [a114,cvT,step,res,e1,e2,e3,e4,e5,e6,e7,e8,e9,mapS,g1,g2,g3,g4,n1,n2,n3,n4,n5,n6,-List.getD_eq_getElem?_getD]
 have t4:(X==4)=false:=by rw [beq_eq_false_iff_ne]; omega
 by_cases s11:st=11
 ·have hv:actV st p b=({ p with shift:=p.shift.drop 1++[b] },p.shift.getD 0 0):=by unfold actV; rw [if_neg s0,if_neg s3,if_pos (.inr s11)]
  rw [hv]
  have t11:(X==11)=true:=by rw [beq_iff_eq]; omega
  unfold portB litRg litIn
  have hs0:=hs (by unfold shifts; rw [s11]; rfl)
  simp -dsimp only [aqA,↓seqK,↓blkK,↓loopK,step,stepBin,eqB,Nat.reduceBEq,Nat.reduceBeqDiff,Nat.add_assoc nid,Nat.reduceAdd,reduceCtorEq,↓reduceIte,Nat.reduceLeDiff,Nat.reduceBneDiff,Nat.reduceLT,e1,e2,e3,e4,e5,e6,e7,e8,e9,t0,t3,t4,t11,g1,g2,g3,g4,n1,n2,n3,n4,n5,n6]
  rw [utf8_of hb]
  refine ⟨⟨by omega,by omega⟩,⟨by omega,by omega⟩,by simp; omega,?_⟩
  refine RetOK.go [] [] (.inl rfl) ?_
  simp [a114,cvT,step,res,e1,e2,e3,e4,e5,e6,e7,e8,e9,mapS,g1,g2,g3,g4,n1,n2,n3,n4,n5,n6,-List.getD_eq_getElem?_getD]
 have t11:(X==11)=false:=by rw [beq_eq_false_iff_ne]; omega
 by_cases s8:st=8
 ·have t8:(X==8)=true:=by rw [beq_iff_eq]; omega
  obtain ⟨r,hr⟩:∃ r,selP p.d p.instr=r:=⟨_,rfl⟩
  have hv:actV st p b=(if r.1≠byL∧r.1≠idL then { p with oD:=fun q=>if q=.s r.1 then true else p.oD q,oV:=fun q=>if q=.s r.1 then p.shift else p.oV q } else p,b):=by unfold actV; rw [if_neg s0,if_neg s3,if_neg (by omega:¬ (st=4∨st=11)),if_pos s8,hr]
  rw [hv]
  rw [hr] at hsl
  have q5:=strEq r.1 [98,121,112,97,115,115]
  have q6:=strEq r.1 [105,100,99,111,100,101]
  simp -dsimp only [aqA,↓seqK,↓blkK,↓loopK,step,stepBin,eqB,Nat.reduceBEq,Nat.reduceBeqDiff,Nat.add_assoc nid,Nat.reduceAdd,reduceCtorEq,↓reduceIte,Nat.reduceLeDiff,Nat.reduceBneDiff,Nat.reduceLT,e1,e2,e3,e4,e5,e6,e7,e8,e9,t0,t3,t4,t11,t8,g1,g2,g3,g4,n1,n2,n3,n4,n5,n6]
  refine CallO.on (hsl _ (by omega) (by omega) (by omega)) (subH_get (by simp only [aqA,↓seqK,↓blkK,↓loopK,step,stepBin,eqB,Nat.add_assoc nid,simprocAttr,LN_succ,g1,g2,g3,g4,n1,n2,n3,n4,n5,n6])) ?_
  unfold portB litRg litIn
  simp -dsimp only [aqA,↓seqK,↓blkK,↓loopK,step,stepBin,eqB,Nat.reduceBEq,Nat.reduceBeqDiff,Nat.add_assoc nid,Nat.reduceAdd,reduceCtorEq,↓reduceIte,Nat.reduceLeDiff,Nat.reduceBneDiff,Nat.reduceLT,e1,e2,e3,e4,e5,e6,e7,e8,e9,g1,g2,g3,g4,n1,n2,n3,n4,n5,n6]
  by_cases h5:r.1=byL
  ·rw [decide_eq_true (show r.1=[98,121,112,97,115,115] from h5)] at q5
   have q5':(r.1 != [98,121,112,97,115,115])=false:=by rw [bne,q5]; rfl
   rw [if_neg (by simp [h5])]
   simp -dsimp only [aqA,↓seqK,↓blkK,↓loopK,step,stepBin,eqB,Nat.reduceBEq,Nat.reduceBeqDiff,Nat.add_assoc nid,Nat.reduceAdd,reduceCtorEq,↓reduceIte,Nat.reduceLeDiff,Nat.reduceBneDiff,Nat.reduceLT,e1,e2,e3,e4,e5,e6,e7,e8,e9,q5,q5',g1,g2,g3,g4,n1,n2,n3,n4,n5,n6]
   refine RetOK.go [] [] (.inl rfl) ?_
   simp [a114,cvT,step,res,e1,e2,e3,e4,e5,e6,e7,e8,e9,mapS,g1,g2,g3,g4,n1,n2,n3,n4,n5,n6,-List.getD_eq_getElem?_getD]
  rw [decide_eq_false (show ¬ r.1=[98,121,112,97,115,115] from h5)] at q5
  have q5':(r.1 != [98,121,112,97,115,115])=true:=by rw [bne,q5]; rfl
  by_cases h6:r.1=idL
  ·rw [decide_eq_true (show r.1=[105,100,99,111,100,101] from h6)] at q6
   have q6':(r.1 != [105,100,99,111,100,101])=false:=by rw [bne,q6]; rfl
   rw [if_neg (by simp [h6])]
   simp -dsimp only [aqA,↓seqK,↓blkK,↓loopK,step,stepBin,eqB,Nat.reduceBEq,Nat.reduceBeqDiff,Nat.add_assoc nid,Nat.reduceAdd,reduceCtorEq,↓reduceIte,Nat.reduceLeDiff,Nat.reduceBneDiff,Nat.reduceLT,e1,e2,e3,e4,e5,e6,e7,e8,e9,q5,q6,q5',q6',g1,g2,g3,g4,n1,n2,n3,n4,n5,n6]
   refine RetOK.go [] [] (.inl rfl) ?_
   simp [a114,cvT,step,res,e1,e2,e3,e4,e5,e6,e7,e8,e9,mapS,g1,g2,g3,g4,n1,n2,n3,n4,n5,n6,-List.getD_eq_getElem?_getD]
  rw [decide_eq_false (show ¬ r.1=[105,100,99,111,100,101] from h6)] at q6
  have q6':(r.1 != [105,100,99,111,100,101])=true:=by rw [bne,q6]; rfl
  rw [if_pos ⟨h5,h6⟩]
  unfold mapS
  simp -dsimp only [aqA,↓seqK,↓blkK,↓loopK,step,stepBin,eqB,Nat.reduceBEq,Nat.reduceBeqDiff,Nat.add_assoc nid,Nat.reduceAdd,reduceCtorEq,↓reduceIte,Nat.reduceLeDiff,Nat.reduceBneDiff,Nat.reduceLT,e1,e2,e3,e4,e5,e6,e7,e8,e9,q5,q6,q5',q6',g1,g2,g3,g4,n1,n2,n3,n4,n5,n6,mkKey,mPut,keyIn]
  refine RetOK.go [] [] (.inl rfl) ?_
  simp [a114,cvT,step,res,e1,e2,e3,e4,e5,e6,e7,e8,e9,mapS,g1,g2,g3,g4,n1,n2,n3,n4,n5,n6,-List.getD_eq_getElem?_getD]
 have t8:(X==8)=false:=by rw [beq_eq_false_iff_ne]; omega
 by_cases s10:st=10
 ·have hv:actV st p b=({ p with shift:=capIR p.d },b):=by unfold actV; rw [if_neg s0,if_neg s3,if_neg (by omega:¬ (st=4∨st=11)),if_neg s8,if_pos s10]
  rw [hv]
  have t10:(X==10)=true:=by rw [beq_iff_eq]; omega
  unfold portB litRg litIn
  have hlg:=hp.lg
  obtain ⟨L,hL⟩:∃ L:Nat,p.d.long - 1=L:=⟨_,(Int.toNat_of_nonneg (by omega)).symm⟩
  have hir:capIR p.d=[49]++Lib.repeatL [48] L:=by unfold capIR; rw [hL,rep48]; rfl
  rw [hir]
  simp -dsimp only [aqA,↓seqK,↓blkK,↓loopK,step,stepBin,eqB,Nat.reduceBEq,Nat.reduceBeqDiff,Nat.add_assoc nid,Nat.reduceAdd,reduceCtorEq,↓reduceIte,Nat.reduceLeDiff,Nat.reduceBneDiff,Nat.reduceLT,e1,e2,e3,e4,e5,e6,e7,e8,e9,t0,t3,t4,t11,t8,t10,g1,g2,g3,g4,n1,n2,n3,n4,n5,n6]
  rw [hL]
  refine ⟨by unfold inI64; omega,CallO.pure (repeat_cc [48] L _ (by omega) (by simp; omega)) ?_⟩
  have hrl:(Lib.repeatL [48] L).length=L:=by rw [rep48]; simp
  generalize Lib.repeatL [48] L=R at *
  simp -dsimp only [aqA,↓seqK,↓blkK,↓loopK,step,stepBin,eqB,Nat.reduceBEq,Nat.reduceBeqDiff,Nat.add_assoc nid,Nat.reduceAdd,reduceCtorEq,↓reduceIte,Nat.reduceLeDiff,Nat.reduceBneDiff,Nat.reduceLT,e1,e2,e3,e4,e5,e6,e7,e8,e9,g1,g2,g3,g4,n1,n2,n3,n4,n5,n6]
  refine ⟨by simp; omega,?_⟩
  refine RetOK.go [] [] (.inl rfl) ?_
  simp [a114,cvT,step,res,e1,e2,e3,e4,e5,e6,e7,e8,e9,mapS,g1,g2,g3,g4,n1,n2,n3,n4,n5,n6,-List.getD_eq_getElem?_getD]
 have t10:(X==10)=false:=by rw [beq_eq_false_iff_ne]; omega
 by_cases s15:st=15
 ·have hv:actV st p b=({ p with instr:=p.shift },b):=by unfold actV; rw [if_neg s0,if_neg s3,if_neg (by omega:¬ (st=4∨st=11)),if_neg s8,if_neg s10,if_pos s15]
  rw [hv]
  have t15:(X==15)=true:=by rw [beq_iff_eq]; omega
  unfold portB litRg litIn
  simp -dsimp only [aqA,↓seqK,↓blkK,↓loopK,step,stepBin,eqB,Nat.reduceBEq,Nat.reduceBeqDiff,Nat.add_assoc nid,Nat.reduceAdd,reduceCtorEq,↓reduceIte,Nat.reduceLeDiff,Nat.reduceBneDiff,Nat.reduceLT,e1,e2,e3,e4,e5,e6,e7,e8,e9,t0,t3,t4,t11,t8,t10,t15,g1,g2,g3,g4,n1,n2,n3,n4,n5,n6]
  refine RetOK.go [] [] (.inl rfl) ?_
  simp [a114,cvT,step,res,e1,e2,e3,e4,e5,e6,e7,e8,e9,mapS,g1,g2,g3,g4,n1,n2,n3,n4,n5,n6,-List.getD_eq_getElem?_getD]
 have t15:(X==15)=false:=by rw [beq_eq_false_iff_ne]; omega
 have hv:actV st p b=(p,b):=by unfold actV; rw [if_neg s0,if_neg s3,if_neg (by omega:¬ (st=4∨st=11)),if_neg s8,if_neg s10,if_neg s15]
 rw [hv]
 simp -dsimp only [aqA,↓seqK,↓blkK,↓loopK,step,stepBin,eqB,Nat.reduceBEq,Nat.reduceBeqDiff,Nat.add_assoc nid,Nat.reduceAdd,reduceCtorEq,↓reduceIte,Nat.reduceLeDiff,Nat.reduceBneDiff,Nat.reduceLT,e1,e2,e3,e4,e5,e6,e7,e8,e9,t0,t3,t4,t11,t8,t10,t15,g1,g2,g3,g4,n1,n2,n3,n4,n5,n6]
 refine RetOK.go [] [] (.inl rfl) ?_
 simp [a114,cvT,step,res,e1,e2,e3,e4,e5,e6,e7,e8,e9,mapS,portB,litRg,litIn,g1,g2,g3,g4,n1,n2,n3,n4,n5,n6,-List.getD_eq_getElem?_getD]
open Go.RowKit
def outV (st:Nat) (b:UInt8):Int:=if shifts st=true then IntKind.i64.wrap (IntKind.u8.wrap ((b.toNat:Nat) - 48)) else -1
theorem bitIn {t:Nat} (ht:t<2):IntKind.u8.wrap (48+((t:Nat):Int))=((UInt8.ofNat (48+t)).toNat:Nat):=by
 have:t=0∨t=1:=by omega
 rcases this with rfl | rfl <;> rfl
theorem bitIn_lt {t:Nat} (ht:t<2):(UInt8.ofNat (48+t)).toNat<128:=by
 have:t=0∨t=1:=by omega
 rcases this with rfl | rfl <;> decide
structure PortS (st:Nat) (p:Port):Prop where
 ok:PortOk p
 sl:p.shift.length≤1000000
 s0:shifts st=true→0<p.shift.length
 sb:shifts st=true→(p.shift.getD 0 0).toNat<128
theorem actV_b {st:Nat} {p:Port} {b:UInt8} (hb:b.toNat<128) (hp:PortS st p):(actV st p b).2.toNat<128:=by
 unfold actV
 by_cases h:st=4∨st=11
 ·have hs:shifts st=true:=by
   unfold shifts
   rcases h with h | h <;> rw [h] <;> rfl
  have h0:¬ st=0:=by omega
  have h3:¬ st=3:=by omega
  rw [if_neg h0,if_neg h3,if_pos h]
  exact hp.sb hs
 ·rw [if_neg h]
  split
  ·exact hb
  ·split
   ·exact hb
   ·split
    ·exact hb
    ·split
     ·exact hb
     ·split <;> exact hb
theorem actV_i (st:Nat) (p:Port) (b:UInt8):(actV st p b).1.iD=p.iD∧(actV st p b).1.iV=p.iV∧(actV st p b).1.d=p.d:=by
 unfold actV
 split
 ·exact ⟨rfl,rfl,rfl⟩
 ·split
  ·exact ⟨rfl,rfl,rfl⟩
  ·split
   ·exact ⟨rfl,rfl,rfl⟩
   ·split
    ·split <;> exact ⟨rfl,rfl,rfl⟩
    ·split
     ·exact ⟨rfl,rfl,rfl⟩
     ·split <;> exact ⟨rfl,rfl,rfl⟩
theorem id_row {c n nid:Nat} (h:c+n≤nid) (hn:0<n):(c==nid)=false∧(nid==c)=false∧(∀ k,(nid+k==c)=false)∧(∀ k,(c==nid+k)=false)∧(∀ j,j<n→(nid==c+j)=false)∧(∀ j,j<n→(c+j==nid)=false)∧(∀ k j,j<n→(nid+k==c+j)=false)∧(∀ k j,j<n→(c+j==nid+k)=false) ∧
  c<nid∧(∀ k,c<nid+k)∧(∀ j,j<n→c+j<nid)∧(∀ k j,j<n→c+j<nid+k)∧¬ c=nid∧¬ nid=c∧(∀ k,¬ nid+k=c)∧(∀ k,¬ c=nid+k)∧(∀ j,j<n→¬ nid=c+j)∧(∀ j,j<n→¬ c+j=nid)∧(∀ k j,j<n→¬ nid+k=c+j)∧(∀ k j,j<n→¬ c+j=nid+k):=by
 simp only [beq_eq_false_iff_ne]
 refine ⟨by omega,by omega,fun k=>by omega,fun k=>by omega,fun j hj=>by omega,fun j hj=>by omega,fun k j hj=>by omega,fun k j hj=>by omega,by omega,fun k=>by omega,fun j hj=>by omega,fun k j hj=>by omega,by omega,by omega,fun k=>by omega,fun k=>by omega,fun j hj=>by omega,fun j hj=>by omega,fun k j hj=>by omega,fun k j hj=>by omega⟩
theorem subH_act {H:Heap} {a b c d:Nat} {A B C D:Option ABlk} (h1:getH H a=A) (h2:getH H b=B) (h3:getH H c=C) (h4:getH H d=D):subH [(a,A),(b,B),(c,C),(d,D)] H:=fun id x hx=>by
 simp only [getH] at hx
 cases e:(a==id)
 ·rw [e] at hx
  simp only [cond_false] at hx
  cases e2:(b==id)
  ·rw [e2] at hx
   simp only [cond_false] at hx
   cases e3:(c==id)
   ·rw [e3] at hx
    simp only [cond_false] at hx
    cases e4:(d==id)
    ·rw [e4] at hx; cases hx
    ·rw [e4] at hx; rw [← eq_of_beq e4,h4]; exact hx
   ·rw [e3] at hx; rw [← eq_of_beq e3,h3]; exact hx
  ·rw [e2] at hx; rw [← eq_of_beq e2,h2]; exact hx
 ·rw [e] at hx; rw [← eq_of_beq e,h1]; exact hx
def portsH (i:Nat):List Port→Heap
 | []=>[]
 | p::r=>(i,portB p (i+1) (i+2))::(i+1,mapS p.iD p.iV)::(i+2,mapS p.oD p.oV)::portsH (i+3) r
def chainH (c st:Nat) (P:List Port):Heap:=(c,chB st (c+1) P.length)::(c+1,some (.arr 98 P.length [.q fun k=>c+2+3 * k]))::portsH (c+2) P
set_option maxHeartbeats 16000000 in
theorem clock1_c (st:Nat) (p:Port) (tms tdi c nid:Nat) (hc:c+11≤nid) (h1:tms<2) (h2:tdi<2) (hst:st<16) (hp:PortS st p) :
  ACall Tryz.prog 62 [.ptr c 0,.int .i64 (tms:Nat),.int .i64 (tdi:Nat)] (chainH c st [p]) nid (.int .i64 (outV st (clockP st [p] (UInt8.ofNat (48+tdi))).2)) (chainH c (nextN st tms) (clockP st [p] (UInt8.ofNat (48+tdi))).1):=by
 have g:=id_row hc (by omega)
 have hb:=bitIn h2
 have hb0:=bitIn_lt h2
 have hnx:=fun m=>next_st st tms m hst h1
 generalize UInt8.ofNat (48+tdi)=b0 at *
 have hb1:=actV_b hb0 hp
 have ha1:=fun m (hm:c+11≤m)=>act_c st p b0 c (c+1) 1 (c+2) (c+3) (c+4) m (by omega) (by omega) (by omega) (by omega) (by omega) (by omega) (by omega) (by omega) (by omega) (by omega) (by omega) hp.ok hst hb0 hp.sl hp.s0
 unfold chainH portsH clockP
 simp only [portsH,clockP,List.length_cons,List.length_nil,Nat.zero_add,Nat.add_assoc,Nat.reduceAdd]
 have i1:=actV_i st p b0
 obtain ⟨⟨p',b1⟩,k1⟩:∃ z,actV st p b0=z:=⟨_,rfl⟩
 simp only [k1] at *
 refine acall_run c62 (by simp [a62]) ?_
 simp -dsimp only [a62,aqA,↓seqK,↓blkK,↓loopK,step,stepBin,eqB,Nat.add_assoc nid,simprocAttr,LN_succ,chB,g]
 refine ⟨by unfold inI64; omega,LP.rounds 2 ?_⟩
 rw [hb]
 simp -dsimp only [aqA,↓seqK,↓blkK,↓loopK,step,stepBin,eqB,Nat.add_assoc nid,simprocAttr,LN_succ,chB,g]
 refine CallO.on (ha1 _ (by omega)) (subH_act (by simp only [aqA,↓seqK,↓blkK,↓loopK,step,stepBin,eqB,Nat.add_assoc nid,simprocAttr,LN_succ,g,chB]) (by simp only [aqA,↓seqK,↓blkK,↓loopK,step,stepBin,eqB,Nat.add_assoc nid,simprocAttr,LN_succ,g]) (by simp only [aqA,↓seqK,↓blkK,↓loopK,step,stepBin,eqB,Nat.add_assoc nid,simprocAttr,LN_succ,g]) (by simp only [aqA,↓seqK,↓blkK,↓loopK,step,stepBin,eqB,Nat.add_assoc nid,simprocAttr,LN_succ,g])) ?_
 simp -dsimp only [aqA,↓seqK,↓blkK,↓loopK,step,stepBin,eqB,Nat.add_assoc nid,simprocAttr,LN_succ,chB,g]
 by_cases s4:st=4
 ·have t4:(((st:Nat):Int)==4)=true:=by rw [beq_iff_eq]; omega
  have ho:outV st b1=IntKind.i64.wrap (IntKind.u8.wrap ((b1.toNat:Nat) - 48)):=by unfold outV shifts; rw [s4]; rfl
  rw [ho]
  simp -dsimp only [aqA,↓seqK,↓blkK,↓loopK,step,stepBin,eqB,Nat.add_assoc nid,simprocAttr,LN_succ,chB,g,t4]
  refine ⟨by unfold inI64; omega,?_⟩
  refine CallO.pure (hnx _) ?_
  simp -dsimp only [aqA,↓seqK,↓blkK,↓loopK,step,stepBin,eqB,Nat.add_assoc nid,simprocAttr,LN_succ,chB,g]
  refine RetOK.go [] [] (.inl rfl) ?_
  simp [a62,cvT,step,res,ColsEq.refl,portB,mapS,chB,litRg,litIn,g,i1,-List.getD_eq_getElem?_getD]
 have t4:(((st:Nat):Int)==4)=false:=by rw [beq_eq_false_iff_ne]; omega
 by_cases s11:st=11
 ·have t11:(((st:Nat):Int)==11)=true:=by rw [beq_iff_eq]; omega
  have ho:outV st b1=IntKind.i64.wrap (IntKind.u8.wrap ((b1.toNat:Nat) - 48)):=by unfold outV shifts; rw [s11]; rfl
  rw [ho]
  simp -dsimp only [aqA,↓seqK,↓blkK,↓loopK,step,stepBin,eqB,Nat.add_assoc nid,simprocAttr,LN_succ,chB,g,t4,t11]
  refine ⟨by unfold inI64; omega,?_⟩
  refine CallO.pure (hnx _) ?_
  simp -dsimp only [aqA,↓seqK,↓blkK,↓loopK,step,stepBin,eqB,Nat.add_assoc nid,simprocAttr,LN_succ,chB,g]
  refine RetOK.go [] [] (.inl rfl) ?_
  simp [a62,cvT,step,res,ColsEq.refl,portB,mapS,chB,litRg,litIn,g,i1,-List.getD_eq_getElem?_getD]
 have t11:(((st:Nat):Int)==11)=false:=by rw [beq_eq_false_iff_ne]; omega
 have ho:outV st b1 = -1:=by
  unfold outV shifts
  rw [beq_eq_false_iff_ne.2 s4,beq_eq_false_iff_ne.2 s11]
  rfl
 rw [ho]
 simp -dsimp only [aqA,↓seqK,↓blkK,↓loopK,step,stepBin,eqB,Nat.add_assoc nid,simprocAttr,LN_succ,chB,g,t4,t11]
 refine ⟨by unfold inI64; omega,?_⟩
 refine CallO.pure (hnx _) ?_
 simp -dsimp only [aqA,↓seqK,↓blkK,↓loopK,step,stepBin,eqB,Nat.add_assoc nid,simprocAttr,LN_succ,chB,g]
 refine RetOK.go [] [] (.inl rfl) ?_
 simp [a62,cvT,step,res,ColsEq.refl,portB,mapS,chB,litRg,litIn,g,i1,-List.getD_eq_getElem?_getD]
set_option maxHeartbeats 16000000 in
theorem clock2_c (st:Nat) (p q:Port) (tms tdi c nid:Nat) (hc:c+11≤nid) (h1:tms<2) (h2:tdi<2) (hst:st<16) (hp:PortS st p) (hq:PortS st q) :
  ACall Tryz.prog 62 [.ptr c 0,.int .i64 (tms:Nat),.int .i64 (tdi:Nat)] (chainH c st [p,q]) nid (.int .i64 (outV st (clockP st [p,q] (UInt8.ofNat (48+tdi))).2)) (chainH c (nextN st tms) (clockP st [p,q] (UInt8.ofNat (48+tdi))).1):=by
 have g:=id_row hc (by omega)
 have hb:=bitIn h2
 have hb0:=bitIn_lt h2
 have hnx:=fun m=>next_st st tms m hst h1
 generalize UInt8.ofNat (48+tdi)=b0 at *
 have hb1:=actV_b hb0 hp
 have ha1:=fun m (hm:c+11≤m)=>act_c st p b0 c (c+1) 2 (c+2) (c+3) (c+4) m (by omega) (by omega) (by omega) (by omega) (by omega) (by omega) (by omega) (by omega) (by omega) (by omega) (by omega) hp.ok hst hb0 hp.sl hp.s0
 have hb2:=actV_b hb1 hq
 have ha2:=fun m (hm:c+11≤m)=>act_c st q (actV st p b0).2 c (c+1) 2 (c+5) (c+6) (c+7) m (by omega) (by omega) (by omega) (by omega) (by omega) (by omega) (by omega) (by omega) (by omega) (by omega) (by omega) hq.ok hst hb1 hq.sl hq.s0
 unfold chainH portsH clockP
 simp only [portsH,clockP,List.length_cons,List.length_nil,Nat.zero_add,Nat.add_assoc,Nat.reduceAdd]
 have i1:=actV_i st p b0
 obtain ⟨⟨p',b1⟩,k1⟩:∃ z,actV st p b0=z:=⟨_,rfl⟩
 simp only [k1] at *
 have i2:=actV_i st q b1
 obtain ⟨⟨q',b2⟩,k2⟩:∃ z,actV st q b1=z:=⟨_,rfl⟩
 simp only [k2] at *
 refine acall_run c62 (by simp [a62]) ?_
 simp -dsimp only [a62,aqA,↓seqK,↓blkK,↓loopK,step,stepBin,eqB,Nat.add_assoc nid,simprocAttr,LN_succ,chB,g]
 refine ⟨by unfold inI64; omega,LP.rounds 3 ?_⟩
 rw [hb]
 simp -dsimp only [aqA,↓seqK,↓blkK,↓loopK,step,stepBin,eqB,Nat.add_assoc nid,simprocAttr,LN_succ,chB,g]
 refine CallO.on (ha1 _ (by omega)) (subH_act (by simp only [aqA,↓seqK,↓blkK,↓loopK,step,stepBin,eqB,Nat.add_assoc nid,simprocAttr,LN_succ,g,chB]) (by simp only [aqA,↓seqK,↓blkK,↓loopK,step,stepBin,eqB,Nat.add_assoc nid,simprocAttr,LN_succ,g]) (by simp only [aqA,↓seqK,↓blkK,↓loopK,step,stepBin,eqB,Nat.add_assoc nid,simprocAttr,LN_succ,g]) (by simp only [aqA,↓seqK,↓blkK,↓loopK,step,stepBin,eqB,Nat.add_assoc nid,simprocAttr,LN_succ,g])) ?_
 simp -dsimp only [aqA,↓seqK,↓blkK,↓loopK,step,stepBin,eqB,Nat.add_assoc nid,simprocAttr,LN_succ,chB,g]
 refine ⟨by unfold inI64; omega,?_⟩
 refine CallO.on (ha2 _ (by omega)) (subH_act (by simp only [aqA,↓seqK,↓blkK,↓loopK,step,stepBin,eqB,Nat.add_assoc nid,simprocAttr,LN_succ,g,chB]) (by simp only [aqA,↓seqK,↓blkK,↓loopK,step,stepBin,eqB,Nat.add_assoc nid,simprocAttr,LN_succ,g]) (by simp only [aqA,↓seqK,↓blkK,↓loopK,step,stepBin,eqB,Nat.add_assoc nid,simprocAttr,LN_succ,g]) (by simp only [aqA,↓seqK,↓blkK,↓loopK,step,stepBin,eqB,Nat.add_assoc nid,simprocAttr,LN_succ,g])) ?_
 simp -dsimp only [aqA,↓seqK,↓blkK,↓loopK,step,stepBin,eqB,Nat.add_assoc nid,simprocAttr,LN_succ,chB,g]
 by_cases s4:st=4
 ·have t4:(((st:Nat):Int)==4)=true:=by rw [beq_iff_eq]; omega
  have ho:outV st b2=IntKind.i64.wrap (IntKind.u8.wrap ((b2.toNat:Nat) - 48)):=by unfold outV shifts; rw [s4]; rfl
  rw [ho]
  simp -dsimp only [aqA,↓seqK,↓blkK,↓loopK,step,stepBin,eqB,Nat.add_assoc nid,simprocAttr,LN_succ,chB,g,t4]
  refine ⟨by unfold inI64; omega,?_⟩
  refine CallO.pure (hnx _) ?_
  simp -dsimp only [aqA,↓seqK,↓blkK,↓loopK,step,stepBin,eqB,Nat.add_assoc nid,simprocAttr,LN_succ,chB,g]
  refine RetOK.go [] [] (.inl rfl) ?_
  simp [a62,cvT,step,res,ColsEq.refl,portB,mapS,chB,litRg,litIn,g,i1,i2,-List.getD_eq_getElem?_getD] <;> exact fun j hj=>by omega
 have t4:(((st:Nat):Int)==4)=false:=by rw [beq_eq_false_iff_ne]; omega
 by_cases s11:st=11
 ·have t11:(((st:Nat):Int)==11)=true:=by rw [beq_iff_eq]; omega
  have ho:outV st b2=IntKind.i64.wrap (IntKind.u8.wrap ((b2.toNat:Nat) - 48)):=by unfold outV shifts; rw [s11]; rfl
  rw [ho]
  simp -dsimp only [aqA,↓seqK,↓blkK,↓loopK,step,stepBin,eqB,Nat.add_assoc nid,simprocAttr,LN_succ,chB,g,t4,t11]
  refine ⟨by unfold inI64; omega,?_⟩
  refine CallO.pure (hnx _) ?_
  simp -dsimp only [aqA,↓seqK,↓blkK,↓loopK,step,stepBin,eqB,Nat.add_assoc nid,simprocAttr,LN_succ,chB,g]
  refine RetOK.go [] [] (.inl rfl) ?_
  simp [a62,cvT,step,res,ColsEq.refl,portB,mapS,chB,litRg,litIn,g,i1,i2,-List.getD_eq_getElem?_getD] <;> exact fun j hj=>by omega
 have t11:(((st:Nat):Int)==11)=false:=by rw [beq_eq_false_iff_ne]; omega
 have ho:outV st b2 = -1:=by
  unfold outV shifts
  rw [beq_eq_false_iff_ne.2 s4,beq_eq_false_iff_ne.2 s11]
  rfl
 rw [ho]
 simp -dsimp only [aqA,↓seqK,↓blkK,↓loopK,step,stepBin,eqB,Nat.add_assoc nid,simprocAttr,LN_succ,chB,g,t4,t11]
 refine ⟨by unfold inI64; omega,?_⟩
 refine CallO.pure (hnx _) ?_
 simp -dsimp only [aqA,↓seqK,↓blkK,↓loopK,step,stepBin,eqB,Nat.add_assoc nid,simprocAttr,LN_succ,chB,g]
 refine RetOK.go [] [] (.inl rfl) ?_
 simp [a62,cvT,step,res,ColsEq.refl,portB,mapS,chB,litRg,litIn,g,i1,i2,-List.getD_eq_getElem?_getD] <;> exact fun j hj=>by omega
set_option maxHeartbeats 16000000 in
theorem clock3_c (st:Nat) (p q r:Port) (tms tdi c nid:Nat) (hc:c+11≤nid) (h1:tms<2) (h2:tdi<2) (hst:st<16) (hp:PortS st p) (hq:PortS st q) (hr:PortS st r) :
  ACall Tryz.prog 62 [.ptr c 0,.int .i64 (tms:Nat),.int .i64 (tdi:Nat)] (chainH c st [p,q,r]) nid (.int .i64 (outV st (clockP st [p,q,r] (UInt8.ofNat (48+tdi))).2)) (chainH c (nextN st tms) (clockP st [p,q,r] (UInt8.ofNat (48+tdi))).1):=by
 have g:=id_row hc (by omega)
 have hb:=bitIn h2
 have hb0:=bitIn_lt h2
 have hnx:=fun m=>next_st st tms m hst h1
 generalize UInt8.ofNat (48+tdi)=b0 at *
 have hb1:=actV_b hb0 hp
 have ha1:=fun m (hm:c+11≤m)=>act_c st p b0 c (c+1) 3 (c+2) (c+3) (c+4) m (by omega) (by omega) (by omega) (by omega) (by omega) (by omega) (by omega) (by omega) (by omega) (by omega) (by omega) hp.ok hst hb0 hp.sl hp.s0
 have hb2:=actV_b hb1 hq
 have ha2:=fun m (hm:c+11≤m)=>act_c st q (actV st p b0).2 c (c+1) 3 (c+5) (c+6) (c+7) m (by omega) (by omega) (by omega) (by omega) (by omega) (by omega) (by omega) (by omega) (by omega) (by omega) (by omega) hq.ok hst hb1 hq.sl hq.s0
 have hb3:=actV_b hb2 hr
 have ha3:=fun m (hm:c+11≤m)=>act_c st r (actV st q (actV st p b0).2).2 c (c+1) 3 (c+8) (c+9) (c+10) m (by omega) (by omega) (by omega) (by omega) (by omega) (by omega) (by omega) (by omega) (by omega) (by omega) (by omega) hr.ok hst hb2 hr.sl hr.s0
 unfold chainH portsH clockP
 simp only [portsH,clockP,List.length_cons,List.length_nil,Nat.zero_add,Nat.add_assoc,Nat.reduceAdd]
 have i1:=actV_i st p b0
 obtain ⟨⟨p',b1⟩,k1⟩:∃ z,actV st p b0=z:=⟨_,rfl⟩
 simp only [k1] at *
 have i2:=actV_i st q b1
 obtain ⟨⟨q',b2⟩,k2⟩:∃ z,actV st q b1=z:=⟨_,rfl⟩
 simp only [k2] at *
 have i3:=actV_i st r b2
 obtain ⟨⟨r',b3⟩,k3⟩:∃ z,actV st r b2=z:=⟨_,rfl⟩
 simp only [k3] at *
 refine acall_run c62 (by simp [a62]) ?_
 simp -dsimp only [a62,aqA,↓seqK,↓blkK,↓loopK,step,stepBin,eqB,Nat.add_assoc nid,simprocAttr,LN_succ,chB,g]
 refine ⟨by unfold inI64; omega,LP.rounds 4 ?_⟩
 rw [hb]
 simp -dsimp only [aqA,↓seqK,↓blkK,↓loopK,step,stepBin,eqB,Nat.add_assoc nid,simprocAttr,LN_succ,chB,g]
 refine CallO.on (ha1 _ (by omega)) (subH_act (by simp only [aqA,↓seqK,↓blkK,↓loopK,step,stepBin,eqB,Nat.add_assoc nid,simprocAttr,LN_succ,g,chB]) (by simp only [aqA,↓seqK,↓blkK,↓loopK,step,stepBin,eqB,Nat.add_assoc nid,simprocAttr,LN_succ,g]) (by simp only [aqA,↓seqK,↓blkK,↓loopK,step,stepBin,eqB,Nat.add_assoc nid,simprocAttr,LN_succ,g]) (by simp only [aqA,↓seqK,↓blkK,↓loopK,step,stepBin,eqB,Nat.add_assoc nid,simprocAttr,LN_succ,g])) ?_
 simp -dsimp only [aqA,↓seqK,↓blkK,↓loopK,step,stepBin,eqB,Nat.add_assoc nid,simprocAttr,LN_succ,chB,g]
 refine ⟨by unfold inI64; omega,?_⟩
 refine CallO.on (ha2 _ (by omega)) (subH_act (by simp only [aqA,↓seqK,↓blkK,↓loopK,step,stepBin,eqB,Nat.add_assoc nid,simprocAttr,LN_succ,g,chB]) (by simp only [aqA,↓seqK,↓blkK,↓loopK,step,stepBin,eqB,Nat.add_assoc nid,simprocAttr,LN_succ,g]) (by simp only [aqA,↓seqK,↓blkK,↓loopK,step,stepBin,eqB,Nat.add_assoc nid,simprocAttr,LN_succ,g]) (by simp only [aqA,↓seqK,↓blkK,↓loopK,step,stepBin,eqB,Nat.add_assoc nid,simprocAttr,LN_succ,g])) ?_
 simp -dsimp only [aqA,↓seqK,↓blkK,↓loopK,step,stepBin,eqB,Nat.add_assoc nid,simprocAttr,LN_succ,chB,g]
 refine ⟨by unfold inI64; omega,?_⟩
 refine CallO.on (ha3 _ (by omega)) (subH_act (by simp only [aqA,↓seqK,↓blkK,↓loopK,step,stepBin,eqB,Nat.add_assoc nid,simprocAttr,LN_succ,g,chB]) (by simp only [aqA,↓seqK,↓blkK,↓loopK,step,stepBin,eqB,Nat.add_assoc nid,simprocAttr,LN_succ,g]) (by simp only [aqA,↓seqK,↓blkK,↓loopK,step,stepBin,eqB,Nat.add_assoc nid,simprocAttr,LN_succ,g]) (by simp only [aqA,↓seqK,↓blkK,↓loopK,step,stepBin,eqB,Nat.add_assoc nid,simprocAttr,LN_succ,g])) ?_
 simp -dsimp only [aqA,↓seqK,↓blkK,↓loopK,step,stepBin,eqB,Nat.add_assoc nid,simprocAttr,LN_succ,chB,g]
 by_cases s4:st=4
 ·have t4:(((st:Nat):Int)==4)=true:=by rw [beq_iff_eq]; omega
  have ho:outV st b3=IntKind.i64.wrap (IntKind.u8.wrap ((b3.toNat:Nat) - 48)):=by unfold outV shifts; rw [s4]; rfl
  rw [ho]
  simp -dsimp only [aqA,↓seqK,↓blkK,↓loopK,step,stepBin,eqB,Nat.add_assoc nid,simprocAttr,LN_succ,chB,g,t4]
  refine ⟨by unfold inI64; omega,?_⟩
  refine CallO.pure (hnx _) ?_
  simp -dsimp only [aqA,↓seqK,↓blkK,↓loopK,step,stepBin,eqB,Nat.add_assoc nid,simprocAttr,LN_succ,chB,g]
  refine RetOK.go [] [] (.inl rfl) ?_
  simp [a62,cvT,step,res,ColsEq.refl,portB,mapS,chB,litRg,litIn,g,i1,i2,i3,-List.getD_eq_getElem?_getD] <;> exact fun j hj=>by omega
 have t4:(((st:Nat):Int)==4)=false:=by rw [beq_eq_false_iff_ne]; omega
 by_cases s11:st=11
 ·have t11:(((st:Nat):Int)==11)=true:=by rw [beq_iff_eq]; omega
  have ho:outV st b3=IntKind.i64.wrap (IntKind.u8.wrap ((b3.toNat:Nat) - 48)):=by unfold outV shifts; rw [s11]; rfl
  rw [ho]
  simp -dsimp only [aqA,↓seqK,↓blkK,↓loopK,step,stepBin,eqB,Nat.add_assoc nid,simprocAttr,LN_succ,chB,g,t4,t11]
  refine ⟨by unfold inI64; omega,?_⟩
  refine CallO.pure (hnx _) ?_
  simp -dsimp only [aqA,↓seqK,↓blkK,↓loopK,step,stepBin,eqB,Nat.add_assoc nid,simprocAttr,LN_succ,chB,g]
  refine RetOK.go [] [] (.inl rfl) ?_
  simp [a62,cvT,step,res,ColsEq.refl,portB,mapS,chB,litRg,litIn,g,i1,i2,i3,-List.getD_eq_getElem?_getD] <;> exact fun j hj=>by omega
 have t11:(((st:Nat):Int)==11)=false:=by rw [beq_eq_false_iff_ne]; omega
 have ho:outV st b3 = -1:=by
  unfold outV shifts
  rw [beq_eq_false_iff_ne.2 s4,beq_eq_false_iff_ne.2 s11]
  rfl
 rw [ho]
 simp -dsimp only [aqA,↓seqK,↓blkK,↓loopK,step,stepBin,eqB,Nat.add_assoc nid,simprocAttr,LN_succ,chB,g,t4,t11]
 refine ⟨by unfold inI64; omega,?_⟩
 refine CallO.pure (hnx _) ?_
 simp -dsimp only [aqA,↓seqK,↓blkK,↓loopK,step,stepBin,eqB,Nat.add_assoc nid,simprocAttr,LN_succ,chB,g]
 refine RetOK.go [] [] (.inl rfl) ?_
 simp [a62,cvT,step,res,ColsEq.refl,portB,mapS,chB,litRg,litIn,g,i1,i2,i3,-List.getD_eq_getElem?_getD] <;> exact fun j hj=>by omega
theorem clock_c (st:Nat) (P:List Port) (tms tdi c nid:Nat) (hc:c+11≤nid) (h1:tms<2) (h2:tdi<2) (hst:st<16) (hP:∀ p∈P,PortS st p) (hl0:0<P.length) (hl:P.length≤3) :
  ACall Tryz.prog 62 [.ptr c 0,.int .i64 (tms:Nat),.int .i64 (tdi:Nat)] (chainH c st P) nid (.int .i64 (outV st (clockP st P (UInt8.ofNat (48+tdi))).2)) (chainH c (nextN st tms) (clockP st P (UInt8.ofNat (48+tdi))).1):=by
 rcases P with _ | ⟨p,_ | ⟨q,_ | ⟨r,_ | ⟨s,P⟩⟩⟩⟩
 ·simp at hl0
 ·exact clock1_c st p tms tdi c nid hc h1 h2 hst (hP p (by simp))
 ·exact clock2_c st p q tms tdi c nid hc h1 h2 hst (hP p (by simp)) (hP q (by simp))
 ·exact clock3_c st p q r tms tdi c nid hc h1 h2 hst (hP p (by simp)) (hP q (by simp)) (hP r (by simp))
 ·simp at hl
def oneBit (b:UInt8):Bool:=b==48 || b==49
structure BitsW (s:Bs):Prop where
 l0:0<s.length
 l1:s.length≤1000
 b:s.all oneBit=true
structure PortV (p:Port):Prop where
 rl:p.d.regs.length≤1000
 il:p.d.ins.length≤1000
 idb:0≤p.d.id∧p.d.id≤4294967295
 lg:2≤p.d.long∧p.d.long≤32
 cap:∀ code,BitsW (captV { p with instr:=code })
 sh:BitsW p.shift
theorem BitsW.head {s:Bs} (h:BitsW s):oneBit (s.getD 0 0)=true:=by
 obtain ⟨h0,h1,hb⟩:=h
 cases s with
 | nil=>simp at h0
 | cons a s=>simp only [List.all_cons,Bool.and_eq_true] at hb; exact hb.1
theorem BitsW.next {s:Bs} (h:BitsW s) {b:UInt8} (hb:oneBit b=true):BitsW (s.drop 1++[b]):=by
 obtain ⟨h0,h1,h2⟩:=h
 refine ⟨by simp,by simp; omega,?_⟩
 rw [List.all_append]
 cases s with
 | nil=>simp at h0
 | cons a s =>
  simp only [List.all_cons,Bool.and_eq_true] at h2
  simp [h2.2,hb]
theorem capIR_w {d:Dev} (h:2≤d.long∧d.long≤32):BitsW (capIR d):=by
 refine ⟨by simp [capIR],by simp [capIR]; omega,?_⟩
 simp only [capIR,List.all_cons,List.all_replicate]
 simp [oneBit]
theorem captV_d (p q:Port) (hd:q.d=p.d) (h1:q.iD=p.iD) (h2:q.iV=p.iV) (code:Bs):captV { q with instr:=code }=captV { p with instr:=code }:=by
 unfold captV
 simp only [hd,h1,h2]
theorem PortV.of {p q:Port} (h:PortV p) (hd:q.d=p.d) (h1:q.iD=p.iD) (h2:q.iV=p.iV) (hs:BitsW q.shift):PortV q :=
 ⟨by rw [hd]; exact h.rl,by rw [hd]; exact h.il,by rw [hd]; exact h.idb,by rw [hd]; exact h.lg,fun code=>by rw [captV_d p q hd h1 h2]; exact h.cap code,hs⟩
theorem actV_V {st:Nat} {p:Port} {b:UInt8} (h:PortV p) (hb:oneBit b=true):PortV (actV st p b).1∧oneBit (actV st p b).2=true:=by
 have hc:BitsW (captV p):=h.cap p.instr
 unfold actV
 split
 ·exact ⟨h.of rfl rfl rfl h.sh,hb⟩
 ·split
  ·exact ⟨h.of rfl rfl rfl hc,hb⟩
  ·split
   ·exact ⟨h.of rfl rfl rfl (h.sh.next hb),h.sh.head⟩
   ·split
    ·split
     ·exact ⟨h.of rfl rfl rfl h.sh,hb⟩
     ·exact ⟨h,hb⟩
    ·split
     ·exact ⟨h.of rfl rfl rfl (capIR_w h.lg),hb⟩
     ·split
      ·exact ⟨h.of rfl rfl rfl h.sh,hb⟩
      ·exact ⟨h,hb⟩
theorem clockP_V {st:Nat}:∀ {P:List Port} {b:UInt8},(∀ p∈P,PortV p)→oneBit b=true→(∀ p∈(clockP st P b).1,PortV p)∧oneBit (clockP st P b).2=true
 | [],b,_,hb=>⟨fun p hp=>by simp [clockP] at hp,hb⟩
 | p::P,b,h,hb=>by
  have h1:=actV_V (st:=st) (h p List.mem_cons_self) hb
  have h2:=clockP_V (st:=st) (P:=P) (fun q hq=>h q (List.mem_cons_of_mem _ hq)) h1.2
  simp only [clockP]
  refine ⟨fun q hq=>?_,h2.2⟩
  rcases List.mem_cons.1 hq with rfl | hq
  ·exact h1.1
  ·exact h2.1 q hq
theorem clockP_len (st:Nat):∀ (P:List Port) (b:UInt8),(clockP st P b).1.length=P.length
 | [],_=>rfl
 | p::P,b=>by simp only [clockP,List.length_cons]; rw [clockP_len st P]
structure ChV where
 st:Nat
 P:List Port
structure ChOk (n:Nat) (x:ChV):Prop where
 st:x.st<16
 len:x.P.length=n
 ok:∀ p∈x.P,PortV p
def bitM (b:UInt8):Nat:=b.toNat - 48
def tickV (nx:Nat→Nat→Nat) (x:ChV) (tms:Nat) (tdi:UInt8):ChV:=⟨nx x.st tms,(clockP x.st x.P tdi).1⟩
def tickO (x:ChV) (tdi:UInt8):UInt8:=(clockP x.st x.P tdi).2
def walkV (nx:Nat→Nat→Nat) (x:ChV) (tms:Bs):ChV:=tms.foldl (fun x t=>tickV nx x (bitM t) 48) x
theorem bitM_lt {b:UInt8} (h:oneBit b=true):bitM b<2∧b.toNat=48+bitM b:=by
 unfold oneBit at h
 simp only [Bool.or_eq_true,beq_iff_eq] at h
 rcases h with rfl | rfl <;> exact ⟨by decide,by decide⟩
theorem tick_ok {nx:Nat→Nat→Nat} (hn:∀ s t,s<16→t<2→nx s t<16) {n:Nat} {x:ChV} (h:ChOk n x) {t:Nat} (ht:t<2) {b:UInt8} (hb:oneBit b=true):ChOk n (tickV nx x t b) :=
 ⟨hn _ _ h.st ht,by show (clockP _ _ _).1.length=n; rw [clockP_len]; exact h.len,(clockP_V h.ok hb).1⟩
theorem walkV_snoc (nx:Nat→Nat→Nat) (x:ChV) (l:Bs) (b:UInt8):walkV nx x (l++[b])=tickV nx (walkV nx x l) (bitM b) 48:=by
 unfold walkV
 rw [List.foldl_append]
 rfl
theorem walk_ok {nx:Nat→Nat→Nat} (hn:∀ s t,s<16→t<2→nx s t<16) {n:Nat}:∀ {l:Bs} {x:ChV},ChOk n x→l.all oneBit=true→ChOk n (walkV nx x l)
 | [],x,h,_=>h
 | b::l,x,h,hl=>by
  simp only [List.all_cons,Bool.and_eq_true] at hl
  exact walk_ok hn (l:=l) (tick_ok hn h (bitM_lt hl.1).1 (by decide)) hl.2
open Go.RowKit
theorem oddI_c (s nid:Nat) (nl:Bool) (A:List Int) (p:Nat) (lo hi:Int) (h:s<nid) (hp:p≤1099511627000) (hA:A.length≤17592186044416) (h1:lo≤hi) (hl : -1000000≤lo) (hh:hi≤1000000) :
  ∃ x:Int,(-1099511627776≤x∧x≤1099511627776)∧ACall Tryz.prog 112 [.ptr s 0,.int .i64 lo,.int .i64 hi] [(s,strmC nl A p)] nid (.int .i64 x) [(s,strmC nl A (p+2))]:=by
 obtain ⟨e1,e2,e3,e4,e5,e6,e7,e8,e9⟩:=id_all h
 refine acall_ex c112 (by simp [a112]) ?_
 simp -dsimp only [aqT0,ROp0,aqA,↓seqK,↓blkK,↓loopK,step,stepBin,eqB,Nat.add_assoc nid,simprocAttr,LN_succ,e1,e2,e3,e4,e5,e6,e7,e8,e9,a112,strmC_low]
 refine CallX.on (flip_c s _ nl A p _ (by omega) (by omega) hA (by omega)) (subH_get (by simp only [aqA,↓seqK,↓blkK,↓loopK,step,stepBin,eqB,Nat.add_assoc nid,simprocAttr,e1,e2,e3,e4,e5,e6,e7,e8,e9])) ?_
 simp -dsimp only [aqT0,ROp0,aqA,↓seqK,↓blkK,↓loopK,step,stepBin,eqB,Nat.add_assoc nid,simprocAttr,LN_succ,e1,e2,e3,e4,e5,e6,e7,e8,e9,strmC_low]
 refine S2.intro (fun h2=>?_) (fun h2=>?_) <;> simp -dsimp only [aqT0,ROp0,aqA,↓seqK,↓blkK,↓loopK,step,stepBin,eqB,Nat.add_assoc nid,simprocAttr,LN_succ,e1,e2,e3,e4,e5,e6,e7,e8,e9,strmC_low]
 ·refine ⟨by unfold inI64; omega,by unfold inI64; omega,CallX.pick_go (T:=3) (nl:=nl) (A:=A) (p:=p+1) (g:=fun i=>[lo - 1,hi+1,lo,hi,-1099511627776,1099511627776].getD i 0) (by simp only [aqA,↓seqK,↓blkK,↓loopK,step,stepBin,eqB,Nat.add_assoc nid,simprocAttr,e1,e2,e3,e4,e5,e6,e7,e8,e9]) (by simp only [aqA,↓seqK,↓blkK,↓loopK,step,stepBin,eqB,Nat.add_assoc nid,simprocAttr,e1,e2,e3,e4,e5,e6,e7,e8,e9]) (by simp only [aqA,↓seqK,↓blkK,↓loopK,step,stepBin,eqB,Nat.add_assoc nid,simprocAttr,e1,e2,e3,e4,e5,e6,e7,e8,e9]) (by omega) (by omega) hA (by omega) (by omega) ?_⟩
  simp -dsimp only [aqT0,ROp0,aqA,↓seqK,↓blkK,↓loopK,step,stepBin,eqB,Nat.add_assoc nid,simprocAttr,LN_succ,e1,e2,e3,e4,e5,e6,e7,e8,e9,strmC_low]
  have hb:=pickV_bd A (p+1) (l:=[lo - 1,hi+1,lo,hi,-1099511627776,1099511627776]) (lo := -1099511627776) (hi:=1099511627776) (by simp) (by simp; omega)
  refine EndOK.mk _ hb ?_
  refine RetOK.go [] [] (.inl rfl) ?_
  simp [a112,cvT,step,res,e1,e2,e3,e4,e5,e6,e7,e8,e9,strmC,pickV]
  omega
 ·refine CallX.on (range_c s _ nl A (p+1) _ _ (by omega) (by omega) hA h1 (by omega) (by omega)) (subH_get (by simp only [aqA,↓seqK,↓blkK,↓loopK,step,stepBin,eqB,Nat.add_assoc nid,simprocAttr,e1,e2,e3,e4,e5,e6,e7,e8,e9])) ?_
  simp -dsimp only [aqT0,ROp0,aqA,↓seqK,↓blkK,↓loopK,step,stepBin,eqB,Nat.add_assoc nid,simprocAttr,LN_succ,e1,e2,e3,e4,e5,e6,e7,e8,e9,strmC_low]
  have hb:=rangeV_bd A (p+1) h1
  refine EndOK.mk (rangeV A (p+1) lo hi) (by omega) ?_
  refine RetOK.go [] [] (.inl rfl) ?_
  simp [a112,cvT,step,res,e1,e2,e3,e4,e5,e6,e7,e8,e9,strmC]
  omega
theorem some_c (s nid:Nat) (nl nl':Bool) (A:List Int) (p:Nat) (n:Nat) (g:Nat→List UInt8) (h:s<nid) (hp:p≤1099511627775) (hA:A.length≤17592186044416) (h1:0<n) (hn:n≤1099511627776) :
  ACall Tryz.prog 59 [.ptr s 0,.lit nl' n [.s g]] [(s,strmC nl A p)] nid (.str (g (pickI A p n))) [(s,strmC nl A (p+1))]:=by
 obtain ⟨e1,e2,e3,e4,e5,e6,e7,e8,e9⟩:=id_all h
 refine acall_run c59 (by simp [a59]) ?_
 simp -dsimp only [aqA,↓seqK,↓blkK,↓loopK,step,stepBin,eqB,Nat.add_assoc nid,simprocAttr,e1,e2,e3,e4,e5,e6,e7,e8,e9,a59]
 refine CallO.on (next_c _ _ _ _ _ _ (by omega) hp hA (by omega)) (subH_hit _ _ _) ?_
 simp -dsimp only [aqA,↓seqK,↓blkK,↓loopK,step,stepBin,eqB,Nat.add_assoc nid,simprocAttr,e1,e2,e3,e4,e5,e6,e7,e8,e9]
 have:=nextV_bd A p (n:=(n:Int)) (by omega)
 refine ⟨this,RetOK.same (.inl rfl) rfl (by simp [strmC,liveIds]; omega) ?_ ?_⟩
 ·simp [cvT,step,res,strmC]
 ·simp [cvT,step,res,pickI]
theorem CallX.some_go {s id nid:Nat} {nl:Bool} {A:List Int} {p:Nat} {n T:Nat} {g:Nat→List UInt8} {H:Heap} {K:PV→Heap→List Nat→Prop} (hs:getH H s=strmC nl A p) (hid:getH H id=some (.arr T n [.s g])) (hne:(s==id)=false) (h:s<nid) (hp:p≤1099511627775) (hA:A.length≤17592186044416) (h1:0<n) (hn:n≤1099511627776)
  (hK:K (.str (g (pickI A p n))) [(s,strmC nl A (p+1)),(id,none)] [s,id]):CallX Tryz.prog 59 [.ptr s 0,.sl id 0 n] H nid K:=by
 refine CallX.given [id] (u:=[(s,strmC nl A (p+1))]) (fun nl'=>?_) (subH_get hs) (by simp [getH,hne]) hK
 have e:lends H [id] nl' [.ptr s 0,.sl id 0 n]=[.ptr s 0,.lit (nl' id) n [.s g]]:=by simp [lends,lend,hid,noOs]
 rw [e]
 exact some_c s _ nl _ A p n _ h hp hA h1 hn
theorem CallO.some_go {s id nid:Nat} {nl:Bool} {A:List Int} {p:Nat} {n T:Nat} {g:Nat→List UInt8} {H:Heap} {K:PV→Heap→Prop} (hs:getH H s=strmC nl A p) (hid:getH H id=some (.arr T n [.s g])) (hne:(s==id)=false) (h:s<nid) (hp:p≤1099511627775) (hA:A.length≤17592186044416) (h1:0<n) (hn:n≤1099511627776)
  (hK:K (.str (g (pickI A p n))) [(s,strmC nl A (p+1)),(id,none)]):CallOK Tryz.prog 59 [.ptr s 0,.sl id 0 n] H nid K :=
 CallO.x (CallX.some_go hs hid hne h hp hA h1 hn hK)
theorem getD_all {α:Type} {P:α→Prop} {l:List α} {d:α} (h:∀ x∈l,P x) {i:Nat} (hi:i<l.length):P (l.getD i d):=by
 rw [List.getD_eq_getElem?_getD,List.getElem?_eq_getElem hi]
 exact h _ (List.getElem_mem _)
def bit01 (b:UInt8):Bool:=b==48 || b==49
theorem bitsX (s nid:Nat) (nl:Bool) (A:List Int) (p n:Nat) (h:s<nid) (hn:n≤1000000) (hp:p≤1099510000000) (hA:A.length≤17592186044416) :
  ∃ t:List UInt8,(t.length=n∧t.all bit01=true)∧ACall Tryz.prog 34 [.ptr s 0,.int .i64 n] [(s,strmC nl A p)] nid (.str t) [(s,strmC nl A (p+n))]:=by
 obtain ⟨e1,e2,e3,e4,e5,e6,e7,e8,e9⟩:=id_all h
 refine acall_ex c34 (by simp [a34]) ?_
 simp -dsimp only [aqT0,ROp0,aqA,↓seqK,↓blkK,↓loopK,step,stepBin,eqB,Nat.add_assoc nid,simprocAttr,LN_succ,e1,e2,e3,e4,e5,e6,e7,e8,e9,a34,strmC_low]
 refine LP0.mkP (fun x:List UInt8=>x.length≤n∧x.all bit01=true) (fun x=>⟨[(7,.int .i64 x.length),(6,.int .i64 n),(5,.str x),(0,.ptr s 0)],[(s,strmC nl A (p+x.length))],nid+100,nid⟩) (fun x=>n - x.length) [] (by simp) (Cov.go [] [] ?_) (fun x hx=>?_)
 ·simp [cvT,step,res,e1,e2,e3,e4,e5,e6,e7,e8,e9,strmC]
 obtain ⟨hx1,hx2⟩:=hx
 simp -dsimp only [aqT0,ROp0,aqA,↓seqK,↓blkK,↓loopK,step,stepBin,eqB,Nat.add_assoc nid,simprocAttr,LN_succ,e1,e2,e3,e4,e5,e6,e7,e8,e9,strmC_low]
 refine S2.dec (fun h2=>?_) (fun h2=>?_) <;> simp -dsimp only [aqT0,ROp0,aqA,↓seqK,↓blkK,↓loopK,step,stepBin,eqB,Nat.add_assoc nid,simprocAttr,LN_succ,e1,e2,e3,e4,e5,e6,e7,e8,e9,strmC_low]
 ·refine CallX.some_go (T:=9) (nl:=nl) (A:=A) (p:=p+x.length) (g:=fun i=>[[48],[49]].getD i []) (by simp only [aqA,↓seqK,↓blkK,↓loopK,step,stepBin,eqB,Nat.add_assoc nid,simprocAttr,e1,e2,e3,e4,e5,e6,e7,e8,e9]) (by simp only [aqA,↓seqK,↓blkK,↓loopK,step,stepBin,eqB,Nat.add_assoc nid,simprocAttr,e1,e2,e3,e4,e5,e6,e7,e8,e9]) (by simp only [aqA,↓seqK,↓blkK,↓loopK,step,stepBin,eqB,Nat.add_assoc nid,simprocAttr,e1,e2,e3,e4,e5,e6,e7,e8,e9]) (by omega) (by omega) hA (by omega) (by omega) ?_
  simp -dsimp only [aqT0,ROp0,aqA,↓seqK,↓blkK,↓loopK,step,stepBin,eqB,Nat.add_assoc nid,simprocAttr,LN_succ,e1,e2,e3,e4,e5,e6,e7,e8,e9,strmC_low]
  have hb:([[48],[49]].getD (pickI A (p+x.length) 2) []:List UInt8)=[48]∨([[48],[49]].getD (pickI A (p+x.length) 2) []:List UInt8)=[49]:=by
   have:=pickI_lt A (p+x.length) (n:=2) (by omega)
   rcases (by omega:pickI A (p+x.length) 2=0∨pickI A (p+x.length) 2=1) with e | e <;> rw [e] <;> simp
  generalize ([[48],[49]].getD (pickI A (p+x.length) 2) []:List UInt8)=b at hb ⊢
  have hbl:b.length=1∧b.all bit01=true:=by rcases hb with rfl | rfl <;> exact ⟨rfl,rfl⟩
  refine ⟨by omega,by unfold inI64; omega,x++b,⟨⟨by rw [List.length_append]; omega,by rw [List.all_append,hx2,hbl.2]; rfl⟩,by rw [List.length_append]; omega⟩,Cov.go [] [] ?_⟩
  have e:(x++b).length=x.length+1:=by rw [List.length_append,hbl.1]
  have e2:((x++b).length:Int)=(x.length:Int)+1:=by omega
  simp [cvT,step,res,e1,e2,e3,e4,e5,e6,e7,e8,e9,strmC,e,e2,-List.length_append]
  omega
 ·have e:x.length=n:=by omega
  refine EndOK.mk x ⟨e,hx2⟩ ?_
  refine RetOK.go [] [] (.inl rfl) ?_
  simp [a34,cvT,step,res,e1,e2,e3,e4,e5,e6,e7,e8,e9,strmC,e]
theorem enc_all:((List.range 256).all fun n=>decide ((Utf8.encode (IntKind.i32.wrap (n:Int))).data.toList.length≤2))=true:=by kernel_rfl
theorem enc_len (b:UInt8):(Utf8.encode (IntKind.i32.wrap ((b.toNat:Nat):Int))).data.toList.length≤2:=by
 have:=List.all_eq_true.1 enc_all b.toNat (List.mem_range.2 (UInt8.toNat_lt b))
 simpa using this
theorem changedX (s nid:Nat) (nl:Bool) (A:List Int) (p:Nat) (t w:List UInt8) (h:s<nid) (ht:t.length≤1000000000) (hw:w.length≤1000) (hp:p≤1099511627000) (hA:A.length≤17592186044416) :
  ∃ x:List UInt8 × Nat,(x.1.length≤t.length+w.length+2∧x.2≤p+3)∧ACall Tryz.prog 60 [.ptr s 0,.str t,.str w] [(s,strmC nl A p)] nid (.str x.1) [(s,strmC nl A x.2)]:=by
 obtain ⟨e1,e2,e3,e4,e5,e6,e7,e8,e9⟩:=id_all h
 refine acall_ex c60 (by simp [a60]) ?_
 simp -dsimp only [aqT0,ROp0,aqA,↓seqK,↓blkK,↓loopK,step,stepBin,eqB,Nat.add_assoc nid,simprocAttr,LN_succ,e1,e2,e3,e4,e5,e6,e7,e8,e9,a60,strmC_low]
 have fin:∀ st:ST,getS st.slots 6=.str w→st.heap=[(s,strmC nl A p)]→EndOK (fun x:List UInt8 × Nat=>x.1.length≤t.length+w.length+2∧x.2≤p+3) (a60).res [(s,strmC nl A p)] nid (fun x=>.str x.1) (fun x=>[(s,strmC nl A x.2)]) .ret st:=fun st hs hh=>by
  refine EndOK.mk (w,p) ⟨by show w.length≤_; omega,by show p≤_; omega⟩ ?_
  refine RetOK.go [] [] (.inl rfl) ?_
  rw [hh]
  simp [a60,cvT,step,res,e1,e2,e3,e4,e5,e6,e7,e8,e9,strmC,hs]
 refine S2.intro (fun h1=>?_) (fun h1=>?_) <;> simp -dsimp only [aqT0,ROp0,aqA,↓seqK,↓blkK,↓loopK,step,stepBin,eqB,Nat.add_assoc nid,simprocAttr,LN_succ,e1,e2,e3,e4,e5,e6,e7,e8,e9,strmC_low]
 ·exact fin _ rfl rfl
 refine S2.intro (fun h2=>?_) (fun h2=>?_) <;> simp -dsimp only [aqT0,ROp0,aqA,↓seqK,↓blkK,↓loopK,step,stepBin,eqB,Nat.add_assoc nid,simprocAttr,LN_succ,e1,e2,e3,e4,e5,e6,e7,e8,e9,strmC_low]
 ·exact fin _ rfl rfl
 clear fin
 have ht0:0<t.length:=by
  cases t with
  | nil=>simp at h1
  | cons b t=>simp
 have hw0:0<w.length:=by
  cases w with
  | nil=>simp at h2
  | cons b w=>simp
 refine CallX.on (next_c s _ nl A p _ (by omega) (by omega) hA (by omega)) (subH_get (by simp only [aqA,↓seqK,↓blkK,↓loopK,step,stepBin,eqB,Nat.add_assoc nid,simprocAttr,e1,e2,e3,e4,e5,e6,e7,e8,e9])) ?_
 simp -dsimp only [aqT0,ROp0,aqA,↓seqK,↓blkK,↓loopK,step,stepBin,eqB,Nat.add_assoc nid,simprocAttr,LN_succ,e1,e2,e3,e4,e5,e6,e7,e8,e9,strmC_low]
 have hb:=nextV_bd A p (n:=(t.length:Int)) (by omega)
 obtain ⟨I,hI⟩:∃ I:Nat,nextV A p (t.length:Int)=I:=⟨_,(Int.toNat_of_nonneg hb.1).symm⟩
 rw [hI] at hb ⊢
 refine CallX.on (next_c s _ nl A (p+1) _ (by omega) (by omega) hA (by omega)) (subH_get (by simp only [aqA,↓seqK,↓blkK,↓loopK,step,stepBin,eqB,Nat.add_assoc nid,simprocAttr,e1,e2,e3,e4,e5,e6,e7,e8,e9])) ?_
 simp -dsimp only [aqT0,ROp0,aqA,↓seqK,↓blkK,↓loopK,step,stepBin,eqB,Nat.add_assoc nid,simprocAttr,LN_succ,e1,e2,e3,e4,e5,e6,e7,e8,e9,strmC_low]
 have hb2:=nextV_bd A (p+1) (n:=(w.length:Int)) (by omega)
 obtain ⟨J,hJ⟩:∃ J:Nat,nextV A (p+1) (w.length:Int)=J:=⟨_,(Int.toNat_of_nonneg hb2.1).symm⟩
 rw [hJ] at hb2 ⊢
 refine ⟨by omega,?_⟩
 refine CallX.on (next_c s _ nl A (p+1+1) _ (by omega) (by omega) hA (by omega)) (subH_get (by simp only [aqA,↓seqK,↓blkK,↓loopK,step,stepBin,eqB,Nat.add_assoc nid,simprocAttr,e1,e2,e3,e4,e5,e6,e7,e8,e9])) ?_
 simp -dsimp only [aqT0,ROp0,aqA,↓seqK,↓blkK,↓loopK,step,stepBin,eqB,Nat.add_assoc nid,simprocAttr,LN_succ,e1,e2,e3,e4,e5,e6,e7,e8,e9,strmC_low]
 have henc:=enc_len (w.getD J 0)
 have fin:∀ (x:List UInt8) (st:ST),x.length≤t.length+w.length+2→getS st.slots 6=.str x→st.heap=[(s,strmC nl A (p+1+1+1)),(s,strmC nl A (p+1+1)),(s,strmC nl A (p+1)),(s,strmC nl A p)]→EndOK (fun x:List UInt8 × Nat=>x.1.length≤t.length+w.length+2∧x.2≤p+3) (a60).res [(s,strmC nl A p)] nid (fun x=>.str x.1) (fun x=>[(s,strmC nl A x.2)]) .ret st:=fun x st hx hs hh=>by
  refine EndOK.mk (x,p+3) ⟨hx,Nat.le_refl _⟩ ?_
  refine RetOK.go [] [] (.inl rfl) ?_
  rw [hh]
  simp [a60,cvT,step,res,e1,e2,e3,e4,e5,e6,e7,e8,e9,strmC,hs]
  omega
 refine S2.intro (fun h3=>?_) (fun h3=>?_) <;> simp -dsimp only [aqT0,ROp0,aqA,↓seqK,↓blkK,↓loopK,step,stepBin,eqB,Nat.add_assoc nid,simprocAttr,LN_succ,e1,e2,e3,e4,e5,e6,e7,e8,e9,strmC_low]
 ·refine ⟨⟨by omega,by omega⟩,by simp only [List.length_take]; omega,by unfold inI64; omega,⟨by omega,by omega⟩,by simp only [List.length_append,List.length_take,List.length_drop]; omega,?_⟩
  exact fin _ _ (by simp only [List.length_append,List.length_take,List.length_drop]; omega) rfl rfl
 refine S2.intro (fun h4=>?_) (fun h4=>?_) <;> simp -dsimp only [aqT0,ROp0,aqA,↓seqK,↓blkK,↓loopK,step,stepBin,eqB,Nat.add_assoc nid,simprocAttr,LN_succ,e1,e2,e3,e4,e5,e6,e7,e8,e9,strmC_low]
 ·refine ⟨⟨by omega,by omega⟩,by simp only [List.length_take]; omega,⟨by omega,by omega⟩,by simp only [List.length_append,List.length_take,List.length_drop]; omega,?_⟩
  exact fin _ _ (by simp only [List.length_append,List.length_take,List.length_drop]; omega) rfl rfl
 ·refine ⟨⟨by omega,by omega⟩,by unfold inI64; omega,⟨by omega,by omega⟩,by simp only [List.length_take,List.length_drop]; omega,?_⟩
  exact fin _ _ (by simp only [List.length_append,List.length_take,List.length_drop]; omega) rfl rfl
open Go.RowKit
def ShortRows (m:Nat) (l:List (List UInt8)):Prop:=∀ r∈l,r.length≤m
theorem ShortRows.at {m:Nat} {l:List (List UInt8)} (h:ShortRows m l) (i:Nat):(l.getD i []).length≤m:=by
 rw [List.getD_eq_getElem?_getD]
 cases hg:l[i]? with
 | none=>simp
 | some x=>exact h x (List.mem_of_getElem? hg)
theorem ShortRows.set {m:Nat} {l:List (List UInt8)} (h:ShortRows m l) (i:Nat) {x:List UInt8} (hx:x.length≤m):ShortRows m (l.set i x):=fun r hr=>by
 rcases List.mem_or_eq_of_mem_set hr with h1 | h1
 ·exact h r h1
 ·rw [h1]; exact hx
theorem ShortRows.mono {m n:Nat} {l:List (List UInt8)} (h:ShortRows m l) (hn:m≤n):ShortRows n l:=fun r hr=>Nat.le_trans (h r hr) hn
open Go.RowKit Go.Shelf
theorem tz64_c (nid:Nat):ACall Tryz.prog 217 [.int .u64 2] [] nid (.int .i64 1) [] :=
 acall_belowG nid Tryz.func217 (by kernel_rfl) (by kernel_rfl) (us:=[.int .u64 2]) rfl rfl fun w hw=>by
  have hg:Tryz.lays7x29_ren.g 1=3:=by kernel_rfl
  have hf:Tryz.lays7x29_ren.f 29=217:=by kernel_rfl
  have h:=Any7.tz64_core Tryz.lays7x29 2 1 1 w rfl (by rw [tz64_key 2 2 (by decide) (by decide) (by decide)]) (by decide) (by decide) (by rw [hg]; exact hw.tab.1)
  rw [hf] at h
  exact h.mono fun e w' ⟨h1,h2⟩=>⟨h1,by rw [h2]; exact Below.refl _ _⟩
theorem tz_c (nid:Nat):ACall Tryz.prog 199 [.int .u64 2] [] nid (.int .i64 1) []:=by
 refine acall_run c199 (by simp [a199]) ?_
 simp -dsimp only [aqA,↓seqK,↓blkK,↓loopK,step,stepBin,eqB,Nat.add_assoc nid,simprocAttr,LN_succ,a199]
 refine CallO.pure (tz64_c _) ?_
 simp -dsimp only [aqA,↓seqK,↓blkK,↓loopK,step,stepBin,eqB,Nat.add_assoc nid,simprocAttr,LN_succ]
 refine RetOK.pure (.inl rfl) rfl ?_
 simp [cvT,step,res]
set_option maxHeartbeats 1000000 in
theorem isPow_c (nid:Nat):ACall Tryz.prog 198 [.int .i64 2] [] nid (.bool true) []:=by
 refine acall_run c198 (by simp [a198]) ?_
 simp -dsimp only [aqA,↓seqK,↓blkK,↓loopK,step,stepBin,eqB,Nat.add_assoc nid,simprocAttr,LN_succ,a198]
 refine ⟨by unfold inI64; omega,?_⟩
 have e:(IntKind.i64.wrap ((BitVec.ofInt IntKind.i64.bits 2 &&& BitVec.ofInt IntKind.i64.bits 1).toNat:Int)==0)=true:=by decide
 rw [e]
 refine RetOK.pure (.inl rfl) rfl ?_
 simp [cvT,step,res]
def digs:List UInt8:=[48,49,50,51,52,53,54,55,56,57,97,98,99,100,101,102,103,104,105,106,107,108,109,110,111,112,113,114,115,116,117,118,119,120,121,122]
def cellB (n j p:Nat):Int:=if 65 - j≤p∧p<65 then ((bitB n (64 - p)).toNat:Nat) else 0
theorem cellB_zero (n:Nat):(fun _:Nat=>(0:Int))=cellB n 0:=by
 funext p
 unfold cellB
 rw [if_neg (by omega)]
theorem cellB_step {n j:Nat} (hj:j<65):(fun p=>if p=64 - j then (((bitB n j).toNat:Nat):Int) else cellB n j p)=cellB n (j+1):=by
 funext p
 unfold cellB
 by_cases h:p=64 - j
 ·subst h
  rw [if_pos rfl,if_pos (by omega),show 64 - (64 - j)=j by omega]
 ·rw [if_neg h]
  by_cases h2:65 - j≤p∧p<65
  ·rw [if_pos h2,if_pos (by omega)]
  ·rw [if_neg h2,if_neg (by omega)]
theorem dig_bit {n j:Nat}:digs.getD ((n / 2 ^ j) &&& 1) 0=bitB n j:=by
 unfold bitB
 rw [Nat.and_one_is_mod,Nat.testBit_eq_decide_div_mod_eq]
 rcases Nat.mod_two_eq_zero_or_one (n / 2 ^ j) with e | e <;> rw [e] <;> simp [digs]
theorem bits_str {n k:Nat} (hk:k≤65) (h0:0<k):((List.range (65 - (65 - k))).map fun i=>UInt8.ofNat (cellB n k (65 - k+i)).toNat)=numV n k:=by
 unfold numV
 rw [show 65 - (65 - k)=k by omega]
 refine List.map_congr_left fun i hi=>?_
 have hi:=List.mem_range.1 hi
 unfold cellB
 rw [if_pos (by omega),Int.toNat_natCast,show 64 - (65 - k+i)=k - 1 - i by omega,UInt8.ofNat_toNat]
theorem log_of {n j:Nat} (h1:n / 2 ^ j<2) (h2:j=0∨2 ^ j≤n):n.log2=j:=by
 have hp:0<2 ^ j:=Nat.two_pow_pos j
 have h3:n<2 ^ (j+1):=by
  rw [Nat.pow_succ,Nat.mul_comm]
  exact (Nat.div_lt_iff_lt_mul hp).1 h1
 by_cases h0:n=0
 ·subst h0
  rcases h2 with rfl | h2
  ·rfl
  ·omega
 ·have h4:=(Nat.log2_lt h0).2 h3
  rcases h2 with rfl | h2
  ·omega
  ·have h5:¬ n.log2<j:=fun h=>by have:=(Nat.log2_lt h0).1 h; omega
   omega
set_option maxHeartbeats 4000000 in
theorem formatBits_c (n:Nat) (nid:Nat) (hn:n<2 ^ 40):ACall Tryz.prog 159 [.lit true 0 [],.int .u64 (n:Nat),.int .i64 2,.bool false,.bool false] [] nid (.tup [.lit true 0 [],.str (numV n (n.log2+1))]) []:=by
 have hw2:IntKind.u64.wrap 2=2:=by decide
 have hw1:IntKind.u64.wrap 1=1:=by decide
 refine acall_run c159 (by simp [a159]) ?_
 simp -dsimp only [aqA,↓seqK,↓blkK,↓loopK,step,stepBin,eqB,Nat.add_assoc nid,simprocAttr,LN_succ,a159]
 refine CallO.pure (isPow_c _) ?_
 simp -dsimp only [aqA,↓seqK,↓blkK,↓loopK,step,stepBin,eqB,Nat.add_assoc nid,simprocAttr,LN_succ]
 rw [hw2]
 refine CallO.pure (tz_c _) ?_
 simp -dsimp only [aqA,↓seqK,↓blkK,↓loopK,step,stepBin,eqB,Nat.add_assoc nid,simprocAttr,LN_succ]
 rw [hw1,hw2]
 simp -dsimp only [aqA,↓seqK,↓blkK,↓loopK,step,stepBin,eqB,Nat.add_assoc nid,simprocAttr,LN_succ]
 refine LP.mkP (fun j:Nat=>j≤41∧(j=0∨2 ^ j≤n)) (fun j:Nat=>⟨[(1,.int .u64 (n / 2 ^ j:Nat)),(15,.int .u64 2),(16,.int .u64 1),(14,.int .u64 1),(13,.int .i64 (65 - j:Nat)),(12,.arv (nid+8)),(3,.bool false),(4,.bool false),(10,.lit true 0 [])],[(nid+8,some (.arr 215 65 [.i .u8 (cellB n j)]))],nid+200,nid⟩) (fun j=>42 - j) 0 ⟨by omega,.inl rfl⟩ (Cov.go [(nid+8,nid+48)] [] ?_) (fun j hj=>?_)
 ·simp [cvT,step,res,hw1,← cellB_zero]
 obtain ⟨hj,hj2⟩:=hj
 have hu:n / 2 ^ j≤n:=Nat.div_le_self _ _
 have hun:n / 2 ^ j<two64:=by unfold two64; omega
 have hand:=(and_u hun (show (1:Nat)<two64 by decide)).1
 rw [show (((1:Nat):Int))=1 from rfl] at hand
 have hdig:=dig_bit (n:=n) (j:=j)
 have hstep:=cellB_step (n:=n) (j:=j) (by omega)
 have hm:(n / 2 ^ j) &&& 1<2:=by rw [Nat.and_one_is_mod]; omega
 have hdd:n / 2 ^ j / 2=n / 2 ^ (j+1):=by rw [Nat.div_div_eq_div_mul,Nat.pow_succ]
 have hpos:2≤n / 2 ^ j→2 ^ (j+1)≤n:=fun h=>by
  rw [Nat.pow_succ,Nat.mul_comm]
  exact (Nat.le_div_iff_mul_le (Nat.two_pow_pos j)).1 h
 have hlog:=fun h=>log_of (n:=n) (j:=j) h hj2
 generalize n / 2 ^ j=u at *
 simp -dsimp only [aqA,↓seqK,↓blkK,↓loopK,step,stepBin,eqB,Nat.add_assoc nid,simprocAttr,LN_succ]
 refine S2.dec (fun h3=>?_) (fun h3=>?_) <;> simp -dsimp only [aqA,↓seqK,↓blkK,↓loopK,step,stepBin,eqB,Nat.add_assoc nid,simprocAttr,LN_succ]
 ·have hfd:((u:Nat):Int).fdiv (2 ^ min 1 IntKind.u64.bits)=((u / 2:Nat):Int):=by
   rw [show min 1 IntKind.u64.bits=1 from rfl,Int.pow_succ,Int.pow_zero,Int.one_mul,Int.fdiv_eq_ediv_of_nonneg _ (by decide),Int.natCast_ediv]; rfl
  have e13:((65 - j:Nat):Int) - 1=((64 - j:Nat):Int):=by omega
  unfold digs at hdig
  rw [hand,e13,hfd,hdd]
  simp only [Int.toNat_natCast]
  rw [hdig,hstep]
  have h2:2≤u:=by omega
  have hp2:=hpos h2
  have hj1:j+1≤41:=by
   rcases Nat.lt_or_ge j 41 with h | h
   ·omega
   ·have:2 ^ 41≤2 ^ (j+1):=Nat.pow_le_pow_right (by omega) (by omega)
    omega
  refine ⟨by unfold inI64; omega,by omega,by omega,j+1,⟨⟨hj1,.inr hp2⟩,by omega⟩,Cov.go [] [] ?_⟩
  simp [cvT,step,res,show 65 - (j+1)=64 - j by omega]
 ·have h2:u<2:=by omega
  have hu1:u &&& 1=u:=by rw [Nat.and_one_is_mod]; omega
  have e13:((65 - j:Nat):Int) - 1=((64 - j:Nat):Int):=by omega
  have hlog:=hlog h2
  have hs:=bits_str (n:=n) (k:=j+1) (by omega) (by omega)
  rw [show 65 - (j+1)=64 - j by omega] at hs
  unfold digs at hdig
  rw [hu1] at hdig
  rw [e13]
  simp only [Int.toNat_natCast]
  rw [hdig,hstep,show (64 - j==0)=false by simp; omega]
  simp -dsimp only [aqA,↓seqK,↓blkK,↓loopK,step,stepBin,eqB,Nat.add_assoc nid,simprocAttr,LN_succ,Col.shift]
  rw [hs]
  refine ⟨by unfold inI64; omega,by omega,by omega,by omega,?_⟩
  rw [hlog]
  refine RetOK.go [] [] (.inl rfl) ?_
  simp [a159,cvT,step,res]
theorem formatInt_c (n:Nat) (nid:Nat) (hn:n<2 ^ 40):ACall Tryz.prog 111 [.int .i64 (n:Nat),.int .i64 2] [] nid (.str (numV n (n.log2+1))) []:=by
 have hw:IntKind.u64.wrap ((n:Nat):Int)=n:=u64_in (by unfold two64; omega)
 refine acall_run c111 (by simp [a111]) ?_
 simp -dsimp only [aqA,↓seqK,↓blkK,↓loopK,step,stepBin,eqB,Nat.add_assoc nid,simprocAttr,LN_succ,a111]
 rw [hw,show decide (((n:Nat):Int)<0)=false by simp]
 refine CallO.pure (formatBits_c n _ hn) ?_
 simp -dsimp only [aqA,↓seqK,↓blkK,↓loopK,step,stepBin,eqB,Nat.add_assoc nid,simprocAttr,LN_succ]
 refine RetOK.pure (.inl rfl) rfl ?_
 simp [cvT,step,res]
theorem formatIntS_c (n:Nat) (nid:Nat) (hn:n<2 ^ 40):ACall Tryz.prog 57 [.int .i64 (n:Nat),.int .i64 2] [] nid (.str (numV n (n.log2+1))) []:=by
 refine acall_run c57 (by simp [a57]) ?_
 simp -dsimp only [aqA,↓seqK,↓blkK,↓loopK,step,stepBin,eqB,Nat.add_assoc nid,simprocAttr,LN_succ,a57]
 refine CallO.pure (formatInt_c n _ hn) ?_
 simp -dsimp only [aqA,↓seqK,↓blkK,↓loopK,step,stepBin,eqB,Nat.add_assoc nid,simprocAttr,LN_succ]
 refine RetOK.pure (.inl rfl) rfl ?_
 simp [cvT,step,res]
open Go.RowKit
def arrRg (l:List (Bs × Int)):Option ABlk:=some (.arr 70 l.length [.s fun j=>(l.getD j reg0).1,.i .i64 fun j=>(l.getD j reg0).2])
def arrIn (l:List (Bs × Bs)):Option ABlk:=some (.arr 68 l.length [.s fun j=>(l.getD j ins0).1,.s fun j=>(l.getD j ins0).2])
def arrD (b:Nat) (D:List Dev):Option ABlk:=some (.arr 57 D.length [.s fun i=>(D.getD i dev0).name,.i .i64 fun i=>(D.getD i dev0).long,.i .i64 fun i=>(D.getD i dev0).id,.o (fun k=>b+(100+2 * k)) (fun k=>(D.getD k dev0).regs.length),.o (fun k=>b+(101+2 * k)) (fun k=>(D.getD k dev0).ins.length)])
def boxDv (d:Dev) (r i:PV):Option ABlk:=some (.box 57 [.str d.name,.int .i64 d.long,.int .i64 d.id,r,i])
structure DevG (d:Dev):Prop where
 nm:d.name.length=2
 lg:2≤d.long∧d.long≤4
 idb:0≤d.id∧d.id≤4294967295
 rl:d.regs.length≤2
 rs:∀ x∈d.regs,x.1.length≤10∧1≤x.2∧x.2≤5
 il:d.ins.length≤3
 is:∀ x∈d.ins,x.1.length≤10∧x.2.length≤10
def dropV:Nat→ACode→ACode
 | 0,c=>c
 | k+1,.seq _ b=>dropV k b
 | _+1,c=>c
def headV:ACode→ACode
 | .seq a _=>a
 | c=>c
def roundV:ACode→ACode
 | .seq _ (.block _ (.loop (.seq _ (.seq _ (.seq x _)))))=>x
 | c=>c
def u3L:List Bs:=[[117,49],[117,50],[117,51]]
def d2L:List Bs:=[[100,97,116,97],[115,99,97,110]]
def blockV:ACode→ACode
 | .block _ c=>c
 | c=>c
def idsL:List Int:=[0,5,19088743,4294967295,1]
theorem id_ok (i:Nat):0≤idsL.getD i 0∧idsL.getD i 0≤4294967295:=by
 unfold idsL
 rcases i with _ | _ | _ | _ | _ | i <;> simp
theorem u3_len {k:Nat} (h:k<3):(u3L.getD k []).length=2:=by
 unfold u3L
 rcases k with _ | _ | _ | k <;> first | rfl | omega
theorem rep1 (b:UInt8):∀ z,(Lib.repeatL [b] z).length=z
 | 0=>rfl
 | z+1=>by simp [Lib.repeatL,rep1 b z]
theorem snocR1 (R:List (Bs × Int)) (x:Bs × Int):∀ j,j<R.length+1→(if j<R.length then (R.getD j reg0).1 else [x.1].getD (j - R.length) [])=((R++[x]).getD j reg0).1:=fun j hj=>by
 by_cases h:j<R.length
 ·rw [if_pos h,List.getD_eq_getElem?_getD,List.getD_eq_getElem?_getD,List.getElem?_append_left h]
 ·obtain rfl:j=R.length:=by omega
  rw [if_neg h]
  simp
theorem snocR2 (R:List (Bs × Int)) (x:Bs × Int):∀ j,j<R.length+1→(if j<R.length then (R.getD j reg0).2 else [x.2].getD (j - R.length) 0)=((R++[x]).getD j reg0).2:=fun j hj=>by
 by_cases h:j<R.length
 ·rw [if_pos h,List.getD_eq_getElem?_getD,List.getD_eq_getElem?_getD,List.getElem?_append_left h]
 ·obtain rfl:j=R.length:=by omega
  rw [if_neg h]
  simp
theorem snocI1 (R:List (Bs × Bs)) (x:Bs × Bs):∀ j,j<R.length+1→(if j<R.length then (R.getD j ins0).1 else [x.1].getD (j - R.length) [])=((R++[x]).getD j ins0).1:=fun j hj=>by
 by_cases h:j<R.length
 ·rw [if_pos h,List.getD_eq_getElem?_getD,List.getD_eq_getElem?_getD,List.getElem?_append_left h]
 ·obtain rfl:j=R.length:=by omega
  rw [if_neg h]
  simp
theorem snocI2 (R:List (Bs × Bs)) (x:Bs × Bs):∀ j,j<R.length+1→(if j<R.length then (R.getD j ins0).2 else [x.2].getD (j - R.length) [])=((R++[x]).getD j ins0).2:=fun j hj=>by
 by_cases h:j<R.length
 ·rw [if_pos h,List.getD_eq_getElem?_getD,List.getD_eq_getElem?_getD,List.getElem?_append_left h]
 ·obtain rfl:j=R.length:=by omega
  rw [if_neg h]
  simp
set_option maxHeartbeats 8000000 in
theorem dev_round (s nid:Nat) (nl n0:Bool) (A:List Int) (q k n:Nat) (Hs:Heap) (h:s<nid) (hq:q≤1099500001000) (hA:A.length≤17592186044416) (hk:k<n) (hn:n≤3) (hs:Scoped (nid+200) Hs) (hsk:s ∉ keys Hs) (K:ST→Prop) (Q:AEx→ST→Prop)
  (hK:∀ (d:Dev) (q':Nat),DevG d→q'≤q+12→SR Tryz.prog (dropV 4 (blockV (roundV (headV (dropV 2 a11.body))))) ⟨[(8,.ptr (nid+1300) 0),(20,.int .i64 k),(19,.int .i64 n),(18,.lit n0 n [.s fun i=>u3L.getD i []]),(5,.sl (nid+24) 0 k),(0,.ptr s 0)],
   [(s,strmC nl A q'),(nid+1300,boxDv d (.sl (nid+1304) 0 d.regs.length) (.sl (nid+1308) 0 d.ins.length)),(nid+1304,arrRg d.regs),(nid+1308,arrIn d.ins)]++Hs,nid+9000,nid⟩ (blkK 1 (seqK K Q)) .mk) :
  SR Tryz.prog (roundV (headV (dropV 2 a11.body))) ⟨[(20,.int .i64 k),(19,.int .i64 n),(18,.lit n0 n [.s fun i=>u3L.getD i []]),(5,.sl (nid+24) 0 k),(0,.ptr s 0)],[(s,strmC nl A q)]++Hs,nid+1200,nid⟩ (seqK K Q) .mk:=by
 obtain ⟨e1,e2,e3,e4,e5,e6,e7,e8,e9⟩:=id_all h
 simp only [a11,dropV,headV,roundV,blockV] at hK ⊢
 refine SR.block ?_
 refine SR.seq ?_
 simp -dsimp only [aqA,↓seqK,↓blkK,↓loopK,step,stepBin,eqB,Nat.add_assoc nid,simprocAttr,LN_succ,e1,e2,e3,e4,e5,e6,e7,e8,e9,strmC_low]
 refine ⟨⟨by omega,by omega⟩,?_⟩
 refine SR.seqEx (ι:={x:Int × Int // (2≤x.1∧x.1≤4)∧0≤x.2∧x.2≤4294967295}) (fun x=>⟨[(8,.ptr (nid+1300) 0),(20,.int .i64 k),(19,.int .i64 n),(18,.lit n0 n [.s fun i=>u3L.getD i []]),(5,.sl (nid+24) 0 k),(0,.ptr s 0)],
   [(s,strmC nl A (q+1+1)),(nid+1300,some (.box 57 [.str (u3L.getD k []),.int .i64 x.1.1,.int .i64 x.1.2,.lit true 0 [],.lit true 0 []]))]++Hs,nid+2000,nid⟩) ?_ (fun ⟨⟨lg,id⟩,hlg,hid⟩=>?_)
 ·simp -dsimp only [aqA,↓seqK,↓blkK,↓loopK,step,stepBin,eqB,Nat.add_assoc nid,simprocAttr,LN_succ,e1,e2,e3,e4,e5,e6,e7,e8,e9,strmC_low]
  refine CallO.pick_go (T:=3) (nl:=nl) (A:=A) (p:=q) (g:=fun i=>[2,3,4].getD i 0) (by simp only [aqA,↓seqK,↓blkK,↓loopK,step,stepBin,eqB,Nat.add_assoc nid,simprocAttr,LN_succ,e1,e2,e3,e4,e5,e6,e7,e8,e9]) (by simp only [aqA,↓seqK,↓blkK,↓loopK,step,stepBin,eqB,Nat.add_assoc nid,simprocAttr,LN_succ,e1,e2,e3,e4,e5,e6,e7,e8,e9]) (by simp only [aqA,↓seqK,↓blkK,↓loopK,step,stepBin,eqB,Nat.add_assoc nid,simprocAttr,LN_succ,e1,e2,e3,e4,e5,e6,e7,e8,e9]) (by omega) (by omega) hA (by omega) (by omega) ?_
  have hl:2≤([2,3,4].getD (pickI A q 3) 0:Int)∧([2,3,4].getD (pickI A q 3) 0:Int)≤4:=getD_all (P:=fun x:Int=>2≤x∧x≤4) (l:=[2,3,4]) (d:=0) (by simp) (pickI_lt A q (n:=3) (by omega))
  generalize [2,3,4].getD (pickI A q 3) (0:Int)=lg at *
  simp -dsimp only [aqA,↓seqK,↓blkK,↓loopK,step,stepBin,eqB,Nat.add_assoc nid,simprocAttr,LN_succ,e1,e2,e3,e4,e5,e6,e7,e8,e9,strmC_low]
  refine CallO.pick_go (T:=3) (nl:=nl) (A:=A) (p:=q+1) (g:=fun i=>[0,5,19088743,4294967295,1].getD i 0) (by simp only [aqA,↓seqK,↓blkK,↓loopK,step,stepBin,eqB,Nat.add_assoc nid,simprocAttr,LN_succ,e1,e2,e3,e4,e5,e6,e7,e8,e9]) (by simp only [aqA,↓seqK,↓blkK,↓loopK,step,stepBin,eqB,Nat.add_assoc nid,simprocAttr,LN_succ,e1,e2,e3,e4,e5,e6,e7,e8,e9]) (by simp only [aqA,↓seqK,↓blkK,↓loopK,step,stepBin,eqB,Nat.add_assoc nid,simprocAttr,LN_succ,e1,e2,e3,e4,e5,e6,e7,e8,e9]) (by omega) (by omega) hA (by omega) (by omega) ?_
  have hi:=id_ok (pickI A (q+1) 5)
  unfold idsL at hi
  generalize [0,5,19088743,4294967295,1].getD (pickI A (q+1) 5) (0:Int)=id at *
  simp -dsimp only [aqA,↓seqK,↓blkK,↓loopK,step,stepBin,eqB,Nat.add_assoc nid,simprocAttr,LN_succ,e1,e2,e3,e4,e5,e6,e7,e8,e9,strmC_low]
  refine ⟨⟨(lg,id),hl,hi⟩,?_⟩
  refine Cov.goP (nid+200) Hs [_,_] [(nid+1300,nid+1244)] [] (by repeat (first | exact .nil | apply PreH.cons)) (by omega) hs (by simp [kOK,hsk]) (by simp) ?_
  simp [cvT,step,res,e1,e2,e3,e4,e5,e6,e7,e8,e9,strmC,-List.getD_eq_getElem?_getD]
 simp only at hlg hid
 have hu3:=u3_len (k:=k) (by omega)
 generalize u3L.getD k []=nm at *
 -- the registers
 refine SR.seqW (ι:={x:List (Bs × Int) × Nat // x.1.length≤2∧(∀ y∈x.1,y.1.length≤10∧1≤y.2∧y.2≤5)∧x.2≤q+5}) (fun x=>⟨[(8,.ptr (nid+1300) 0),(20,.int .i64 k),(19,.int .i64 n),(18,.lit n0 n [.s fun i=>u3L.getD i []]),(5,.sl (nid+24) 0 k),(0,.ptr s 0)],
   [(s,strmC nl A x.1.2),(nid+1300,some (.box 57 [.str nm,.int .i64 lg,.int .i64 id,.sl (nid+1304) 0 x.1.1.length,.lit true 0 []])),(nid+1304,arrRg x.1.1)]++Hs,nid+4000,nid⟩) ?_ (fun ⟨⟨R,q1⟩,hR1,hR2,hq1⟩=>?_)
 ·refine SR.seqEx (ι:={m:Nat // m≤2}) (fun m=>⟨[(35,.sl (nid+1312) 0 m.1),(36,.int .i64 m.1),(37,.int .i64 0),(8,.ptr (nid+1300) 0),(20,.int .i64 k),(19,.int .i64 n),(18,.lit n0 n [.s fun i=>u3L.getD i []]),(5,.sl (nid+24) 0 k),(0,.ptr s 0)],
   [(s,strmC nl A (q+1+1+1)),(nid+1300,some (.box 57 [.str nm,.int .i64 lg,.int .i64 id,.lit true 0 [],.lit true 0 []])),(nid+1312,some (.arr 9 2 [.s fun i=>d2L.getD i []]))]++Hs,nid+2200,nid⟩) ?_ (fun ⟨m,hm⟩=>?_)
  ·simp -dsimp only [aqA,↓seqK,↓blkK,↓loopK,step,stepBin,eqB,Nat.add_assoc nid,simprocAttr,LN_succ,e1,e2,e3,e4,e5,e6,e7,e8,e9,strmC_low]
   have hnd:=rangeV_bd A (q+1+1) (lo:=0) (hi:=2) (by omega)
   obtain ⟨m,hm⟩:∃ m:Nat,rangeV A (q+1+1) 0 2=m:=⟨_,(Int.toNat_of_nonneg (by omega)).symm⟩
   rw [hm] at hnd
   refine CallO.on (range_c s _ nl A (q+1+1) 0 2 (by omega) (by omega) hA (by omega) (by omega) (by omega)) (subH_get (by simp only [aqA,↓seqK,↓blkK,↓loopK,step,stepBin,eqB,Nat.add_assoc nid,simprocAttr,LN_succ,e1,e2,e3,e4,e5,e6,e7,e8,e9])) ?_
   rw [hm]
   simp -dsimp only [aqA,↓seqK,↓blkK,↓loopK,step,stepBin,eqB,Nat.add_assoc nid,simprocAttr,LN_succ,e1,e2,e3,e4,e5,e6,e7,e8,e9,strmC_low]
   refine ⟨⟨by omega,by omega⟩,⟨m,by omega⟩,?_⟩
   refine Cov.goP (nid+200) Hs [_,_,_] [(nid+1312,nid+2000)] [] (by repeat (first | exact .nil | apply PreH.cons)) (by omega) hs (by simp [kOK,hsk]) (by simp) ?_
   simp [cvT,step,res,e1,e2,e3,e4,e5,e6,e7,e8,e9,strmC,d2L,-List.getD_eq_getElem?_getD]
  refine SR.block ?_
  refine SR.loopP (fun x:List (Bs × Int) × Nat=>x.1.length≤m∧(∀ y∈x.1,y.1.length≤10∧1≤y.2∧y.2≤5)∧x.2≤q+3+x.1.length) (fun x=>⟨[(37,.int .i64 x.1.length),(35,.sl (nid+1312) 0 m),(36,.int .i64 m),(8,.ptr (nid+1300) 0),(20,.int .i64 k),(19,.int .i64 n),(18,.lit n0 n [.s fun i=>u3L.getD i []]),(5,.sl (nid+24) 0 k),(0,.ptr s 0)],
   [(s,strmC nl A x.2),(nid+1300,some (.box 57 [.str nm,.int .i64 lg,.int .i64 id,.sl (nid+1304) 0 x.1.length,.lit true 0 []])),(nid+1304,arrRg x.1),(nid+1312,some (.arr 9 2 [.s fun i=>d2L.getD i []]))]++Hs,nid+2400,nid⟩) (fun x=>m+1 - x.1.length) ([],q+1+1+1) ⟨by simp,by simp,by simp⟩ ?_ (fun ⟨R,q1⟩ hR=>?_)
  ·refine Cov.goP (nid+200) Hs [_,_,_,_] [] [(nid+1304,2)] (by repeat (first | exact .nil | apply PreH.cons)) (by omega) hs (by simp [kOK,hsk]) (by simp) ?_
   simp [cvT,step,res,e1,e2,e3,e4,e5,e6,e7,e8,e9,strmC,arrRg,-List.getD_eq_getElem?_getD]
  obtain ⟨hR1,hR2,hq1⟩:=hR
  simp only at hR1 hR2 hq1
  refine SR.seq ?_
  simp -dsimp only [aqA,↓seqK,↓blkK,↓loopK,step,stepBin,eqB,Nat.add_assoc nid,simprocAttr,LN_succ,e1,e2,e3,e4,e5,e6,e7,e8,e9,strmC_low]
  refine SR.seq ?_
  simp -dsimp only [aqA,↓seqK,↓blkK,↓loopK,step,stepBin,eqB,Nat.add_assoc nid,simprocAttr,LN_succ,e1,e2,e3,e4,e5,e6,e7,e8,e9,strmC_low]
  refine S2.dec (fun h3=>?_) (fun h3=>?_) <;> simp -dsimp only [aqA,↓seqK,↓blkK,↓loopK,step,stepBin,eqB,Nat.add_assoc nid,simprocAttr,LN_succ,e1,e2,e3,e4,e5,e6,e7,e8,e9,strmC_low]
  ·have hRm:R.length<m:=by omega
   have hdl:(d2L.getD R.length []).length≤10:=by
    unfold d2L
    rcases R.length with _ | _ | j <;> simp
   unfold arrRg
   refine SR.run (t:=.mk) ?_
   simp -dsimp only [aqA,↓seqK,↓blkK,↓loopK,step,stepBin,eqB,Nat.add_assoc nid,simprocAttr,LN_succ,e1,e2,e3,e4,e5,e6,e7,e8,e9,strmC_low]
   refine ⟨⟨by omega,by omega⟩,?_⟩
   refine CallX.pick_go (T:=3) (nl:=nl) (A:=A) (p:=q1) (g:=fun i=>[1,2,3,5].getD i 0) (by simp only [aqA,↓seqK,↓blkK,↓loopK,step,stepBin,eqB,Nat.add_assoc nid,simprocAttr,LN_succ,e1,e2,e3,e4,e5,e6,e7,e8,e9]) (by simp only [aqA,↓seqK,↓blkK,↓loopK,step,stepBin,eqB,Nat.add_assoc nid,simprocAttr,LN_succ,e1,e2,e3,e4,e5,e6,e7,e8,e9]) (by simp only [aqA,↓seqK,↓blkK,↓loopK,step,stepBin,eqB,Nat.add_assoc nid,simprocAttr,LN_succ,e1,e2,e3,e4,e5,e6,e7,e8,e9]) (by omega) (by omega) hA (by omega) (by omega) ?_
   have hl:1≤([1,2,3,5].getD (pickI A q1 4) 0:Int)∧([1,2,3,5].getD (pickI A q1 4) 0:Int)≤5:=getD_all (P:=fun x:Int=>1≤x∧x≤5) (l:=[1,2,3,5]) (d:=0) (by simp) (pickI_lt A q1 (n:=4) (by omega))
   generalize [1,2,3,5].getD (pickI A q1 4) (0:Int)=rl at *
   simp -dsimp only [aqA,↓seqK,↓blkK,↓loopK,step,stepBin,eqB,Nat.add_assoc nid,simprocAttr,LN_succ,e1,e2,e3,e4,e5,e6,e7,e8,e9,strmC_low]
   generalize d2L.getD R.length []=rn at *
   have hll:(R++[(rn,rl)]).length=R.length+1:=by simp
   have hs1:=snocR1 R (rn,rl)
   have hs2:=snocR2 R (rn,rl)
   refine ⟨⟨by omega,by omega⟩,by unfold inI64; omega,(R++[(rn,rl)],q1+1),⟨⟨by simp only [hll]; omega,fun y hy=>?_,by simp only [hll]; omega⟩,by simp only [hll]; omega⟩,?_⟩
   ·rcases List.mem_append.1 hy with hy | hy
    ·exact hR2 y hy
    ·rw [List.mem_singleton.1 hy]; exact ⟨hdl,hl⟩
   generalize R++[(rn,rl)]=R2 at *
   refine Cov.goP (nid+200) Hs [_,_,_,_] [(nid+1304,nid+2448)] [] (by repeat (first | exact .nil | apply PreH.cons)) (by omega) hs (by simp [kOK,hsk]) (by simp) ?_
   simp [cvT,step,res,e1,e2,e3,e4,e5,e6,e7,e8,e9,strmC,arrRg,hll,-List.getD_eq_getElem?_getD]
   exact ⟨ColEq.s hs1,ColEq.i hs2⟩
  ·refine ⟨⟨(R,q1),by simp only; omega,hR2,by simp only; omega⟩,?_⟩
   refine Cov.goP (nid+200) Hs [_,_,_] [] [] (by repeat (first | exact .nil | apply PreH.cons)) (by omega) hs (by simp [kOK,hsk]) (by simp) ?_
   simp [cvT,step,res,e1,e2,e3,e4,e5,e6,e7,e8,e9,strmC,arrRg,-List.getD_eq_getElem?_getD]
 simp only at hR1 hR2 hq1
 -- the instructions
 refine SR.seqW (ι:={x:List (Bs × Bs) × Nat // x.1.length≤3∧(∀ y∈x.1,y.1.length≤10∧y.2.length≤10)∧x.2≤q+12}) (fun x=>⟨[(8,.ptr (nid+1300) 0),(20,.int .i64 k),(19,.int .i64 n),(18,.lit n0 n [.s fun i=>u3L.getD i []]),(5,.sl (nid+24) 0 k),(0,.ptr s 0)],
   [(s,strmC nl A x.1.2),(nid+1300,some (.box 57 [.str nm,.int .i64 lg,.int .i64 id,.sl (nid+1304) 0 R.length,.sl (nid+1308) 0 x.1.1.length])),(nid+1304,arrRg R),(nid+1308,arrIn x.1.1)]++Hs,nid+9000,nid⟩) ?_ (fun ⟨⟨I,q2⟩,hI1,hI2,hq2⟩=>?_)
 ·refine SR.seqEx (ι:={m:Nat // m≤3}) (fun m=>⟨[(53,.int .i64 m.1),(54,.int .i64 0),(8,.ptr (nid+1300) 0),(20,.int .i64 k),(19,.int .i64 n),(18,.lit n0 n [.s fun i=>u3L.getD i []]),(5,.sl (nid+24) 0 k),(0,.ptr s 0)],
   [(s,strmC nl A (q1+1)),(nid+1300,some (.box 57 [.str nm,.int .i64 lg,.int .i64 id,.sl (nid+1304) 0 R.length,.lit true 0 []])),(nid+1304,arrRg R)]++Hs,nid+4200,nid⟩) ?_ (fun ⟨m,hm⟩=>?_)
  ·unfold arrRg
   simp -dsimp only [aqA,↓seqK,↓blkK,↓loopK,step,stepBin,eqB,Nat.add_assoc nid,simprocAttr,LN_succ,e1,e2,e3,e4,e5,e6,e7,e8,e9,strmC_low]
   have hnd:=rangeV_bd A q1 (lo:=0) (hi:=3) (by omega)
   obtain ⟨m,hm⟩:∃ m:Nat,rangeV A q1 0 3=m:=⟨_,(Int.toNat_of_nonneg (by omega)).symm⟩
   rw [hm] at hnd
   refine CallO.on (range_c s _ nl A q1 0 3 (by omega) (by omega) hA (by omega) (by omega) (by omega)) (subH_get (by simp only [aqA,↓seqK,↓blkK,↓loopK,step,stepBin,eqB,Nat.add_assoc nid,simprocAttr,LN_succ,e1,e2,e3,e4,e5,e6,e7,e8,e9])) ?_
   rw [hm]
   simp -dsimp only [aqA,↓seqK,↓blkK,↓loopK,step,stepBin,eqB,Nat.add_assoc nid,simprocAttr,LN_succ,e1,e2,e3,e4,e5,e6,e7,e8,e9,strmC_low]
   refine ⟨⟨m,by omega⟩,?_⟩
   refine Cov.goP (nid+200) Hs [_,_,_] [] [] (by repeat (first | exact .nil | apply PreH.cons)) (by omega) hs (by simp [kOK,hsk]) (by simp) ?_
   simp [cvT,step,res,e1,e2,e3,e4,e5,e6,e7,e8,e9,strmC,-List.getD_eq_getElem?_getD]
  refine SR.block ?_
  refine SR.loopP (fun x:List (Bs × Bs) × Nat=>x.1.length≤m∧(∀ y∈x.1,y.1.length≤10∧y.2.length≤10)∧x.2≤q+6+2 * x.1.length) (fun x=>⟨[(53,.int .i64 m),(54,.int .i64 x.1.length),(8,.ptr (nid+1300) 0),(20,.int .i64 k),(19,.int .i64 n),(18,.lit n0 n [.s fun i=>u3L.getD i []]),(5,.sl (nid+24) 0 k),(0,.ptr s 0)],
   [(s,strmC nl A x.2),(nid+1300,some (.box 57 [.str nm,.int .i64 lg,.int .i64 id,.sl (nid+1304) 0 R.length,.sl (nid+1308) 0 x.1.length])),(nid+1304,arrRg R),(nid+1308,arrIn x.1)]++Hs,nid+4400,nid⟩) (fun x=>m+1 - x.1.length) ([],q1+1) ⟨by simp,by simp,by simp only [List.length_nil]; omega⟩ ?_ (fun ⟨I,q2⟩ hI=>?_)
  ·refine Cov.goP (nid+200) Hs [_,_,_,_] [] [(nid+1308,2)] (by repeat (first | exact .nil | apply PreH.cons)) (by omega) hs (by simp [kOK,hsk]) (by simp) ?_
   simp [cvT,step,res,e1,e2,e3,e4,e5,e6,e7,e8,e9,strmC,arrRg,arrIn,-List.getD_eq_getElem?_getD]
  obtain ⟨hI1,hI2,hq2⟩:=hI
  simp only at hI1 hI2 hq2
  refine SR.seq ?_
  unfold arrRg arrIn
  simp -dsimp only [aqA,↓seqK,↓blkK,↓loopK,step,stepBin,eqB,Nat.add_assoc nid,simprocAttr,LN_succ,e1,e2,e3,e4,e5,e6,e7,e8,e9,strmC_low]
  refine SR.seq ?_
  simp -dsimp only [aqA,↓seqK,↓blkK,↓loopK,step,stepBin,eqB,Nat.add_assoc nid,simprocAttr,LN_succ,e1,e2,e3,e4,e5,e6,e7,e8,e9,strmC_low]
  refine S2.dec (fun h3=>?_) (fun h3=>?_) <;> simp -dsimp only [aqA,↓seqK,↓blkK,↓loopK,step,stepBin,eqB,Nat.add_assoc nid,simprocAttr,LN_succ,e1,e2,e3,e4,e5,e6,e7,e8,e9,strmC_low]
  ·have hIm:I.length<m:=by omega
   refine SR.seqW (ι:={x:List (Bs × Bs) × Nat // x.1.length=I.length+1∧(∀ y∈x.1,y.1.length≤10∧y.2.length≤10)∧x.2≤q2+2}) (fun x=>⟨[(53,.int .i64 m),(54,.int .i64 I.length),(8,.ptr (nid+1300) 0),(20,.int .i64 k),(19,.int .i64 n),(18,.lit n0 n [.s fun i=>u3L.getD i []]),(5,.sl (nid+24) 0 k),(0,.ptr s 0)],
    [(s,strmC nl A x.1.2),(nid+1300,some (.box 57 [.str nm,.int .i64 lg,.int .i64 id,.sl (nid+1304) 0 R.length,.sl (nid+1308) 0 x.1.1.length])),(nid+1304,arrRg R),(nid+1308,arrIn x.1.1)]++Hs,nid+8000,nid⟩) ?_ (fun ⟨⟨I2,q3⟩,hJ1,hJ2,hq3⟩=>?_)
   ·refine SR.block ?_
    refine SR.seq ?_
    simp -dsimp only [aqA,↓seqK,↓blkK,↓loopK,step,stepBin,eqB,Nat.add_assoc nid,simprocAttr,LN_succ,e1,e2,e3,e4,e5,e6,e7,e8,e9,strmC_low]
    refine SR.seq ?_
    simp -dsimp only [aqA,↓seqK,↓blkK,↓loopK,step,stepBin,eqB,Nat.add_assoc nid,simprocAttr,LN_succ,e1,e2,e3,e4,e5,e6,e7,e8,e9,strmC_low]
    refine SR.seqEx (ι:={x:Bs × Nat // x.1.length≤10∧x.2≤q2+1}) (fun x=>⟨[(12,.str x.1.1),(11,.int .i64 I.length),(53,.int .i64 m),(54,.int .i64 I.length),(8,.ptr (nid+1300) 0),(20,.int .i64 k),(19,.int .i64 n),(18,.lit n0 n [.s fun i=>u3L.getD i []]),(5,.sl (nid+24) 0 k),(0,.ptr s 0)],
     [(s,strmC nl A x.1.2),(nid+1300,some (.box 57 [.str nm,.int .i64 lg,.int .i64 id,.sl (nid+1304) 0 R.length,.sl (nid+1308) 0 I.length])),(nid+1304,arrRg R),(nid+1308,arrIn I)]++Hs,nid+5000,nid⟩) ?_ (fun ⟨⟨rg,q4⟩,hrg,hq4⟩=>?_)
    ·simp -dsimp only [aqA,↓seqK,↓blkK,↓loopK,step,stepBin,eqB,Nat.add_assoc nid,simprocAttr,LN_succ,e1,e2,e3,e4,e5,e6,e7,e8,e9,strmC_low]
     refine S2.dec (fun h4=>?_) (fun h4=>?_) <;> simp -dsimp only [aqA,↓seqK,↓blkK,↓loopK,step,stepBin,eqB,Nat.add_assoc nid,simprocAttr,LN_succ,e1,e2,e3,e4,e5,e6,e7,e8,e9,strmC_low]
     ·have hnd:=nextV_bd A q2 (n:=(R.length:Nat)) (by omega)
      obtain ⟨J,hJ⟩:∃ J:Nat,nextV A q2 ((R.length:Nat):Int)=J:=⟨_,(Int.toNat_of_nonneg hnd.1).symm⟩
      rw [hJ] at hnd
      refine CallX.on (next_c s _ nl A q2 _ (by omega) (by omega) hA (by omega)) (subH_get (by simp only [aqA,↓seqK,↓blkK,↓loopK,step,stepBin,eqB,Nat.add_assoc nid,simprocAttr,LN_succ,e1,e2,e3,e4,e5,e6,e7,e8,e9])) ?_
      rw [hJ]
      simp -dsimp only [aqA,↓seqK,↓blkK,↓loopK,step,stepBin,eqB,Nat.add_assoc nid,simprocAttr,LN_succ,e1,e2,e3,e4,e5,e6,e7,e8,e9,strmC_low]
      have hJR:J<R.length:=by omega
      have hm2:R.getD J reg0∈R:=by rw [List.getD_eq_getElem?_getD,List.getElem?_eq_getElem hJR]; exact List.getElem_mem _
      refine ⟨⟨by omega,by omega⟩,⟨((R.getD J reg0).1,q2+1),(hR2 _ hm2).1,Nat.le_refl _⟩,?_⟩
      refine Cov.goP (nid+200) Hs [_,_,_,_] [] [] (by repeat (first | exact .nil | apply PreH.cons)) (by omega) hs (by simp [kOK,hsk]) (by simp) ?_
      simp [cvT,step,res,e1,e2,e3,e4,e5,e6,e7,e8,e9,strmC,arrRg,arrIn,-List.getD_eq_getElem?_getD]
     ·refine ⟨⟨([98,121,112,97,115,115],q2),by simp,by simp⟩,?_⟩
      refine Cov.goP (nid+200) Hs [_,_,_,_] [] [] (by repeat (first | exact .nil | apply PreH.cons)) (by omega) hs (by simp [kOK,hsk]) (by simp) ?_
      simp [cvT,step,res,e1,e2,e3,e4,e5,e6,e7,e8,e9,strmC,arrRg,arrIn,-List.getD_eq_getElem?_getD]
    simp only at hrg hq4
    refine SR.seqEx (ι:={x:Bs × Nat // x.1.length≤10∧x.2≤q2+2}) (fun x=>⟨[(12,.str x.1.1),(11,.int .i64 I.length),(53,.int .i64 m),(54,.int .i64 I.length),(8,.ptr (nid+1300) 0),(20,.int .i64 k),(19,.int .i64 n),(18,.lit n0 n [.s fun i=>u3L.getD i []]),(5,.sl (nid+24) 0 k),(0,.ptr s 0)],
     [(s,strmC nl A x.1.2),(nid+1300,some (.box 57 [.str nm,.int .i64 lg,.int .i64 id,.sl (nid+1304) 0 R.length,.sl (nid+1308) 0 I.length])),(nid+1304,arrRg R),(nid+1308,arrIn I)]++Hs,nid+6000,nid⟩) ?_ (fun ⟨⟨rg2,q5⟩,hrg2,hq5⟩=>?_)
    ·unfold arrRg arrIn
     simp -dsimp only [aqA,↓seqK,↓blkK,↓loopK,step,stepBin,eqB,Nat.add_assoc nid,simprocAttr,LN_succ,e1,e2,e3,e4,e5,e6,e7,e8,e9,strmC_low]
     by_cases hid0:id=0
     ·have b1:(id != 0)=false:=by simp [hid0]
      simp -dsimp only [aqA,↓seqK,↓blkK,↓loopK,step,stepBin,eqB,Nat.add_assoc nid,simprocAttr,LN_succ,e1,e2,e3,e4,e5,e6,e7,e8,e9,strmC_low,b1]
      refine ⟨⟨(rg,q4),hrg,by simp only; omega⟩,?_⟩
      refine Cov.goP (nid+200) Hs [_,_,_,_] [] [] (by repeat (first | exact .nil | apply PreH.cons)) (by omega) hs (by simp [kOK,hsk]) (by simp) ?_
      simp [cvT,step,res,e1,e2,e3,e4,e5,e6,e7,e8,e9,strmC,-List.getD_eq_getElem?_getD]
     ·have b1:(id != 0)=true:=by simp [hid0]
      simp -dsimp only [aqA,↓seqK,↓blkK,↓loopK,step,stepBin,eqB,Nat.add_assoc nid,simprocAttr,LN_succ,e1,e2,e3,e4,e5,e6,e7,e8,e9,strmC_low,b1]
      refine CallO.on (flip_c s _ nl A q4 4 (by omega) (by omega) hA (by omega)) (subH_get (by simp only [aqA,↓seqK,↓blkK,↓loopK,step,stepBin,eqB,Nat.add_assoc nid,simprocAttr,LN_succ,e1,e2,e3,e4,e5,e6,e7,e8,e9])) ?_
      simp -dsimp only [aqA,↓seqK,↓blkK,↓loopK,step,stepBin,eqB,Nat.add_assoc nid,simprocAttr,LN_succ,e1,e2,e3,e4,e5,e6,e7,e8,e9,strmC_low]
      refine S2.intro (fun h=>?_) (fun h=>?_) <;> simp -dsimp only [aqA,↓seqK,↓blkK,↓loopK,step,stepBin,eqB,Nat.add_assoc nid,simprocAttr,LN_succ,e1,e2,e3,e4,e5,e6,e7,e8,e9,strmC_low]
      ·refine ⟨⟨([105,100,99,111,100,101],q4+1),by simp,by simp only; omega⟩,?_⟩
       refine Cov.goP (nid+200) Hs [_,_,_,_] [] [] (by repeat (first | exact .nil | apply PreH.cons)) (by omega) hs (by simp [kOK,hsk]) (by simp) ?_
       simp [cvT,step,res,e1,e2,e3,e4,e5,e6,e7,e8,e9,strmC,-List.getD_eq_getElem?_getD]
      ·refine ⟨⟨(rg,q4+1),hrg,by simp only; omega⟩,?_⟩
       refine Cov.goP (nid+200) Hs [_,_,_,_] [] [] (by repeat (first | exact .nil | apply PreH.cons)) (by omega) hs (by simp [kOK,hsk]) (by simp) ?_
       simp [cvT,step,res,e1,e2,e3,e4,e5,e6,e7,e8,e9,strmC,-List.getD_eq_getElem?_getD]
    simp only at hrg2 hq5
    unfold arrRg arrIn
    refine SR.seq ?_
    simp -dsimp only [aqA,↓seqK,↓blkK,↓loopK,step,stepBin,eqB,Nat.add_assoc nid,simprocAttr,LN_succ,e1,e2,e3,e4,e5,e6,e7,e8,e9,strmC_low]
    have hcl:(numV I.length (I.length.log2+1)).length≤2:=by
     rw [numV_len]
     have:I.length=0∨I.length=1∨I.length=2:=by omega
     rcases this with e | e | e <;> rw [e] <;> decide
    refine CallO.pure (formatIntS_c I.length _ (by omega)) ?_
    generalize numV I.length (I.length.log2+1)=code at *
    obtain ⟨z,hz⟩:∃ z:Nat,lg - min lg ((code.length:Nat):Int)=z:=⟨_,(Int.toNat_of_nonneg (by omega)).symm⟩
    simp -dsimp only [aqA,↓seqK,↓blkK,↓loopK,step,stepBin,eqB,Nat.add_assoc nid,simprocAttr,LN_succ,e1,e2,e3,e4,e5,e6,e7,e8,e9,strmC_low]
    refine SR.run (t:=.mk) ?_
    simp -dsimp only [aqA,↓seqK,↓blkK,↓loopK,step,stepBin,eqB,Nat.add_assoc nid,simprocAttr,LN_succ,e1,e2,e3,e4,e5,e6,e7,e8,e9,strmC_low]
    rw [hz]
    have hz4:z≤4:=by omega
    have hrl:=rep1 48 z
    refine ⟨by unfold inI64; omega,?_⟩
    refine CallX.pure (repeat_cc [48] z _ (by omega) (by simp; omega)) ?_
    generalize Lib.repeatL [48] z=zs at *
    simp -dsimp only [aqA,↓seqK,↓blkK,↓loopK,step,stepBin,eqB,Nat.add_assoc nid,simprocAttr,LN_succ,e1,e2,e3,e4,e5,e6,e7,e8,e9,strmC_low]
    have hll:(I++[(zs++code,rg2)]).length=I.length+1:=by simp
    have hs1:=snocI1 I (zs++code,rg2)
    have hs2:=snocI2 I (zs++code,rg2)
    have hcz:(zs++code).length≤10:=by rw [List.length_append]; omega
    refine ⟨by omega,⟨by omega,by omega⟩,⟨(I++[(zs++code,rg2)],q5),hll,fun y hy=>?_,by simp only; omega⟩,?_⟩
    ·rcases List.mem_append.1 hy with hy | hy
     ·exact hI2 y hy
     ·rw [List.mem_singleton.1 hy]; exact ⟨hcz,hrg2⟩
    refine Cov.goP (nid+200) Hs [_,_,_,_] [(nid+1308,nid+6076)] [] (by repeat (first | exact .nil | apply PreH.cons)) (by omega) hs (by simp [kOK,hsk]) (by simp) ?_
    simp [cvT,step,res,e1,e2,e3,e4,e5,e6,e7,e8,e9,strmC,arrRg,arrIn,hll,-List.getD_eq_getElem?_getD,-List.length_append]
    exact ⟨ColEq.s hs1,ColEq.s hs2⟩
   simp only at hJ1 hJ2 hq3
   refine SR.run (t:=.mk) ?_
   simp -dsimp only [aqA,↓seqK,↓blkK,↓loopK,step,stepBin,eqB,Nat.add_assoc nid,simprocAttr,LN_succ,e1,e2,e3,e4,e5,e6,e7,e8,e9,strmC_low]
   refine ⟨by unfold inI64; omega,(I2,q3),⟨⟨by simp only; omega,hJ2,by simp only; omega⟩,by simp only; omega⟩,?_⟩
   refine Cov.goP (nid+200) Hs [_,_,_,_] [] [] (by repeat (first | exact .nil | apply PreH.cons)) (by omega) hs (by simp [kOK,hsk]) (by simp) ?_
   simp [cvT,step,res,e1,e2,e3,e4,e5,e6,e7,e8,e9,strmC,arrRg,arrIn,hJ1,-List.getD_eq_getElem?_getD]
  ·refine ⟨⟨(I,q2),by simp only; omega,hI2,by simp only; omega⟩,?_⟩
   refine Cov.goP (nid+200) Hs [_,_,_,_] [] [] (by repeat (first | exact .nil | apply PreH.cons)) (by omega) hs (by simp [kOK,hsk]) (by simp) ?_
   simp [cvT,step,res,e1,e2,e3,e4,e5,e6,e7,e8,e9,strmC,arrRg,arrIn,-List.getD_eq_getElem?_getD]
 simp only at hI1 hI2 hq2
 exact hK ⟨nm,lg,id,R,I⟩ q2 ⟨hu3,hlg,hid,hR1,hR2,hI1,hI2⟩ hq2
open Go.RowKit
def inRg (D:List Dev) (c k:Nat):Option ABlk:=if k<c then arrRg (D.getD k dev0).regs else none
def inIn (D:List Dev) (c k:Nat):Option ABlk:=if k<c then arrIn (D.getD k dev0).ins else none
def famD (b:Nat) (D:List Dev) (c:Nat):Heap:=[(b+100,inRg D c 0),(b+101,inIn D c 0),(b+102,inRg D c 1),(b+103,inIn D c 1),(b+104,inRg D c 2),(b+105,inIn D c 2)]
def devHs (b:Nat) (D:List Dev):Heap:=(b+24,arrD b D)::famD b D D.length
theorem allTo_all {f:Nat→Bool}:∀ {k:Nat},(∀ j,j<k→f j=true)→allTo k f=true
 | 0,_=>rfl
 | k+1,h=>by
  simp only [allTo,Bool.and_eq_true]
  exact ⟨allTo_all fun j hj=>h j (by omega),h k (by omega)⟩
theorem scoped_list {b:Nat}:∀ {H:Heap},(∀ x∈H,x.1<b∧lowBlk b x.2=true)→Scoped b H
 | [],_=>⟨fun id hid=>by simp [keys] at hid,fun id x hx=>by simp [getH] at hx⟩
 | (k,c)::H,h=>by
  have ih:=scoped_list (H:=H) fun x hx=>h x (List.mem_cons_of_mem _ hx)
  have h0:=h _ List.mem_cons_self
  refine ⟨fun id hid=>?_,fun id x hx=>?_⟩
  ·simp only [keys,List.map_cons,List.mem_cons] at hid
   rcases hid with rfl | hid
   ·exact h0.1
   ·exact ih.lt id hid
  ·simp only [getH] at hx
   cases hh:(k==id)
   ·rw [hh] at hx
    exact ih.blk id x hx
   ·rw [hh] at hx
    simp only [cond_true] at hx
    have:=h0.2
    simp only at this
    rw [hx] at this
    exact this
theorem low_inRg (b:Nat) (D:List Dev) (c k:Nat):lowBlk b (inRg D c k)=true:=by unfold inRg; split <;> rfl
theorem low_inIn (b:Nat) (D:List Dev) (c k:Nat):lowBlk b (inIn D c k)=true:=by unfold inIn; split <;> rfl
theorem low_arrD (b:Nat) (D:List Dev) (hD:D.length≤3):lowBlk (b+200) (arrD b D)=true:=by
 show lowCols (b+200) D.length _=true
 simp only [lowCols,Bool.and_eq_true,Bool.and_true]
 exact ⟨allTo_all fun j hj=>by simp; omega,allTo_all fun j hj=>by simp; omega⟩
theorem devHs_scoped (b:Nat) (D:List Dev) (hD:D.length≤3):Scoped (b+200) (devHs b D):=scoped_list fun x hx=>by
 simp only [devHs,famD,List.mem_cons,List.not_mem_nil,or_false] at hx
 rcases hx with rfl | rfl | rfl | rfl | rfl | rfl | rfl
 ·exact ⟨by simp only; omega,low_arrD b D hD⟩
 all_goals exact ⟨by simp only; omega,by first | exact low_inRg _ _ _ _ | exact low_inIn _ _ _ _⟩
theorem devHs_off (s nid:Nat) (D:List Dev) (h:s<nid):s ∉ keys (devHs nid D):=by
 intro hid
 simp only [devHs,famD,keys,List.map_cons,List.map_nil,List.mem_cons,List.not_mem_nil,or_false] at hid
 omega
theorem getD_snocD (D:List Dev) (d:Dev) {j:Nat} (hj:j<D.length):(D++[d]).getD j dev0=D.getD j dev0:=by
 rw [List.getD_eq_getElem?_getD,List.getD_eq_getElem?_getD,List.getElem?_append_left hj]
theorem getD_snocD' (D:List Dev) (d:Dev) {j:Nat} (hj:j=D.length):(D++[d]).getD j dev0=d:=by
 subst hj
 simp
set_option maxHeartbeats 8000000 in
theorem dev_step (s nid:Nat) (nl n0:Bool) (A:List Int) (q n:Nat) (D:List Dev) (h:s<nid) (hq:q≤1099500001000) (hA:A.length≤17592186044416) (hk:D.length<n) (hn:n≤3) (Q:AEx→ST→Prop) :
  SR Tryz.prog (roundV (headV (dropV 2 a11.body))) ⟨[(20,.int .i64 D.length),(19,.int .i64 n),(18,.lit n0 n [.s fun i=>u3L.getD i []]),(5,.sl (nid+24) 0 D.length),(0,.ptr s 0)],[(s,strmC nl A q)]++devHs nid D,nid+1200,nid⟩
   (seqK (fun st=>∃ x:{x:Dev × Nat // DevG x.1∧x.2≤q+12},Cov st ⟨[(20,.int .i64 D.length),(19,.int .i64 n),(18,.lit n0 n [.s fun i=>u3L.getD i []]),(5,.sl (nid+24) 0 (D.length+1)),(0,.ptr s 0)],[(s,strmC nl A x.1.2)]++devHs nid (D++[x.1.1]),nid+1150,nid⟩) Q) .mk:=by
 obtain ⟨e1,e2,e3,e4,e5,e6,e7,e8,e9⟩:=id_all h
 refine dev_round s nid nl n0 A q D.length n (devHs nid D) h hq hA hk hn (devHs_scoped nid D (by omega)) (devHs_off s nid D h) _ Q (fun d q' hd hq'=>?_)
 simp only [a11,dropV,headV,roundV,blockV]
 have hql:=hq'
 have hi:D.length=0∨D.length=1∨D.length=2:=by omega
 have hold:∀ j,j<D.length→(D++[d]).getD j dev0=D.getD j dev0:=fun j hj=>getD_snocD D d hj
 have hnew:=getD_snocD' D d rfl
 have hll:(D++[d]).length=D.length+1:=by simp
 rcases hi with hi | hi | hi
 all_goals
  unfold devHs famD inRg inIn arrD boxDv arrRg arrIn
  simp only [hi,hll] at hold hnew ⊢
  refine SR.run (t:=.mk) ?_
  simp -dsimp only [aqA,↓seqK,↓blkK,↓loopK,step,stepBin,eqB,Nat.add_assoc nid,simprocAttr,LN_succ,e1,e2,e3,e4,e5,e6,e7,e8,e9,strmC_low,Nat.reduceLT,Nat.lt_irrefl,if_true,if_false,hi]
  refine ⟨⟨(d,q'),hd,hq'⟩,?_⟩
  simp only [hll]
  generalize D++[d]=D2 at *
  refine Cov.go [(nid+24,nid+9012),(nid+(100+2 * D.length),nid+1304),(nid+(101+2 * D.length),nid+1308)] [] ?_
  simp [cvT,step,res,e1,e2,e3,e4,e5,e6,e7,e8,e9,strmC,hi,hll,hold,hnew,-List.getD_eq_getElem?_getD]
  have h0:=hold 0
  have h1:=hold 1
  refine ⟨ColEq.s fun j hj=>?_,ColEq.i fun j hj=>?_,ColEq.i fun j hj=>?_,?_⟩
  ·rcases (by omega:j=0∨j=1∨j=2) with rfl | rfl | rfl <;> first | omega | (simp [hnew,h0,h1,-List.getD_eq_getElem?_getD] <;> rfl)
  ·rcases (by omega:j=0∨j=1∨j=2) with rfl | rfl | rfl <;> first | omega | (simp [hnew,h0,h1,-List.getD_eq_getElem?_getD] <;> rfl)
  ·rcases (by omega:j=0∨j=1∨j=2) with rfl | rfl | rfl <;> first | omega | (simp [hnew,h0,h1,-List.getD_eq_getElem?_getD] <;> rfl)
  first
   | exact ⟨⟨rfl,rfl⟩,rfl,rfl⟩
   | refine ⟨fun j hj=>?_,fun j hj=>?_⟩ <;> (rcases (by omega:j=0∨j=1∨j=2) with rfl | rfl | rfl <;> first | omega | (simp [hnew,h0,h1,idS1,idS2,-List.getD_eq_getElem?_getD] <;> first | rfl | exact ⟨rfl,rfl⟩))
end Go.Proofs.YtahjohieahehjaaGreatDoor
