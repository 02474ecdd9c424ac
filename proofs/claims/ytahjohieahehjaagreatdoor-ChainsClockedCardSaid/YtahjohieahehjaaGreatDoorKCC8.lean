/-
 The program's chain: the public clock,and scans at any bits,by the abstract machine.
-/
import Derived.Test.YtahjohieahehjaaGreatDoorKCC7
import Derived.KernelRfl
import Derived.Test.YtahjohieahehjaaGreatDoorKCC6
import Derived.Test.YtahjohieahehjaaGreatDoorKCC5
import Derived.Test.YtahjohieahehjaaGreatDoorKCC3
import Derived.Test.YtahjohieahehjaaGreatDoorKCC4
import Derived.Test.YtahjohieahehjaaGreatDoorProg
import Derived.Test.YtahjohieahehjaaGreatDoorChecked
import Derived.Handed
import Derived.HandedShaped
import Derived.Shelf.Vars
set_option linter.unusedVariables false
set_option linter.unusedSimpArgs false
set_option linter.unusedSectionVars false
set_option maxRecDepth 100000
namespace Go.Proofs.YtahjohieahehjaaGreatDoor
open Go.RowKit
theorem outT_c (x lo hi:Int) (nid:Nat):ACall Tryz.prog 75 [.int .i64 x,.int .i64 lo,.int .i64 hi] [] nid (.bool (outB x lo hi)) []:=by
 refine acall_run c75 (by simp [a75]) ?_
 simp -dsimp only [aqA,↓seqK,↓blkK,↓loopK,step,stepBin,eqB,Nat.add_assoc nid,simprocAttr,LN_succ,a75]
 by_cases h1:x<lo
 ·have e:outB x lo hi=true:=decide_eq_true (.inl h1)
  have b1:decide (x<lo)=true:=decide_eq_true h1
  rw [e]
  simp -dsimp only [aqA,↓seqK,↓blkK,↓loopK,step,stepBin,eqB,Nat.add_assoc nid,simprocAttr,LN_succ,b1]
  refine RetOK.go [] [] (.inl rfl) ?_
  simp [a75,cvT,step,res]
 ·have e:outB x lo hi=decide (hi<x):=by
   unfold outB
   rw [Bool.eq_iff_iff]
   simp only [decide_eq_true_eq]
   omega
  have b1:decide (x<lo)=false:=decide_eq_false h1
  rw [e]
  simp -dsimp only [aqA,↓seqK,↓blkK,↓loopK,step,stepBin,eqB,Nat.add_assoc nid,simprocAttr,LN_succ,b1]
  refine RetOK.go [] [] (.inl rfl) ?_
  simp [a75,cvT,step,res]
set_option maxHeartbeats 4000000 in
theorem clockOk_c (x:ChV) (tms:Nat) (b:UInt8) (n c nid:Nat) (hc:c+11≤nid) (h1:tms<2) (hb:oneBit b=true) (hx:ChOk n x) (hl0:0<n) (hl:n≤3) :
  ACall Tryz.prog 28 [.ptr c 0,.int .i64 (tms:Nat),.int .i64 (bitM b:Nat)] (chH c x) nid (.tup [.int .i64 (outB1 x.st (tickO x b)),.int .i64 0]) (chH c (tickV nextN x tms b)):=by
 have hok:ChOk n (tickV nextN x tms b):=tick_ok (fun s t hs ht=>nextN_lt hs ht) hx h1 hb
 have htk:=fun m hm=>tick_c x tms b n c m hm h1 hb hx hl0 hl
 have hs2:Scoped nid (chH c (tickV nextN x tms b)):=chainH_scoped c nid _ _ (by rw [hok.len]; exact hl) hc
 have hk2:keys (chH c x)=keys (chH c (tickV nextN x tms b)):=chainH_keys c _ _ _ _ (by rw [hx.len,hok.len])
 have hbm:=(bitM_lt hb).1
 have o1:outB (tms:Nat) 0 1=false:=decide_eq_false (by omega)
 have o2:outB (bitM b:Nat) 0 1=false:=decide_eq_false (by omega)
 have c1:=fun m=>outT_c (tms:Nat) 0 1 m
 have c2:=fun m=>outT_c (bitM b:Nat) 0 1 m
 rw [o1] at c1
 rw [o2] at c2
 generalize chH c (tickV nextN x tms b)=Hs2 at *
 generalize chH c x=Hs at *
 refine acall_run c28 (by simp [a28]) ?_
 simp -dsimp only [aqA,↓seqK,↓blkK,↓loopK,step,stepBin,eqB,Nat.add_assoc nid,simprocAttr,LN_succ,a28]
 refine CallO.pure (c1 _) ?_
 simp -dsimp only [aqA,↓seqK,↓blkK,↓loopK,step,stepBin,eqB,Nat.add_assoc nid,simprocAttr,LN_succ]
 refine CallO.pure (c2 _) ?_
 simp -dsimp only [aqA,↓seqK,↓blkK,↓loopK,step,stepBin,eqB,Nat.add_assoc nid,simprocAttr,LN_succ]
 refine CallO.on (htk _ (by omega)) (subH_refl _) ?_
 simp -dsimp only [aqA,↓seqK,↓blkK,↓loopK,step,stepBin,eqB,Nat.add_assoc nid,simprocAttr,LN_succ]
 refine RetOK.whole (.inl rfl) hs2 (fun id hid=>by rw [← hk2]; exact hid) (subH_front _ _) ?_
 simp [a28,cvT,step,res]
set_option maxHeartbeats 4000000 in
theorem clockBad_c (x:ChV) (a b:Int) (c nid:Nat) (hc:c+11≤nid) (hP:x.P.length≤3) (h:outB a 0 1=true∨outB b 0 1=true) :
  ACall Tryz.prog 28 [.ptr c 0,.int .i64 a,.int .i64 b] (chH c x) nid (.tup [.int .i64 0,.int .i64 1]) []:=by
 have hs:Scoped nid (chH c x):=chainH_scoped c nid x.st x.P hP hc
 have c1:=fun m=>outT_c a 0 1 m
 have c2:=fun m=>outT_c b 0 1 m
 generalize chH c x=Hs at *
 rcases (by cases outB a 0 1 <;> simp:outB a 0 1=false∨outB a 0 1=true) with h1 | h1
 ·have h2:outB b 0 1=true:=h.resolve_left (by rw [h1]; simp)
  rw [h1] at c1
  rw [h2] at c2
  refine acall_run c28 (by simp [a28]) ?_
  simp -dsimp only [aqA,↓seqK,↓blkK,↓loopK,step,stepBin,eqB,Nat.add_assoc nid,simprocAttr,LN_succ,a28]
  refine CallO.pure (c1 _) ?_
  simp -dsimp only [aqA,↓seqK,↓blkK,↓loopK,step,stepBin,eqB,Nat.add_assoc nid,simprocAttr,LN_succ]
  refine CallO.pure (c2 _) ?_
  simp -dsimp only [aqA,↓seqK,↓blkK,↓loopK,step,stepBin,eqB,Nat.add_assoc nid,simprocAttr,LN_succ]
  refine RetOK.goF Hs [] [] [] [] [] (.inl rfl) hs (by simp [kOK]) rfl ?_
  simp [a28,cvT,step,res]
 ·rw [h1] at c1
  refine acall_run c28 (by simp [a28]) ?_
  simp -dsimp only [aqA,↓seqK,↓blkK,↓loopK,step,stepBin,eqB,Nat.add_assoc nid,simprocAttr,LN_succ,a28]
  refine CallO.pure (c1 _) ?_
  simp -dsimp only [aqA,↓seqK,↓blkK,↓loopK,step,stepBin,eqB,Nat.add_assoc nid,simprocAttr,LN_succ]
  refine RetOK.goF Hs [] [] [] [] [] (.inl rfl) hs (by simp [kOK]) rfl ?_
  simp [a28,cvT,step,res]
def scF (x:ChV) (l:Bs):Int:=if 1<x.st then 11 else if l=[] then 8 else bitsFaultV l
def shO (x:ChV) (T:Nat) (l:Bs):Bs:=if scF x l=0 then scanO x T l else []
def shX (x:ChV) (T:Nat) (l:Bs):ChV:=if scF x l=0 then scanV x T l else x
theorem scF_zero {x:ChV} {l:Bs} (h:scF x l=0):x.st<2∧0<l.length∧bitsFaultV l=0:=by
 unfold scF at h
 split at h
 ·cases h
 ·split at h
  ·cases h
  ·rename_i h1 h2
   exact ⟨by omega,by cases l with | nil=>exact absurd rfl h2 | cons a l=>simp,h⟩
theorem stNe (st n:Nat):(((st:Nat):Int) != (n:Int))=decide (st≠n):=by rw [Bool.eq_iff_iff]; simp; omega
set_option maxHeartbeats 8000000 in
theorem scanBad_c (x:ChV) (T:Nat) (l:Bs) (c nid:Nat) (hc:c+11≤nid) (hP:x.P.length≤3) (hl:l.length≤1000000) (h:scF x l≠0) :
  ACall Tryz.prog 85 [.ptr c 0,.int .i64 (T:Nat),.str l] (chH c x) nid (.tup [.str [],.int .i64 (scF x l)]) []:=by
 have hs:Scoped nid (chH c x):=chainH_scoped c nid x.st x.P hP hc
 have hl0:=chH_0 c x
 have hbf:=fun m=>bitsFaultT_c l m (by omega)
 unfold chB at hl0
 unfold scF at h ⊢
 generalize chH c x=Hs at *
 generalize x.st=st at *
 have e1:(((st:Nat):Int) != 1)=decide (st≠1):=stNe st 1
 have e0:(((st:Nat):Int) != 0)=decide (st≠0):=stNe st 0
 by_cases h1:1<st
 ·rw [if_pos h1]
  rw [decide_eq_true (by omega)] at e1 e0
  refine acall_run c85 (by simp [a85]) ?_
  simp -dsimp only [aqA,↓seqK,↓blkK,↓loopK,step,stepBin,eqB,Nat.add_assoc nid,simprocAttr,LN_succ,a85,hl0,e0,e1]
  refine RetOK.goF Hs [] [] [] [] [] (.inl rfl) hs (by simp [kOK]) rfl ?_
  simp [a85,cvT,step,res]
 rw [if_neg h1] at h ⊢
 have hlE:∀ {Q:Bool→Prop},True:=trivial
 rcases (by omega:st=0∨st=1) with hst | hst
 ·rw [decide_eq_true (by omega)] at e1
  rw [decide_eq_false (by omega)] at e0
  by_cases h2:l=[]
  ·rw [if_pos h2]
   have b1:(l==[])=true:=by rw [h2]; rfl
   refine acall_run c85 (by simp [a85]) ?_
   simp -dsimp only [aqA,↓seqK,↓blkK,↓loopK,step,stepBin,eqB,Nat.add_assoc nid,simprocAttr,LN_succ,a85,hl0,e0,e1,b1]
   refine RetOK.goF Hs [] [] [] [] [] (.inl rfl) hs (by simp [kOK]) rfl ?_
   simp [a85,cvT,step,res]
  ·rw [if_neg h2] at h ⊢
   have b1:(l==[])=false:=by rw [beq_eq_false_iff_ne]; exact h2
   generalize bitsFaultV l=F at *
   have b2:(F != 0)=true:=by rw [bne_iff_ne]; exact h
   refine acall_run c85 (by simp [a85]) ?_
   simp -dsimp only [aqA,↓seqK,↓blkK,↓loopK,step,stepBin,eqB,Nat.add_assoc nid,simprocAttr,LN_succ,a85,hl0,e0,e1,b1]
   refine CallO.pure (hbf _) ?_
   simp -dsimp only [aqA,↓seqK,↓blkK,↓loopK,step,stepBin,eqB,Nat.add_assoc nid,simprocAttr,LN_succ,b2]
   refine RetOK.goF Hs [] [] [] [] [] (.inl rfl) hs (by simp [kOK]) rfl ?_
   simp [a85,cvT,step,res]
 ·rw [decide_eq_false (by omega)] at e1
  by_cases h2:l=[]
  ·rw [if_pos h2]
   have b1:(l==[])=true:=by rw [h2]; rfl
   refine acall_run c85 (by simp [a85]) ?_
   simp -dsimp only [aqA,↓seqK,↓blkK,↓loopK,step,stepBin,eqB,Nat.add_assoc nid,simprocAttr,LN_succ,a85,hl0,e1,b1]
   refine RetOK.goF Hs [] [] [] [] [] (.inl rfl) hs (by simp [kOK]) rfl ?_
   simp [a85,cvT,step,res]
  ·rw [if_neg h2] at h ⊢
   have b1:(l==[])=false:=by rw [beq_eq_false_iff_ne]; exact h2
   generalize bitsFaultV l=F at *
   have b2:(F != 0)=true:=by rw [bne_iff_ne]; exact h
   refine acall_run c85 (by simp [a85]) ?_
   simp -dsimp only [aqA,↓seqK,↓blkK,↓loopK,step,stepBin,eqB,Nat.add_assoc nid,simprocAttr,LN_succ,a85,hl0,e1,b1]
   refine CallO.pure (hbf _) ?_
   simp -dsimp only [aqA,↓seqK,↓blkK,↓loopK,step,stepBin,eqB,Nat.add_assoc nid,simprocAttr,LN_succ,b2]
   refine RetOK.goF Hs [] [] [] [] [] (.inl rfl) hs (by simp [kOK]) rfl ?_
   simp [a85,cvT,step,res]
theorem shX_ok {n T:Nat} {x:ChV} {l:Bs} (hx:ChOk n x) (hT:T=4∨T=11):ChOk n (shX x T l):=by
 unfold shX
 split
 ·rename_i h
  obtain ⟨h1,h2,h3⟩:=scF_zero h
  exact scanV_ok hx h1 hT (bits_ok h3).1
 ·exact hx
set_option maxHeartbeats 4000000 in
theorem shIR_c (x:ChV) (l:Bs) (n c nid:Nat) (hc:c+11≤nid) (hx:ChOk n x) (hn0:0<n) (hn:n≤3) (hl:l.length≤1000000) :
  ACall Tryz.prog 35 [.ptr c 0,.str l] (chH c x) nid (.tup [.str (shO x 11 l),.int .i64 (scF x l)]) (chH c (shX x 11 l)):=by
 unfold shO shX
 by_cases h:scF x l=0
 ·obtain ⟨h1,h2,h3⟩:=scF_zero h
  rw [if_pos h,if_pos h,h]
  exact shiftIR_c x l n c nid hc hx h1 h2 h3 hn0 hn
 ·have hs:Scoped nid (chH c x):=chainH_scoped c nid x.st x.P (by rw [hx.len]; exact hn) hc
  have hsc:=fun m hm=>scanBad_c x 11 l c m hm (by rw [hx.len]; exact hn) hl h
  rw [if_neg h,if_neg h]
  generalize scF x l=F at *
  generalize chH c x=Hs at *
  refine acall_run c35 (by simp [a35]) ?_
  simp -dsimp only [aqA,↓seqK,↓blkK,↓loopK,step,stepBin,eqB,Nat.add_assoc nid,simprocAttr,LN_succ,a35]
  refine CallO.on (hsc _ (by omega)) (subH_refl _) ?_
  simp -dsimp only [aqA,↓seqK,↓blkK,↓loopK,step,stepBin,eqB,Nat.add_assoc nid,simprocAttr,LN_succ]
  refine RetOK.whole (.inl rfl) hs (fun id hid=>hid) (subH_refl _) ?_
  simp [a35,cvT,step,res]
set_option maxHeartbeats 4000000 in
theorem shDR_c (x:ChV) (l:Bs) (n c nid:Nat) (hc:c+11≤nid) (hx:ChOk n x) (hn0:0<n) (hn:n≤3) (hl:l.length≤1000000) :
  ACall Tryz.prog 40 [.ptr c 0,.str l] (chH c x) nid (.tup [.str (shO x 4 l),.int .i64 (scF x l)]) (chH c (shX x 4 l)):=by
 unfold shO shX
 by_cases h:scF x l=0
 ·obtain ⟨h1,h2,h3⟩:=scF_zero h
  rw [if_pos h,if_pos h,h]
  exact shiftDR_c x l n c nid hc hx h1 h2 h3 hn0 hn
 ·have hs:Scoped nid (chH c x):=chainH_scoped c nid x.st x.P (by rw [hx.len]; exact hn) hc
  have hsc:=fun m hm=>scanBad_c x 4 l c m hm (by rw [hx.len]; exact hn) hl h
  rw [if_neg h,if_neg h]
  generalize scF x l=F at *
  generalize chH c x=Hs at *
  refine acall_run c40 (by simp [a40]) ?_
  simp -dsimp only [aqA,↓seqK,↓blkK,↓loopK,step,stepBin,eqB,Nat.add_assoc nid,simprocAttr,LN_succ,a40]
  refine CallO.on (hsc _ (by omega)) (subH_refl _) ?_
  simp -dsimp only [aqA,↓seqK,↓blkK,↓loopK,step,stepBin,eqB,Nat.add_assoc nid,simprocAttr,LN_succ]
  refine RetOK.whole (.inl rfl) hs (fun id hid=>hid) (subH_refl _) ?_
  simp [a40,cvT,step,res]
def rowBt:Nat→List (List UInt8)
 | 0=>[[]]
 | k+1=>(rowBt k).flatMap fun s=>[s++[48],s++[49]]
theorem rowBt_cons:∀ k,rowBt (k+1)=(rowBt k).map (48::·)++(rowBt k).map (49::·)
 | 0=>rfl
 | k+1=>by
  have ih:=rowBt_cons k
  show (rowBt (k+1)).flatMap _=_
  conv=>lhs; rw [ih]
  rw [List.flatMap_append,List.flatMap_map,List.flatMap_map]
  simp only [List.cons_append]
  have e (c:UInt8):(rowBt k).flatMap (fun s=>[c::(s++[48]),c::(s++[49])])=(rowBt (k+1)).map (c::·):=by
   show _=((rowBt k).flatMap _).map _
   rw [List.map_flatMap]
   simp
  rw [e,e]
def fstL:Nat→Nat→Nat→Option (List UInt8)
 | 0,a,t=>if a=t then some [] else none
 | k+1,a,t=>match fstL k (nextN a 0) t with
  | some s=>some (48::s)
  | none=>(fstL k (nextN a 1) t).map (49::·)
theorem find_row:∀ (k a t:Nat),(rowBt k).find? (fun s=>endV a s==t)=fstL k a t
 | 0,a,t=>by
  simp only [rowBt,List.find?,endV,List.foldl_nil,fstL]
  by_cases h:a=t
  ·simp [h]
  ·have e:(a==t)=false:=by simpa using h
   simp [h,e]
 | k+1,a,t=>by
  rw [rowBt_cons,List.find?_append,List.find?_map,List.find?_map]
  have e (c:UInt8):((fun s=>endV a s==t) ∘ fun x=>c::x)=fun s=>endV (nextN a (bitN c)) s==t:=by
   funext s
   simp [endV]
  rw [e,e,find_row k,find_row k]
  have h0:bitN 48=0:=rfl
  have h1:bitN 49=1:=rfl
  rw [h0,h1,fstL]
  cases fstL k (nextN a 0) t <;> simp
def pathOk (a t:Nat):Bool:=decide ((pathV a t).length<12) && (fstL (pathV a t).length a t==some (pathV a t)) && (List.range (pathV a t).length).all fun j=>(fstL j a t).isNone
theorem path_all:((List.range 16).all fun a=>(List.range 16).all fun t=>pathOk a t)=true:=by kernel_rfl
theorem path_first {a t:Nat} (ha:a<16) (ht:t<16):(pathV a t).length<12∧(rowBt (pathV a t).length).find? (fun s=>endV a s==t)=some (pathV a t)∧∀ j,j<(pathV a t).length→(rowBt j).find? (fun s=>endV a s==t)=none:=by
 have h:=List.all_eq_true.1 (List.all_eq_true.1 path_all a (List.mem_range.2 ha)) t (List.mem_range.2 ht)
 simp only [pathOk,Bool.and_eq_true,decide_eq_true_eq,beq_iff_eq] at h
 refine ⟨h.1.1,by rw [find_row]; exact h.1.2,fun j hj=>?_⟩
 rw [find_row]
 have:=List.all_eq_true.1 h.2 j (List.mem_range.2 hj)
 simpa using this
theorem rowBt_len:∀ k,(rowBt k).length=2 ^ k
 | 0=>rfl
 | k+1=>by rw [rowBt_cons,List.length_append,List.length_map,List.length_map,rowBt_len k]; omega
theorem rowBt_mem:∀ {k:Nat} {s:List UInt8},s∈rowBt k→s.length=k∧s.all (fun b=>b==48 || b==49)=true
 | 0,s,h=>by simp only [rowBt,List.mem_singleton] at h; subst h; exact ⟨rfl,rfl⟩
 | k+1,s,h=>by
  rw [rowBt_cons,List.mem_append,List.mem_map,List.mem_map] at h
  rcases h with ⟨r,hr,rfl⟩ | ⟨r,hr,rfl⟩
  ·obtain ⟨h1,h2⟩:=rowBt_mem hr
   exact ⟨by simp [h1],by simpa using h2⟩
  ·obtain ⟨h1,h2⟩:=rowBt_mem hr
   exact ⟨by simp [h1],by simpa using h2⟩
def nextTo (k i:Nat):List (List UInt8):=((rowBt k).take i).flatMap fun s=>[s++[48],s++[49]]
theorem nextTo_len (k:Nat):∀ i,i≤(rowBt k).length→(nextTo k i).length=2 * i
 | 0,_=>rfl
 | i+1,h=>by
  have:=nextTo_len k i (by omega)
  unfold nextTo at *
  rw [List.take_add_one,List.getElem?_eq_getElem (by omega)]
  simp only [Option.toList_some,List.flatMap_append,List.length_append,this]
  simp
  omega
theorem nextTo_succ (k i:Nat) (h:i<(rowBt k).length):nextTo k (i+1)=nextTo k i++[(rowBt k).getD i []++[48],(rowBt k).getD i []++[49]]:=by
 unfold nextTo
 have e:(rowBt k).take (i+1)=(rowBt k).take i++[(rowBt k).getD i []]:=by
  rw [List.take_add_one,List.getElem?_eq_getElem h,List.getD_eq_getElem?_getD,List.getElem?_eq_getElem h]; rfl
 rw [e,List.flatMap_append]
 rfl
theorem nextTo_all (k:Nat):nextTo k (rowBt k).length=rowBt (k+1):=by
 unfold nextTo; rw [List.take_length]; rfl
open Go.RowKit
open Go.RowKit
theorem bit_at {s:List UInt8} (h:bitsOk s=true) {k:Nat} (hk:k<s.length):bitN (s.getD k 0)<2∧IntKind.i64.wrap (IntKind.u8.wrap (((s.getD k 0).toNat:Nat) - 48))=(bitN (s.getD k 0):Nat):=by
 rcases bitsOk_at h hk with e | e <;> rw [e] <;> decide
theorem getD_sn {l m:List Int} {k:Nat} {x:Int} (hl:l.length=k) (hm:m=l++[x]):(fun i=>if i<k then l.getD i 0 else [x].getD (i - k) 0)=fun i=>m.getD i 0:=by
 subst hm; subst hl
 funext i
 simp only [List.getD_eq_getElem?_getD,List.getElem?_append]
 split <;> rfl
set_option maxHeartbeats 4000000 in
theorem walkOf_c (z:Nat) (s:List UInt8) (nid:Nat) (hz:z<16) (hs:s.length≤1000000) (hb:bitsOk s=true):ACall Tryz.prog 155 [.int .i64 (z:Nat),.str s] [] nid (.sl nid 0 s.length) [(nid,arrI (walkL z s))]:=by
 refine acall_run c155 (by simp [a155]) ?_
 simp -dsimp only [aqA,↓seqK,↓blkK,↓loopK,step,stepBin,eqB,Nat.add_assoc nid,simprocAttr,a155]
 refine LP.mkP (fun k:Nat=>k≤s.length) (fun k:Nat=>⟨[(11,.int .i64 k),(10,.int .i64 s.length),(9,.lit false s.length [.i .u8 fun i=>((s.getD i 0).toNat:Nat)]),(0,.int .i64 (endV z (s.take k):Nat)),(5,.sl (nid+4) 0 k)],[(nid+4,some (.arr 3 k [.i .i64 fun i=>(walkTo z s k).getD i 0]))],nid+200,nid⟩) (fun k=>s.length+1 - k) 0 (by omega) (Cov.go [] [(nid+4,1)] ?_) (fun k hk=>?_)
 ·simp [cvT,step,res,endV,walkTo]
 simp -dsimp only [aqA,↓seqK,↓blkK,↓loopK,step,stepBin,eqB,Nat.add_assoc nid,simprocAttr,LN_succ]
 refine S2.dec (fun h1=>?_) (fun h1=>?_) <;> simp -dsimp only [aqA,↓seqK,↓blkK,↓loopK,step,stepBin,eqB,Nat.add_assoc nid,simprocAttr,LN_succ]
 ·have hkl:k<s.length:=by omega
  have hlt:=endV_lt hz hb k (by omega)
  have hsu:=endV_take z s hkl
  have hwt:=walkTo_succ z s k
  have hlw:=walkTo_len z s k
  obtain ⟨hbn,hcv⟩:=bit_at hb hkl
  rw [hcv]
  refine ⟨by omega,?_⟩
  refine CallO.pure (after_c _ _ _ hlt hbn) ?_
  simp -dsimp only [aqA,↓seqK,↓blkK,↓loopK,step,stepBin,eqB,Nat.add_assoc nid,simprocAttr]
  rw [← hsu]
  rw [show (fun i=>if i<k then (walkTo z s k).getD i 0 else [((endV z (s.take (k+1)):Nat):Int)].getD (i - k) 0)=fun i=>(walkTo z s (k+1)).getD i 0 from getD_sn hlw hwt]
  refine ⟨⟨by omega,by omega⟩,by unfold inI64; omega,k+1,⟨by omega,by omega⟩,Cov.go [(nid+4,nid+252)] [] ?_⟩
  simp [cvT,step,res,-List.getD_eq_getElem?_getD]
 ·have hkn:k=s.length:=by omega
  subst hkn
  rw [← walkTo_all]
  refine RetOK.go [(nid,nid+4)] [] (.inl rfl) ?_
  simp [cvT,step,res,a155,arrI,walkTo_len]
theorem find_atP {α:Type} {d:α} {p:α→Bool}:∀ {l:List α} {i:Nat},i<l.length→(∀ j,j<i→p (l.getD j d)=false)→p (l.getD i d)=true→l.find? p=some (l.getD i d)
 | [],i,hi,_,_=>by simp at hi
 | a::l,0,_,_,hp=>by simp at hp; simp [hp]
 | a::l,i+1,hi,h,hp=>by
  have h0:=h 0 (by omega)
  simp at h0
  simp only [List.find?,h0]
  have:=find_atP (l:=l) (d:=d) (i:=i) (by simpa using hi) (fun j hj=>by have:=h (j+1) (by omega); simpa using this) (by simpa using hp)
  simpa using this
theorem walkL_last (a:Nat) (s:List UInt8) (h:0<s.length):(walkL a s).getD (s.length - 1) 0=(endV a s:Nat):=by
 unfold walkL
 rw [List.getD_eq_getElem?_getD,List.getElem?_map,List.getElem?_range (by omega)]
 simp only [Option.map_some,Option.getD_some]
 rw [show s.length - 1+1=s.length by omega,List.take_length]
theorem find_noneP {α:Type} {d:α} {p:α→Bool} {l:List α} (h:∀ j,j<l.length→p (l.getD j d)=false):l.find? p=none:=by
 rw [List.find?_eq_none]
 intro x hx
 obtain ⟨j,hj,rfl⟩:=List.getElem_of_mem hx
 have:=h j hj
 rw [List.getD_eq_getElem?_getD,List.getElem?_eq_getElem hj] at this
 simpa using this
theorem cappS {l m:List (List UInt8)} {n k:Nat} (hl:l.length=n):∀ j,j<n+k→(if j<n then l.getD j [] else m.getD (j - n) [])=(l++m).getD j []:=fun j _=>by
 subst hl
 simp only [List.getD_eq_getElem?_getD,List.getElem?_append]
 split <;> rfl
set_option maxHeartbeats 8000000 in
theorem pathOf_c (a b nid : Nat) (ha : a < 16) (hb : b < 16) : ACall Tryz.prog 109 [.int .i64 (a : Nat),.int .i64 (b : Nat)] [] nid (.str (pathV a b)) [] := by
  obtain ⟨hD,hf,hn⟩ := path_first ha hb
  refine acall_run c109 (by simp [a109]) ?_
  simp -dsimp only [aqA,↓seqK,↓blkK,↓loopK,step,stepBin,eqB,Nat.add_assoc nid,simprocAttr,a109]
  refine LP.mkP (fun k : Nat => k ≤ (pathV a b).length) (fun k : Nat => ⟨[(5,.sl (nid + 4) 0 (rowBt k).length),(0,.int .i64 (a : Nat)),(1,.int .i64 (b : Nat))],[(nid + 4,some (.arr 9 (rowBt k).length [.s fun i => (rowBt k).getD i []]))],nid + 200,nid⟩) (fun k => 12 - k) 0 (by omega) (Cov.go [(nid + 4,nid + 4)] [] ?_) (fun k hk => ?_)
  · simp [cvT,step,res,rowBt]
  have hrl := rowBt_len k
  have h2k : 2 ^ k ≤ 4096 := by
    have : 2 ^ k ≤ 2 ^ 12 := Nat.pow_le_pow_right (by omega) (by omega)
    omega
  have hnt := nextTo_len k
  have hns := nextTo_succ k
  have hna := nextTo_all k
  have hmem : ∀ i,i < (rowBt k).length → ((rowBt k).getD i []).length = k ∧ bitsOk ((rowBt k).getD i []) = true := fun i hi => by
    have hm : (rowBt k).getD i [] ∈ rowBt k := by
      rw [List.getD_eq_getElem?_getD,List.getElem?_eq_getElem hi]; exact List.getElem_mem _
    exact rowBt_mem hm
  have hfk : k = (pathV a b).length → (rowBt k).find? (fun s => endV a s == b) = some (pathV a b) := fun e => by rw [e]; exact hf
  have hnk : k < (pathV a b).length → (rowBt k).find? (fun s => endV a s == b) = none := hn k
  simp -dsimp only [aqA,↓seqK,↓blkK,↓loopK,step,stepBin,eqB,Nat.add_assoc nid,simprocAttr,LN_succ]
  refine LP.mkP (fun i : Nat => i ≤ (rowBt k).length ∧ ∀ j,j < i → (endV a ((rowBt k).getD j []) == b) = false) (fun i : Nat => ⟨[(14,.int .i64 i),(13,.int .i64 (rowBt k).length),(12,.sl (nid + 4) 0 (rowBt k).length),(6,.sl (nid + 8) 0 (2 * i)),(0,.int .i64 (a : Nat)),(1,.int .i64 (b : Nat))],
    [(nid + 4,some (.arr 9 (rowBt k).length [.s fun i => (rowBt k).getD i []])),(nid + 8,some (.arr 9 (2 * i) [.s fun j => (nextTo k i).getD j []]))],nid + 400,nid⟩) (fun i => (rowBt k).length + 1 - i) 0 ⟨by omega,fun j hj => by omega⟩ (Cov.go [(nid + 4,nid + 4)] [(nid + 8,1)] ?_) (fun i hi => ?_)
  · simp [cvT,step,res]
  obtain ⟨hi,hall⟩ := hi
  generalize hR : rowBt k = R at *
  simp -dsimp only [aqA,↓seqK,↓blkK,↓loopK,step,stepBin,eqB,Nat.add_assoc nid,simprocAttr,LN_succ]
  refine S2.dec (fun h1 => ?_) (fun h1 => ?_) <;> simp -dsimp only [aqA,↓seqK,↓blkK,↓loopK,step,stepBin,eqB,Nat.add_assoc nid,simprocAttr,LN_succ]
  · have hil : i < R.length := by omega
    obtain ⟨hs1,hs2⟩ := hmem i hil
    have hni := hnt i (by omega)
    have hnsi := hns i hil
    have hfind : endV a (R.getD i []) = b → R.getD i [] = pathV a b := fun e => by
      have h5 := find_atP (d := []) (p := fun s => endV a s == b) hil hall (by rw [e]; simp)
      rcases (by omega : k = (pathV a b).length ∨ k < (pathV a b).length) with h6 | h6
      · rw [hfk h6] at h5; injection h5 with h5; exact h5.symm
      · rw [hnk h6] at h5; cases h5
    have hlast := walkL_last a (R.getD i [])
    generalize hsg : R.getD i [] = s at *
    have hwl : (walkL a s).length = s.length := by simp [walkL]
    refine ⟨by omega,CallO.pure (walkOf_c a s _ ha (by omega) hs2) ?_⟩
    unfold arrI
    rw [hwl]
    simp -dsimp only [aqA,↓seqK,↓blkK,↓loopK,step,stepBin,eqB,Nat.add_assoc nid,simprocAttr,LN_succ]
    have hcol : (fun j => if j < 2 * i then (nextTo k i).getD j [] else [s ++ [48],s ++ [49]].getD (j - 2 * i) []) = fun j => (nextTo k (i + 1)).getD j [] := by
      funext j
      rw [hnsi]
      exact cappS (k := j + 1) hni j (by omega)
    by_cases hp : s.length = 0
    · have he0 : (a : Int) = ((endV a s : Nat) : Int) := by rw [List.length_eq_zero_iff.1 hp]; rfl
      refine S2.dec (fun h => absurd h (by omega)) (fun _ => ?_)
      simp -dsimp only [aqA,↓seqK,↓blkK,↓loopK,step,stepBin,eqB,Nat.add_assoc nid,simprocAttr,LN_succ]
      have hbe : ((a : Int) == (b : Int)) = (((endV a s : Nat) : Int) == (b : Int)) := by rw [← he0]
      rw [hbe]
      refine S2.intro (fun h3 => ?_) (fun h3 => ?_) <;> simp -dsimp only [aqA,↓seqK,↓blkK,↓loopK,step,stepBin,eqB,Nat.add_assoc nid,simprocAttr,LN_succ]
      · have he : s = pathV a b := hfind (by have : ((endV a s : Nat) : Int) = (b : Int) := by simpa using h3
                                             omega)
        rw [← he]
        refine RetOK.pure (.inl rfl) rfl ?_
        simp [cvT,step,res,a109]
      · have hne : (endV a s == b) = false := by
          have : ¬ ((endV a s : Nat) : Int) = (b : Int) := by simpa using h3
          simp only [beq_eq_false_iff_ne,ne_eq]
          omega
        refine ⟨by omega,by omega,⟨by omega,by omega⟩,?_⟩
        rw [hcol]
        refine ⟨by unfold inI64; omega,i + 1,⟨⟨by omega,fun j hj => ?_⟩,by omega⟩,Cov.go [(nid + 4,nid + 4),(nid + 8,nid + 488)] [] ?_⟩
        · rcases (by omega : j < i ∨ j = i) with hj | hj
          · exact hall j hj
          · rw [hj,hsg]; exact hne
        · simp [cvT,step,res,-List.getD_eq_getElem?_getD]
          omega
    · have e : (s.length : Int) - 1 = ((s.length - 1 : Nat) : Int) := by omega
      have hl2 := hlast (by omega)
      refine S2.dec (fun _ => ?_) (fun h => absurd h (by omega))
      simp -dsimp only [aqA,↓seqK,↓blkK,↓loopK,step,stepBin,eqB,Nat.add_assoc nid,simprocAttr,LN_succ,e,hl2]
      refine ⟨by unfold inI64; omega,⟨by omega,by omega⟩,?_⟩
      refine S2.intro (fun h3 => ?_) (fun h3 => ?_) <;> simp -dsimp only [aqA,↓seqK,↓blkK,↓loopK,step,stepBin,eqB,Nat.add_assoc nid,simprocAttr,LN_succ]
      · have he : s = pathV a b := hfind (by have : ((endV a s : Nat) : Int) = (b : Int) := by simpa using h3
                                             omega)
        rw [← he]
        refine RetOK.pure (.inl rfl) rfl ?_
        simp [cvT,step,res,a109]
      · have hne : (endV a s == b) = false := by
          have : ¬ ((endV a s : Nat) : Int) = (b : Int) := by simpa using h3
          simp only [beq_eq_false_iff_ne,ne_eq]
          omega
        refine ⟨by omega,by omega,⟨by omega,by omega⟩,?_⟩
        rw [hcol]
        refine ⟨by unfold inI64; omega,i + 1,⟨⟨by omega,fun j hj => ?_⟩,by omega⟩,Cov.go [(nid + 4,nid + 4),(nid + 8,nid + 516)] [] ?_⟩
        · rcases (by omega : j < i ∨ j = i) with hj | hj
          · exact hall j hj
          · rw [hj,hsg]; exact hne
        · simp [cvT,step,res,-List.getD_eq_getElem?_getD]
          omega
  · have hin : i = R.length := by omega
    subst hin
    have h6 : k < (pathV a b).length := by
      rcases (by omega : k = (pathV a b).length ∨ k < (pathV a b).length) with h6 | h6
      · have := hfk h6
        rw [find_noneP (d := []) hall] at this
        cases this
      · exact h6
    have hlen : (rowBt (k + 1)).length = 2 * R.length := by rw [← hna,hnt _ (Nat.le_refl _)]
    refine ⟨k + 1,⟨by omega,by omega⟩,Cov.go [(nid + 4,nid + 8)] [] ?_⟩
    rw [hlen,hna]
    simp [cvT,step,res,-List.getD_eq_getElem?_getD]
open Go.RowKit
theorem truthT_c (b:Bool) (nid:Nat):ACall Tryz.prog 110 [.bool b] [] nid (.int .i64 (if b=true then 1 else 0)) []:=by
 refine acall_run c110 (by simp [a110]) ?_
 cases b
 ·simp -dsimp only [aqA,↓seqK,↓blkK,↓loopK,step,stepBin,eqB,Nat.add_assoc nid,simprocAttr,LN_succ,a110]
  refine RetOK.go [] [] (.inl rfl) ?_
  simp [a110,cvT,step,res]
 ·simp -dsimp only [aqA,↓seqK,↓blkK,↓loopK,step,stepBin,eqB,Nat.add_assoc nid,simprocAttr,LN_succ,a110]
  refine RetOK.go [] [] (.inl rfl) ?_
  simp [a110,cvT,step,res]
theorem noneF_c (b:Bool) (nid:Nat):ACall Tryz.prog 79 [.bool (!b)] [] nid (.int .i64 (noneF b)) []:=by
 refine acall_run c79 (by simp [a79]) ?_
 cases b
 ·simp -dsimp only [aqA,↓seqK,↓blkK,↓loopK,step,stepBin,eqB,Nat.add_assoc nid,simprocAttr,LN_succ,a79]
  refine RetOK.go [] [] (.inl rfl) ?_
  simp [a79,cvT,step,res,noneF]
 ·simp -dsimp only [aqA,↓seqK,↓blkK,↓loopK,step,stepBin,eqB,Nat.add_assoc nid,simprocAttr,LN_succ,a79]
  refine RetOK.go [] [] (.inl rfl) ?_
  simp [a79,cvT,step,res,noneF]
theorem RelR.tick {D:List Dev} {x:ChV} (h:RelR D x.P) (t:Nat) {b:UInt8} (hb:oneBit b=true):RelR D (tickV nextN x t b).P:=h.clock x.st hb
theorem RelR.walk {D:List Dev}:∀ {l:Bs} {x:ChV},RelR D x.P→RelR D (walkV nextN x l).P
 | [],x,h=>h
 | b::l,x,h=>RelR.walk (l:=l) (h.tick (bitM b) (by decide))
theorem RelR.feed {D:List Dev} {x:ChV} {l:Bs} (h:RelR D x.P) (hl:l.all oneBit=true):∀ k,k≤l.length→RelR D (feedV x l k).P
 | 0,_=>h
 | k+1,hk=>(RelR.feed h hl k (by omega)).tick _ (bits_at hl (by omega))
theorem RelR.scan {D:List Dev} {x:ChV} {T:Nat} {l:Bs} (h:RelR D x.P) (hl:l.all oneBit=true):RelR D (scanV x T l).P:=RelR.walk (RelR.feed (RelR.walk h) hl _ (Nat.le_refl _))
theorem RelR.shX {D:List Dev} {x:ChV} {T:Nat} {l:Bs} (h:RelR D x.P):RelR D (shX x T l).P:=by
 unfold Go.Proofs.YtahjohieahehjaaGreatDoor.shX
 split
 ·rename_i hf
  exact h.scan (bits_ok (scF_zero hf).2.2).1
 ·exact h
def RX (c:Nat) (n0:Bool) (n1 n2:Nat→Bool) (D:List Dev) (x:ChV):Heap:=RH c n0 n1 n2 D x.st x.P
section
variable (c nid:Nat) (n0:Bool) (n1 n2:Nat→Bool) (D:List Dev) (x:ChV) (hc:c+5≤nid)
include hc
theorem RX_scoped:Scoped nid (RX c n0 n1 n2 D x):=RH_scoped c nid n0 n1 n2 D x.st x.P hc
end
theorem RX_keys (c:Nat) (n0:Bool) (n1 n2:Nat→Bool) (D:List Dev) (x y:ChV):keys (RX c n0 n1 n2 D x)=keys (RX c n0 n1 n2 D y):=rfl
theorem RX0 (c:Nat) (n0:Bool) (n1 n2:Nat→Bool) (D:List Dev) (x:ChV):getH (RX c n0 n1 n2 D x) c=some (.box 104 [.lit n0 D.length (devP n1 n2 D),.int .i64 (x.st:Nat),.sl (c+1) 0 D.length,.sl (c+2) 0 D.length,.mp (c+3),.mp (c+4)]):=RH0 c n0 n1 n2 D x.st x.P
theorem tickR_c (c nid:Nat) (n0:Bool) (n1 n2:Nat→Bool) (D:List Dev) (x:ChV) (tms:Nat) (b:UInt8) (hc:c+5≤nid) (h:RelR D x.P) (hst:x.st<16) (ht:tms<2) (hb:oneBit b=true) (hD:D.length≤1000) :
  ACall Tryz.prog 29 [.ptr c 0,.int .i64 (tms:Nat),.int .i64 (bitM b:Nat)] (RX c n0 n1 n2 D x) nid (.int .i64 (outB1 x.st (tickO x b))) (RX c n0 n1 n2 D (tickV nextN x tms b)) :=
 clock_R c nid n0 n1 n2 D x.st x.P tms b hc h hst ht hb hD
set_option maxHeartbeats 8000000 in
theorem shiftBad_R (c nid:Nat) (n0:Bool) (n1 n2:Nat→Bool) (D:List Dev) (x:ChV) (T:Nat) (l:Bs) (hc:c+5≤nid) (hl:l.length≤1000000) (h:scF x l≠0) :
  ACall Tryz.prog 56 [.ptr c 0,.int .i64 (T:Nat),.str l] (RX c n0 n1 n2 D x) nid (.tup [.str [],.int .i64 (scF x l)]) (RX c n0 n1 n2 D x):=by
 have hs:=RX_scoped c nid n0 n1 n2 D x hc
 have hl0:=RX0 c n0 n1 n2 D x
 have hbf:=fun m=>tmsFault_c l m (by omega)
 unfold scF at h ⊢
 generalize RX c n0 n1 n2 D x=Hs at *
 generalize x.st=st at *
 have e1:(((st:Nat):Int) != 1)=decide (st≠1):=stNe st 1
 have e0:(((st:Nat):Int) != 0)=decide (st≠0):=stNe st 0
 by_cases h1:1<st
 ·rw [if_pos h1]
  rw [decide_eq_true (by omega)] at e1 e0
  refine acall_run c56 (by simp [a56]) ?_
  simp -dsimp only [aqA,↓seqK,↓blkK,↓loopK,step,stepBin,eqB,Nat.add_assoc nid,simprocAttr,LN_succ,a56,hl0,e0,e1]
  refine RetOK.whole (.inl rfl) hs (fun id hid=>hid) (subH_refl _) ?_
  simp [a56,cvT,step,res]
 rw [if_neg h1] at h ⊢
 rcases (by omega:st=0∨st=1) with hst | hst
 ·rw [decide_eq_true (by omega)] at e1
  rw [decide_eq_false (by omega)] at e0
  by_cases h2:l=[]
  ·rw [if_pos h2]
   have b1:(l==[])=true:=by rw [h2]; rfl
   refine acall_run c56 (by simp [a56]) ?_
   simp -dsimp only [aqA,↓seqK,↓blkK,↓loopK,step,stepBin,eqB,Nat.add_assoc nid,simprocAttr,LN_succ,a56,hl0,e0,e1,b1]
   refine RetOK.whole (.inl rfl) hs (fun id hid=>hid) (subH_refl _) ?_
   simp [a56,cvT,step,res]
  ·rw [if_neg h2] at h ⊢
   have b1:(l==[])=false:=by rw [beq_eq_false_iff_ne]; exact h2
   generalize bitsFaultV l=F at *
   have b2:(F != 0)=true:=by rw [bne_iff_ne]; exact h
   refine acall_run c56 (by simp [a56]) ?_
   simp -dsimp only [aqA,↓seqK,↓blkK,↓loopK,step,stepBin,eqB,Nat.add_assoc nid,simprocAttr,LN_succ,a56,hl0,e0,e1,b1]
   refine CallO.pure (hbf _) ?_
   simp -dsimp only [aqA,↓seqK,↓blkK,↓loopK,step,stepBin,eqB,Nat.add_assoc nid,simprocAttr,LN_succ,b2]
   refine CallO.pure (hbf _) ?_
   simp -dsimp only [aqA,↓seqK,↓blkK,↓loopK,step,stepBin,eqB,Nat.add_assoc nid,simprocAttr,LN_succ,b2]
   refine RetOK.whole (.inl rfl) hs (fun id hid=>hid) (subH_refl _) ?_
   simp [a56,cvT,step,res]
 ·rw [decide_eq_false (by omega)] at e1
  by_cases h2:l=[]
  ·rw [if_pos h2]
   have b1:(l==[])=true:=by rw [h2]; rfl
   refine acall_run c56 (by simp [a56]) ?_
   simp -dsimp only [aqA,↓seqK,↓blkK,↓loopK,step,stepBin,eqB,Nat.add_assoc nid,simprocAttr,LN_succ,a56,hl0,e1,b1]
   refine RetOK.whole (.inl rfl) hs (fun id hid=>hid) (subH_refl _) ?_
   simp [a56,cvT,step,res]
  ·rw [if_neg h2] at h ⊢
   have b1:(l==[])=false:=by rw [beq_eq_false_iff_ne]; exact h2
   generalize bitsFaultV l=F at *
   have b2:(F != 0)=true:=by rw [bne_iff_ne]; exact h
   refine acall_run c56 (by simp [a56]) ?_
   simp -dsimp only [aqA,↓seqK,↓blkK,↓loopK,step,stepBin,eqB,Nat.add_assoc nid,simprocAttr,LN_succ,a56,hl0,e1,b1]
   refine CallO.pure (hbf _) ?_
   simp -dsimp only [aqA,↓seqK,↓blkK,↓loopK,step,stepBin,eqB,Nat.add_assoc nid,simprocAttr,LN_succ,b2]
   refine CallO.pure (hbf _) ?_
   simp -dsimp only [aqA,↓seqK,↓blkK,↓loopK,step,stepBin,eqB,Nat.add_assoc nid,simprocAttr,LN_succ,b2]
   refine RetOK.whole (.inl rfl) hs (fun id hid=>hid) (subH_refl _) ?_
   simp [a56,cvT,step,res]
def feedL (x:ChV) (l:Bs) (k:Nat):Bs:=(List.range k).map (feedO x l)
theorem feedL_succ (x:ChV) (l:Bs) (k:Nat):feedL x l (k+1)=feedL x l k++[feedO x l k]:=by
 unfold feedL
 rw [List.range_succ,List.map_append]
 rfl
theorem feedL_len (x:ChV) (l:Bs) (k:Nat):(feedL x l k).length=k:=by simp [feedL]
set_option maxHeartbeats 16000000 in
theorem shiftOk_R (c nid:Nat) (n0:Bool) (n1 n2:Nat→Bool) (D:List Dev) (x:ChV) (T:Nat) (l:Bs) (n:Nat) (hc:c+5≤nid) (hD:D.length≤1000) (hR:RelR D x.P) (hx:ChOk n x) (hT:T=4∨T=11) (h:scF x l=0) :
  ACall Tryz.prog 56 [.ptr c 0,.int .i64 (T:Nat),.str l] (RX c n0 n1 n2 D x) nid (.tup [.str (scanO x T l),.int .i64 0]) (RX c n0 n1 n2 D (scanV x T l)):=by
 obtain ⟨hst,h0,hf⟩:=scF_zero h
 obtain ⟨hlb,hll⟩:=bits_ok hf
 obtain ⟨w1,w2,w3⟩:=way_all x.st hst T hT
 obtain ⟨hok1,hst1⟩:=scan1_ok hx hst hT
 have hfo:=fun k hk=>feed_ok hok1 hlb k hk
 have hR1:RelR D (scan1 x T).P:=RelR.walk hR
 have hRf:=fun k hk=>RelR.feed hR1 hlb k hk
 have hbf:=fun m=>tmsFault_c l m (by omega)
 rw [hf] at hbf
 have hpt:=fun m=>pathOf_c x.st T m hx.st (by omega)
 have hcc:∀ k,(nid+k==c)=false:=fun k=>by simp; omega
 have hsc:∀ y:ChV,Scoped nid (RX c n0 n1 n2 D y):=fun y=>RX_scoped c nid n0 n1 n2 D y hc
 refine acall_sr c56 (by simp [a56]) ?_
 unfold a56
 refine SR.seq ?_
 simp -dsimp only [aqA,↓seqK,↓blkK,↓loopK,step,stepBin,eqB,Nat.add_assoc nid,simprocAttr,LN_succ]
 refine SR.seqTo ⟨[(0,.ptr c 0),(1,.int .i64 (T:Nat)),(2,.str l)],RX c n0 n1 n2 D x,nid+200,nid⟩ ?_ ?_
 ·have hs:=hsc x
  have hl0:=RX0 c n0 n1 n2 D x
  generalize RX c n0 n1 n2 D x=Hs at *
  have b1:(l==[])=false:=by
   rw [beq_eq_false_iff_ne]
   intro e
   rw [e] at h0
   simp at h0
  rcases (by omega:x.st=0∨x.st=1) with hs1 | hs1
  ·rw [hs1] at hl0
   simp -dsimp only [aqA,↓seqK,↓blkK,↓loopK,step,stepBin,eqB,Nat.add_assoc nid,simprocAttr,LN_succ,hl0,b1]
   refine CallO.pure (hbf _) ?_
   simp -dsimp only [aqA,↓seqK,↓blkK,↓loopK,step,stepBin,eqB,Nat.add_assoc nid,simprocAttr,LN_succ]
   refine Cov.whole hs (subH_refl _) (by omega) ?_
   simp [cvT,step,res]
   omega
  ·rw [hs1] at hl0
   simp -dsimp only [aqA,↓seqK,↓blkK,↓loopK,step,stepBin,eqB,Nat.add_assoc nid,simprocAttr,LN_succ,hl0,b1]
   refine CallO.pure (hbf _) ?_
   simp -dsimp only [aqA,↓seqK,↓blkK,↓loopK,step,stepBin,eqB,Nat.add_assoc nid,simprocAttr,LN_succ]
   refine Cov.whole hs (subH_refl _) (by omega) ?_
   simp [cvT,step,res]
   omega
 generalize hpv:pathV x.st T=W at *
 have hx1:walkV nextN x W=scan1 x T:=by unfold scan1; rw [hpv]
 refine SR.seqW (ι:=Unit) (fun _=>⟨[(0,.ptr c 0),(1,.int .i64 (T:Nat)),(2,.str l)],RX c n0 n1 n2 D (scan1 x T),nid+3000,nid⟩) ?_ (fun _=>?_)
 ·refine SR.seqTo ⟨[(43,.int .i64 0),(42,.int .i64 W.length),(41,.lit false W.length [.i .u8 fun i=>((W.getD i 0).toNat:Nat)]),(0,.ptr c 0),(1,.int .i64 (T:Nat)),(2,.str l)],RX c n0 n1 n2 D x,nid+300,nid⟩ ?_ ?_
  ·have hs:=hsc x
   have hl0:=RX0 c n0 n1 n2 D x
   generalize RX c n0 n1 n2 D x=Hs at *
   simp -dsimp only [aqA,↓seqK,↓blkK,↓loopK,step,stepBin,eqB,Nat.add_assoc nid,simprocAttr,LN_succ,hl0]
   refine CallO.pure (hpt _) ?_
   simp -dsimp only [aqA,↓seqK,↓blkK,↓loopK,step,stepBin,eqB,Nat.add_assoc nid,simprocAttr,LN_succ]
   refine Cov.whole hs (subH_refl _) (by omega) ?_
   simp [cvT,step,res,ColsEq.refl]
   omega
  refine SR.block ?_
  refine SR.loopP (fun k:Nat=>k≤W.length) (fun k=>⟨[(43,.int .i64 (k:Nat)),(42,.int .i64 W.length),(41,.lit false W.length [.i .u8 fun i=>((W.getD i 0).toNat:Nat)]),(0,.ptr c 0),(1,.int .i64 (T:Nat)),(2,.str l)],RX c n0 n1 n2 D (walkV nextN x (W.take k)),nid+400,nid⟩) (fun k=>W.length+1 - k) 0 (by omega) ?_ (fun k hk=>?_)
  ·rw [List.take_zero]
   refine Cov.whole (hsc _) (subH_refl _) (by omega) ?_
   simp [cvT,step,res,ColsEq.refl]
   omega
  refine SR.run (t:=.mk) ?_
  have hs:=hsc (walkV nextN x (W.take k))
  by_cases h3:((k:Nat):Int)<(W.length:Nat)
  ·have hkl:k<W.length:=by omega
   have hwb:oneBit (W.getD k 0)=true:=bits_at w2 hkl
   have hwok:ChOk n (walkV nextN x (W.take k)):=walk_ok (fun s t hs ht=>nextN_lt hs ht) hx (take_bits w2 k)
   have htk:=fun m (hm:nid≤m)=>tickR_c c m n0 n1 n2 D (walkV nextN x (W.take k)) (bitM (W.getD k 0)) 48 (by omega) (RelR.walk hR) hwok.st (bitM_lt hwb).1 (by decide) hD
   rw [← walkV_take hkl] at htk
   have hs2:=hsc (walkV nextN x (W.take (k+1)))
   have hw:=bitW8 hwb
   generalize hH2:RX c n0 n1 n2 D (walkV nextN x (W.take (k+1)))=Hs2 at *
   generalize RX c n0 n1 n2 D (walkV nextN x (W.take k))=Hs at *
   simp -dsimp only [aqA,↓seqK,↓blkK,↓loopK,step,stepBin,eqB,Nat.add_assoc nid,simprocAttr,LN_succ]
   refine S2.dec (fun _=>?_) (fun h=>absurd h3 h)
   simp -dsimp only [aqA,↓seqK,↓blkK,↓loopK,step,stepBin,eqB,Nat.add_assoc nid,simprocAttr,LN_succ]
   refine ⟨by omega,?_⟩
   rw [hw]
   refine CallO.on (htk _ (by omega)) (subH_refl _) ?_
   simp -dsimp only [aqA,↓seqK,↓blkK,↓loopK,step,stepBin,eqB,Nat.add_assoc nid,simprocAttr,LN_succ]
   refine ⟨by unfold inI64; omega,k+1,⟨by omega,by omega⟩,?_⟩
   rw [hH2]
   refine Cov.whole hs2 (subH_front _ _) (by omega) ?_
   simp [cvT,step,res,ColsEq.refl]
   omega
  ·have hkn:k=W.length:=by omega
   rw [hkn,List.take_length,hx1] at hs ⊢
   simp -dsimp only [aqA,↓seqK,↓blkK,↓loopK,step,stepBin,eqB,Nat.add_assoc nid,simprocAttr,LN_succ]
   refine S2.dec (fun h=>absurd h (by omega)) (fun _=>?_)
   simp -dsimp only [aqA,↓seqK,↓blkK,↓loopK,step,stepBin,eqB,Nat.add_assoc nid,simprocAttr,LN_succ]
   refine ⟨(),?_⟩
   refine Cov.whole hs (subH_refl _) (by omega) ?_
   simp [cvT,step,res,ColsEq.refl]
   omega
 refine SR.seq ?_
 simp -dsimp only [aqA,↓seqK,↓blkK,↓loopK,step,stepBin,eqB,Nat.add_assoc nid,simprocAttr,LN_succ]
 have hO:scanO x T l=feedL (scan1 x T) l l.length:=rfl
 have hV:scanV x T l=walkV nextN (feedV (scan1 x T) l l.length) [49,48]:=rfl
 rw [hO,hV]
 clear hO hV hx1
 have hfs:=fun k hk=>feed_st (l:=l) hst1 hT k hk
 generalize scan1 x T=y at *
 refine SR.seqW (ι:=Unit) (fun _=>⟨[(10,.str (feedL y l l.length)),(0,.ptr c 0)],RX c n0 n1 n2 D (feedV y l l.length),nid+9000,nid⟩) ?_ (fun _=>?_)
 ·refine SR.seqTo ⟨[(56,.int .i64 0),(55,.int .i64 l.length),(54,.lit false l.length [.i .u8 fun i=>((l.getD i 0).toNat:Nat)]),(10,.str []),(0,.ptr c 0),(2,.str l)],RX c n0 n1 n2 D y,nid+3300,nid⟩ ?_ ?_
  ·have hs:=hsc y
   generalize RX c n0 n1 n2 D y=Hs at *
   simp -dsimp only [aqA,↓seqK,↓blkK,↓loopK,step,stepBin,eqB,Nat.add_assoc nid,simprocAttr,LN_succ]
   refine Cov.whole hs (subH_refl _) (by omega) ?_
   simp [cvT,step,res,ColsEq.refl]
   omega
  refine SR.block ?_
  refine SR.loopP (fun k:Nat=>k≤l.length) (fun k=>⟨[(56,.int .i64 (k:Nat)),(55,.int .i64 l.length),(54,.lit false l.length [.i .u8 fun i=>((l.getD i 0).toNat:Nat)]),(10,.str (feedL y l k)),(0,.ptr c 0),(2,.str l)],RX c n0 n1 n2 D (feedV y l k),nid+3400,nid⟩) (fun k=>l.length+1 - k) 0 (by omega) ?_ (fun k hk=>?_)
  ·have hs:=hsc y
   refine Cov.whole hs (subH_refl _) (by omega) ?_
   simp [cvT,step,res,ColsEq.refl,feedL]
   omega
  refine SR.run (t:=.mk) ?_
  have hs:=hsc (feedV y l k)
  by_cases h3:((k:Nat):Int)<(l.length:Nat)
  ·have hkl:k<l.length:=by omega
   have hwb:oneBit (l.getD k 0)=true:=bits_at hlb hkl
   have htm:=tmsAt_lt l.length k
   have htk:=fun m (hm:nid≤m)=>tickR_c c m n0 n1 n2 D (feedV y l k) (tmsAt l.length k) (l.getD k 0) (by omega) (hRf k (by omega)) (hfo k (by omega)).st htm hwb hD
   have hsh:shifts (feedV y l k).st=true:=by
    rw [hfs k hkl]
    rcases hT with h | h <;> rw [h] <;> rfl
   have hfe:tickV nextN (feedV y l k) (tmsAt l.length k) (l.getD k 0)=feedV y l (k+1):=rfl
   have hoe:tickO (feedV y l k) (l.getD k 0)=feedO y l k:=rfl
   have hob:oneBit (feedO y l k)=true:=(clockP_V (hfo k (by omega)).ok hwb).2
   rw [hfe,hoe] at htk
   have ho:outB1 (feedV y l k).st (feedO y l k)=(bitM (feedO y l k):Nat):=by unfold outB1; rw [if_pos hsh]
   rw [ho] at htk
   have hbit:=bitM_lt hob
   have hbb:UInt8.ofNat (48+bitM (feedO y l k))=feedO y l k:=by
    rw [← hbit.2]
    simp
   have hs2:=hsc (feedV y l (k+1))
   have hw:=bitW8 hwb
   have hfl:=feedL_len y l k
   have hsu:=feedL_succ y l k
   have htr:∀ m,ACall Tryz.prog 110 [.bool (((k:Nat):Int)==((l.length:Nat):Int) - 1)] [] m (.int .i64 (tmsAt l.length k:Nat)) []:=fun m=>by
    have h:=truthT_c (((k:Nat):Int)==((l.length:Nat):Int) - 1) m
    have e:(if (((k:Nat):Int)==((l.length:Nat):Int) - 1)=true then (1:Int) else 0)=(tmsAt l.length k:Nat):=by
     unfold tmsAt
     by_cases e:k+1=l.length
     ·have b1:(((k:Nat):Int)==((l.length:Nat):Int) - 1)=true:=by rw [beq_iff_eq]; omega
      rw [if_pos b1,if_pos e]
      rfl
     ·have b1:¬ (((k:Nat):Int)==((l.length:Nat):Int) - 1)=true:=by rw [beq_iff_eq]; omega
      rw [if_neg b1,if_neg e]
      rfl
    rw [e] at h
    exact h
   generalize hH2:RX c n0 n1 n2 D (feedV y l (k+1))=Hs2 at *
   generalize RX c n0 n1 n2 D (feedV y l k)=Hs at *
   generalize feedO y l k=O at *
   generalize feedL y l k=F at *
   simp -dsimp only [aqA,↓seqK,↓blkK,↓loopK,step,stepBin,eqB,Nat.add_assoc nid,simprocAttr,LN_succ]
   refine S2.dec (fun _=>?_) (fun h=>absurd h3 h)
   simp -dsimp only [aqA,↓seqK,↓blkK,↓loopK,step,stepBin,eqB,Nat.add_assoc nid,simprocAttr,LN_succ]
   refine ⟨by omega,by unfold inI64; omega,?_⟩
   refine CallO.pure (htr _) ?_
   simp -dsimp only [aqA,↓seqK,↓blkK,↓loopK,step,stepBin,eqB,Nat.add_assoc nid,simprocAttr,LN_succ]
   rw [hw]
   refine CallO.on (htk _ (by omega)) (subH_refl _) ?_
   simp -dsimp only [aqA,↓seqK,↓blkK,↓loopK,step,stepBin,eqB,Nat.add_assoc nid,simprocAttr,LN_succ]
   refine CallO.pure (itoa_cc (bitM O) _ (by omega)) ?_
   rw [bitS hbit.1,hbb]
   simp -dsimp only [aqA,↓seqK,↓blkK,↓loopK,step,stepBin,eqB,Nat.add_assoc nid,simprocAttr,LN_succ]
   refine ⟨by simp; omega,by unfold inI64; omega,k+1,⟨by omega,by omega⟩,?_⟩
   rw [hH2,hsu]
   refine Cov.whole hs2 (subH_front _ _) (by omega) ?_
   simp [cvT,step,res,ColsEq.refl]
   omega
  ·have hkn:k=l.length:=by omega
   rw [hkn] at hs ⊢
   simp -dsimp only [aqA,↓seqK,↓blkK,↓loopK,step,stepBin,eqB,Nat.add_assoc nid,simprocAttr,LN_succ]
   refine S2.dec (fun h=>absurd h (by omega)) (fun _=>?_)
   simp -dsimp only [aqA,↓seqK,↓blkK,↓loopK,step,stepBin,eqB,Nat.add_assoc nid,simprocAttr,LN_succ]
   refine ⟨(),?_⟩
   refine Cov.whole hs (subH_refl _) (by omega) ?_
   simp [cvT,step,res,ColsEq.refl]
   omega
 have hfin:=hfo l.length (Nat.le_refl _)
 have hRfin:=hRf l.length (Nat.le_refl _)
 generalize feedV y l l.length=z at *
 generalize feedL y l l.length=F at *
 have hwz:walkV nextN z [49,48]=tickV nextN (tickV nextN z 1 48) 0 48:=rfl
 rw [hwz]
 have hok2:ChOk n (tickV nextN z 1 48):=tick_ok (fun s t hs ht=>nextN_lt hs ht) hfin (by omega) (by decide)
 have ht1:=fun m (hm:nid≤m)=>tickR_c c m n0 n1 n2 D z 1 48 (by omega) hRfin hfin.st (by omega) (by decide) hD
 have ht2:=fun m (hm:nid≤m)=>tickR_c c m n0 n1 n2 D (tickV nextN z 1 48) 0 48 (by omega) (hRfin.tick 1 (by decide)) hok2.st (by omega) (by decide) hD
 have hs1:=hsc (tickV nextN z 1 48)
 have hs2:=hsc (tickV nextN (tickV nextN z 1 48) 0 48)
 have hk2:=RX_keys c n0 n1 n2 D x (tickV nextN (tickV nextN z 1 48) 0 48)
 generalize RX c n0 n1 n2 D (tickV nextN (tickV nextN z 1 48) 0 48)=Hs2 at *
 generalize hH1:RX c n0 n1 n2 D (tickV nextN z 1 48)=Hs1 at *
 generalize RX c n0 n1 n2 D z=Hs at *
 refine SR.seqTo ⟨[(10,.str F),(0,.ptr c 0)],Hs1,nid+9500,nid⟩ ?_ ?_
 ·simp -dsimp only [aqA,↓seqK,↓blkK,↓loopK,step,stepBin,eqB,Nat.add_assoc nid,simprocAttr,LN_succ]
  refine CallO.on (ht1 _ (by omega)) (subH_refl _) ?_
  simp -dsimp only [aqA,↓seqK,↓blkK,↓loopK,step,stepBin,eqB,Nat.add_assoc nid,simprocAttr,LN_succ]
  refine Cov.whole hs1 (subH_front _ _) (by omega) ?_
  simp [cvT,step,res]
  omega
 refine SR.run (t:=.mk) ?_
 simp -dsimp only [aqA,↓seqK,↓blkK,↓loopK,step,stepBin,eqB,Nat.add_assoc nid,simprocAttr,LN_succ]
 refine CallO.on (ht2 _ (by omega)) (subH_refl _) ?_
 simp -dsimp only [aqA,↓seqK,↓blkK,↓loopK,step,stepBin,eqB,Nat.add_assoc nid,simprocAttr,LN_succ]
 refine RetOK.whole (.inl rfl) hs2 (fun id hid=>by rw [← hk2]; exact hid) (subH_front _ _) ?_
 simp [a56,cvT,step,res]
theorem shiftR_c (c nid:Nat) (n0:Bool) (n1 n2:Nat→Bool) (D:List Dev) (x:ChV) (T:Nat) (l:Bs) (n:Nat) (hc:c+5≤nid) (hD:D.length≤1000) (hR:RelR D x.P) (hx:ChOk n x) (hT:T=4∨T=11) (hl:l.length≤1000000) :
  ACall Tryz.prog 56 [.ptr c 0,.int .i64 (T:Nat),.str l] (RX c n0 n1 n2 D x) nid (.tup [.str (shO x T l),.int .i64 (scF x l)]) (RX c n0 n1 n2 D (shX x T l)):=by
 unfold shO shX
 by_cases h:scF x l=0
 ·rw [if_pos h,if_pos h,h]
  exact shiftOk_R c nid n0 n1 n2 D x T l n hc hD hR hx hT h
 ·rw [if_neg h,if_neg h]
  exact shiftBad_R c nid n0 n1 n2 D x T l hc hl h
open Go.RowKit
set_option maxHeartbeats 4000000 in
theorem nearlyBitsX (s nid:Nat) (nl:Bool) (A:List Int) (p n:Nat) (h:s<nid) (hp:p≤1099500000000) (hA:A.length≤17592186044416) (hn:n≤1000) :
  ∃ x:List UInt8 × Nat,(x.1.length≤n+4∧x.2≤p+n+4)∧ACall Tryz.prog 13 [.ptr s 0,.int .i64 n] [(s,strmC nl A p)] nid (.str x.1) [(s,strmC nl A x.2)]:=by
 obtain ⟨e1,e2,e3,e4,e5,e6,e7,e8,e9⟩:=id_all h
 refine acall_ex c13 (by simp [a13]) ?_
 simp -dsimp only [aqT0,ROp0,aqA,↓seqK,↓blkK,↓loopK,step,stepBin,eqB,Nat.add_assoc nid,simprocAttr,LN_succ,e1,e2,e3,e4,e5,e6,e7,e8,e9,a13,strmC_low]
 refine CallX.onE (bitsX s _ nl A p n (by omega) (by omega) (by omega) hA) (subH_get (by simp only [aqA,↓seqK,↓blkK,↓loopK,step,stepBin,eqB,Nat.add_assoc nid,simprocAttr,e1,e2,e3,e4,e5,e6,e7,e8,e9])) (fun t ht=>?_)
 simp -dsimp only [aqT0,ROp0,aqA,↓seqK,↓blkK,↓loopK,step,stepBin,eqB,Nat.add_assoc nid,simprocAttr,LN_succ,e1,e2,e3,e4,e5,e6,e7,e8,e9,strmC_low]
 refine CallX.on (flip_c s _ nl A (p+n) 20 (by omega) (by omega) hA (by omega)) (subH_get (by simp only [aqA,↓seqK,↓blkK,↓loopK,step,stepBin,eqB,Nat.add_assoc nid,simprocAttr,e1,e2,e3,e4,e5,e6,e7,e8,e9])) ?_
 simp -dsimp only [aqT0,ROp0,aqA,↓seqK,↓blkK,↓loopK,step,stepBin,eqB,Nat.add_assoc nid,simprocAttr,LN_succ,e1,e2,e3,e4,e5,e6,e7,e8,e9,strmC_low]
 refine S2.intro (fun h2=>?_) (fun h2=>?_) <;> simp -dsimp only [aqT0,ROp0,aqA,↓seqK,↓blkK,↓loopK,step,stepBin,eqB,Nat.add_assoc nid,simprocAttr,LN_succ,e1,e2,e3,e4,e5,e6,e7,e8,e9,strmC_low]
 ·refine CallX.onE (changedX s _ nl A (p+n+1) t [50,120] (by omega) (by omega) (by simp) (by omega) hA) (subH_get (by simp only [aqA,↓seqK,↓blkK,↓loopK,step,stepBin,eqB,Nat.add_assoc nid,simprocAttr,e1,e2,e3,e4,e5,e6,e7,e8,e9])) (fun c hc=>?_)
  obtain ⟨c,q3⟩:=c
  obtain ⟨hc1,hc2⟩:=hc
  simp only [List.length_cons,List.length_nil] at hc1 hc2
  simp -dsimp only [aqT0,ROp0,aqA,↓seqK,↓blkK,↓loopK,step,stepBin,eqB,Nat.add_assoc nid,simprocAttr,LN_succ,e1,e2,e3,e4,e5,e6,e7,e8,e9,strmC_low]
  refine EndOK.mk (c,q3) ⟨by simp only; omega,by simp only; omega⟩ ?_
  refine RetOK.go [] [] (.inl rfl) ?_
  simp [a13,cvT,step,res,e1,e2,e3,e4,e5,e6,e7,e8,e9,strmC]
 ·refine EndOK.mk (t,p+n+1) ⟨by simp only; omega,by simp only; omega⟩ ?_
  refine RetOK.go [] [] (.inl rfl) ?_
  simp [a13,cvT,step,res,e1,e2,e3,e4,e5,e6,e7,e8,e9,strmC]
open Go.RowKit
def WH (s c r:Nat) (nl:Bool) (A:List Int) (n0:Bool) (n1 n2:Nat→Bool) (D:List Dev) (q:Nat) (x y:ChV):Heap:=[(s,strmC nl A q)]++(chH c x++RX r n0 n1 n2 D y)
theorem subH_skip {a b id:Nat} {blk:Option ABlk} {B Z:Heap} (hB:InR a b B) (h:b≤id∨id<a) (hz:subH B Z):subH B ((id,blk)::Z) :=
 subH_past (A:=[(id,blk)]) (InR.one id blk) hB (by omega) hz
section
variable (s c r:Nat) (nl:Bool) (A:List Int) (n0:Bool) (n1 n2:Nat→Bool) (D:List Dev)
theorem RX_in (y:ChV):InR r (r+5) (RX r n0 n1 n2 D y):=RH_in r n0 n1 n2 D y.st y.P
theorem WH_of {q:Nat} {x y:ChV} {Z:Heap} (h1:subH [(s,strmC nl A q)] Z) (h2:subH (chH c x) Z) (h3:subH (RX r n0 n1 n2 D y) Z):subH (WH s c r nl A n0 n1 n2 D q x y) Z:=subH_both h1 (subH_both h2 h3)
variable (h1:s<c) (h2:c+11≤r)
include h1 h2
theorem WH_s (q:Nat) (x y:ChV):subH [(s,strmC nl A q)] (WH s c r nl A n0 n1 n2 D q x y):=subH_front _ _
theorem WH_g (q:Nat) (x y:ChV):getH (WH s c r nl A n0 n1 n2 D q x y) s=strmC nl A q:=by
 show getH ((s,strmC nl A q)::(chH c x++RX r n0 n1 n2 D y)) s=_
 simp only [getH,BEq.rfl,cond_true]
theorem WH_c (q:Nat) (x y:ChV) (hx:x.P.length≤3):subH (chH c x) (WH s c r nl A n0 n1 n2 D q x y) :=
 subH_past (InR.one s _) (chH_in c x hx) (by omega) (subH_front _ _)
theorem WH_r (q:Nat) (x y:ChV) (hx:x.P.length≤3):subH (RX r n0 n1 n2 D y) (WH s c r nl A n0 n1 n2 D q x y) :=
 subH_past (InR.one s _) (RX_in r n0 n1 n2 D y) (by omega) (subH_past (chH_in c x hx) (RX_in r n0 n1 n2 D y) (by omega) (subH_refl _))
theorem WH_scoped (b q:Nat) (x y:ChV) (hx:x.P.length≤3) (h:r+5≤b):Scoped b (WH s c r nl A n0 n1 n2 D q x y):=by
 have a:Scoped b [(s,strmC nl A q)]:=scoped_list fun z hz=>by
  simp only [List.mem_singleton] at hz
  subst hz
  exact ⟨by simp only; omega,rfl⟩
 exact a.app ((chainH_scoped c b x.st x.P hx (by omega)).app (RX_scoped r b n0 n1 n2 D y h))
end
theorem WH_keys (s c r:Nat) (nl:Bool) (A:List Int) (n0:Bool) (n1 n2:Nat→Bool) (D:List Dev) (q q':Nat) (x y x' y':ChV) (h:x.P.length=x'.P.length):keys (WH s c r nl A n0 n1 n2 D q x y)=keys (WH s c r nl A n0 n1 n2 D q' x' y'):=by
 have hk:∀ (A B:Heap),keys (A++B)=keys A++keys B:=fun A B=>by simp [keys]
 unfold WH
 rw [hk,hk,hk,hk,RX_keys r n0 n1 n2 D y y']
 have:keys (chH c x)=keys (chH c x'):=chainH_keys c _ _ _ _ h
 rw [this]
 rfl
open Go.RowKit
theorem codeNat:∀ K:Int,0≤K→K<6→K=0∨K=1∨K=2∨K=3∨K=4∨K=5:=fun K h1 h2=>by omega
set_option maxHeartbeats 32000000 in
theorem asked_I (s c r nid:Nat) (nl:Bool) (A:List Int) (p:Nat) (n0:Bool) (n1 n2:Nat→Bool) (D:List Dev) (x:ChV) (n:Nat) (h1:s<c) (h2:c+11≤r) (h3:r+5≤nid) (hp:p≤1099400000000) (hA:A.length≤17592186044416) (hx:ChOk n x) (hR:RelR D x.P) (hn0:0<n) (hn:n≤3) (hD:D.length≤3) :
  ACallI Tryz.prog 30 [.ptr s 0,.ptr c 0,.ptr r 0] (WH s c r nl A n0 n1 n2 D p x x) nid (fun y:ChV × Nat=>ChOk n y.1∧RelR D y.1.P∧y.2≤p+60) (fun _=>.bool true) (fun y=>WH s c r nl A n0 n1 n2 D y.2 y.1 y.1):=by
 have hx3:x.P.length≤3:=by rw [hx.len]; exact hn
 have hns:∀ k,(nid+k==s)=false:=fun k=>by simp; omega
 have hsn:∀ k,(s==nid+k)=false:=fun k=>by simp; omega
 have wg:=fun q y z=>WH_g s c r nl A n0 n1 n2 D h1 h2 q y z
 have wSs:=fun q y z=>WH_s s c r nl A n0 n1 n2 D h1 h2 q y z
 have inC:=chH_in c x hx3
 have inR:=RX_in r n0 n1 n2 D x
 have wsc:=fun b q (y z:ChV) (hy:y.P.length≤3) (hb:r+5≤b)=>WH_scoped s c r nl A n0 n1 n2 D h1 h2 b q y z hy hb
 refine acallI_sr c30 (by simp [a30]) ?_
 unfold a30
 refine SR.seq ?_
 simp -dsimp only [aqA,↓seqK,↓blkK,↓loopK,step,stepBin,eqB,Nat.add_assoc nid,simprocAttr,LN_succ]
 refine SR.seqEx (ι:={y:Bs × Bs // y.1.length≤1000∧y.2.length≤1000}) (fun y=>⟨[(7,.str y.1.1),(8,.str y.1.2),(0,.ptr s 0),(1,.ptr c 0),(2,.ptr r 0)],WH s c r nl A n0 n1 n2 D (p+1+1) x x,nid+200,nid⟩) ?_ (fun ⟨⟨a,b⟩,ha,hb⟩=>?_)
 ·have hgs:=wg p x x
  have wC:=WH_c s c r nl A n0 n1 n2 D h1 h2 p x x hx3
  have wR:=WH_r s c r nl A n0 n1 n2 D h1 h2 p x x hx3
  have wS:=wSs p x x
  generalize WH s c r nl A n0 n1 n2 D p x x=W at *
  simp -dsimp only [aqA,↓seqK,↓blkK,↓loopK,step,stepBin,eqB,Nat.add_assoc nid,simprocAttr,LN_succ]
  have hv1:∀ i,(([[117,49],[117,49],[117,50],[122,122]]:List Bs).getD i []).length≤1000:=fun i=>by
   rcases i with _ | _ | _ | _ | i <;> simp
  have hv2:∀ i,(([[100,97,116,97],[100,97,116,97],[115,99,97,110],[98,121,112,97,115,115]]:List Bs).getD i []).length≤1000:=fun i=>by
   rcases i with _ | _ | _ | _ | i <;> simp
  refine CallO.some_go (T:=9) (nl:=nl) (A:=A) (p:=p) (g:=fun i=>([[117,49],[117,49],[117,50],[122,122]]:List Bs).getD i []) (by simp only [aqA,↓seqK,↓blkK,↓loopK,step,stepBin,eqB,Nat.add_assoc nid,simprocAttr,LN_succ,hns,hgs]) (by simp only [aqA,↓seqK,↓blkK,↓loopK,step,stepBin,eqB,Nat.add_assoc nid,simprocAttr,LN_succ]) (by simp only [hsn]) (by omega) (by omega) hA (by omega) (by omega) ?_
  simp -dsimp only [aqA,↓seqK,↓blkK,↓loopK,step,stepBin,eqB,Nat.add_assoc nid,simprocAttr,LN_succ,hns,hgs,hsn]
  refine CallO.some_go (T:=9) (nl:=nl) (A:=A) (p:=p+1) (g:=fun i=>([[100,97,116,97],[100,97,116,97],[115,99,97,110],[98,121,112,97,115,115]]:List Bs).getD i []) (by simp only [aqA,↓seqK,↓blkK,↓loopK,step,stepBin,eqB,Nat.add_assoc nid,simprocAttr,LN_succ,hns,hgs]) (by simp only [aqA,↓seqK,↓blkK,↓loopK,step,stepBin,eqB,Nat.add_assoc nid,simprocAttr,LN_succ]) (by simp only [hsn]) (by omega) (by omega) hA (by omega) (by omega) ?_
  have hw1:=hv1 (pickI A p 4)
  have hw2:=hv2 (pickI A (p+1) 4)
  generalize ([[117,49],[117,49],[117,50],[122,122]]:List Bs).getD (pickI A p 4) []=a at *
  generalize ([[100,97,116,97],[100,97,116,97],[115,99,97,110],[98,121,112,97,115,115]]:List Bs).getD (pickI A (p+1) 4) []=b at *
  simp -dsimp only [aqA,↓seqK,↓blkK,↓loopK,step,stepBin,eqB,Nat.add_assoc nid,simprocAttr,LN_succ,hns,hgs,hsn]
  refine ⟨⟨(a,b),hw1,hw2⟩,?_⟩
  refine Cov.whole (wsc nid _ x x hx3 h3) ?_ (by omega) ?_
  ·refine WH_of _ _ _ _ _ _ _ _ _ ?_ ?_ ?_
   all_goals repeat (first | exact wS | exact wC | exact wR | exact subH_hit _ _ _ | exact subH_front _ _ | exact subH_refl _ | refine subH_skip (InR.one s _) (by omega) ?_ | refine subH_skip inC (by omega) ?_ | refine subH_skip inR (by omega) ?_)
  ·simp [cvT,step,res]
   omega
 simp only at ha hb ⊢
 obtain ⟨q,hq⟩:∃ q,p+1+1+1=q:=⟨_,rfl⟩
 have hql:q≤p+3:=by omega
 have hgs:=wg q x x
 have wC:=WH_c s c r nl A n0 n1 n2 D h1 h2 q x x hx3
 have wR:=WH_r s c r nl A n0 n1 n2 D h1 h2 q x x hx3
 have wS:=wSs q x x
 have hend:=fun (q':Nat) (y:ChV) (hy:y.P.length=x.P.length)=>WH_keys s c r nl A n0 n1 n2 D p q' x x y y hy.symm
 refine SR.seqW (ι:=Unit) (fun _=>⟨[(7,.str a),(8,.str b),(0,.ptr s 0),(1,.ptr c 0),(2,.ptr r 0)],WH s c r nl A n0 n1 n2 D q x x,nid+3000,nid⟩) ?_ (fun _=>?_)
 ·refine SR.seqEx (ι:={K:Int // 0≤K∧K<6}) (fun K=>⟨[(40,.int .i64 K.1),(7,.str a),(8,.str b),(0,.ptr s 0),(1,.ptr c 0),(2,.ptr r 0)],WH s c r nl A n0 n1 n2 D q x x,nid+300,nid⟩) ?_ (fun ⟨K,hK0,hK6⟩=>?_)
  ·have hgs:=wg (p+1+1) x x
   have wC:=WH_c s c r nl A n0 n1 n2 D h1 h2 (p+1+1) x x hx3
   have wR:=WH_r s c r nl A n0 n1 n2 D h1 h2 (p+1+1) x x hx3
   have wS:=wSs (p+1+1) x x
   have wq:=wsc nid q x x hx3 h3
   have hnb:=nextV_bd A (p+1+1) (n:=6) (by omega)
   rw [← hq] at wq ⊢
   generalize WH s c r nl A n0 n1 n2 D (p+1+1) x x=W at *
   simp -dsimp only [aqA,↓seqK,↓blkK,↓loopK,step,stepBin,eqB,Nat.add_assoc nid,simprocAttr,LN_succ]
   refine CallO.on (next_c s _ nl A (p+1+1) 6 (by omega) (by omega) hA (by omega)) (subH_get hgs) ?_
   simp -dsimp only [aqA,↓seqK,↓blkK,↓loopK,step,stepBin,eqB,Nat.add_assoc nid,simprocAttr,LN_succ]
   refine ⟨⟨_,hnb⟩,?_⟩
   refine Cov.whole wq ?_ (by omega) ?_
   ·refine WH_of _ _ _ _ _ _ _ _ _ ?_ ?_ ?_
    all_goals repeat (first | exact wS | exact wC | exact wR | exact subH_hit _ _ _ | exact subH_front _ _ | exact subH_refl _ | refine subH_skip (InR.one s _) (by omega) ?_ | refine subH_skip inC (by omega) ?_ | refine subH_skip inR (by omega) ?_)
   ·simp [cvT,step,res]
    omega
  simp only
  refine SR.block ?_
  rcases codeNat K hK0 hK6 with hK | hK | hK | hK | hK | hK <;> subst hK
  ·have hI:=fun m (hm:nid≤m)=>instrA_c x a c m (by omega) hx3 hR.ap
   have hJ:=fun m (hm:nid≤m)=>codeR_c r m n0 n1 n2 D x.st x.P (by omega) hR (by omega) a
   have wq:=wsc nid q x x hx3 h3
   have hke:=hend q x rfl
   have hN:=fun m=>noneF_c (codeA x.P a).2 m
   generalize codeA x.P a=C at *
   obtain ⟨C1,C2⟩:=C
   simp only at hI hJ hN
   generalize noneF C2=F at *
   generalize hW:WH s c r nl A n0 n1 n2 D q x x=W at *
   have b1:(C1==C1)=true:=beq_self_eq_true C1
   refine SR.run (t:=.mk) ?_
   simp -dsimp only [aqA,↓seqK,↓blkK,↓loopK,step,stepBin,eqB,Nat.add_assoc nid,simprocAttr,LN_succ]
   refine CallO.on (hI _ (by omega)) wC ?_
   simp -dsimp only [aqA,↓seqK,↓blkK,↓loopK,step,stepBin,eqB,Nat.add_assoc nid,simprocAttr,LN_succ]
   refine CallO.on (hJ _ (by omega)) wR ?_
   simp -dsimp only [aqA,↓seqK,↓blkK,↓loopK,step,stepBin,eqB,Nat.add_assoc nid,simprocAttr,LN_succ]
   refine CallO.pure (hN _) ?_
   simp -dsimp only [aqA,↓seqK,↓blkK,↓loopK,step,stepBin,eqB,Nat.add_assoc nid,simprocAttr,LN_succ,b1]
   refine ⟨(x,q),⟨hx,hR,by simp only; omega⟩,?_⟩
   simp only
   rw [hW]
   refine RetOK.whole (.inl rfl) wq (fun id hid=>by rw [← hke]; exact hid) (subH_refl _) ?_
   simp [a30,cvT,step,res]
  ·have hI:=fun m (hm:nid≤m)=>outputA_c x a b c m (by omega) hx3 hR.ap
   have hJ:=fun m (hm:nid≤m)=>outputR_c r m n0 n1 n2 D x.st x.P (by omega) a b ha hb
   have wq:=wsc nid q x x hx3 h3
   have hke:=hend q x rfl
   have hN:=fun m=>noneF_c (outG x.P a b).2 m
   generalize outG x.P a b=C at *
   obtain ⟨C1,C2⟩:=C
   simp only at hI hJ hN
   generalize noneF C2=F at *
   generalize hW:WH s c r nl A n0 n1 n2 D q x x=W at *
   have b1:(C1==C1)=true:=beq_self_eq_true C1
   refine SR.run (t:=.mk) ?_
   simp -dsimp only [aqA,↓seqK,↓blkK,↓loopK,step,stepBin,eqB,Nat.add_assoc nid,simprocAttr,LN_succ]
   refine CallO.on (hI _ (by omega)) wC ?_
   simp -dsimp only [aqA,↓seqK,↓blkK,↓loopK,step,stepBin,eqB,Nat.add_assoc nid,simprocAttr,LN_succ]
   refine CallO.on (hJ _ (by omega)) wR ?_
   simp -dsimp only [aqA,↓seqK,↓blkK,↓loopK,step,stepBin,eqB,Nat.add_assoc nid,simprocAttr,LN_succ]
   refine CallO.pure (hN _) ?_
   simp -dsimp only [aqA,↓seqK,↓blkK,↓loopK,step,stepBin,eqB,Nat.add_assoc nid,simprocAttr,LN_succ,b1]
   refine ⟨(x,q),⟨hx,hR,by simp only; omega⟩,?_⟩
   simp only
   rw [hW]
   refine RetOK.whole (.inl rfl) wq (fun id hid=>by rw [← hke]; exact hid) (subH_refl _) ?_
   simp [a30,cvT,step,res]
  ·have hv:∀ i,0≤([1,2,3,5]:List Int).getD i 0∧([1,2,3,5]:List Int).getD i 0≤5:=fun i=>by
    rcases i with _ | _ | _ | _ | i <;> simp
   have hke:=fun q' (y:ChV) (hy:y.P.length=x.P.length)=>WH_keys s c r nl A n0 n1 n2 D p q' x x y y hy.symm
   generalize hW:WH s c r nl A n0 n1 n2 D q x x=W at *
   refine SR.run (t:=.mk) ?_
   simp -dsimp only [aqA,↓seqK,↓blkK,↓loopK,step,stepBin,eqB,Nat.add_assoc nid,simprocAttr,LN_succ]
   refine CallO.pick_go (T:=3) (nl:=nl) (A:=A) (p:=q) (g:=fun i=>([1,2,3,5]:List Int).getD i 0) (by simp only [aqA,↓seqK,↓blkK,↓loopK,step,stepBin,eqB,Nat.add_assoc nid,simprocAttr,LN_succ,hns,hgs]) (by simp only [aqA,↓seqK,↓blkK,↓loopK,step,stepBin,eqB,Nat.add_assoc nid,simprocAttr,LN_succ]) (by simp only [hsn]) (by omega) (by omega) hA (by omega) (by omega) ?_
   have hv2:=hv (pickI A q 4)
   obtain ⟨V,hV⟩:∃ V:Nat,([1,2,3,5]:List Int).getD (pickI A q 4) 0=V:=⟨_,(Int.toNat_of_nonneg hv2.1).symm⟩
   rw [hV] at hv2
   simp only [hV]
   simp -dsimp only [aqA,↓seqK,↓blkK,↓loopK,step,stepBin,eqB,Nat.add_assoc nid,simprocAttr,LN_succ,hns,hgs,hsn]
   refine CallO.onE (nearlyBitsX s _ nl A (q+1) V (by omega) (by omega) hA (by omega)) (subH_get (by simp only [aqA,↓seqK,↓blkK,↓loopK,step,stepBin,eqB,Nat.add_assoc nid,simprocAttr,LN_succ,hns,hgs])) (fun y hy=>?_)
   obtain ⟨l,q2⟩:=y
   simp only at hy ⊢
   obtain ⟨hy1,hy2⟩:=hy
   simp -dsimp only [aqA,↓seqK,↓blkK,↓loopK,step,stepBin,eqB,Nat.add_assoc nid,simprocAttr,LN_succ,hns,hgs,hsn]
   by_cases hf:inF x.P a b l=0
   ·obtain ⟨k,pp,g1,g2,g3,g4,g5,g6,g7⟩:=inF_zero hR.ap hf
    obtain ⟨x',hx'⟩:∃ x':ChV,(⟨x.st,x.P.set k (setP pp b l)⟩:ChV)=x':=⟨_,rfl⟩
    have hI:∀ m,nid≤m→ACall Tryz.prog 82 [.ptr c 0,.str a,.str b,.str l] (chH c x) m (.int .i64 0) (chH c x'):=fun m hm=>by
     rw [← hx']
     exact setInOk_c x.st x.P k pp a b l c m (by omega) hx3 g1 (.pos k pp g1 g2 g4) g5 g6 g7 (by omega)
    have hJ:∀ m,nid≤m→ACall Tryz.prog 83 [.ptr r 0,.str a,.str b,.str l] (RX r n0 n1 n2 D x) m (.int .i64 0) (RX r n0 n1 n2 D x'):=fun m hm=>by
     rw [← hx',← g2]
     exact inputOk_c r m n0 n1 n2 D x.st x.P k pp b l (by omega) (by rw [g2]; exact ha) hb hR.ap g1 g5 g6 g7 (by omega)
    have hR':RelR D x'.P:=by rw [← hx']; exact hR.setIn g1 g5 g6 g7
    have hxl:x'.P.length=x.P.length:=by rw [← hx']; exact List.length_set ..
    have hxo:ChOk n x':=⟨by rw [← hx']; exact hx.st,by rw [hxl]; exact hx.len,fun p' hp'=>by
     obtain ⟨i,hi,rfl⟩:=List.getElem_of_mem hp'
     exact (hR'.d i _ (List.getElem?_eq_getElem hi)).2.2⟩
    have inC':=chH_in c x' (by rw [hxl]; exact hx3)
    have inR':=RX_in r n0 n1 n2 D x'
    have wq:=wsc nid q2 x' x' (by rw [hxl]; exact hx3) h3
    have hke':=hke q2 x' hxl
    refine CallO.on (hI _ (by omega)) (by repeat (first | exact wC | refine subH_skip inC (by omega) ?_)) ?_
    simp -dsimp only [aqA,↓seqK,↓blkK,↓loopK,step,stepBin,eqB,Nat.add_assoc nid,simprocAttr,LN_succ,hns,hgs,hsn]
    refine CallO.on (hJ _ (by omega)) (by repeat (first | exact wR | refine subH_past inC' inR (by omega) ?_ | refine subH_skip inR (by omega) ?_)) ?_
    simp -dsimp only [aqA,↓seqK,↓blkK,↓loopK,step,stepBin,eqB,Nat.add_assoc nid,simprocAttr,LN_succ,hns,hgs,hsn]
    refine ⟨(x',q2),⟨hxo,hR',by simp only; omega⟩,?_⟩
    simp only
    refine RetOK.whole (.inl rfl) wq (fun id hid=>by rw [← hke']; exact hid) ?_ ?_
    ·refine WH_of _ _ _ _ _ _ _ _ _ ?_ ?_ ?_
     all_goals repeat (first | exact wS | exact wC | exact wR | exact subH_hit _ _ _ | exact subH_front _ _ | exact subH_refl _ | refine subH_past inC' inR (by omega) ?_ | refine subH_past inR' (InR.one s _) (by omega) ?_ | refine subH_past inC' (InR.one s _) (by omega) ?_ | refine subH_past inR' inC' (by omega) ?_ | refine subH_skip (InR.one s _) (by omega) ?_ | refine subH_skip inC (by omega) ?_ | refine subH_skip inR (by omega) ?_)
    ·simp [a30,cvT,step,res]
   ·have hI:=fun m (hm:nid≤m)=>setInBad_c x a b l c m (by omega) hx3 hR.ap (by omega) hf
    have hJ:∀ m,nid≤m→ACall Tryz.prog 83 [.ptr r 0,.str a,.str b,.str l] (RX r n0 n1 n2 D x) m (.int .i64 (inF x.P a b l)) []:=fun m (hm:nid≤m)=>inputBad_c r m n0 n1 n2 D x.st x.P a b l (by omega) ha hb (by omega) hf
    have wq:=wsc nid q2 x x hx3 h3
    have hke':=hke q2 x rfl
    generalize inF x.P a b l=F at *
    refine CallO.on (hI _ (by omega)) (by repeat (first | exact wC | refine subH_skip inC (by omega) ?_)) ?_
    simp -dsimp only [aqA,↓seqK,↓blkK,↓loopK,step,stepBin,eqB,Nat.add_assoc nid,simprocAttr,LN_succ,hns,hgs,hsn]
    refine CallO.on (hJ _ (by omega)) (by repeat (first | exact wR | refine subH_skip inR (by omega) ?_)) ?_
    simp -dsimp only [aqA,↓seqK,↓blkK,↓loopK,step,stepBin,eqB,Nat.add_assoc nid,simprocAttr,LN_succ,hns,hgs,hsn]
    refine ⟨(x,q2),⟨hx,hR,by simp only; omega⟩,?_⟩
    simp only
    refine RetOK.whole (.inl rfl) wq (fun id hid=>by rw [← hke']; exact hid) ?_ ?_
    ·refine WH_of _ _ _ _ _ _ _ _ _ ?_ ?_ ?_
     all_goals repeat (first | exact wS | exact wC | exact wR | exact subH_hit _ _ _ | exact subH_front _ _ | exact subH_refl _ | refine subH_skip (InR.one s _) (by omega) ?_ | refine subH_skip inC (by omega) ?_ | refine subH_skip inR (by omega) ?_)
    ·simp [a30,cvT,step,res]
  ·have hv:∀ i,0≤([0,2,4,7,12]:List Int).getD i 0∧([0,2,4,7,12]:List Int).getD i 0≤12:=fun i=>by
    rcases i with _ | _ | _ | _ | _ | i <;> simp
   have hke:=fun q' (y:ChV) (hy:y.P.length=x.P.length)=>WH_keys s c r nl A n0 n1 n2 D p q' x x y y hy.symm
   generalize hW:WH s c r nl A n0 n1 n2 D q x x=W at *
   refine SR.run (t:=.mk) ?_
   simp -dsimp only [aqA,↓seqK,↓blkK,↓loopK,step,stepBin,eqB,Nat.add_assoc nid,simprocAttr,LN_succ]
   refine CallO.pick_go (T:=3) (nl:=nl) (A:=A) (p:=q) (g:=fun i=>([0,2,4,7,12]:List Int).getD i 0) (by simp only [aqA,↓seqK,↓blkK,↓loopK,step,stepBin,eqB,Nat.add_assoc nid,simprocAttr,LN_succ,hns,hgs]) (by simp only [aqA,↓seqK,↓blkK,↓loopK,step,stepBin,eqB,Nat.add_assoc nid,simprocAttr,LN_succ]) (by simp only [hsn]) (by omega) (by omega) hA (by omega) (by omega) ?_
   have hv2:=hv (pickI A q 5)
   obtain ⟨V,hV⟩:∃ V:Nat,([0,2,4,7,12]:List Int).getD (pickI A q 5) 0=V:=⟨_,(Int.toNat_of_nonneg hv2.1).symm⟩
   rw [hV] at hv2
   simp only [hV]
   simp -dsimp only [aqA,↓seqK,↓blkK,↓loopK,step,stepBin,eqB,Nat.add_assoc nid,simprocAttr,LN_succ,hns,hgs,hsn]
   refine CallO.onE (nearlyBitsX s _ nl A (q+1) V (by omega) (by omega) hA (by omega)) (subH_get (by simp only [aqA,↓seqK,↓blkK,↓loopK,step,stepBin,eqB,Nat.add_assoc nid,simprocAttr,LN_succ,hns,hgs])) (fun y hy=>?_)
   obtain ⟨l,q2⟩:=y
   simp only at hy ⊢
   obtain ⟨hy1,hy2⟩:=hy
   simp -dsimp only [aqA,↓seqK,↓blkK,↓loopK,step,stepBin,eqB,Nat.add_assoc nid,simprocAttr,LN_succ,hns,hgs,hsn]
   have hI:=fun m (hm:nid≤m)=>shIR_c x l n c m (by omega) hx hn0 hn (by omega)
   have hJ:=fun m (hm:nid≤m)=>shiftR_c r m n0 n1 n2 D x 11 l n (by omega) (by omega) hR hx (by omega) (by omega)
   have hR':RelR D (shX x 11 l).P:=RelR.shX hR
   have hxo:ChOk n (shX x 11 l):=shX_ok hx (by omega)
   have hxl:(shX x 11 l).P.length=x.P.length:=by rw [hxo.len,hx.len]
   generalize shX x 11 l=x' at *
   generalize shO x 11 l=O at *
   generalize scF x l=F at *
   have b1:(O==O)=true:=beq_self_eq_true O
   have inC':=chH_in c x' (by rw [hxl]; exact hx3)
   have inR':=RX_in r n0 n1 n2 D x'
   have wq:=wsc nid q2 x' x' (by rw [hxl]; exact hx3) h3
   have hke':=hke q2 x' hxl
   refine CallO.on (hI _ (by omega)) (by repeat (first | exact wC | refine subH_skip inC (by omega) ?_)) ?_
   simp -dsimp only [aqA,↓seqK,↓blkK,↓loopK,step,stepBin,eqB,Nat.add_assoc nid,simprocAttr,LN_succ,hns,hgs,hsn]
   refine CallO.on (hJ _ (by omega)) (by repeat (first | exact wR | refine subH_past inC' inR (by omega) ?_ | refine subH_skip inR (by omega) ?_)) ?_
   simp -dsimp only [aqA,↓seqK,↓blkK,↓loopK,step,stepBin,eqB,Nat.add_assoc nid,simprocAttr,LN_succ,hns,hgs,hsn,b1]
   refine ⟨(x',q2),⟨hxo,hR',by simp only; omega⟩,?_⟩
   simp only
   refine RetOK.whole (.inl rfl) wq (fun id hid=>by rw [← hke']; exact hid) ?_ ?_
   ·refine WH_of _ _ _ _ _ _ _ _ _ ?_ ?_ ?_
    all_goals repeat (first | exact wS | exact wC | exact wR | exact subH_hit _ _ _ | exact subH_front _ _ | exact subH_refl _ | refine subH_past inC' inR (by omega) ?_ | refine subH_past inR' (InR.one s _) (by omega) ?_ | refine subH_past inC' (InR.one s _) (by omega) ?_ | refine subH_past inR' inC' (by omega) ?_ | refine subH_skip (InR.one s _) (by omega) ?_ | refine subH_skip inC (by omega) ?_ | refine subH_skip inR (by omega) ?_)
   ·simp [a30,cvT,step,res]
  ·have hv:∀ i,0≤([0,1,3,6,40]:List Int).getD i 0∧([0,1,3,6,40]:List Int).getD i 0≤40:=fun i=>by
    rcases i with _ | _ | _ | _ | _ | i <;> simp
   have hke:=fun q' (y:ChV) (hy:y.P.length=x.P.length)=>WH_keys s c r nl A n0 n1 n2 D p q' x x y y hy.symm
   generalize hW:WH s c r nl A n0 n1 n2 D q x x=W at *
   refine SR.run (t:=.mk) ?_
   simp -dsimp only [aqA,↓seqK,↓blkK,↓loopK,step,stepBin,eqB,Nat.add_assoc nid,simprocAttr,LN_succ]
   refine CallO.pick_go (T:=3) (nl:=nl) (A:=A) (p:=q) (g:=fun i=>([0,1,3,6,40]:List Int).getD i 0) (by simp only [aqA,↓seqK,↓blkK,↓loopK,step,stepBin,eqB,Nat.add_assoc nid,simprocAttr,LN_succ,hns,hgs]) (by simp only [aqA,↓seqK,↓blkK,↓loopK,step,stepBin,eqB,Nat.add_assoc nid,simprocAttr,LN_succ]) (by simp only [hsn]) (by omega) (by omega) hA (by omega) (by omega) ?_
   have hv2:=hv (pickI A q 5)
   obtain ⟨V,hV⟩:∃ V:Nat,([0,1,3,6,40]:List Int).getD (pickI A q 5) 0=V:=⟨_,(Int.toNat_of_nonneg hv2.1).symm⟩
   rw [hV] at hv2
   simp only [hV]
   simp -dsimp only [aqA,↓seqK,↓blkK,↓loopK,step,stepBin,eqB,Nat.add_assoc nid,simprocAttr,LN_succ,hns,hgs,hsn]
   refine CallO.onE (nearlyBitsX s _ nl A (q+1) V (by omega) (by omega) hA (by omega)) (subH_get (by simp only [aqA,↓seqK,↓blkK,↓loopK,step,stepBin,eqB,Nat.add_assoc nid,simprocAttr,LN_succ,hns,hgs])) (fun y hy=>?_)
   obtain ⟨l,q2⟩:=y
   simp only at hy ⊢
   obtain ⟨hy1,hy2⟩:=hy
   simp -dsimp only [aqA,↓seqK,↓blkK,↓loopK,step,stepBin,eqB,Nat.add_assoc nid,simprocAttr,LN_succ,hns,hgs,hsn]
   have hI:=fun m (hm:nid≤m)=>shDR_c x l n c m (by omega) hx hn0 hn (by omega)
   have hJ:=fun m (hm:nid≤m)=>shiftR_c r m n0 n1 n2 D x 4 l n (by omega) (by omega) hR hx (by omega) (by omega)
   have hR':RelR D (shX x 4 l).P:=RelR.shX hR
   have hxo:ChOk n (shX x 4 l):=shX_ok hx (by omega)
   have hxl:(shX x 4 l).P.length=x.P.length:=by rw [hxo.len,hx.len]
   generalize shX x 4 l=x' at *
   generalize shO x 4 l=O at *
   generalize scF x l=F at *
   have b1:(O==O)=true:=beq_self_eq_true O
   have inC':=chH_in c x' (by rw [hxl]; exact hx3)
   have inR':=RX_in r n0 n1 n2 D x'
   have wq:=wsc nid q2 x' x' (by rw [hxl]; exact hx3) h3
   have hke':=hke q2 x' hxl
   refine CallO.on (hI _ (by omega)) (by repeat (first | exact wC | refine subH_skip inC (by omega) ?_)) ?_
   simp -dsimp only [aqA,↓seqK,↓blkK,↓loopK,step,stepBin,eqB,Nat.add_assoc nid,simprocAttr,LN_succ,hns,hgs,hsn]
   refine CallO.on (hJ _ (by omega)) (by repeat (first | exact wR | refine subH_past inC' inR (by omega) ?_ | refine subH_skip inR (by omega) ?_)) ?_
   simp -dsimp only [aqA,↓seqK,↓blkK,↓loopK,step,stepBin,eqB,Nat.add_assoc nid,simprocAttr,LN_succ,hns,hgs,hsn,b1]
   refine ⟨(x',q2),⟨hxo,hR',by simp only; omega⟩,?_⟩
   simp only
   refine RetOK.whole (.inl rfl) wq (fun id hid=>by rw [← hke']; exact hid) ?_ ?_
   ·refine WH_of _ _ _ _ _ _ _ _ _ ?_ ?_ ?_
    all_goals repeat (first | exact wS | exact wC | exact wR | exact subH_hit _ _ _ | exact subH_front _ _ | exact subH_refl _ | refine subH_past inC' inR (by omega) ?_ | refine subH_past inR' (InR.one s _) (by omega) ?_ | refine subH_past inC' (InR.one s _) (by omega) ?_ | refine subH_past inR' inC' (by omega) ?_ | refine subH_skip (InR.one s _) (by omega) ?_ | refine subH_skip inC (by omega) ?_ | refine subH_skip inR (by omega) ?_)
   ·simp [a30,cvT,step,res]
  ·have wq:=wsc nid q x x hx3 h3
   generalize hW:WH s c r nl A n0 n1 n2 D q x x=W at *
   refine SR.run (t:=.mk) ?_
   simp -dsimp only [aqA,↓seqK,↓blkK,↓loopK,step,stepBin,eqB,Nat.add_assoc nid,simprocAttr,LN_succ]
   refine ⟨(),?_⟩
   refine Cov.whole wq (subH_refl _) (by omega) ?_
   simp [cvT,step,res]
   omega
 refine SR.seqEx (ι:={y:Int × Int // (0≤y.1∧y.1≤2) ∧ -1≤y.2∧y.2≤1}) (fun y=>⟨[(28,.int .i64 y.1.1),(29,.int .i64 y.1.2),(0,.ptr s 0),(1,.ptr c 0),(2,.ptr r 0)],WH s c r nl A n0 n1 n2 D (q+1+1) x x,nid+3200,nid⟩) ?_ (fun ⟨⟨ta,tb⟩,hta,htb⟩=>?_)
 ·have hv1:∀ i,0≤([0,1,1,2]:List Int).getD i 0∧([0,1,1,2]:List Int).getD i 0≤2:=fun i=>by
   rcases i with _ | _ | _ | _ | i <;> simp
  have hv2:∀ i,-1≤([0,1,0,-1]:List Int).getD i 0∧([0,1,0,-1]:List Int).getD i 0≤1:=fun i=>by
   rcases i with _ | _ | _ | _ | i <;> simp
  have wq:=wsc nid (q+1+1) x x hx3 h3
  generalize WH s c r nl A n0 n1 n2 D q x x=W at *
  simp -dsimp only [aqA,↓seqK,↓blkK,↓loopK,step,stepBin,eqB,Nat.add_assoc nid,simprocAttr,LN_succ]
  refine CallO.pick_go (T:=3) (nl:=nl) (A:=A) (p:=q) (g:=fun i=>([0,1,1,2]:List Int).getD i 0) (by simp only [aqA,↓seqK,↓blkK,↓loopK,step,stepBin,eqB,Nat.add_assoc nid,simprocAttr,LN_succ,hns,hgs]) (by simp only [aqA,↓seqK,↓blkK,↓loopK,step,stepBin,eqB,Nat.add_assoc nid,simprocAttr,LN_succ]) (by simp only [hsn]) (by omega) (by omega) hA (by omega) (by omega) ?_
  simp -dsimp only [aqA,↓seqK,↓blkK,↓loopK,step,stepBin,eqB,Nat.add_assoc nid,simprocAttr,LN_succ,hns,hgs,hsn]
  refine CallO.pick_go (T:=3) (nl:=nl) (A:=A) (p:=q+1) (g:=fun i=>([0,1,0,-1]:List Int).getD i 0) (by simp only [aqA,↓seqK,↓blkK,↓loopK,step,stepBin,eqB,Nat.add_assoc nid,simprocAttr,LN_succ,hns,hgs]) (by simp only [aqA,↓seqK,↓blkK,↓loopK,step,stepBin,eqB,Nat.add_assoc nid,simprocAttr,LN_succ]) (by simp only [hsn]) (by omega) (by omega) hA (by omega) (by omega) ?_
  have w1:=hv1 (pickI A q 4)
  have w2:=hv2 (pickI A (q+1) 4)
  generalize ([0,1,1,2]:List Int).getD (pickI A q 4) 0=ta at *
  generalize ([0,1,0,-1]:List Int).getD (pickI A (q+1) 4) 0=tb at *
  simp -dsimp only [aqA,↓seqK,↓blkK,↓loopK,step,stepBin,eqB,Nat.add_assoc nid,simprocAttr,LN_succ,hns,hgs,hsn]
  refine ⟨⟨(ta,tb),w1,w2⟩,?_⟩
  refine Cov.whole wq ?_ (by omega) ?_
  ·refine WH_of _ _ _ _ _ _ _ _ _ ?_ ?_ ?_
   all_goals repeat (first | exact wS | exact wC | exact wR | exact subH_hit _ _ _ | exact subH_front _ _ | exact subH_refl _ | refine subH_skip (InR.one s _) (by omega) ?_ | refine subH_skip inC (by omega) ?_ | refine subH_skip inR (by omega) ?_)
  ·simp [cvT,step,res]
   omega
 simp only at hta htb ⊢
 clear hgs wC wR wS hend
 obtain ⟨u,hu⟩:∃ u,q+1+1=u:=⟨_,rfl⟩
 have hul:u≤p+5:=by omega
 rw [hu]
 have wC:=WH_c s c r nl A n0 n1 n2 D h1 h2 u x x hx3
 have wR:=WH_r s c r nl A n0 n1 n2 D h1 h2 u x x hx3
 have wS:=wSs u x x
 have hsp1:=fun m=>span_c ta 0 1 m
 have hsp2:=fun m=>span_c tb 0 1 m
 by_cases hok:outB ta 0 1=false∧outB tb 0 1=false
 ·have hta1:0≤ta∧ta≤1:=by
   have:=of_decide_eq_false hok.1
   omega
  have htb1:0≤tb∧tb≤1:=by
   have:=of_decide_eq_false hok.2
   omega
  obtain ⟨t,ht⟩:∃ t:Nat,ta=t:=⟨_,(Int.toNat_of_nonneg hta1.1).symm⟩
  obtain ⟨bb,hbb,hbo⟩:∃ bb:UInt8,tb=(bitM bb:Nat)∧oneBit bb=true:=by
   rcases (by omega:tb=0∨tb=1) with h | h
   ·exact ⟨48,by rw [h]; rfl,by decide⟩
   ·exact ⟨49,by rw [h]; rfl,by decide⟩
  have hs1:spanV ta 0 1=0:=by unfold spanV; rw [hok.1]; rfl
  have hs2:spanV tb 0 1=0:=by unfold spanV; rw [hok.2]; rfl
  rw [hs1] at hsp1
  rw [hs2] at hsp2
  subst ht hbb
  have htl:t<2:=by omega
  have hI:=fun m (hm:nid≤m)=>clockOk_c x t bb n c m (by omega) htl hbo hx hn0 hn
  have hJ:=fun m (hm:nid≤m)=>tickR_c r m n0 n1 n2 D x t bb (by omega) hR hx.st htl hbo (by omega)
  have hxo:ChOk n (tickV nextN x t bb):=tick_ok (fun s t hs ht=>nextN_lt hs ht) hx htl hbo
  have hR':RelR D (tickV nextN x t bb).P:=hR.tick t hbo
  have hxl:(tickV nextN x t bb).P.length=x.P.length:=by rw [hxo.len,hx.len]
  generalize tickV nextN x t bb=x' at *
  generalize outB1 x.st (tickO x bb)=O at *
  have hx3':x'.P.length≤3:=by rw [hxl]; exact hx3
  have inC':=chH_in c x' hx3'
  have inR':=RX_in r n0 n1 n2 D x'
  have hke:=WH_keys s c r nl A n0 n1 n2 D p u x x x' x' hxl.symm
  refine SR.seqTo ⟨[(30,.int .i64 O),(31,.int .i64 0),(28,.int .i64 t),(29,.int .i64 (bitM bb:Nat)),(2,.ptr r 0)],WH s c r nl A n0 n1 n2 D u x' x,nid+3400,nid⟩ ?_ ?_
  ·have wq:=wsc nid u x' x hx3' h3
   generalize WH s c r nl A n0 n1 n2 D u x x=W at *
   simp -dsimp only [aqA,↓seqK,↓blkK,↓loopK,step,stepBin,eqB,Nat.add_assoc nid,simprocAttr,LN_succ]
   refine CallO.on (hI _ (by omega)) wC ?_
   simp -dsimp only [aqA,↓seqK,↓blkK,↓loopK,step,stepBin,eqB,Nat.add_assoc nid,simprocAttr,LN_succ]
   refine Cov.whole wq ?_ (by omega) ?_
   ·refine WH_of _ _ _ _ _ _ _ _ _ ?_ ?_ ?_
    all_goals repeat (first | exact wS | exact wC | exact wR | exact subH_hit _ _ _ | exact subH_front _ _ | exact subH_refl _ | refine subH_past inC' inR (by omega) ?_ | refine subH_past inC' (InR.one s _) (by omega) ?_ | refine subH_skip (InR.one s _) (by omega) ?_ | refine subH_skip inC (by omega) ?_ | refine subH_skip inR (by omega) ?_)
   ·simp [cvT,step,res]
    omega
  clear wC wR wS
  have wC:=WH_c s c r nl A n0 n1 n2 D h1 h2 u x' x hx3'
  have wR:=WH_r s c r nl A n0 n1 n2 D h1 h2 u x' x hx3'
  have wS:=wSs u x' x
  refine SR.seqTo ⟨[(30,.int .i64 O),(31,.int .i64 0),(28,.int .i64 t),(29,.int .i64 (bitM bb:Nat)),(2,.ptr r 0)],WH s c r nl A n0 n1 n2 D u x' x,nid+3700,nid⟩ ?_ ?_
  ·have wq:=wsc nid u x' x hx3' h3
   generalize hW:WH s c r nl A n0 n1 n2 D u x' x=W at *
   simp -dsimp only [aqA,↓seqK,↓blkK,↓loopK,step,stepBin,eqB,Nat.add_assoc nid,simprocAttr,LN_succ]
   refine CallO.pure (hsp1 _) ?_
   simp -dsimp only [aqA,↓seqK,↓blkK,↓loopK,step,stepBin,eqB,Nat.add_assoc nid,simprocAttr,LN_succ]
   refine CallO.pure (hsp2 _) ?_
   simp -dsimp only [aqA,↓seqK,↓blkK,↓loopK,step,stepBin,eqB,Nat.add_assoc nid,simprocAttr,LN_succ]
   refine CallO.gave1 (by simp only [aqA,↓seqK,↓blkK,↓loopK,step,stepBin,eqB,Nat.add_assoc nid,simprocAttr]; rfl) (fun nl'=>or_c nl' [0,0] _ (by simp)) rfl ?_
   have hor:firstBad (fun x:Int=>x) [0,0]=0:=rfl
   rw [hor]
   simp -dsimp only [aqA,↓seqK,↓blkK,↓loopK,step,stepBin,eqB,Nat.add_assoc nid,simprocAttr,LN_succ]
   refine Cov.whole wq ?_ (by omega) ?_
   ·rw [← hW] at wS wC wR ⊢
    have inC:=inC'
    refine WH_of _ _ _ _ _ _ _ _ _ ?_ ?_ ?_
    all_goals repeat (first | exact wS | exact wC | exact wR | exact subH_hit _ _ _ | exact subH_front _ _ | exact subH_refl _ | refine subH_skip (InR.one s _) (by omega) ?_ | refine subH_skip inC (by omega) ?_ | refine subH_skip inR (by omega) ?_)
   ·simp [cvT,step,res]
    omega
  have wq:=wsc nid u x' x' hx3' h3
  have b1:(O==O)=true:=beq_self_eq_true O
  generalize WH s c r nl A n0 n1 n2 D u x' x=W at *
  refine SR.run (t:=.mk) ?_
  simp -dsimp only [aqA,↓seqK,↓blkK,↓loopK,step,stepBin,eqB,Nat.add_assoc nid,simprocAttr,LN_succ]
  refine CallO.on (hJ _ (by omega)) wR ?_
  simp -dsimp only [aqA,↓seqK,↓blkK,↓loopK,step,stepBin,eqB,Nat.add_assoc nid,simprocAttr,LN_succ,b1]
  refine ⟨(x',u),⟨hxo,hR',by simp only; omega⟩,?_⟩
  simp only
  refine RetOK.whole (.inl rfl) wq (fun id hid=>by rw [← hke]; exact hid) ?_ ?_
  ·refine WH_of _ _ _ _ _ _ _ _ _ ?_ ?_ ?_
   all_goals repeat (first | exact wS | exact wC | exact wR | exact subH_front _ _ | refine subH_past inR' (InR.one s _) (by omega) ?_ | refine subH_past inR' inC' (by omega) ?_)
  ·simp [a30,cvT,step,res]
 ·have hbad:outB ta 0 1=true∨outB tb 0 1=true:=by
   cases e1:outB ta 0 1
   ·cases e2:outB tb 0 1
    ·exact absurd ⟨e1,e2⟩ hok
    ·exact .inr rfl
   ·exact .inl rfl
  have hI:=fun m (hm:nid≤m)=>clockBad_c x ta tb c m (by omega) hx3 hbad
  have hor:firstBad (fun x:Int=>x) [spanV ta 0 1,spanV tb 0 1]=1:=by
   unfold spanV
   rcases hbad with h | h
   ·rw [h]; rfl
   ·rw [h]
    cases outB ta 0 1 <;> rfl
  have wq:=wsc nid u x x hx3 h3
  have hke:=WH_keys s c r nl A n0 n1 n2 D p u x x x x rfl
  generalize spanV ta 0 1=sa at *
  generalize spanV tb 0 1=sb at *
  generalize hW:WH s c r nl A n0 n1 n2 D u x x=W at *
  refine SR.run (t:=.mk) ?_
  simp -dsimp only [aqA,↓seqK,↓blkK,↓loopK,step,stepBin,eqB,Nat.add_assoc nid,simprocAttr,LN_succ]
  refine CallO.on (hI _ (by omega)) wC ?_
  simp -dsimp only [aqA,↓seqK,↓blkK,↓loopK,step,stepBin,eqB,Nat.add_assoc nid,simprocAttr,LN_succ]
  refine CallO.pure (hsp1 _) ?_
  simp -dsimp only [aqA,↓seqK,↓blkK,↓loopK,step,stepBin,eqB,Nat.add_assoc nid,simprocAttr,LN_succ]
  refine CallO.pure (hsp2 _) ?_
  simp -dsimp only [aqA,↓seqK,↓blkK,↓loopK,step,stepBin,eqB,Nat.add_assoc nid,simprocAttr,LN_succ]
  refine CallO.gave1 (by simp only [aqA,↓seqK,↓blkK,↓loopK,step,stepBin,eqB,Nat.add_assoc nid,simprocAttr]; rfl) (fun nl'=>or_c nl' [sa,sb] _ (by simp)) rfl ?_
  rw [hor]
  simp -dsimp only [aqA,↓seqK,↓blkK,↓loopK,step,stepBin,eqB,Nat.add_assoc nid,simprocAttr,LN_succ]
  refine ⟨(x,u),⟨hx,hR,by simp only; omega⟩,?_⟩
  simp only
  rw [hW]
  refine RetOK.whole (.inl rfl) wq (fun id hid=>by rw [← hke]; exact hid) ?_ ?_
  ·rw [← hW] at wS wC wR ⊢
   refine WH_of _ _ _ _ _ _ _ _ _ ?_ ?_ ?_
   all_goals repeat (first | exact wS | exact wC | exact wR | exact subH_hit _ _ _ | exact subH_front _ _ | exact subH_refl _ | refine subH_skip (InR.one s _) (by omega) ?_ | refine subH_skip inC (by omega) ?_ | refine subH_skip inR (by omega) ?_)
  ·simp [a30,cvT,step,res]
abbrev KR:=Bs × (Bs × Int)
def keysD (D:List Dev):List KR:=D.flatMap fun d=>d.regs.map fun r=>(d.name,r)
def mapD2 (L:List KR) (q:MK):Bool:=L.any fun e=>decide (q=.q e.1 e.2.1)
def stepV (q:MK) (v:Bs) (e:KR):Bs:=if q=.q e.1 e.2.1 then Lib.repeatL [48] e.2.2.toNat else v
def mapV2 (L:List KR) (q:MK):Bs:=L.foldl (stepV q) []
theorem mapD2_snoc (L:List KR) (e:KR) (q:MK):mapD2 (L++[e]) q=if q=.q e.1 e.2.1 then true else mapD2 L q:=by
 unfold mapD2
 rw [List.any_append]
 by_cases h:q=.q e.1 e.2.1 <;> simp [h]
theorem mapV2_snoc (L:List KR) (e:KR) (q:MK):mapV2 (L++[e]) q=if q=.q e.1 e.2.1 then Lib.repeatL [48] e.2.2.toNat else mapV2 L q:=by
 unfold mapV2
 rw [List.foldl_append]
 rfl
theorem keysD_take {D:List Dev} {k:Nat} (hk:k<D.length):keysD (D.take (k+1))=keysD (D.take k)++(D.getD k dev0).regs.map fun r=>((D.getD k dev0).name,r):=by
 unfold keysD
 rw [List.take_add_one,List.getElem?_eq_getElem hk,Option.toList_some,List.flatMap_append,List.getD_eq_getElem?_getD,List.getElem?_eq_getElem hk]
 simp
theorem seg_other {d:Dev} {a b:Bs} (h:d.name≠a) (v:Bs):(d.regs.map fun r=>((d.name,r):KR)).foldl (stepV (.q a b)) v=v:=by
 have key:∀ (R:List (Bs × Int)) (v:Bs),(R.map fun r=>((d.name,r):KR)).foldl (stepV (.q a b)) v=v:=by
  intro R
  induction R with
  | nil=>intro v; rfl
  | cons r R ih =>
   intro v
   simp only [List.map_cons,List.foldl_cons]
   rw [ih]
   unfold stepV
   rw [if_neg (by simp; intro e; exact absurd e.symm h)]
 exact key _ v
theorem seg_own {d:Dev} (b v:Bs):(d.regs.map fun r=>((d.name,r):KR)).foldl (stepV (.q d.name b)) v=d.regs.foldl (fun v r=>if MK.s b=.s r.1 then Lib.repeatL [48] r.2.toNat else v) v:=by
 have key:∀ (R:List (Bs × Int)) (v:Bs),(R.map fun r=>((d.name,r):KR)).foldl (stepV (.q d.name b)) v=R.foldl (fun v r=>if MK.s b=.s r.1 then Lib.repeatL [48] r.2.toNat else v) v:=by
  intro R
  induction R with
  | nil=>intro v; rfl
  | cons r R ih =>
   intro v
   simp only [List.map_cons,List.foldl_cons]
   rw [ih]
   congr 1
   unfold stepV
   by_cases e:b=r.1
   ·rw [if_pos (by simp [e]),if_pos (by rw [e])]
   ·rw [if_neg (by simp [e]),if_neg (by simp [e])]
 exact key _ v
theorem fold_other {D:List Dev} {a b:Bs} (h:∀ d∈D,d.name≠a) (v:Bs):(keysD D).foldl (stepV (.q a b)) v=v:=by
 induction D generalizing v with
 | nil=>rfl
 | cons d D ih =>
  have e:keysD (d::D)=(d.regs.map fun r=>(d.name,r))++keysD D:=by simp [keysD]
  rw [e,List.foldl_append,seg_other (h d List.mem_cons_self),ih fun x hx=>h x (List.mem_cons_of_mem _ hx)]
theorem names_nd {D:List Dev} (he:devsE D=0) {d x:Dev} {D1 D2:List Dev} (hD:D=D1++d::D2) (hx:x∈D1∨x∈D2):x.name≠d.name:=by
 have hd:D.getD D1.length dev0=d:=by rw [hD,List.getD_eq_getElem?_getD,List.getElem?_append_right (Nat.le_refl _),Nat.sub_self]; rfl
 have hl:D1.length<D.length:=by rw [hD]; simp
 rcases hx with hx | hx
 ·obtain ⟨i,hi,rfl⟩:=List.getElem_of_mem hx
  have e:D.getD i dev0=D1[i]:=by rw [hD,List.getD_eq_getElem?_getD,List.getElem?_append_left hi,List.getElem?_eq_getElem hi]; rfl
  have:=names_ne he (j:=i) (k:=D1.length) hi hl
  rw [e,hd] at this
  exact this
 ·obtain ⟨i,hi,rfl⟩:=List.getElem_of_mem hx
  have hlt:D1.length+1+i<D.length:=by rw [hD]; simp; omega
  have e:D.getD (D1.length+1+i) dev0=D2[i]:=by
   rw [hD,List.getD_eq_getElem?_getD,List.getElem?_append_right (by omega),show D1.length+1+i - D1.length=i+1 by omega,List.getElem?_cons_succ,List.getElem?_eq_getElem hi]
   rfl
  have:=names_ne he (j:=D1.length) (k:=D1.length+1+i) (by omega) hlt
  rw [e,hd] at this
  exact fun h=>this h.symm
theorem val_own {D:List Dev} (he:devsE D=0) {d:Dev} (hd:d∈D) (b:Bs):mapV2 (keysD D) (.q d.name b)=mapV d.regs (.s b):=by
 obtain ⟨D1,D2,rfl⟩:=List.append_of_mem hd
 have e:keysD (D1++d::D2)=keysD D1++((d.regs.map fun r=>(d.name,r))++keysD D2):=by simp [keysD]
 unfold mapV2
 rw [e,List.foldl_append,List.foldl_append,fold_other (fun x hx=>names_nd he rfl (.inl hx)),seg_own,fold_other (fun x hx=>names_nd he rfl (.inr hx))]
 rfl
theorem dom_own {D:List Dev} (he:devsE D=0) {d:Dev} (hd:d∈D) (b:Bs):mapD2 (keysD D) (.q d.name b)=mapD d.regs (.s b):=by
 rw [Bool.eq_iff_iff]
 unfold mapD2 mapD
 rw [List.any_eq_true,List.any_eq_true]
 constructor
 ·rintro ⟨e,h1,h2⟩
  simp only [decide_eq_true_eq,MK.q.injEq] at h2
  obtain ⟨x,hx,h3⟩:=List.mem_flatMap.1 h1
  obtain ⟨r,hr,rfl⟩:=List.mem_map.1 h3
  simp only at h2
  have hxd:x=d:=by
   obtain ⟨D1,D2,rfl⟩:=List.append_of_mem hd
   rcases List.mem_append.1 hx with h | h
   ·exact absurd h2.1.symm (names_nd he rfl (.inl h))
   ·rcases List.mem_cons.1 h with h | h
    ·exact h
    ·exact absurd h2.1.symm (names_nd he rfl (.inr h))
  subst hxd
  exact ⟨r,hr,by simp [h2.2]⟩
 ·rintro ⟨r,hr,h2⟩
  simp only [decide_eq_true_eq,MK.s.injEq] at h2
  exact ⟨(d.name,r),List.mem_flatMap.2 ⟨d,hd,List.mem_map.2 ⟨r,hr,rfl⟩⟩,by simp [h2]⟩
theorem dom_none {D:List Dev} {a b:Bs} (h:∀ d∈D,d.name≠a):mapD2 (keysD D) (.q a b)=false:=by
 unfold mapD2
 rw [List.any_eq_false]
 intro e he
 obtain ⟨x,hx,h3⟩:=List.mem_flatMap.1 he
 obtain ⟨r,hr,rfl⟩:=List.mem_map.1 h3
 have:=h x hx
 simp
 intro e
 exact absurd e.symm this
theorem mapD2_off {L:List KR} {q:MK} (h:∀ a b,q≠.q a b):mapD2 L q=false:=by
 unfold mapD2
 rw [List.any_eq_false]
 intro e _
 simp only [decide_eq_true_eq]
 exact h _ _
theorem portsK_at {D:List Dev} {f:(Nat→Bool) × (Nat→Bool)} {k:Nat} (hk:k<D.length):(portsK D f D.length)[k]?=some (port0 (D.getD k dev0) (f.1 k) (f.2 k)):=by
 unfold portsK
 rw [List.getElem?_map,List.getElem?_range hk]
 rfl
theorem portsK_ap {D:List Dev} (he:devsE D=0) (f:(Nat→Bool) × (Nat→Bool)):Apart (portsK D f D.length):=by
 intro j k p q hp hq hn
 have hj:j<D.length:=by have:=(List.getElem?_eq_some_iff.1 hp).1; rwa [portsK_len] at this
 have hk:k<D.length:=by have:=(List.getElem?_eq_some_iff.1 hq).1; rwa [portsK_len] at this
 rw [portsK_at hj] at hp
 rw [portsK_at hk] at hq
 injection hp with hp
 injection hq with hq
 subst hp
 subst hq
 simp only [port0] at hn
 rcases Nat.lt_trichotomy j k with h | h | h
 ·exact absurd hn (names_ne he h hk)
 ·exact h
 ·exact absurd hn.symm (names_ne he h hj)
theorem portsK_R {D:List Dev} (he:devsE D=0) (hS:∀ d∈D,DevS d) (f:(Nat→Bool) × (Nat→Bool)):RelR D (portsK D f D.length):=by
 refine ⟨portsK_len _ _ _,fun k q hq=>?_,portsK_ap he f,fun q hq=>?_⟩
 ·have hk:k<D.length:=by have:=(List.getElem?_eq_some_iff.1 hq).1; rwa [portsK_len] at this
  rw [portsK_at hk] at hq
  injection hq with hq
  subst hq
  have hm:D.getD k dev0∈D:=by rw [List.getD_eq_getElem?_getD,List.getElem?_eq_getElem hk]; exact List.getElem_mem _
  exact ⟨rfl,⟨devR_of he _ hm,devN_of he _ hm,rfl,rfl⟩,port0_V (devR_of he _ hm) _ _⟩
 ·unfold portsK at hq
  obtain ⟨j,hj,rfl⟩:=List.mem_map.1 hq
  have hj':=List.mem_range.1 hj
  exact hS _ (by show D.getD j dev0∈D; rw [List.getD_eq_getElem?_getD,List.getElem?_eq_getElem hj']; exact List.getElem_mem _)
theorem new_maps {D:List Dev} (he:devsE D=0) (f:(Nat→Bool) × (Nat→Bool)) (q:MK) :
  (mapD2 (keysD D) q=inD (portsK D f D.length) q∧(mapD2 (keysD D) q=true→mapV2 (keysD D) q=inV (portsK D f D.length) q)) ∧
  (mapD2 (keysD D) q=outD (portsK D f D.length) q∧(mapD2 (keysD D) q=true→mapV2 (keysD D) q=outM (portsK D f D.length) q)):=by
 cases q with
 | q a b =>
  by_cases ha:∃ k,k<D.length∧(D.getD k dev0).name=a
  ·obtain ⟨k,hk,rfl⟩:=ha
   have hm:D.getD k dev0∈D:=by rw [List.getD_eq_getElem?_getD,List.getElem?_eq_getElem hk]; exact List.getElem_mem _
   have hat:=atP_at (portsK_ap he f) (portsK_at (f:=f) hk)
   have hat':atP (portsK D f D.length) (D.getD k dev0).name=some (port0 (D.getD k dev0) (f.1 k) (f.2 k)):=hat
   rw [dom_own he hm,val_own he hm]
   simp [inD,inV,outD,outM,hat',port0,-List.getD_eq_getElem?_getD]
  ·have hno:∀ d∈D,d.name≠a:=fun d hd hn=>by
    obtain ⟨i,hi,rfl⟩:=List.getElem_of_mem hd
    exact ha ⟨i,hi,by rw [List.getD_eq_getElem?_getD,List.getElem?_eq_getElem hi]; exact hn⟩
   have hat:atP (portsK D f D.length) a=none:=by
    unfold atP
    rw [List.find?_eq_none]
    intro p hp
    unfold portsK at hp
    obtain ⟨j,hj,rfl⟩:=List.mem_map.1 hp
    have hj':=List.mem_range.1 hj
    simp only [port0,beq_iff_eq]
    exact hno _ (by rw [List.getD_eq_getElem?_getD,List.getElem?_eq_getElem hj']; exact List.getElem_mem _)
   rw [dom_none hno]
   simp [inD,outD,hat]
 | i n=>rw [mapD2_off (by simp)]; exact ⟨⟨rfl,fun h=>by cases h⟩,⟨rfl,fun h=>by cases h⟩⟩
 | s n=>rw [mapD2_off (by simp)]; exact ⟨⟨rfl,fun h=>by cases h⟩,⟨rfl,fun h=>by cases h⟩⟩
 | p n m=>rw [mapD2_off (by simp)]; exact ⟨⟨rfl,fun h=>by cases h⟩,⟨rfl,fun h=>by cases h⟩⟩
open Go.RowKit
def NH (c : Nat) (n0 : Bool) (n1 n2 : Nat → Bool) (D : List Dev) (k : Nat) (L : List KR) : Heap :=
  [(c,some (.box 104 [.lit n0 D.length (devP n1 n2 D),.int .i64 0,.sl (c + 1) 0 D.length,.sl (c + 2) 0 k,.mp (c + 3),.mp (c + 4)])),
   (c + 1,some (.arr 9 D.length [.s fun _ => []])),
   (c + 2,some (.arr 9 k [.s fun _ => [48]])),
   (c + 3,some (.map .q (mapD2 L) (.s (mapV2 L)))),
   (c + 4,some (.map .q (mapD2 L) (.s (mapV2 L))))]
set_option maxHeartbeats 16000000 in
theorem newPort_I (n0:Bool) (n1 n2:Nat→Bool) (D:List Dev) (f:(Nat→Bool) × (Nat→Bool)) (nid:Nat) (hD:D.length≤1000) (hS:∀ d∈D,DevS d) (he:devsE D=0) :
  ACallIW Tryz.prog 5 26 [.lit n0 D.length (devP n1 n2 D)] [] nid (fun _:Unit=>True) (fun _=>.ptr nid 0) (fun _=>RH nid n0 n1 n2 D 0 (portsK D f D.length)):=by
 have hR:=devR_of he
 refine acallIW_sr c26 (by simp [a26]) ?_
 unfold a26
 refine SR.seq ?_
 simp -dsimp only [aqA,↓seqK,↓blkK,↓loopK,step,stepBin,eqB,Nat.add_assoc nid,simprocAttr,LN_succ]
 refine SR.seqTo ⟨[(3,.ptr nid 0),(0,.lit n0 D.length (devP n1 n2 D))],NH nid n0 n1 n2 D 0 (keysD (D.take 0)),nid+100,nid⟩ ?_ ?_
 ·simp -dsimp only [aqA,↓seqK,↓blkK,↓loopK,step,stepBin,eqB,Nat.add_assoc nid,simprocAttr,LN_succ,mNew]
  refine ⟨⟨by omega,by omega,by omega⟩,?_⟩
  refine Cov.go [(nid,nid+32),(nid+1,nid+16),(nid+3,nid+20),(nid+4,nid+24)] [(nid+2,1)] ?_
  simp [cvT,step,res,NH,keysD,mapD2,mapV2,ColsEq.refl,Col.const]
 refine SR.seqW (ι:=Unit) (fun _=>⟨[(3,.ptr nid 0)],NH nid n0 n1 n2 D D.length (keysD D),nid+90000,nid⟩) ?_ (fun _=>?_)
 ·refine SR.seqTo ⟨[(19,.int .i64 0),(18,.int .i64 D.length),(17,.lit n0 D.length (devP n1 n2 D)),(3,.ptr nid 0)],NH nid n0 n1 n2 D 0 (keysD (D.take 0)),nid+150,nid⟩ ?_ ?_
  ·unfold NH
   simp -dsimp only [aqA,↓seqK,↓blkK,↓loopK,step,stepBin,eqB,Nat.add_assoc nid,simprocAttr,LN_succ]
   refine Cov.go [] [] ?_
   simp [cvT,step,res,ColsEq.refl]
  refine SR.block ?_
  refine SR.loopP (fun k:Nat=>k≤D.length) (fun k=>⟨[(19,.int .i64 k),(18,.int .i64 D.length),(17,.lit n0 D.length (devP n1 n2 D)),(3,.ptr nid 0)],NH nid n0 n1 n2 D k (keysD (D.take k)),nid+200,nid⟩) (fun k=>D.length+1 - k) 0 (by omega) ?_ (fun k hk=>?_)
  ·refine Cov.go [] [] ?_
   simp [cvT,step,res,NH,ColsEq.refl,MEq.refl]
  refine SR.seq ?_
  simp -dsimp only [aqA,↓seqK,↓blkK,↓loopK,step,stepBin,eqB,Nat.add_assoc nid,simprocAttr,LN_succ]
  refine SR.seq ?_
  simp -dsimp only [aqA,↓seqK,↓blkK,↓loopK,step,stepBin,eqB,Nat.add_assoc nid,simprocAttr,LN_succ]
  refine S2.dec (fun h3=>?_) (fun h3=>?_) <;> simp -dsimp only [aqA,↓seqK,↓blkK,↓loopK,step,stepBin,eqB,Nat.add_assoc nid,simprocAttr,LN_succ]
  ·have hkl:k<D.length:=by omega
   have hm:D.getD k dev0∈D:=by rw [List.getD_eq_getElem?_getD,List.getElem?_eq_getElem hkl]; exact List.getElem_mem _
   have hb:=hS _ hm
   have hr1:=hR _ hm
   have hrl:=hb.rl
   refine SR.seqW (ι:=Unit) (fun _=>⟨[(19,.int .i64 k),(18,.int .i64 D.length),(17,.lit n0 D.length (devP n1 n2 D)),(3,.ptr nid 0)],NH nid n0 n1 n2 D (k+1) (keysD (D.take (k+1))),nid+9000,nid⟩) ?_ (fun _=>?_)
   ·refine SR.block ?_
    refine SR.seqTo ⟨[(5,.ptr (nid+300) 0),(19,.int .i64 k),(18,.int .i64 D.length),(17,.lit n0 D.length (devP n1 n2 D)),(3,.ptr nid 0)],(nid+300,boxL (n1 k) (n2 k) (D.getD k dev0))::NH nid n0 n1 n2 D k (keysD (D.take k)),nid+400,nid⟩ ?_ ?_
    ·unfold NH devP
     simp -dsimp only [aqA,↓seqK,↓blkK,↓loopK,step,stepBin,eqB,Nat.add_assoc nid,simprocAttr,LN_succ]
     refine ⟨⟨by omega,by omega⟩,?_⟩
     refine Cov.go [(nid+300,nid+212)] [] ?_
     simp [cvT,step,res,boxL,litRg,litIn,ColsEq.refl,MEq.refl,-List.getD_eq_getElem?_getD]
    generalize hx:D.getD k dev0=x at *
    refine SR.seqTo ⟨[(5,.ptr (nid+300) 0),(19,.int .i64 k),(18,.int .i64 D.length),(17,.lit n0 D.length (devP n1 n2 D)),(3,.ptr nid 0)],(nid+300,boxL (n1 k) (n2 k) x)::NH nid n0 n1 n2 D (k+1) (keysD (D.take k)),nid+500,nid⟩ ?_ ?_
    ·unfold NH
     simp -dsimp only [aqA,↓seqK,↓blkK,↓loopK,step,stepBin,eqB,Nat.add_assoc nid,simprocAttr,LN_succ]
     refine ⟨⟨by omega,by omega⟩,Cov.go [(nid+2,nid+424)] [] ?_⟩
     simp [cvT,step,res,boxL,litRg,litIn,ColsEq.refl,MEq.refl,-List.getD_eq_getElem?_getD]
     refine ColEq.s fun j hj=>?_
     by_cases hjk:j<k
     ·rw [if_pos hjk]
     ·have e:j=k:=by omega
      rw [if_neg hjk,e,Nat.sub_self]
      rfl
    have htk1:=keysD_take hkl
    rw [hx] at htk1
    rw [htk1]
    generalize keysD (D.take k)=L at *
    refine SR.seqTo ⟨[(33,litRg (n1 k) x.regs),(35,.int .i64 0),(34,.int .i64 x.regs.length),(5,.ptr (nid+300) 0),(19,.int .i64 k),(18,.int .i64 D.length),(17,.lit n0 D.length (devP n1 n2 D)),(3,.ptr nid 0)],(nid+300,boxL (n1 k) (n2 k) x)::NH nid n0 n1 n2 D (k+1) L,nid+550,nid⟩ ?_ ?_
    ·unfold NH boxL litRg litIn
     simp -dsimp only [aqA,↓seqK,↓blkK,↓loopK,step,stepBin,eqB,Nat.add_assoc nid,simprocAttr,LN_succ]
     refine Cov.go [] [] ?_
     simp [cvT,step,res,ColsEq.refl,MEq.refl,-List.getD_eq_getElem?_getD]
    refine SR.block ?_
    refine SR.loopP (fun j:Nat=>j≤x.regs.length) (fun j=>⟨[(33,litRg (n1 k) x.regs),(35,.int .i64 (j:Nat)),(34,.int .i64 x.regs.length),(5,.ptr (nid+300) 0),(19,.int .i64 k),(18,.int .i64 D.length),(17,.lit n0 D.length (devP n1 n2 D)),(3,.ptr nid 0)],(nid+300,boxL (n1 k) (n2 k) x)::NH nid n0 n1 n2 D (k+1) (L++(x.regs.take j).map fun r=>(x.name,r)),nid+600,nid⟩) (fun j=>x.regs.length+1 - j) 0 (by omega) ?_ (fun j hj=>?_)
    ·refine Cov.go [] [] ?_
     simp [cvT,step,res,NH,boxL,litRg,litIn,ColsEq.refl,MEq.refl,-List.getD_eq_getElem?_getD]
    refine SR.seq ?_
    simp -dsimp only [aqA,↓seqK,↓blkK,↓loopK,step,stepBin,eqB,Nat.add_assoc nid,simprocAttr,LN_succ]
    refine SR.seq ?_
    simp -dsimp only [aqA,↓seqK,↓blkK,↓loopK,step,stepBin,eqB,Nat.add_assoc nid,simprocAttr,LN_succ]
    refine S2.dec (fun h4=>?_) (fun h4=>?_) <;> simp -dsimp only [aqA,↓seqK,↓blkK,↓loopK,step,stepBin,eqB,Nat.add_assoc nid,simprocAttr,LN_succ]
    ·have hjl:j<x.regs.length:=by omega
     have hrm:x.regs.getD j reg0∈x.regs:=by rw [List.getD_eq_getElem?_getD,List.getElem?_eq_getElem hjl]; exact List.getElem_mem _
     have hr2:=hr1.rs _ hrm
     have hrs:=(hb.rs _ hrm).1
     have hnm:=hb.nm
     have htk:(x.regs.take (j+1)).map (fun r=>((x.name,r):KR))=(x.regs.take j).map (fun r=>(x.name,r))++[(x.name,x.regs.getD j reg0)]:=by rw [List.take_add_one,List.getElem?_eq_getElem hjl,List.getD_eq_getElem?_getD,List.getElem?_eq_getElem hjl,Option.toList_some,List.map_append]; rfl
     obtain ⟨N,hN⟩:∃ N:Nat,(x.regs.getD j reg0).2=N:=⟨_,(Int.toNat_of_nonneg (by omega)).symm⟩
     refine SR.seqW (ι:=Unit) (fun _=>⟨[(33,litRg (n1 k) x.regs),(35,.int .i64 (j:Nat)),(34,.int .i64 x.regs.length),(5,.ptr (nid+300) 0),(19,.int .i64 k),(18,.int .i64 D.length),(17,.lit n0 D.length (devP n1 n2 D)),(3,.ptr nid 0)],(nid+300,boxL (n1 k) (n2 k) x)::NH nid n0 n1 n2 D (k+1) (L++(x.regs.take (j+1)).map fun r=>(x.name,r)),nid+2000,nid⟩) ?_ (fun _=>?_)
     ·refine SR.block ?_
      refine SR.seqTo ⟨[(7,.ptr (nid+700) 0),(33,litRg (n1 k) x.regs),(35,.int .i64 (j:Nat)),(34,.int .i64 x.regs.length),(5,.ptr (nid+300) 0),(19,.int .i64 k),(18,.int .i64 D.length),(17,.lit n0 D.length (devP n1 n2 D)),(3,.ptr nid 0)],(nid+700,boxRg (x.regs.getD j reg0))::(nid+300,boxL (n1 k) (n2 k) x)::NH nid n0 n1 n2 D (k+1) (L++(x.regs.take j).map fun r=>(x.name,r)),nid+800,nid⟩ ?_ ?_
      ·unfold NH boxL litRg litIn
       simp -dsimp only [aqA,↓seqK,↓blkK,↓loopK,step,stepBin,eqB,Nat.add_assoc nid,simprocAttr,LN_succ]
       refine ⟨⟨by omega,by omega⟩,Cov.go [(nid+700,nid+612)] [] ?_⟩
       simp [cvT,step,res,boxRg,ColsEq.refl,MEq.refl,-List.getD_eq_getElem?_getD]
      rw [htk,← List.append_assoc]
      generalize L++(x.regs.take j).map (fun r=>((x.name,r):KR))=L2 at *
      generalize x.regs.getD j reg0=r at *
      refine SR.seqTo ⟨[(8,.str (List.replicate N 48)),(7,.ptr (nid+700) 0),(33,litRg (n1 k) x.regs),(35,.int .i64 (j:Nat)),(34,.int .i64 x.regs.length),(5,.ptr (nid+300) 0),(19,.int .i64 k),(18,.int .i64 D.length),(17,.lit n0 D.length (devP n1 n2 D)),(3,.ptr nid 0)],(nid+700,boxRg r)::(nid+300,boxL (n1 k) (n2 k) x)::NH nid n0 n1 n2 D (k+1) L2,nid+900,nid⟩ ?_ ?_
      ·unfold NH boxL litRg litIn boxRg
       simp -dsimp only [aqA,↓seqK,↓blkK,↓loopK,step,stepBin,eqB,Nat.add_assoc nid,simprocAttr,LN_succ]
       rw [hN]
       refine CallO.pure (repeat_cc [48] N _ (by omega) (by simp; omega)) ?_
       rw [rep48]
       simp -dsimp only [aqA,↓seqK,↓blkK,↓loopK,step,stepBin,eqB,Nat.add_assoc nid,simprocAttr,LN_succ]
       refine Cov.go [] [] ?_
       rw [← hN]
       simp [cvT,step,res,boxRg,ColsEq.refl,MEq.refl,-List.getD_eq_getElem?_getD]
      refine SR.run (t:=.mk) ?_
      unfold NH boxL litRg litIn boxRg
      simp -dsimp only [aqA,↓seqK,↓blkK,↓loopK,step,stepBin,eqB,Nat.add_assoc nid,simprocAttr,LN_succ,mkKey,mGet,mPut,keyIn,opXs]
      refine ⟨⟨by omega,by omega⟩,⟨by omega,by omega⟩,(),?_⟩
      have hrt:r.2.toNat=N:=by omega
      refine Cov.go [] [] ?_
      simp [cvT,step,res,NH,boxL,litRg,litIn,mapD2_snoc,mapV2_snoc,hrt,rep48,ColsEq.refl,MEq.refl,-List.getD_eq_getElem?_getD]
      exact fun q _ _=>by simp [mVal,mapV2_snoc,hrt,rep48]
     ·refine SR.run (t:=.mk) ?_
      unfold NH boxL litRg litIn
      simp -dsimp only [aqA,↓seqK,↓blkK,↓loopK,step,stepBin,eqB,Nat.add_assoc nid,simprocAttr,LN_succ]
      refine ⟨by unfold inI64; omega,j+1,⟨by omega,by omega⟩,?_⟩
      refine Cov.go [] [] ?_
      simp [cvT,step,res,NH,ColsEq.refl,MEq.refl,-List.getD_eq_getElem?_getD]
    ·have hjn:j=x.regs.length:=by omega
     subst hjn
     rw [List.take_length]
     refine ⟨(),?_⟩
     unfold NH
     refine Cov.go [] [] ?_
     simp [cvT,step,res,ColsEq.refl,MEq.refl]
   ·refine SR.run (t:=.mk) ?_
    unfold NH
    simp -dsimp only [aqA,↓seqK,↓blkK,↓loopK,step,stepBin,eqB,Nat.add_assoc nid,simprocAttr,LN_succ]
    refine ⟨by unfold inI64; omega,k+1,⟨by omega,by omega⟩,?_⟩
    refine Cov.go [] [] ?_
    simp [cvT,step,res,ColsEq.refl,MEq.refl]
  ·have hkn:k=D.length:=by omega
   subst hkn
   rw [List.take_length]
   refine ⟨(),?_⟩
   unfold NH
   refine Cov.go [] [] ?_
   simp [cvT,step,res,ColsEq.refl,MEq.refl]
 refine SR.run (t:=.mk) ?_
 unfold NH
 simp -dsimp only [aqA,↓seqK,↓blkK,↓loopK,step,stepBin,eqB,Nat.add_assoc nid,simprocAttr,LN_succ]
 refine ⟨(),RetOKW.go [] [] (.inl rfl) ?_⟩
 have hnm:=new_maps he f
 have hlen:=portsK_len D f D.length
 have hat:=fun j (hj:j<D.length)=>pGet (portsK_at (f:=f) hj)
 generalize portsK D f D.length=P at *
 unfold RH
 simp [a26,cvT,step,res,ColsEq.refl,-List.getD_eq_getElem?_getD]
 exact ⟨ColEq.s fun j hj=>by rw [hat j hj]; rfl,ColEq.s fun j hj=>by rw [hat j hj]; rfl,fun q _=>⟨(hnm q).1.1,fun hd=>by simp [mVal,(hnm q).1.2 hd]⟩,fun q _=>⟨(hnm q).2.1,fun hd=>by simp [mVal,(hnm q).2.2 hd]⟩⟩
open Go.RowKit
open Go.RowKit
set_option maxHeartbeats 4000000 in
theorem new_bad (n0:Bool) (n1 n2:Nat→Bool) (D:List Dev) (nid:Nat) (hD:D.length≤1000) (hS:∀ d∈D,DevS d) (he:devsE D≠0) :
  ACall Tryz.prog 25 [.lit n0 D.length (devP n1 n2 D)] [] nid (.tup [.nilp,.int .i64 (devsE D)]) []:=by
 have hck:=fun m=>checkDevices_c n0 n1 n2 D m hD hS
 have hb:(devsE D != 0)=true:=by rw [bne_iff_ne]; exact he
 refine acall_sr c25 (by simp [a25]) ?_
 unfold a25
 refine SR.seq ?_
 simp -dsimp only [aqA,↓seqK,↓blkK,↓loopK,step,stepBin,eqB,Nat.add_assoc nid,simprocAttr,LN_succ]
 refine SR.seq ?_
 simp -dsimp only [aqA,↓seqK,↓blkK,↓loopK,step,stepBin,eqB,Nat.add_assoc nid,simprocAttr,LN_succ]
 refine CallO.pure (hck _) ?_
 simp -dsimp only [aqA,↓seqK,↓blkK,↓loopK,step,stepBin,eqB,Nat.add_assoc nid,simprocAttr,LN_succ,hb]
 refine RetOK.go [] [] (.inl rfl) ?_
 simp [a25,cvT,step,res]
open Go.RowKit
open Go.RowKit
theorem tappedR_c (nid:Nat):ACall Tryz.prog 24 [] [] nid (.bool true) []:=by
 refine acall_run c24 (by simp [a24]) ?_
 simp -dsimp only [aqA,↓seqK,↓blkK,↓loopK,step,stepBin,eqB,Nat.add_assoc nid,simprocAttr,a24]
 refine CallO.pure (path41_c _) ?_
 simp -dsimp only [aqA,↓seqK,↓blkK,↓loopK,step,stepBin,eqB,Nat.add_assoc nid,simprocAttr]
 have e:(([49,49,48]:List UInt8)==[49,49,48])=true:=by decide
 refine RetOK.pure (.inl rfl) rfl ?_
 simp [cvT,step,res]
open Go.RowKit
set_option maxHeartbeats 32000000 in
theorem chainsClocked_c (nl:Bool) (A:List Int) (nid:Nat) (hA:A.length≤17592186044416):ACall Tryz.prog 4 [litI nl A] [] nid (.bool true) []:=by
 refine acall_sr c4 (by simp [a4]) ?_
 unfold a4 litI
 refine SR.seq ?_
 simp -dsimp only [aqA,↓seqK,↓blkK,↓loopK,step,stepBin,eqB,Nat.add_assoc nid,simprocAttr,LN_succ]
 refine SR.seqTo ⟨[(3,.ptr (nid+12) 0)],[(nid+12,strmC nl A 0)],nid+50,nid⟩ ?_ ?_
 ·simp -dsimp only [aqA,↓seqK,↓blkK,↓loopK,step,stepBin,eqB,Nat.add_assoc nid,simprocAttr,LN_succ]
  refine Cov.go [] [] ?_
  simp [cvT,step,res,strmC,-List.getD_eq_getElem?_getD]
 refine SR.seqEx (ι:={x:DvX // DevB 2 x.D∧x.q≤60}) (fun x=>⟨[(4,.lit x.1.n0 x.1.D.length (devP x.1.n1 x.1.n2 x.1.D)),(3,.ptr (nid+12) 0)],[(nid+12,strmC nl A x.1.q)],nid+200,nid⟩) ?_ (fun ⟨x,hB,hq⟩=>?_)
 ·simp -dsimp only [aqA,↓seqK,↓blkK,↓loopK,step,stepBin,eqB,Nat.add_assoc nid,simprocAttr,LN_succ,strmC_low]
  refine CallO.any (devices_I (nid+12) _ nl A 0 2 (by omega) (by omega) hA (by omega) (by omega)) (subH_get (by simp only [aqA,↓seqK,↓blkK,↓loopK,step,stepBin,eqB,Nat.add_assoc nid,simprocAttr,LN_succ])) (fun x hx=>?_)
  simp -dsimp only [aqA,↓seqK,↓blkK,↓loopK,step,stepBin,eqB,Nat.add_assoc nid,simprocAttr,LN_succ,strmC_low]
  refine ⟨⟨x,hx.1,by omega⟩,Cov.go [] [] ?_⟩
  simp [cvT,step,res,strmC,ColsEq.refl]
 obtain ⟨n0,n1,n2,D,q0⟩:=x
 simp only at hB hq ⊢
 have hl3:=hB.len
 have hS:∀ d∈D,DevS d:=fun d hd=>(hB.ok d hd).s
 have hdf:=fun m=>devsFault_c n0 n1 n2 D m (by omega) hS
 by_cases he:devsE D=0
 rotate_left
 ·have b1:(devsE D != 0)=true:=by rw [bne_iff_ne]; exact he
  have hnb:=fun m=>new_bad n0 n1 n2 D m (by omega) hS he
  generalize devsE D=F at *
  have hcl:ColsEq D.length (devP n1 n2 D) (devP n1 n2 D):=ColsEq.refl _ _
  refine SR.seqTo ⟨[(5,.nilp),(6,.int .i64 F),(4,.lit n0 D.length (devP n1 n2 D))],[],nid+300,nid⟩ ?_ ?_
  ·simp -dsimp only [aqA,↓seqK,↓blkK,↓loopK,step,stepBin,eqB,Nat.add_assoc nid,simprocAttr,LN_succ,strmC_low]
   refine CallO.pure (hnb _) ?_
   simp -dsimp only [aqA,↓seqK,↓blkK,↓loopK,step,stepBin,eqB,Nat.add_assoc nid,simprocAttr,LN_succ,strmC_low]
   refine Cov.go [] [] ?_
   simp [cvT,step,res,ColsEq.refl]
  refine SR.seq ?_
  simp -dsimp only [aqA,↓seqK,↓blkK,↓loopK,step,stepBin,eqB,Nat.add_assoc nid,simprocAttr,LN_succ]
  refine CallO.pure (hdf _) ?_
  simp -dsimp only [aqA,↓seqK,↓blkK,↓loopK,step,stepBin,eqB,Nat.add_assoc nid,simprocAttr,LN_succ]
  simp -dsimp only [aqA,↓seqK,↓blkK,↓loopK,step,stepBin,eqB,Nat.add_assoc nid,simprocAttr,LN_succ,b1]
  refine CallO.pure (tappedR_c _) ?_
  simp -dsimp only [aqA,↓seqK,↓blkK,↓loopK,step,stepBin,eqB,Nat.add_assoc nid,simprocAttr,LN_succ]
  refine RetOK.go [] [] (.inl rfl) ?_
  simp [a4,cvT,step,res]
 have hlen:0<D.length:=by
  rcases Nat.eq_zero_or_pos D.length with h | h
  ·unfold devsE at he; rw [if_pos h] at he; cases he
  ·exact h
 have hR:=devR_of he
 have hS2:∀ d∈D,DevS d∧∀ r∈d.regs,0≤r.2∧r.2≤1000:=fun d hd=>⟨hS d hd,fun r hr=>by have:=(hR d hd).rs r hr; omega⟩
 refine SR.seqMvCallW (k:=11) (Hs:=[]) (by omega) (fun id b h=>by cases h) (new_I n0 n1 n2 D (nid+204) hlen (by omega) hS2 he) (fun f _=>?_)
 have hok:=portsK_ok he f
 have hPR:=portsK_R he hS f
 have hch:chainH (nid+204) 0 (portsK D f D.length)=chH (nid+204) ⟨0,portsK D f D.length⟩:=rfl
 rw [hch]
 have hnp:=fun m=>newPort_I n0 n1 n2 D f m (by omega) hS he
 have hRX:∀ m,RH m n0 n1 n2 D 0 (portsK D f D.length)=RX m n0 n1 n2 D ⟨0,portsK D f D.length⟩:=fun m=>rfl
 simp only [hRX] at hnp
 clear hch hRX
 have hPR':RelR D (ChV.P ⟨0,portsK D f D.length⟩):=hPR
 clear hPR
 generalize (⟨0,portsK D f D.length⟩:ChV)=y at *
 have hsc:∀ (z:ChV),ChOk D.length z→∀ m,nid+215≤m→Scoped m (chH (nid+204) z):=fun z hz m hm=>chainH_scoped (nid+204) m z.st z.P (by rw [hz.len]; omega) hm
 have hoff:=chH_off (c:=nid+204) (s:=nid+12) (x:=y) (by omega)
 have hsy:=Scoped.cons (b:=nid+300) (i:=nid+12) (c:=strmC nl A q0) (by omega) rfl (hsc y hok (nid+300) (by omega))
 have hsw:=subH_swap (A:=strmC nl A q0) hoff
 have inC:=chH_in (nid+204) y (by rw [hok.len]; omega)
 generalize hH:chH (nid+204) y=Hs at *
 simp -dsimp only [aqA,↓seqK,↓blkK,↓loopK,step,stepBin,eqB,Nat.add_assoc nid,simprocAttr,LN_succ,strmC_low]
 refine SR.cov (t':=.mk) (st':=⟨[(5,.ptr (nid+204) 0),(6,.int .i64 0),(4,.lit n0 D.length (devP n1 n2 D)),(3,.ptr (nid+12) 0)],(nid+12,strmC nl A q0)::Hs,nid+400,nid⟩) ?_ ?_
 ·refine Cov.wholeG (nid+300) (by omega) hsy hsw (by omega) ?_
  simp [cvT,step,res,ColsEq.refl]
 clear hsw
 rw [he] at hdf
 refine SR.seqTo ⟨[(7,.int .i64 0),(5,.ptr (nid+204) 0),(6,.int .i64 0),(4,.lit n0 D.length (devP n1 n2 D)),(3,.ptr (nid+12) 0)],(nid+12,strmC nl A q0)::Hs,nid+420,nid⟩ ?_ ?_
 ·simp -dsimp only [aqA,↓seqK,↓blkK,↓loopK,step,stepBin,eqB,Nat.add_assoc nid,simprocAttr,LN_succ]
  refine CallO.pure (hdf _) ?_
  simp -dsimp only [aqA,↓seqK,↓blkK,↓loopK,step,stepBin,eqB,Nat.add_assoc nid,simprocAttr,LN_succ]
  refine Cov.wholeG (nid+300) (by omega) hsy (subH_refl _) (by omega) ?_
  simp [cvT,step,res,ColsEq.refl]
 refine SR.seqTo ⟨[(5,.ptr (nid+204) 0),(4,.lit n0 D.length (devP n1 n2 D)),(3,.ptr (nid+12) 0)],(nid+12,strmC nl A q0)::Hs,nid+496,nid⟩ ?_ ?_
 ·simp -dsimp only [aqA,↓seqK,↓blkK,↓loopK,step,stepBin,eqB,Nat.add_assoc nid,simprocAttr,LN_succ]
  refine Cov.wholeG (nid+300) (by omega) hsy (subH_refl _) (by omega) ?_
  simp [cvT,step,res,ColsEq.refl]
 refine SR.seqMvCallW (k:=5) (Hs:=[]) (by omega) (fun id b h=>by cases h) (hnp (nid+500)) (fun _ _=>?_)
 have inR:=RX_in (nid+500) n0 n1 n2 D y
 have hWs:∀ (q:Nat) (z z':ChV),ChOk D.length z→Scoped (nid+510) (WH (nid+12) (nid+204) (nid+500) nl A n0 n1 n2 D q z z'):=fun q z z' hz=>WH_scoped (nid+12) (nid+204) (nid+500) nl A n0 n1 n2 D (by omega) (by omega) (nid+510) q z z' (by rw [hz.len]; omega) (by omega)
 simp -dsimp only [aqA,↓seqK,↓blkK,↓loopK,step,stepBin,eqB,Nat.add_assoc nid,simprocAttr,LN_succ]
 refine SR.cov (t':=.mk) (st':=⟨[(8,.ptr (nid+500) 0),(5,.ptr (nid+204) 0),(3,.ptr (nid+12) 0)],WH (nid+12) (nid+204) (nid+500) nl A n0 n1 n2 D q0 y y,nid+600,nid⟩) ?_ ?_
 ·have wS:subH [(nid+12,strmC nl A q0)] ((nid+12,strmC nl A q0)::Hs):=subH_hit _ _ _
  have wC:subH (chH (nid+204) y) ((nid+12,strmC nl A q0)::Hs):=by
   rw [hH]
   refine subH_skip inC (by omega) (subH_refl _)
  refine Cov.wholeG (nid+510) (by omega) (hWs q0 y y hok) ?_ (by omega) ?_
  ·refine WH_of _ _ _ _ _ _ _ _ _ ?_ ?_ ?_
   ·exact subH_past inR (InR.one _ _) (by omega) wS
   ·exact subH_past inR (by rw [hH]; exact inC) (by omega) wC
   ·exact subH_front _ _
  ·simp [cvT,step,res,ColsEq.refl]
 clear hsy hoff hsc hnp hdf inC inR hH
 refine SR.seqW (ι:=Unit) (fun _=>⟨[],[],nid+90000,nid⟩) ?_ (fun _=>?_)
 ·have hRb:=rangeV_bd A q0 (lo:=1) (hi:=20) (by decide)
  obtain ⟨R,hR0⟩:∃ R:Nat,rangeV A q0 1 20=R:=⟨_,(Int.toNat_of_nonneg (by omega)).symm⟩
  rw [hR0] at hRb
  refine SR.seqTo ⟨[(43,.int .i64 0),(42,.int .i64 (R:Nat)),(8,.ptr (nid+500) 0),(5,.ptr (nid+204) 0),(3,.ptr (nid+12) 0)],WH (nid+12) (nid+204) (nid+500) nl A n0 n1 n2 D (q0+1) y y,nid+700,nid⟩ ?_ ?_
  ·have inC:=chH_in (nid+204) y (by rw [hok.len]; omega)
   have inR:=RX_in (nid+500) n0 n1 n2 D y
   have wC:=WH_c (nid+12) (nid+204) (nid+500) nl A n0 n1 n2 D (by omega) (by omega) q0 y y (by rw [hok.len]; omega)
   have wR:=WH_r (nid+12) (nid+204) (nid+500) nl A n0 n1 n2 D (by omega) (by omega) q0 y y (by rw [hok.len]; omega)
   have wS:=WH_s (nid+12) (nid+204) (nid+500) nl A n0 n1 n2 D (by omega) (by omega) q0 y y
   have wq:=hWs (q0+1) y y hok
   generalize WH (nid+12) (nid+204) (nid+500) nl A n0 n1 n2 D q0 y y=W at *
   simp -dsimp only [aqA,↓seqK,↓blkK,↓loopK,step,stepBin,eqB,Nat.add_assoc nid,simprocAttr,LN_succ]
   refine CallO.on (range_c (nid+12) _ nl A q0 1 20 (by omega) (by omega) hA (by decide) (by decide) (by decide)) wS ?_
   rw [hR0]
   simp -dsimp only [aqA,↓seqK,↓blkK,↓loopK,step,stepBin,eqB,Nat.add_assoc nid,simprocAttr,LN_succ]
   refine Cov.wholeG (nid+510) (by omega) wq ?_ (by omega) ?_
   ·refine WH_of _ _ _ _ _ _ _ _ _ (subH_hit _ _ _) (subH_skip inC (by omega) wC) (subH_skip inR (by omega) wR)
   ·simp [cvT,step,res]
  refine SR.block ?_
  refine SR.loopP (fun z:Nat × ChV × Nat=>z.1≤R∧(ChOk D.length z.2.1∧RelR D z.2.1.P)∧z.2.2≤q0+1+100 * z.1) (fun z=>⟨[(43,.int .i64 (z.1:Nat)),(42,.int .i64 (R:Nat)),(8,.ptr (nid+500) 0),(5,.ptr (nid+204) 0),(3,.ptr (nid+12) 0)],WH (nid+12) (nid+204) (nid+500) nl A n0 n1 n2 D z.2.2 z.2.1 z.2.1,nid+800,nid⟩) (fun z=>R+1 - z.1) (0,y,q0+1) ⟨by simp,⟨hok,hPR'⟩,by simp⟩ ?_ (fun ⟨k,x,q⟩ hz=>?_)
  ·refine Cov.wholeG (nid+510) (by omega) (hWs (q0+1) y y hok) (subH_refl _) (by omega) ?_
   simp [cvT,step,res]
  obtain ⟨hz1,⟨hx,hxR⟩,hz3⟩:=hz
  simp only at hz1 hx hxR hz3 ⊢
  clear hok hPR'
  have hx3:x.P.length≤3:=by rw [hx.len]; omega
  refine SR.seq ?_
  simp -dsimp only [aqA,↓seqK,↓blkK,↓loopK,step,stepBin,eqB,Nat.add_assoc nid,simprocAttr,LN_succ]
  refine SR.seq ?_
  simp -dsimp only [aqA,↓seqK,↓blkK,↓loopK,step,stepBin,eqB,Nat.add_assoc nid,simprocAttr,LN_succ]
  refine S2.dec (fun h3=>?_) (fun h3=>?_) <;> simp -dsimp only [aqA,↓seqK,↓blkK,↓loopK,step,stepBin,eqB,Nat.add_assoc nid,simprocAttr,LN_succ]
  rotate_left
  ·refine ⟨(),?_⟩
   refine Cov.wholeG nid (by omega) (scoped_list fun z hz=>by cases hz) (subH_nil _) (by omega) ?_
   simp [cvT,step,res]
  refine SR.seqW (ι:={z:ChV × Nat // (ChOk D.length z.1∧RelR D z.1.P)∧z.2≤q+100}) (fun z=>⟨[(43,.int .i64 (k:Nat)),(42,.int .i64 (R:Nat)),(8,.ptr (nid+500) 0),(5,.ptr (nid+204) 0),(3,.ptr (nid+12) 0)],WH (nid+12) (nid+204) (nid+500) nl A n0 n1 n2 D z.1.2 z.1.1 z.1.1,nid+50000,nid⟩) ?_ (fun ⟨⟨x2,q2⟩,⟨hx2,hxR2⟩,hq2⟩=>?_)
  rotate_left
  ·simp only at hx2 hxR2 hq2 ⊢
   have wq:=hWs q2 x2 x2 hx2
   generalize hW:WH (nid+12) (nid+204) (nid+500) nl A n0 n1 n2 D q2 x2 x2=W at *
   refine SR.run (t:=.mk) ?_
   simp -dsimp only [aqA,↓seqK,↓blkK,↓loopK,step,stepBin,eqB,Nat.add_assoc nid,simprocAttr,LN_succ]
   refine ⟨by unfold inI64; omega,(k+1,x2,q2),⟨⟨by simp only; omega,⟨hx2,hxR2⟩,by simp only; omega⟩,by simp only; omega⟩,?_⟩
   simp only
   rw [hW]
   refine Cov.wholeG (nid+510) (by omega) wq (subH_refl _) (by omega) ?_
   simp [cvT,step,res]
  refine SR.block ?_
  refine SR.seqW (ι:={x':ChV // ChOk D.length x'∧RelR D x'.P}) (fun x'=>⟨[(43,.int .i64 (k:Nat)),(42,.int .i64 (R:Nat)),(8,.ptr (nid+500) 0),(5,.ptr (nid+204) 0),(3,.ptr (nid+12) 0)],WH (nid+12) (nid+204) (nid+500) nl A n0 n1 n2 D (q+1) x'.1 x'.1,nid+20000,nid⟩) ?_ (fun ⟨x1,hx1,hxR1⟩=>?_)
  ·refine SR.seqTo ⟨[(46,.bool (flipV A q 3)),(43,.int .i64 (k:Nat)),(42,.int .i64 (R:Nat)),(8,.ptr (nid+500) 0),(5,.ptr (nid+204) 0),(3,.ptr (nid+12) 0)],WH (nid+12) (nid+204) (nid+500) nl A n0 n1 n2 D (q+1) x x,nid+1000,nid⟩ ?_ ?_
   ·have inC:=chH_in (nid+204) x (by rw [hx.len]; omega)
    have inR:=RX_in (nid+500) n0 n1 n2 D x
    have wC:=WH_c (nid+12) (nid+204) (nid+500) nl A n0 n1 n2 D (by omega) (by omega) (q) x x (by rw [hx.len]; omega)
    have wR:=WH_r (nid+12) (nid+204) (nid+500) nl A n0 n1 n2 D (by omega) (by omega) (q) x x (by rw [hx.len]; omega)
    have wS:=WH_s (nid+12) (nid+204) (nid+500) nl A n0 n1 n2 D (by omega) (by omega) (q) x x
    have wq:=hWs (q+1) x x hx
    generalize WH (nid+12) (nid+204) (nid+500) nl A n0 n1 n2 D (q) x x=W at *
    simp -dsimp only [aqA,↓seqK,↓blkK,↓loopK,step,stepBin,eqB,Nat.add_assoc nid,simprocAttr,LN_succ]
    refine CallO.on (flip_c (nid+12) _ nl A q 3 (by omega) (by omega) hA (by omega)) wS ?_
    simp -dsimp only [aqA,↓seqK,↓blkK,↓loopK,step,stepBin,eqB,Nat.add_assoc nid,simprocAttr,LN_succ]
    refine Cov.wholeG (nid+510) (by omega) wq ?_ (by omega) ?_
    ·refine WH_of _ _ _ _ _ _ _ _ _ (subH_hit _ _ _) (subH_skip inC (by omega) wC) (subH_skip inR (by omega) wR)
    ·simp [cvT,step,res]
   refine SR.cond (b:=flipV A q 3) rfl (fun _=>?_) (fun _=>?_)
   rotate_left
   ·have wq:=hWs (q+1) x x hx
    generalize hW:WH (nid+12) (nid+204) (nid+500) nl A n0 n1 n2 D (q+1) x x=W at *
    refine SR.run (t:=.mk) ?_
    simp -dsimp only [aqA,↓seqK,↓blkK,↓loopK,step,stepBin,eqB,Nat.add_assoc nid,simprocAttr,LN_succ]
    refine ⟨⟨x,hx,hxR⟩,?_⟩
    simp only
    rw [hW]
    refine Cov.wholeG (nid+510) (by omega) wq (subH_refl _) (by omega) ?_
    simp [cvT,step,res]
   refine SR.seqW (ι:={x':ChV // ChOk D.length x'∧RelR D x'.P}) (fun x'=>⟨[(43,.int .i64 (k:Nat)),(42,.int .i64 (R:Nat)),(8,.ptr (nid+500) 0),(5,.ptr (nid+204) 0),(3,.ptr (nid+12) 0)],WH (nid+12) (nid+204) (nid+500) nl A n0 n1 n2 D (q+1) x'.1 x'.1,nid+10000,nid⟩) ?_ (fun ⟨x1,hx1,hxR1⟩=>?_)
   ·refine SR.seqTo ⟨[(47,.int .i64 0),(43,.int .i64 (k:Nat)),(42,.int .i64 (R:Nat)),(8,.ptr (nid+500) 0),(5,.ptr (nid+204) 0),(3,.ptr (nid+12) 0)],WH (nid+12) (nid+204) (nid+500) nl A n0 n1 n2 D (q+1) x x,nid+1100,nid⟩ ?_ ?_
    ·have wq:=hWs (q+1) x x hx
     generalize WH (nid+12) (nid+204) (nid+500) nl A n0 n1 n2 D (q+1) x x=W at *
     simp -dsimp only [aqA,↓seqK,↓blkK,↓loopK,step,stepBin,eqB,Nat.add_assoc nid,simprocAttr,LN_succ]
     refine Cov.wholeG (nid+510) (by omega) wq (subH_refl _) (by omega) ?_
     simp [cvT,step,res]
    refine SR.block ?_
    refine SR.loopP (fun z:Nat × ChV=>z.1≤5∧ChOk D.length z.2∧RelR D z.2.P) (fun z=>⟨[(47,.int .i64 (z.1:Nat)),(43,.int .i64 (k:Nat)),(42,.int .i64 (R:Nat)),(8,.ptr (nid+500) 0),(5,.ptr (nid+204) 0),(3,.ptr (nid+12) 0)],WH (nid+12) (nid+204) (nid+500) nl A n0 n1 n2 D (q+1) z.2 z.2,nid+1200,nid⟩) (fun z=>6 - z.1) (0,x) ⟨by simp,hx,hxR⟩ ?_ (fun ⟨i,x1⟩ hz=>?_)
    ·refine Cov.wholeG (nid+510) (by omega) (hWs (q+1) x x hx) (subH_refl _) (by omega) ?_
     simp [cvT,step,res]
    obtain ⟨hi,hx1,hxR1⟩:=hz
    simp only at hi hx1 hxR1 ⊢
    refine SR.run (t:=.mk) ?_
    by_cases h5:((i:Nat):Int)<5
    ·have hI:=fun m (hm:nid+505≤m)=>clockOk_c x1 1 48 D.length (nid+204) m (by omega) (by omega) (by decide) hx1 hlen (by omega)
     have hJ:=fun m (hm:nid+505≤m)=>tickR_c (nid+500) m n0 n1 n2 D x1 1 48 (by omega) hxR1 hx1.st (by omega) (by decide) (by omega)
     have hxo:ChOk D.length (tickV nextN x1 1 48):=tick_ok (fun s t hs ht=>nextN_lt hs ht) hx1 (by omega) (by decide)
     have hxr:RelR D (tickV nextN x1 1 48).P:=hxR1.tick 1 (by decide)
     have inC:=chH_in (nid+204) x1 (by rw [hx1.len]; omega)
     have inR:=RX_in (nid+500) n0 n1 n2 D x1
     have wC:=WH_c (nid+12) (nid+204) (nid+500) nl A n0 n1 n2 D (by omega) (by omega) (q+1) x1 x1 (by rw [hx1.len]; omega)
     have wR:=WH_r (nid+12) (nid+204) (nid+500) nl A n0 n1 n2 D (by omega) (by omega) (q+1) x1 x1 (by rw [hx1.len]; omega)
     have wS:=WH_s (nid+12) (nid+204) (nid+500) nl A n0 n1 n2 D (by omega) (by omega) (q+1) x1 x1
     generalize tickV nextN x1 1 48=x' at *
     have inC':=chH_in (nid+204) x' (by rw [hxo.len]; omega)
     have inR':=RX_in (nid+500) n0 n1 n2 D x'
     have wq:=hWs (q+1) x' x' hxo
     generalize WH (nid+12) (nid+204) (nid+500) nl A n0 n1 n2 D (q+1) x1 x1=W at *
     simp -dsimp only [aqA,↓seqK,↓blkK,↓loopK,step,stepBin,eqB,Nat.add_assoc nid,simprocAttr,LN_succ]
     refine S2.dec (fun _=>?_) (fun h=>absurd h5 h)
     simp -dsimp only [aqA,↓seqK,↓blkK,↓loopK,step,stepBin,eqB,Nat.add_assoc nid,simprocAttr,LN_succ]
     refine CallO.on (hI _ (by omega)) wC ?_
     simp -dsimp only [aqA,↓seqK,↓blkK,↓loopK,step,stepBin,eqB,Nat.add_assoc nid,simprocAttr,LN_succ]
     refine CallO.on (hJ _ (by omega)) (subH_past inC' inR (by omega) wR) ?_
     simp -dsimp only [aqA,↓seqK,↓blkK,↓loopK,step,stepBin,eqB,Nat.add_assoc nid,simprocAttr,LN_succ]
     refine ⟨by unfold inI64; omega,(i+1,x'),⟨⟨by simp only; omega,hxo,hxr⟩,by simp only; omega⟩,?_⟩
     simp only
     refine Cov.wholeG (nid+510) (by omega) wq ?_ (by omega) ?_
     ·refine WH_of _ _ _ _ _ _ _ _ _ ?_ ?_ ?_
      all_goals repeat (first | exact wS | exact wC | exact wR | exact subH_front _ _ | refine subH_past inR' (InR.one _ _) (by omega) ?_ | refine subH_past inR' inC' (by omega) ?_ | refine subH_past inC' (InR.one _ _) (by omega) ?_ | refine subH_past inC' inR (by omega) ?_)
     ·simp [cvT,step,res]
    ·have wq:=hWs (q+1) x1 x1 hx1
     generalize hW:WH (nid+12) (nid+204) (nid+500) nl A n0 n1 n2 D (q+1) x1 x1=W at *
     simp -dsimp only [aqA,↓seqK,↓blkK,↓loopK,step,stepBin,eqB,Nat.add_assoc nid,simprocAttr,LN_succ]
     refine S2.dec (fun h=>absurd h h5) (fun _=>?_)
     simp -dsimp only [aqA,↓seqK,↓blkK,↓loopK,step,stepBin,eqB,Nat.add_assoc nid,simprocAttr,LN_succ]
     refine ⟨⟨x1,hx1,hxR1⟩,?_⟩
     simp only
     rw [hW]
     refine Cov.wholeG (nid+510) (by omega) wq (subH_refl _) (by omega) ?_
     simp [cvT,step,res]
   simp only
   have hI:=fun m (hm:nid+505≤m)=>clockOk_c x1 0 48 D.length (nid+204) m (by omega) (by omega) (by decide) hx1 hlen (by omega)
   have hJ:=fun m (hm:nid+505≤m)=>tickR_c (nid+500) m n0 n1 n2 D x1 0 48 (by omega) hxR1 hx1.st (by omega) (by decide) (by omega)
   have hxo:ChOk D.length (tickV nextN x1 0 48):=tick_ok (fun s t hs ht=>nextN_lt hs ht) hx1 (by omega) (by decide)
   have hxr:RelR D (tickV nextN x1 0 48).P:=hxR1.tick 0 (by decide)
   have inC:=chH_in (nid+204) x1 (by rw [hx1.len]; omega)
   have inR:=RX_in (nid+500) n0 n1 n2 D x1
   have wC:=WH_c (nid+12) (nid+204) (nid+500) nl A n0 n1 n2 D (by omega) (by omega) (q+1) x1 x1 (by rw [hx1.len]; omega)
   have wR:=WH_r (nid+12) (nid+204) (nid+500) nl A n0 n1 n2 D (by omega) (by omega) (q+1) x1 x1 (by rw [hx1.len]; omega)
   have wS:=WH_s (nid+12) (nid+204) (nid+500) nl A n0 n1 n2 D (by omega) (by omega) (q+1) x1 x1
   generalize tickV nextN x1 0 48=x' at *
   have inC':=chH_in (nid+204) x' (by rw [hxo.len]; omega)
   have inR':=RX_in (nid+500) n0 n1 n2 D x'
   have wq:=hWs (q+1) x' x' hxo
   generalize WH (nid+12) (nid+204) (nid+500) nl A n0 n1 n2 D (q+1) x1 x1=W at *
   refine SR.run (t:=.mk) ?_
   simp -dsimp only [aqA,↓seqK,↓blkK,↓loopK,step,stepBin,eqB,Nat.add_assoc nid,simprocAttr,LN_succ]
   refine CallO.on (hI _ (by omega)) wC ?_
   simp -dsimp only [aqA,↓seqK,↓blkK,↓loopK,step,stepBin,eqB,Nat.add_assoc nid,simprocAttr,LN_succ]
   refine CallO.on (hJ _ (by omega)) (subH_past inC' inR (by omega) wR) ?_
   simp -dsimp only [aqA,↓seqK,↓blkK,↓loopK,step,stepBin,eqB,Nat.add_assoc nid,simprocAttr,LN_succ]
   refine ⟨⟨x',hxo,hxr⟩,?_⟩
   simp only
   refine Cov.wholeG (nid+510) (by omega) wq ?_ (by omega) ?_
   ·refine WH_of _ _ _ _ _ _ _ _ _ ?_ ?_ ?_
    all_goals repeat (first | exact wS | exact wC | exact wR | exact subH_front _ _ | refine subH_past inR' (InR.one _ _) (by omega) ?_ | refine subH_past inR' inC' (by omega) ?_ | refine subH_past inC' (InR.one _ _) (by omega) ?_ | refine subH_past inC' inR (by omega) ?_)
   ·simp [cvT,step,res]
  simp only
  have has:=fun m (hm:nid+505≤m)=>asked_I (nid+12) (nid+204) (nid+500) m nl A (q+1) n0 n1 n2 D x1 D.length (by omega) (by omega) (by omega) (by omega) hA hx1 hxR1 hlen (by omega) (by omega)
  refine SR.run (t:=.mk) ?_
  simp -dsimp only [aqA,↓seqK,↓blkK,↓loopK,step,stepBin,eqB,Nat.add_assoc nid,simprocAttr,LN_succ]
  refine CallO.any (has _ (by omega)) (subH_refl _) (fun z hz=>?_)
  obtain ⟨x2,q2⟩:=z
  obtain ⟨hx2,hxR2,hq2⟩:=hz
  simp only at hx2 hxR2 hq2 ⊢
  have hst:=fun m (hm:nid+505≤m)=>state_c x2 (nid+204) m (by omega) (by rw [hx2.len]; omega)
  have hsr:∀ m,nid+505≤m→ACall Tryz.prog 32 [.ptr (nid+500) 0] (RX (nid+500) n0 n1 n2 D x2) m (.int .i64 (x2.st:Nat)) []:=fun m (hm:nid+505≤m)=>stateR_c (nid+500) m n0 n1 n2 D x2.st x2.P (by omega)
  have inC:=chH_in (nid+204) x2 (by rw [hx2.len]; omega)
  have inR:=RX_in (nid+500) n0 n1 n2 D x2
  have wC:=WH_c (nid+12) (nid+204) (nid+500) nl A n0 n1 n2 D (by omega) (by omega) (q2) x2 x2 (by rw [hx2.len]; omega)
  have wR:=WH_r (nid+12) (nid+204) (nid+500) nl A n0 n1 n2 D (by omega) (by omega) (q2) x2 x2 (by rw [hx2.len]; omega)
  have wS:=WH_s (nid+12) (nid+204) (nid+500) nl A n0 n1 n2 D (by omega) (by omega) (q2) x2 x2
  have wq:=hWs q2 x2 x2 hx2
  have b1:(((x2.st:Nat):Int) != (x2.st:Nat))=false:=by simp
  generalize hW2:WH (nid+12) (nid+204) (nid+500) nl A n0 n1 n2 D (q2) x2 x2=W2 at *
  generalize WH (nid+12) (nid+204) (nid+500) nl A n0 n1 n2 D (q+1) x1 x1=W at *
  simp -dsimp only [aqA,↓seqK,↓blkK,↓loopK,step,stepBin,eqB,Nat.add_assoc nid,simprocAttr,LN_succ]
  refine CallO.on (hst _ (by omega)) (subH_trans wC (subH_front _ _)) ?_
  simp -dsimp only [aqA,↓seqK,↓blkK,↓loopK,step,stepBin,eqB,Nat.add_assoc nid,simprocAttr,LN_succ]
  refine CallO.on (hsr _ (by omega)) (subH_trans wR (subH_front _ _)) ?_
  simp -dsimp only [aqA,↓seqK,↓blkK,↓loopK,step,stepBin,eqB,Nat.add_assoc nid,simprocAttr,LN_succ,b1]
  refine ⟨⟨(x2,q2),⟨hx2,hxR2⟩,by simp only; omega⟩,?_⟩
  simp only
  rw [hW2]
  refine Cov.wholeG (nid+510) (by omega) wq (subH_front _ _) (by omega) ?_
  simp [cvT,step,res]
 refine SR.run (t:=.mk) ?_
 simp -dsimp only [aqA,↓seqK,↓blkK,↓loopK,step,stepBin,eqB,Nat.add_assoc nid,simprocAttr,LN_succ]
 refine CallO.pure (tappedR_c _) ?_
 simp -dsimp only [aqA,↓seqK,↓blkK,↓loopK,step,stepBin,eqB,Nat.add_assoc nid,simprocAttr,LN_succ]
 refine RetOK.go [] [] (.inl rfl) ?_
 simp [a4,cvT,step,res]
open Go.RowKit
theorem handed_shaped {H:Type} {enc:TypeId × Value→H} {a:Assume} {C:Checked} {os:Os} {f:FuncId} {fn:Func} {s:ChangeSpec} {conds:List PathCond} {apart fresh handsOn again:Bool} {X:World→Array Value→Prop}
  (hX:∀ (w w':World) (args:Array Value),w.heap=w'.heap→X w args→X w' args)
  (own:ownKnob C.prog.godebug=none) (started:os.Started) (noInit:C.prog.inits.idxOf? f=none) (hfn:C.prog.funcs[f]?=some fn)
  (witness:∃ (w:World) (tape:Tape) (i:Input),w.os=os∧(w.forCall tape i).Shaped C.prog∧i.vars=[]∧Input.okWide C.prog (w.forCall tape i) .any w.heap.size f i ∧
   ((s.pre enc C.prog fn conds apart (w.forCall tape i).memory i.args∧X (w.forCall tape i).memory i.args)∧sizedMet enc C.prog fn (OpenSpec.ofChange s) apart (w.forCall tape i).memory i.args)∧a.holds C.prog (lone (Frame.enter C.prog f i.args .normal) [] (w.forCall tape i)))
  (contract:∀ (W:World) (base:Nat) (args:Array Value) (ds gs:List (DataW H)) (before:List MemPlace),
   (∀ (j:Nat) t v,fn.params[j]?=some t→args[j]?=some v→Value.okWide C.prog W .any base t v) →
   DataW.Whole enc C.prog fn.params.toList s.vars apart W args.toList ds gs before →
   conds.all (PathCond.test C.prog ⟨fn.params.toList,ds,s.plain.varTypes C.prog,gs⟩)=true →
   (DataW.weightsEach C.prog (fn.params.toList++s.plain.varTypes C.prog) (ds++gs)).all (·≤reachBytes)=true→X W args→W.ShapedOpen C.prog →
   Calls C.prog f args W fun e W'=>∃ v,e=.returned v∧s.post enc C.prog fn apart fresh handsOn again W args v W') :
  ReturnsInHanded a C os f .any (fun w args=>(s.pre enc C.prog fn conds apart w args∧X w args)∧sizedMet enc C.prog fn (OpenSpec.ofChange s) apart w args) (s.post enc C.prog fn apart fresh handsOn again):=by
 refine returnsInHanded_of_calls own started noInit witness ?_
 intro w tape i _ hsh _ hok hpre _
 obtain ⟨_,_,_,fn',hfn',_,_,_,_,hval⟩:=hok
 have e:fn'=fn:=Option.some.inj (hfn'.symm.trans hfn)
 subst e
 obtain ⟨⟨⟨ds,gs,before,hw,hc⟩,hx⟩,hz⟩:=hpre
 have hw':=DataW.Whole.of_heap (w':=w.forCall tape i) (by rfl) hw
 refine (contract (w.forCall tape i) w.heap.size i.args ds gs before hval hw' hc (hz.weights hw) (hX _ _ _ (by rfl) hx) hsh).mono fun e W' ⟨v,he,hp⟩=>?_
 subst he
 exact ChangeSpec.post_blind hp
theorem gok_cell {W:World} {g:Nat} {m:Int} (h:W.cell? ⟨g,0,none⟩=some (.int .i64 m)):g<W.heap.size∧∃ o,W.heap[g]?=some o∧cell0 o=some (.int .i64 m):=by
 unfold World.cell? at h
 simp only at h
 split at h
 ·rename_i c t f hc
  refine ⟨?_,_,hc,?_⟩
  ·rcases Nat.lt_or_ge g W.heap.size with hl | hl
   ·exact hl
   ·rw [Array.getElem?_eq_none hl] at hc; cases hc
  ·simpa [cell0] using h
 ·cases h
set_option maxRecDepth 1000000 in
theorem gok0_of {W:World} (h:W.ShapedOpen Tryz.prog):GOK0 (fun b=>W.heap[b]?) W.heap.size:=by
 obtain ⟨m,hm⟩:=cell_of_shapedOpen_int (g:=0) (t:=3) (zero:=#[.int .i64 0]) (k:=.i64) h (of_decide_eq_true (by kernel_rfl)) (by kernel_rfl) rfl (by kernel_rfl) (by kernel_rfl) Tryz.underlying3
 obtain ⟨h1,o,h2,h3⟩:=gok_cell hm
 exact ⟨o,m,h1,h2,h3⟩
theorem blk_of {W:World} {g j:Nat} {v:Value} (h:W.cell? ⟨g,j,none⟩=some v):g<W.heap.size:=World.block_lt_of_cell? W _ h
theorem gok_of {W:World} (h:W.ShapedOpen Tryz.prog) (ht:TabW W):GOK (fun b=>W.heap[b]?) W.heap.size :=
 ⟨gok0_of h,⟨blk_of ht.1,blk_of (ht.2.1 0 (by decide)),blk_of (ht.2.2 0 (by decide)).1⟩,W,fun _ _=>rfl,ht⟩
end Go.Proofs.YtahjohieahehjaaGreatDoor
