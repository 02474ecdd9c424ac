/-
 Blocks that a function only hands on to others: a part of the heap that is not looked at.
-/
import Derived.Test.YteepabfepfehgaaKWS3
set_option linter.unusedVariables false
set_option linter.unusedSimpArgs false
namespace Go.Proofs.Yteepabfepfehgaa
open Go.RowKit
variable {P:Program}
def kOK (b:Nat) (Hs:Heap):Heap→Prop
 | []=>True
 | (i,_)::X=>(b≤i∨i ∉ keys Hs)∧kOK b Hs X
theorem kOK.mem {b:Nat} {Hs:Heap}:∀ {X:Heap},kOK b Hs X→∀ id∈keys X,b≤id∨id ∉ keys Hs
 | [],_,id,h=>by simp [keys] at h
 | (i,c)::X,h,id,hid=>by
  simp only [keys,List.map_cons,List.mem_cons] at hid
  rcases hid with rfl | hid
  ·exact h.1
  ·exact kOK.mem h.2 id hid
structure Scoped (b:Nat) (Hs:Heap):Prop where
 lt:∀ id∈keys Hs,id<b
 blk:∀ id x,getH Hs id=some x→lowBlk b (some x)=true
theorem allTo_mono {f g:Nat→Bool} (h:∀ j,f j=true→g j=true):∀ {k:Nat},allTo k f=true→allTo k g=true
 | 0,_=>rfl
 | k+1,hf=>by
  simp only [allTo,Bool.and_eq_true] at hf ⊢
  exact ⟨allTo_mono h hf.1,h k hf.2⟩
theorem lowCols_mono {b b' k:Nat}:∀ {cs:List Col},lowCols b k cs=true→b≤b'→lowCols b' k cs=true
 | [],_,_=>rfl
 | c::cs,h,hb=>by
  have go:∀ {id:Nat→Nat},allTo k (fun j=>decide (id j<b))=true→allTo k (fun j=>decide (id j<b'))=true:=fun h=>allTo_mono (fun j h=>by simp only [decide_eq_true_eq] at h ⊢; omega) h
  cases c with
  | o a g=>simp only [lowCols,Bool.and_eq_true] at h ⊢; exact ⟨go h.1,lowCols_mono h.2 hb⟩
  | q a=>simp only [lowCols,Bool.and_eq_true] at h ⊢; exact ⟨go h.1,lowCols_mono h.2 hb⟩
  | _=>exact lowCols_mono (cs:=cs) h hb
theorem Scoped.mono {b b':Nat} {Hs:Heap} (h:Scoped b Hs) (hb:b≤b'):Scoped b' Hs:=by
 have hl:∀ l,lowAll b l=true→lowAll b' l=true:=fun l hl=>by
  unfold lowAll at *
  rw [List.all_eq_true] at *
  intro id hid
  have:=hl id hid
  simp only [decide_eq_true_eq] at this ⊢
  omega
 refine ⟨fun id hid=>by have:=h.lt id hid; omega,fun id x hx=>?_⟩
 have:=h.blk id x hx
 cases x with
 | box T cs=>exact hl _ this
 | arr T n cols=>exact lowCols_mono this hb
 | map kk dom c=>exact this
 | mape kk dom c q sid =>
  simp only [lowBlk,decide_eq_true_eq] at this ⊢
  omega
 | sit s p=>exact this
theorem nils_all {lo hi:Nat} {l:List (Nat × Nat)} (h:inRange lo hi l=true) {id:Nat} (hid:id<lo):(l.all fun x=>x.1 != id)=true:=by
 unfold inRange at h
 rw [List.all_eq_true] at h ⊢
 intro x hx
 have:=h x hx
 simp only [Bool.and_eq_true,decide_eq_true_eq] at this
 simp only [bne_iff_ne,ne_eq]
 omega
section
variable {b hi:Nat} {ren nils:List (Nat × Nat)}
mutual
theorem PVCov.self (h1:inRange b hi ren=true) (h2:inRange b hi nils=true) (hb:b≤hi):∀ p,lowAll b (idsOf p)=true→PVCov hi ren nils p p
 | .any,_=>by simp [PVCov]
 | .int _ _,_=>by simp [PVCov]
 | .bool _,_=>by simp [PVCov]
 | .str _,_=>by simp [PVCov]
 | .lit _ _ _,_=>by simp [PVCov,ColsEq.refl]
 | .nilp,_=>by simp [PVCov]
 | .nili,_=>by simp [PVCov]
 | .elp _ _,_=>by simp [PVCov]
 | .ptr id _,h=>by
  have hid:id<b:=lowAll_mem h (by simp [idsOf])
  exact ⟨(inRange_src h1 (.inl hid)).1,nils_all h2 hid,by omega,rfl⟩
 | .arp id _ _,h=>by
  have hid:id<b:=lowAll_mem h (by simp [idsOf])
  exact ⟨(inRange_src h1 (.inl hid)).1,nils_all h2 hid,by omega,rfl,rfl⟩
 | .arv id,h=>by
  have hid:id<b:=lowAll_mem h (by simp [idsOf])
  exact ⟨(inRange_src h1 (.inl hid)).1,nils_all h2 hid,by omega⟩
 | .sl id _ _,h=>by
  have hid:id<b:=lowAll_mem h (by simp [idsOf])
  exact ⟨(inRange_src h1 (.inl hid)).1,nils_all h2 hid,by omega,rfl,rfl⟩
 | .mp id,h=>by
  have hid:id<b:=lowAll_mem h (by simp [idsOf])
  exact ⟨(inRange_src h1 (.inl hid)).1,nils_all h2 hid,by omega⟩
 | .stp id,h=>by
  have hid:id<b:=lowAll_mem h (by simp [idsOf])
  exact ⟨(inRange_src h1 (.inl hid)).1,nils_all h2 hid,by omega⟩
 | .agg ps,h=>by
  simp only [idsOf] at h
  simp only [PVCov]
  exact PVCovs.self h1 h2 hb ps h
 | .tup ps,h=>by
  simp only [idsOf] at h
  simp only [PVCov]
  exact PVCovs.self h1 h2 hb ps h
 | .fn _ ps,h=>by
  simp only [idsOf] at h
  simp only [PVCov]
  exact ⟨trivial,PVCovs.self h1 h2 hb ps h⟩
theorem PVCovs.self (h1:inRange b hi ren=true) (h2:inRange b hi nils=true) (hb:b≤hi):∀ ps,lowAll b (idsOfs ps)=true→PVCovs hi ren nils ps ps
 | [],_=>by simp [PVCovs]
 | p::ps,h=>by
  simp only [idsOfs] at h
  obtain ⟨l1,l2⟩:=lowAll_app h
  simp only [PVCovs]
  exact ⟨PVCov.self h1 h2 hb p l1,PVCovs.self h1 h2 hb ps l2⟩
end
theorem AColsEq.self (h1:inRange b hi ren=true) (h2:inRange b hi nils=true) (hb:b≤hi) {n:Nat}:∀ cols,lowCols b n cols=true→AColsEq hi ren nils n cols cols
 | [],_=>trivial
 | c::cs,h=>by
  refine ⟨?_,AColsEq.self h1 h2 hb cs (by
   cases c with
   | o a g=>simp only [lowCols,Bool.and_eq_true] at h; exact h.2
   | q a=>simp only [lowCols,Bool.and_eq_true] at h; exact h.2
   | _=>exact h)⟩
  cases c with
  | o a g =>
   simp only [lowCols,Bool.and_eq_true] at h
   exact fun j hj=>by
    have hid:a j<b:=by simpa using allTo_at h.1 j hj
    exact ⟨(inRange_src h1 (.inl hid)).1,nils_all h2 hid,by omega,rfl⟩
  | q a =>
   simp only [lowCols,Bool.and_eq_true] at h
   exact fun j hj=>by
    have hid:a j<b:=by simpa using allTo_at h.1 j hj
    exact ⟨(inRange_src h1 (.inl hid)).1,nils_all h2 hid,by omega⟩
  | _=>exact ColEq.refl _ _
theorem BlkCov.self (h1:inRange b hi ren=true) (h2:inRange b hi nils=true) (hb:b≤hi) (x:ABlk) (h:lowBlk b (some x)=true):BlkCov hi ren nils x x:=by
 cases x with
 | box T cs=>exact And.intro rfl (PVCovs.self h1 h2 hb cs h)
 | arr T n cols=>exact And.intro rfl (And.intro rfl (AColsEq.self h1 h2 hb cols h))
 | map kk dom c=>exact And.intro rfl (fun q _=>⟨rfl,fun _=>MEq.refl c q⟩)
 | mape kk dom c q sid =>
  have hid:sid<b:=by simpa [lowBlk] using h
  exact ⟨rfl,rfl,rfl,rfl,(inRange_src h1 (.inl hid)).1,nils_all h2 hid,by omega⟩
 | sit s p=>exact And.intro rfl rfl
theorem liveIds_app:∀ (X Y:Heap),liveIds (X++Y)=liveIds X++liveIds Y
 | [],Y=>rfl
 | (i,none)::X,Y=>by simp only [List.cons_append,liveIds]; exact liveIds_app X Y
 | (i,some c)::X,Y=>by simp only [List.cons_append,liveIds,liveIds_app X Y]
theorem live_key:∀ {X:Heap} {id:Nat},id∈liveIds X→id∈keys X
 | [],id,h=>by simp [liveIds] at h
 | (i,none)::X,id,h=>by
  simp only [liveIds] at h
  have:=live_key h
  unfold keys at *
  simp only [List.map_cons,List.mem_cons]
  exact .inr this
 | (i,some c)::X,id,h=>by
  simp only [liveIds,List.mem_cons] at h
  unfold keys at *
  simp only [List.map_cons,List.mem_cons]
  rcases h with h | h
  ·exact .inl h
  ·exact .inr (live_key h)
theorem getH_key {X:Heap} {id:Nat} {c:ABlk} (h:getH X id=some c):(keys X).contains id=true:=by
 have:=live_key (live_mem h)
 simpa using this
theorem srcOf_cases:∀ (l:List (Nat × Nat)) (id:Nat),srcOf l id=id∨∃ x∈l,x.2=srcOf l id
 | [],id=>.inl rfl
 | (a,c)::l,id=>by
  simp only [srcOf]
  cases h:a==id
  ·rcases srcOf_cases l id with e | ⟨x,hx,e⟩
   ·exact .inl e
   ·exact .inr ⟨x,by simp [hx],e⟩
  ·exact .inr ⟨(a,c),by simp,rfl⟩
theorem apart_of:∀ {l:List Nat},(∀ id id',id∈l→id'∈l→id≠id'→nilSz nils id=none→nilSz nils id'=none→srcOf ren id≠srcOf ren id')→apart ren nils l=true
 | [],_=>rfl
 | x::l,h=>by
  simp only [apart,Bool.and_eq_true,List.all_eq_true]
  refine ⟨fun j hj=>?_,apart_of fun id id' h1 h2=>h id id' (by simp [h1]) (by simp [h2])⟩
  by_cases e:j=x
  ·simp [e]
  ·cases n1:nilSz nils x with
   | some _=>simp
   | none =>
    cases n2:nilSz nils j with
    | some _=>simp
    | none =>
     have:=h j x (by simp [hj]) (by simp) e n2 n1
     simp [this]
theorem frame_cov {n:Nat} (Hs X Y:Heap) (hs:Scoped b Hs) (hX:∀ id∈keys X,b≤id∨id ∉ keys Hs) (h1:inRange b hi ren=true) (h2:inRange b hi nils=true) (hb:b≤hi) (h:HeapCov hi ren nils X Y):HCov hi ren nils (X++Hs) (Y++Hs):=by
 intro id x hx
 rw [getH_appC] at hx
 cases hk:(keys Y).contains id
 ·rw [hk] at hx
  simp only [cond_false] at hx
  have hid:=getH_key hx
  have hlt:=hs.lt id (by simpa using hid)
  obtain ⟨e1,_⟩:=inRange_src h1 (id:=id) (.inl hlt)
  obtain ⟨_,e2⟩:=inRange_src h2 (id:=id) (.inl hlt)
  rw [e2,e1]
  have hkx:(keys X).contains id=false:=by
   cases hkx:(keys X).contains id
   ·rfl
   ·rcases hX id (by simpa using hkx) with h | h
    ·omega
    ·exact absurd (by simpa using hid) h
  show onBlk (getH (X++Hs) id) _
  rw [getH_appC,hkx]
  simp only [cond_false]
  rw [hx]
  exact BlkCov.self h1 h2 hb x (hs.blk id x hx)
 ·rw [hk] at hx
  simp only [cond_true] at hx
  have:=HeapCov.get h hx
  cases hn:nilSz nils id with
  | some sz=>rw [hn] at this; exact this
  | none =>
   rw [hn] at this
   have hg:onBlk (getH X (srcOf ren id)) fun b1=>BlkCov hi ren nils b1 x:=this
   show onBlk (getH (X++Hs) (srcOf ren id)) _
   cases hgx:getH X (srcOf ren id) with
   | none=>rw [hgx] at hg; exact hg.elim
   | some c =>
    rw [hgx] at hg
    rw [getH_appC,getH_key hgx]
    simp only [cond_true]
    rw [hgx]
    exact hg
theorem frame_apart (Hs Y:Heap) (hs:Scoped b Hs) (h1:inRange b hi ren=true) (hr:ren.all (fun x=>decide (b≤x.2))=true) (h:apart ren nils (liveIds Y)=true):apart ren nils (liveIds (Y++Hs))=true:=by
 rw [liveIds_app]
 have hsrc:∀ id,id∈liveIds Hs→id<b∧srcOf ren id=id:=fun id hid=>by
  have hlt:=hs.lt id (live_key hid)
  exact ⟨hlt,(inRange_src h1 (.inl hlt)).1⟩
 have hmix:∀ id id',id'∈liveIds Hs→id≠id'→srcOf ren id≠srcOf ren id':=fun id id' hid' hne=>by
  obtain ⟨h3,h4⟩:=hsrc id' hid'
  rw [h4]
  rcases srcOf_cases ren id with e | ⟨x,hx,e⟩
  ·rw [e]; exact hne
  ·rw [← e]
   have:=List.all_eq_true.1 hr x hx
   simp only [decide_eq_true_eq] at this
   omega
 refine apart_of fun id id' k1 k2 hne n1 n2=>?_
 rcases List.mem_append.1 k2 with k2 | k2
 ·rcases List.mem_append.1 k1 with k1 | k1
  ·exact apart_spec h id id' k1 k2 hne n1 n2
  ·exact (hmix id' id k1 (Ne.symm hne)).symm
 ·exact hmix id id' k2 hne
theorem frame_lt (Hs Y:Heap) (hs:Scoped b Hs) (hb:b≤hi) (h:(liveIds Y).all (fun id=>decide (id<hi))=true):(liveIds (Y++Hs)).all (fun id=>decide (id<hi))=true:=by
 rw [liveIds_app,List.all_append,h,Bool.true_and,List.all_eq_true]
 intro id hid
 have:=hs.lt id (live_key hid)
 simp only [decide_eq_true_eq]
 omega
end
theorem nn_of {C:Ctx} {Y:Nat→Prop} {m:Names} {w:World} {H:Heap} {n:Nat} (hH:HS C Y m w H n) {id T k:Nat} {cols:List Col} (hg:getH H id=some (.arr T k cols)) (hk:0<k):nlOf m id=false:=by
 obtain ⟨pl,h1,h2,_⟩:=hH.blk id _ hg
 obtain ⟨xs,cap,s1,s2,s3,s4,s5,⟨A,hA⟩,s7⟩:=h2
 have:=s4 hk
 simp only [nlOf,h1,hA]
 rw [hA] at this
 cases A with
 | none=>simp [Value.ownBlock] at this
 | some a=>rfl
theorem HSF.some_sub {C : Ctx} {Y : Nat → Prop} {m : Names} {w : World} {H H' : Heap} {Fr : Nat → Prop} (h : HSF C Y m w H Fr) (e : ∀ id b,getH H' id = some b → getH H id = some b) : HSF C Y m w H' Fr :=
  { h with
    blk := fun id b hb => h.blk id b (e id b hb)
    inj := fun id id' b b' pl pl' g hne hb hb' hm hm' hl => h.inj id id' b b' pl pl' g hne (e id b hb) (e id' b' hb') hm hm' hl }
theorem ACall.lit {f:Nat} {args:List PV} {Hs:Heap} {nid id T n:Nat} {cols:List Col} (h:ACall P f args Hs nid (.sl id 0 n) [(id,some (.arr T n cols))]) (hn:0<n) (ho:noOs cols=true) (hid:getH Hs id=none) :
  ACall P f args Hs nid (.lit false n cols) []:=fun C vs h1 h2 h3 h4=>by
 refine (h C vs h1 h2 h3 h4).imp fun v w' h=>?_
 obtain ⟨Y',m',r1,r2,r3⟩:=h
 obtain ⟨Y2,k1,k2,k3⟩:=freeze_core r2 [id]
 have hg:getH ([(id,some (.arr T n cols))]++Hs) id=some (.arr T n cols):=by simp [getH]
 have hr:=k1 _ v r1
 have hnl:=nn_of r2 hg hn
 simp only [lend,hg,List.contains_cons,List.contains_nil,beq_self_eq_true,Bool.or_false,ho,Bool.true_and,cond_true,hnl] at hr
 refine ⟨Y2,m',by simpa using hr,k2.some_sub (fun i b hb=>?_),?_⟩
 ·have hi:i≠id:=by
   rintro rfl
   rw [List.nil_append,hid] at hb
   cases hb
  have e1:(id==i)=false:=by simpa using fun e=>hi e.symm
  simp only [kill,List.map_cons,List.map_nil,List.cons_append,List.nil_append,getH,e1,cond_false] at hb ⊢
  exact hb
 ·exact r3.trans k3
open Go.RowKit
section
variable {P:Program} {C:Ctx} {nt:Nat}
theorem Sat.putK {Y Y':Nat→Prop} {m m':Names} {s:Slots} {H H':Heap} {n n' b:Nat} {a:Act} {w w':World} {d:Option Nat} {p:PV} {v:Value} (h:Sat C nt Y m ⟨s,H,n,b⟩ a w) (hd:dstIn nt d=true) (hr:Rep Y' m' w' p v)
  (hH:HS C Y' m' w' H' n') (ev:Ev Y m w Y' m' w'):Sat C nt Y' m' ⟨putS s d p,H',n',b⟩ (a.put d v) w':=by
 refine ⟨?_,?_,?_,hH,h.base⟩
 ·cases d <;> simp [Act.put,h.size]
 ·cases d <;> simp [Act.put,h.defers]
 ·intro i q hq hne
  simp only at hq
  rw [getS_put] at hq
  by_cases e:d=some i
  ·subst e
   simp only [if_true] at hq
   subst hq
   have hi:i<a.tmps.size:=by rw [h.size]; simpa [dstIn] using hd
   exact ⟨v,by simp [Act.put,hi],hr⟩
  ·rw [if_neg e] at hq
   obtain ⟨u,h1,h2⟩:=h.slots i q hq hne
   refine ⟨u,?_,h2.ev ev⟩
   cases d with
   | none=>exact h1
   | some d =>
    have:d≠i:=fun h=>e (by rw [h])
    simp [Act.put,Array.getElem?_setIfInBounds_ne this,h1]
theorem call_okW {k f:Nat} {args:List PV} {H Hs:Heap} {next:Nat} {ι:Type} {Post:ι→Prop} {r:ι→PV} {u:ι→Heap} (hk:0<k) (hsub:subH Hs H) (hcall:ACallIW P k f args Hs next Post r u)
  {Y:Nat→Prop} {m:Names} {w:World} (hH:HS C Y m w H next) {vs:List Value} (hl:vs.length=args.length) (hr:∀ (i:Nat) p v,args[i]?=some p→vs[i]?=some v→Rep Y m w p v) :
  CallSat P f vs.toArray w fun v w'=>∃ i,Post i∧∃ Y' m',Rep Y' m' w' (r i) v∧HS C Y' m' w' (u i++H) (next+k)∧Ev Y m w Y' m' w':=by
 have hup:upto m next=m:=by
  funext id
  unfold upto
  split
  ·rfl
  ·exact (hH.fresh id (by omega)).symm
 have:=call_coreW (kk:=k) (L:=[]) (F:=[]) hsub (fun id h=>by cases h) (.inl rfl) (fun nl=>by rw [lends_nil0]; exact hcall) hH (fun id h _=>h) hk hl (by rw [hup]; exact hr) (by
  intro id b hb
  rw [hup]
  have hb':getH H id=some b:=by
   rcases hb with ⟨hb,_⟩ | hb
   ·cases hb
   ·exact hsub _ _ hb
  obtain ⟨pl,h1,h2,_⟩:=hH.blk id b hb'
  exact ⟨pl,h1,h2⟩)
 refine this.imp ?_
 rintro v w' ⟨i,hi,Y',m',h1,h2,h3⟩
 exact ⟨i,hi,Y',m',h1,by simpa [kill] using h2.mono (fun id (h:next+k≤id)=>(⟨by omega,by omega⟩:FrK k (fun id=>next≤id) next id)),h3⟩
end
section
variable {P:Program}
theorem SRun.callW {k f:Nat} {d:Option Nat} {args:List AX} {l:List AIn} {s:Slots} {H Hs:Heap} {n b:Nat} {Q:AEx→ST→Prop} {ι:Type} {Post:ι→Prop} {r:ι→PV} {u:ι→Heap} (hk:0<k) (hsub:subH Hs H)
  (hcall:ACallIW P k f (args.map (AX.val s)) Hs n Post r u) (hK:∀ i,Post i→run P (.ops l) ⟨putS s d (r i),u i++H,n+k,b⟩ Q):SRun P (.ops (⟨d,none,.call f args⟩::l)) ⟨s,H,n,b⟩ Q:=by
 intro nt c C Y m a w hc hS
 have done:∀ (id:Nat) (ops:Array Oper),compOps P nt ops ops.toList=some (⟨d,none,.call f args⟩::l)→wpList P ops (PostA C nt Q) ops.toList a w:=by
  intro id ops hl
  cases hops:ops.toList with
  | nil=>rw [hops] at hl; simp [compOps] at hl
  | cons o rest =>
   have hl0:=hl
   rw [hops] at hl
   simp only [compOps] at hl
   split at hl
   ·rename_i ao g rr h1 h2 h3
    split at hl
    ·rename_i hd
     simp only [Option.some.injEq,List.cons.injEq,AIn.mk.injEq] at hl
     obtain ⟨⟨e1,e2,e3⟩,e4⟩:=hl
     subst e2; subst e3; subst e4
     refine wpList_step fun K' hK'=>?_
     rw [wanted_none h2,if_pos rfl]
     obtain ⟨cl,az,ho,has,hcase⟩:=compOp_call h1 rfl
     rcases hcase with ⟨f',hf,he⟩ | ⟨t,hf,he⟩
     ·injection he with he1 he2
      subst he1; subst he2
      obtain ⟨hlen,hrep⟩:=compXs_rep hS.operand has
      have:=call_okW hk hsub hcall hS.heap hlen hrep
      refine callSat_wp ?_ this ?_
      ·have e:(cl.args.toList.map a.eval).toArray=cl.args.map a.eval:=Array.toList_inj.1 (by simp)
       rw [e]
       simp [execOp,ho,resolve,hf,Deferred.ofValue,Act.eval,invoke]
      ·rintro v w' ⟨i,hi,Y',m',g1,g2,g3⟩
       refine hK' _ _ (runOps_ok (b:=b) (K:=fun s H n=>Q .normal ⟨s,H,n,b⟩) (fun s H n Y m a w hq hs=>⟨_,Y,m,hq,hs⟩) rest _ _ _ _ Y' m' _ w' h3 (hS.putK hd g1 g2 g3) ?_)
       rw [e1]
       exact hK i hi
     ·cases he
    ·cases hl
   ·cases hl
 cases c with
 | region id ops dd =>
  cases dd
  ·simp only [comp,cond_false] at hc
   obtain ⟨l',hl',e⟩:=map_some hc
   injection e with e
   subst e
   exact wp_region_list (done id ops hl')
  ·simp only [comp,cond_true] at hc
   cases hcl:closedB ops (Region.before ops).toList && P.follows .mixedOrders
   ·simp [hcl] at hc
   ·simp only [hcl,cond_true] at hc
    obtain ⟨l',hl',e⟩:=map_some hc
    cases e
 | skip=>simp [comp] at hc
 | ret=>simp [comp] at hc
 | exit i=>simp [comp] at hc
 | seq x y=>simp only [comp] at hc; split at hc <;> simp at hc
 | cond x y z=>simp only [comp] at hc; split at hc <;> simp at hc
 | block i x=>simp only [comp] at hc; obtain ⟨_,_,e⟩:=map_some hc; cases e
 | loop x=>simp only [comp] at hc; obtain ⟨_,_,e⟩:=map_some hc; cases e
 | _=>simp [comp] at hc
theorem SR.callW {k f:Nat} {d:Option Nat} {args:List AX} {l:List AIn} {s:Slots} {H Hs:Heap} {n b:Nat} {Q:AEx→ST→Prop} {t:Tag Q} {ι:Type} {Post:ι→Prop} {r:ι→PV} {u:ι→Heap} (hk:0<k) (hsub:subH Hs H)
  (hcall:ACallIW P k f (args.map (AX.val s)) Hs n Post r u) (hK:∀ i,Post i→Run P (.ops l) ⟨putS s d (r i),u i++H,n+k,b⟩ Q .mk):SR P (.ops (⟨d,none,.call f args⟩::l)) ⟨s,H,n,b⟩ Q t :=
 SRun.callW hk hsub hcall fun i hi=>by rw [← Run_eq P _ _ _ .mk]; exact hK i hi
theorem acallIW_sr {k f:Nat} {af:AFn} {args:List PV} {Hs:Heap} {nid:Nat} {ι:Type} {Post:ι→Prop} {r:ι→PV} {u:ι→Heap} (hc:compF P f=some af) (hn:args.length≤af.nt)
  (h:SR P af.body ⟨argSlots 0 args,Hs,nid,nid⟩ (fun e s=>∃ i,Post i∧RetOKW k af.res Hs nid (r i) (u i) e s) .mk):ACallIW P k f args Hs nid Post r u:=acallIW_of_srun hc hn h
theorem RetOKW.go {k:Nat} {rs:List ARes} {Hs:Heap} {nid:Nat} {r:PV} {u:Heap} {e:AEx} {st:ST} (ren nils:List (Nat × Nat)) (he:e=.ret∨e=.normal) (h:onAll (readAll st rs) fun ps=>inRange nid (nid+k) ren=true∧inRange nid (nid+k) nils=true ∧
  apart ren nils (liveIds (u++Go.Proofs.Yteepabfepfehgaa.over u Hs))=true∧(liveIds (u++Go.Proofs.Yteepabfepfehgaa.over u Hs)).all (fun id=>decide (id<nid+k))=true∧HeapCov (nid+k) ren nils st.heap (u++Go.Proofs.Yteepabfepfehgaa.over u Hs)∧PVCov (nid+k) ren nils (retPV ps) r):RetOKW k rs Hs nid r u e st:=by
 cases hp:readAll st rs with
 | none=>rw [hp] at h; exact h.elim
 | some ps =>
  rw [hp] at h
  obtain ⟨h2,h3,h4,h5,h6,h7⟩:=h
  have h6':HCov (nid+k) ren nils st.heap (u++Go.Proofs.Yteepabfepfehgaa.over u Hs):=fun id b h=>HeapCov.get h6 h
  rcases he with rfl | rfl
  ·show onAll (readAll st rs) _
   rw [hp]
   exact ⟨ren,nils,_,getH_appOver u Hs,h2,h3,h4,h5,h6',h7⟩
  ·show onAll (readAll st rs) _
   rw [hp]
   exact ⟨ren,nils,_,getH_appOver u Hs,h2,h3,h4,h5,h6',h7⟩
def lowHeap (n:Nat) (H:Heap):Prop:=(∀ id∈keys H,id<n)∧∀ id b,getH H id=some b→lowBlk n (some b)=true
theorem ACallI.later {f:Nat} {args:List PV} {Hs:Heap} {n0 n:Nat} {ι:Type} {Post:ι→Prop} {r:ι→PV} {u:ι→Heap} (h:ACallI P f args Hs n0 Post r u) (hn:n0≤n) (ha:lowAll n0 (idsOfs args)=true) (hs:lowHeap n0 Hs)
  (hr:∀ i,Post i→lowAll n0 (idsOf (r i))=true) (hu:∀ i,Post i→lowHeap n0 (u i++Hs)):ACallI P f args Hs n Post r u:=by
 intro C vs hb hl hrep hH
 have hup:∀ id,upto C.m0 n0 id=if id<n0 then C.m0 id else none:=fun id=>rfl
 have ev0:∀ {Y:Nat→Prop} {w:World},Ev Y (upto C.m0 n0) w Y C.m0 w:=⟨Nat.le_refl _,fun _ _ _=>rfl,fun _ h=>.inl h,fun id pl h=>(upto_some h).2⟩
 let C':Ctx:={ C with m0:=upto C.m0 n0,base:=n0 }
 have hnone:∀ id,n0≤id→upto C.m0 n0 id=none:=fun id hid=>by unfold upto; rw [if_neg (by omega)]
 have hHS:HS C' C'.Y0 C'.m0 C'.w0 Hs n0:=by
  refine ⟨fun id b hb=>?_,fun id id' b b' pl pl' g hne h1 h2 h3 h4 h5=>hH.inj id id' b b' pl pl' g hne h1 h2 (upto_some h3).2 (upto_some h4).2 h5,hH.ylt,hH.keep,hH.size,hH.frame,hH.os,hH.tape,hH.output,hH.y0lt,hH.x0,hH.yless,hnone,fun id hid=>hid,fun id pl h=>h,hnone,fun id pl h=>.inl h,⟨hH.gl.le,hH.gl.same,hH.gl.off,hH.gl.ok⟩⟩
  obtain ⟨pl,h1,h2,h3⟩:=hH.blk id b hb
  have hid:id<n0:=hs.1 id (keys_of_getH hb)
  exact ⟨pl,by show upto C.m0 n0 id=some pl; unfold upto; rw [if_pos hid]; exact h1,h2.upto (hs.2 id b hb),h3⟩
 have hc:=h C' vs rfl hl (fun i p v hp hv=>Rep.uptos args vs hrep ha i p v hp hv) hHS
 refine hc.imp ?_
 rintro v w' ⟨i,hi,Y',m1,h1,h2,h3⟩
 have hm1:upto m1 n0=upto C.m0 n0:=by
  funext id
  unfold upto
  split
  ·rename_i hid
   cases e:m1 id with
   | none =>
    cases e2:C.m0 id with
    | none=>rfl
    | some pl =>
     have:=h2.names id pl (by show upto C.m0 n0 id=some pl; unfold upto; rw [if_pos hid]; exact e2)
     rw [e] at this; cases this
   | some pl =>
    rcases h2.known id pl e with hk | hk
    ·exact (upto_some hk).2.symm
    ·exact absurd (show n0≤id from hk) (by omega)
  ·rfl
 refine ⟨i,hi,Y',C.m0,?_,?_,h3.size,h3.keep,h3.less,fun id pl h=>h⟩
 ·have:=Rep.upto _ v h1 (hr i hi)
  rw [hm1] at this
  exact this.ev ev0
 ·have blk1:∀ id b,getH (u i++Hs) id=some b→id<n0∧∀ pl,m1 id=some pl→C.m0 id=some pl:=fun id b hb=>by
   have hid:id<n0:=(hu i hi).1 id (keys_of_getH hb)
   refine ⟨hid,fun pl hp=>?_⟩
   have:upto m1 n0 id=some pl:=by unfold upto; rw [if_pos hid]; exact hp
   rw [hm1] at this
   exact (upto_some this).2
  have back:∀ id b pl,getH (u i++Hs) id=some b→C.m0 id=some pl→m1 id=some pl:=fun id b pl hb hp=>by
   obtain ⟨hid,_⟩:=blk1 id b hb
   have:upto C.m0 n0 id=some pl:=by unfold upto; rw [if_pos hid]; exact hp
   rw [← hm1] at this
   exact (upto_some this).2
  refine ⟨fun id b hb=>?_,fun id id' b b' pl pl' g hne k1 k2 k3 k4 k5=>h2.inj id id' b b' pl pl' g hne k1 k2 (back id b pl k1 k3) (back id' b' pl' k2 k4) k5,h2.ylt,h2.keep,h2.size,h2.frame,h2.os,h2.tape,h2.output,h2.y0lt,h2.x0,h2.yless,hH.own,fun id hid=>by rw [hb]; omega,fun id pl h=>h,fun id hid=>hH.own id (by rw [hb]; omega),fun id pl h=>.inl h,hH.gl⟩
  obtain ⟨pl,k1,k2,k3⟩:=h2.blk id b hb
  have kk:=k2.upto ((hu i hi).2 id b hb)
  rw [hm1] at kk
  exact ⟨pl,(blk1 id b hb).2 pl k1,kk.ev ev0 (fun _ _=>rfl),k3⟩
theorem ACall.later {f:Nat} {args:List PV} {Hs:Heap} {n0 n:Nat} {r:PV} {u:Heap} (h:ACall P f args Hs n0 r u) (hn:n0≤n) (ha:lowAll n0 (idsOfs args)=true) (hs:lowHeap n0 Hs)
  (hr:lowAll n0 (idsOf r)=true) (hu:lowHeap n0 (u++Hs)):ACall P f args Hs n r u:=(h.toI.later hn ha hs (fun _ _=>hr) (fun _ _=>hu)).one
end
theorem inRange_mono {b c n:Nat} (h:b≤c) {l:List (Nat × Nat)} (hl:inRange c n l=true):inRange b n l=true:=by
 unfold inRange at *
 rw [List.all_eq_true] at *
 intro x hx
 have:=hl x hx
 simp only [Bool.and_eq_true,decide_eq_true_eq] at this ⊢
 omega
theorem Cov.goG (c:Nat) {s1 s2:Slots} {n1 n2 b:Nat} (Hs X Y:Heap) (ren nils:List (Nat × Nat)) (hbc:b≤c) (hs:Scoped c Hs) (hX:kOK c Hs X) (hr:ren.all (fun x=>decide (c≤x.2))=true)
  (h:c≤n2∧inRange c n2 ren=true∧inRange c n2 nils=true∧apart ren nils (liveIds Y)=true∧(liveIds Y).all (fun id=>decide (id<n2))=true∧HeapCov n2 ren nils X Y∧SlotsCov n2 ren nils s1 s2):Cov ⟨s1,X++Hs,n1,b⟩ ⟨s2,Y++Hs,n2,b⟩ :=
 Cov.mk ren nils rfl (Nat.le_trans hbc h.1) (inRange_mono hbc h.2.1) (inRange_mono hbc h.2.2.1) (frame_apart Hs Y hs h.2.1 hr h.2.2.2.1) (frame_lt Hs Y hs h.1 h.2.2.2.2.1) (frame_cov (n:=0) Hs X Y hs hX.mem h.2.1 h.2.2.1 h.1 h.2.2.2.2.2.1) h.2.2.2.2.2.2
inductive PreH (Hs:Heap):Heap→Heap→Prop
 | nil:PreH Hs Hs []
 | cons {a:Nat × Option ABlk} {Z X:Heap} (h:PreH Hs Z X):PreH Hs (a::Z) (a::X)
theorem PreH.eq {Hs Z X:Heap} (h:PreH Hs Z X):Z=X++Hs:=by
 induction h with
 | nil=>rfl
 | cons h ih=>rw [ih]; rfl
open Go.RowKit
section
variable {P:Program}
def SROps (P:Program) (l:List AIn) (s:Slots) (H:Heap) (n b:Nat) (Q:AEx→ST→Prop):Prop :=
 ∀ (nt:Nat) (ops:Array Oper) (rest:List Oper) (C:Ctx) (Y:Nat→Prop) (m:Names) (a:Act) (w:World),compOps P nt ops rest=some l→Sat C nt Y m ⟨s,H,n,b⟩ a w→wpList P ops (PostA C nt Q) rest a w
theorem SROps.op {d:Option Nat} {ao:AOp} {l:List AIn} {s:Slots} {H:Heap} {n b:Nat} {Q:AEx→ST→Prop} (h:runOp P s H n (fun v u=>SROps P l (putS s d v) (u++H) (n+4) b Q) ao):SROps P (⟨d,none,ao⟩::l) s H n b Q:=by
 intro nt ops rest0 C Y m a w hc hS
 cases rest0 with
 | nil=>simp [compOps] at hc
 | cons o rest =>
  simp only [compOps] at hc
  split at hc
  ·rename_i ao' g r h1 h2 h3
   split at hc
   ·rename_i hd
    simp only [Option.some.injEq,List.cons.injEq,AIn.mk.injEq] at hc
    obtain ⟨⟨e1,e2,e3⟩,e4⟩:=hc
    subst e1; subst e2; subst e3; subst e4
    refine wpList_step fun K' hK'=>?_
    rw [wanted_none h2,if_pos rfl]
    exact runOp_ok h1 hS h (fun v u val Y' m' w' hr h4 h5 h6=>hK' _ _ (hr _ _ _ _ _ _ _ _ h3 (hS.put hd h4 h5 h6)))
   ·cases hc
  ·cases hc
theorem SROps.run {l:List AIn} {s:Slots} {H:Heap} {n b:Nat} {Q:AEx→ST→Prop} (h:runOps P l s H n (fun s H n=>Q .normal ⟨s,H,n,b⟩)):SROps P l s H n b Q:=fun nt ops rest C Y m a w hc hS =>
 runOps_ok (b:=b) (K:=fun s H n=>Q .normal ⟨s,H,n,b⟩) (fun s H n Y m a w hq hs=>⟨_,Y,m,hq,hs⟩) rest _ _ _ _ Y m _ w hc hS h
theorem SROps.callW {k f:Nat} {d:Option Nat} {args:List AX} {l:List AIn} {s:Slots} {H Hs:Heap} {n b:Nat} {Q:AEx→ST→Prop} {ι:Type} {Post:ι→Prop} {r:ι→PV} {u:ι→Heap} (hk:0<k) (hsub:subH Hs H)
  (hcall:ACallIW P k f (args.map (AX.val s)) Hs n Post r u) (hK:∀ i,Post i→SROps P l (putS s d (r i)) (u i++H) (n+k) b Q):SROps P (⟨d,none,.call f args⟩::l) s H n b Q:=by
 intro nt ops rest0 C Y m a w hl hS
 cases rest0 with
 | nil=>simp [compOps] at hl
 | cons o rest =>
  simp only [compOps] at hl
  split at hl
  ·rename_i ao g rr h1 h2 h3
   split at hl
   ·rename_i hd
    simp only [Option.some.injEq,List.cons.injEq,AIn.mk.injEq] at hl
    obtain ⟨⟨e1,e2,e3⟩,e4⟩:=hl
    subst e1; subst e2; subst e3; subst e4
    refine wpList_step fun K' hK'=>?_
    rw [wanted_none h2,if_pos rfl]
    obtain ⟨cl,az,ho,has,hcase⟩:=compOp_call h1 rfl
    rcases hcase with ⟨f',hf,he⟩ | ⟨t,hf,he⟩
    ·injection he with he1 he2
     subst he1; subst he2
     obtain ⟨hlen,hrep⟩:=compXs_rep hS.operand has
     have:=call_okW hk hsub hcall hS.heap hlen hrep
     refine callSat_wp ?_ this ?_
     ·have e:(cl.args.toList.map a.eval).toArray=cl.args.map a.eval:=Array.toList_inj.1 (by simp)
      rw [e]
      simp [execOp,ho,resolve,hf,Deferred.ofValue,Act.eval,invoke]
     ·rintro v w' ⟨i,hi,Y',m',g1,g2,g3⟩
      exact hK' _ _ (hK i hi nt ops rest C Y' m' _ w' h3 (hS.putK hd g1 g2 g3))
    ·cases he
   ·cases hl
  ·cases hl
theorem SRun.ofOps {l:List AIn} {s:Slots} {H:Heap} {n b:Nat} {Q:AEx→ST→Prop} (h:SROps P l s H n b Q) (hne:l≠[]):SRun P (.ops l) ⟨s,H,n,b⟩ Q:=by
 intro nt c C Y m a w hc hS
 have done:∀ (id:Nat) (ops:Array Oper),compOps P nt ops ops.toList=some l→wpList P ops (PostA C nt Q) ops.toList a w:=fun id ops hl=>h _ _ _ _ _ _ _ _ hl hS
 cases c with
 | region id ops dd =>
  cases dd
  ·simp only [comp,cond_false] at hc
   obtain ⟨l',hl',e⟩:=map_some hc
   injection e with e
   subst e
   exact wp_region_list (done id ops hl')
  ·simp only [comp,cond_true] at hc
   cases hcl:closedB ops (Region.before ops).toList && P.follows .mixedOrders
   ·simp [hcl] at hc
   ·simp only [hcl,cond_true] at hc
    obtain ⟨l',hl',e⟩:=map_some hc
    cases e
 | skip=>simp [comp] at hc
 | ret=>simp [comp] at hc
 | exit i=>simp [comp] at hc
 | seq x y=>simp only [comp] at hc; split at hc <;> simp at hc
 | cond x y z=>simp only [comp] at hc; split at hc <;> simp at hc
 | block i x=>simp only [comp] at hc; obtain ⟨_,_,e⟩:=map_some hc; cases e
 | loop x=>simp only [comp] at hc; obtain ⟨_,_,e⟩:=map_some hc; cases e
 | _=>simp [comp] at hc
theorem SROps.mv {d:Option Nat} {x:AX} {l:List AIn} {s:Slots} {H:Heap} {n b:Nat} {Q:AEx→ST→Prop} (h:SROps P l (putS s d (AX.val s x)) H (n+4) b Q):SROps P (⟨d,none,.mv x⟩::l) s H n b Q :=
 SROps.op (by
  simp only [runOp,step,res,bindStep]
  exact ⟨trivial,h⟩)
end
end Go.Proofs.Yteepabfepfehgaa
