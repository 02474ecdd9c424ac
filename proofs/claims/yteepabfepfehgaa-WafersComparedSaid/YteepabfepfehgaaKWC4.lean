/-
 Blocks that a function only hands on to others: a part of the heap that is not looked at.
-/
import Derived.Test.YteepabfepfehgaaKWC3
import Derived.Below
set_option linter.unusedVariables false
set_option linter.unusedSimpArgs false
namespace Go.Proofs.Yteepabfepfehgaa
open Go.RowKit
variable {P:Program}
def kOK (b:Nat) (Hs:Heap):Heap→Prop
 | []=>True
 | (i,_)::X=>(b≤i∨i ∉ keys Hs)∧kOK b Hs X
theorem kOK.mem {b:Nat} {Hs:Heap}:∀ {X:Heap},kOK b Hs X→∀ id∈keys X,b≤id∨id ∉ keys Hs
 | [],_,id,h=>by simp [keys] at h
 | (i,c)::X,h,id,hid=>by
  simp only [keys,List.map_cons,List.mem_cons] at hid
  rcases hid with rfl | hid
  ·exact h.1
  ·exact kOK.mem h.2 id hid
structure Scoped (b:Nat) (Hs:Heap):Prop where
 lt:∀ id∈keys Hs,id<b
 blk:∀ id x,getH Hs id=some x→lowBlk b (some x)=true
theorem allTo_mono {f g:Nat→Bool} (h:∀ j,f j=true→g j=true):∀ {k:Nat},allTo k f=true→allTo k g=true
 | 0,_=>rfl
 | k+1,hf=>by
  simp only [allTo,Bool.and_eq_true] at hf ⊢
  exact ⟨allTo_mono h hf.1,h k hf.2⟩
theorem lowCols_mono {b b' k:Nat}:∀ {cs:List Col},lowCols b k cs=true→b≤b'→lowCols b' k cs=true
 | [],_,_=>rfl
 | c::cs,h,hb=>by
  have go:∀ {id:Nat→Nat},allTo k (fun j=>decide (id j<b))=true→allTo k (fun j=>decide (id j<b'))=true:=fun h=>allTo_mono (fun j h=>by simp only [decide_eq_true_eq] at h ⊢; omega) h
  cases c with
  | o a g=>simp only [lowCols,Bool.and_eq_true] at h ⊢; exact ⟨go h.1,lowCols_mono h.2 hb⟩
  | q a=>simp only [lowCols,Bool.and_eq_true] at h ⊢; exact ⟨go h.1,lowCols_mono h.2 hb⟩
  | _=>exact lowCols_mono (cs:=cs) h hb
theorem Scoped.mono {b b':Nat} {Hs:Heap} (h:Scoped b Hs) (hb:b≤b'):Scoped b' Hs:=by
 have hl:∀ l,lowAll b l=true→lowAll b' l=true:=fun l hl=>by
  unfold lowAll at *
  rw [List.all_eq_true] at *
  intro id hid
  have:=hl id hid
  simp only [decide_eq_true_eq] at this ⊢
  omega
 refine ⟨fun id hid=>by have:=h.lt id hid; omega,fun id x hx=>?_⟩
 have:=h.blk id x hx
 cases x with
 | box T cs=>exact hl _ this
 | arr T n cols=>exact lowCols_mono this hb
 | map kk dom c=>exact this
 | mape kk dom c q sid =>
  simp only [lowBlk,decide_eq_true_eq] at this ⊢
  omega
 | sit s p=>exact this
theorem nils_all {lo hi:Nat} {l:List (Nat × Nat)} (h:inRange lo hi l=true) {id:Nat} (hid:id<lo):(l.all fun x=>x.1 != id)=true:=by
 unfold inRange at h
 rw [List.all_eq_true] at h ⊢
 intro x hx
 have:=h x hx
 simp only [Bool.and_eq_true,decide_eq_true_eq] at this
 simp only [bne_iff_ne,ne_eq]
 omega
section
variable {b hi:Nat} {ren nils:List (Nat × Nat)}
mutual
theorem PVCov.self (h1:inRange b hi ren=true) (h2:inRange b hi nils=true) (hb:b≤hi):∀ p,lowAll b (idsOf p)=true→PVCov hi ren nils p p
 | .any,_=>by simp [PVCov]
 | .int _ _,_=>by simp [PVCov]
 | .bool _,_=>by simp [PVCov]
 | .str _,_=>by simp [PVCov]
 | .lit _ _ _,_=>by simp [PVCov,ColsEq.refl]
 | .nilp,_=>by simp [PVCov]
 | .nili,_=>by simp [PVCov]
 | .elp _ _,_=>by simp [PVCov]
 | .ptr id _,h=>by
  have hid:id<b:=lowAll_mem h (by simp [idsOf])
  exact ⟨(inRange_src h1 (.inl hid)).1,nils_all h2 hid,by omega,rfl⟩
 | .arp id _ _,h=>by
  have hid:id<b:=lowAll_mem h (by simp [idsOf])
  exact ⟨(inRange_src h1 (.inl hid)).1,nils_all h2 hid,by omega,rfl,rfl⟩
 | .arv id,h=>by
  have hid:id<b:=lowAll_mem h (by simp [idsOf])
  exact ⟨(inRange_src h1 (.inl hid)).1,nils_all h2 hid,by omega⟩
 | .sl id _ _,h=>by
  have hid:id<b:=lowAll_mem h (by simp [idsOf])
  exact ⟨(inRange_src h1 (.inl hid)).1,nils_all h2 hid,by omega,rfl,rfl⟩
 | .mp id,h=>by
  have hid:id<b:=lowAll_mem h (by simp [idsOf])
  exact ⟨(inRange_src h1 (.inl hid)).1,nils_all h2 hid,by omega⟩
 | .stp id,h=>by
  have hid:id<b:=lowAll_mem h (by simp [idsOf])
  exact ⟨(inRange_src h1 (.inl hid)).1,nils_all h2 hid,by omega⟩
 | .agg ps,h=>by
  simp only [idsOf] at h
  simp only [PVCov]
  exact PVCovs.self h1 h2 hb ps h
 | .tup ps,h=>by
  simp only [idsOf] at h
  simp only [PVCov]
  exact PVCovs.self h1 h2 hb ps h
 | .fn _ ps,h=>by
  simp only [idsOf] at h
  simp only [PVCov]
  exact ⟨trivial,PVCovs.self h1 h2 hb ps h⟩
theorem PVCovs.self (h1:inRange b hi ren=true) (h2:inRange b hi nils=true) (hb:b≤hi):∀ ps,lowAll b (idsOfs ps)=true→PVCovs hi ren nils ps ps
 | [],_=>by simp [PVCovs]
 | p::ps,h=>by
  simp only [idsOfs] at h
  obtain ⟨l1,l2⟩:=lowAll_app h
  simp only [PVCovs]
  exact ⟨PVCov.self h1 h2 hb p l1,PVCovs.self h1 h2 hb ps l2⟩
end
theorem AColsEq.self (h1:inRange b hi ren=true) (h2:inRange b hi nils=true) (hb:b≤hi) {n:Nat}:∀ cols,lowCols b n cols=true→AColsEq hi ren nils n cols cols
 | [],_=>trivial
 | c::cs,h=>by
  refine ⟨?_,AColsEq.self h1 h2 hb cs (by
   cases c with
   | o a g=>simp only [lowCols,Bool.and_eq_true] at h; exact h.2
   | q a=>simp only [lowCols,Bool.and_eq_true] at h; exact h.2
   | _=>exact h)⟩
  cases c with
  | o a g =>
   simp only [lowCols,Bool.and_eq_true] at h
   exact fun j hj=>by
    have hid:a j<b:=by simpa using allTo_at h.1 j hj
    exact ⟨(inRange_src h1 (.inl hid)).1,nils_all h2 hid,by omega,rfl⟩
  | q a =>
   simp only [lowCols,Bool.and_eq_true] at h
   exact fun j hj=>by
    have hid:a j<b:=by simpa using allTo_at h.1 j hj
    exact ⟨(inRange_src h1 (.inl hid)).1,nils_all h2 hid,by omega⟩
  | _=>exact ColEq.refl _ _
theorem BlkCov.self (h1:inRange b hi ren=true) (h2:inRange b hi nils=true) (hb:b≤hi) (x:ABlk) (h:lowBlk b (some x)=true):BlkCov hi ren nils x x:=by
 cases x with
 | box T cs=>exact And.intro rfl (PVCovs.self h1 h2 hb cs h)
 | arr T n cols=>exact And.intro rfl (And.intro rfl (AColsEq.self h1 h2 hb cols h))
 | map kk dom c=>exact And.intro rfl (fun q _=>⟨rfl,fun _=>MEq.refl c q⟩)
 | mape kk dom c q sid =>
  have hid:sid<b:=by simpa [lowBlk] using h
  exact ⟨rfl,rfl,rfl,rfl,(inRange_src h1 (.inl hid)).1,nils_all h2 hid,by omega⟩
 | sit s p=>exact And.intro rfl rfl
theorem liveIds_app:∀ (X Y:Heap),liveIds (X++Y)=liveIds X++liveIds Y
 | [],Y=>rfl
 | (i,none)::X,Y=>by simp only [List.cons_append,liveIds]; exact liveIds_app X Y
 | (i,some c)::X,Y=>by simp only [List.cons_append,liveIds,liveIds_app X Y]
theorem live_key:∀ {X:Heap} {id:Nat},id∈liveIds X→id∈keys X
 | [],id,h=>by simp [liveIds] at h
 | (i,none)::X,id,h=>by
  simp only [liveIds] at h
  have:=live_key h
  unfold keys at *
  simp only [List.map_cons,List.mem_cons]
  exact .inr this
 | (i,some c)::X,id,h=>by
  simp only [liveIds,List.mem_cons] at h
  unfold keys at *
  simp only [List.map_cons,List.mem_cons]
  rcases h with h | h
  ·exact .inl h
  ·exact .inr (live_key h)
theorem getH_key {X:Heap} {id:Nat} {c:ABlk} (h:getH X id=some c):(keys X).contains id=true:=by
 have:=live_key (live_mem h)
 simpa using this
theorem srcOf_cases:∀ (l:List (Nat × Nat)) (id:Nat),srcOf l id=id∨∃ x∈l,x.2=srcOf l id
 | [],id=>.inl rfl
 | (a,c)::l,id=>by
  simp only [srcOf]
  cases h:a==id
  ·rcases srcOf_cases l id with e | ⟨x,hx,e⟩
   ·exact .inl e
   ·exact .inr ⟨x,by simp [hx],e⟩
  ·exact .inr ⟨(a,c),by simp,rfl⟩
theorem apart_of:∀ {l:List Nat},(∀ id id',id∈l→id'∈l→id≠id'→nilSz nils id=none→nilSz nils id'=none→srcOf ren id≠srcOf ren id')→apart ren nils l=true
 | [],_=>rfl
 | x::l,h=>by
  simp only [apart,Bool.and_eq_true,List.all_eq_true]
  refine ⟨fun j hj=>?_,apart_of fun id id' h1 h2=>h id id' (by simp [h1]) (by simp [h2])⟩
  by_cases e:j=x
  ·simp [e]
  ·cases n1:nilSz nils x with
   | some _=>simp
   | none =>
    cases n2:nilSz nils j with
    | some _=>simp
    | none =>
     have:=h j x (by simp [hj]) (by simp) e n2 n1
     simp [this]
theorem frame_cov {n:Nat} (Hs X Y:Heap) (hs:Scoped b Hs) (hX:∀ id∈keys X,b≤id∨id ∉ keys Hs) (h1:inRange b hi ren=true) (h2:inRange b hi nils=true) (hb:b≤hi) (h:HeapCov hi ren nils X Y):HCov hi ren nils (X++Hs) (Y++Hs):=by
 intro id x hx
 rw [getH_appC] at hx
 cases hk:(keys Y).contains id
 ·rw [hk] at hx
  simp only [cond_false] at hx
  have hid:=getH_key hx
  have hlt:=hs.lt id (by simpa using hid)
  obtain ⟨e1,_⟩:=inRange_src h1 (id:=id) (.inl hlt)
  obtain ⟨_,e2⟩:=inRange_src h2 (id:=id) (.inl hlt)
  rw [e2,e1]
  have hkx:(keys X).contains id=false:=by
   cases hkx:(keys X).contains id
   ·rfl
   ·rcases hX id (by simpa using hkx) with h | h
    ·omega
    ·exact absurd (by simpa using hid) h
  show onBlk (getH (X++Hs) id) _
  rw [getH_appC,hkx]
  simp only [cond_false]
  rw [hx]
  exact BlkCov.self h1 h2 hb x (hs.blk id x hx)
 ·rw [hk] at hx
  simp only [cond_true] at hx
  have:=HeapCov.get h hx
  cases hn:nilSz nils id with
  | some sz=>rw [hn] at this; exact this
  | none =>
   rw [hn] at this
   have hg:onBlk (getH X (srcOf ren id)) fun b1=>BlkCov hi ren nils b1 x:=this
   show onBlk (getH (X++Hs) (srcOf ren id)) _
   cases hgx:getH X (srcOf ren id) with
   | none=>rw [hgx] at hg; exact hg.elim
   | some c =>
    rw [hgx] at hg
    rw [getH_appC,getH_key hgx]
    simp only [cond_true]
    rw [hgx]
    exact hg
theorem frame_apart (Hs Y:Heap) (hs:Scoped b Hs) (h1:inRange b hi ren=true) (hr:ren.all (fun x=>decide (b≤x.2))=true) (h:apart ren nils (liveIds Y)=true):apart ren nils (liveIds (Y++Hs))=true:=by
 rw [liveIds_app]
 have hsrc:∀ id,id∈liveIds Hs→id<b∧srcOf ren id=id:=fun id hid=>by
  have hlt:=hs.lt id (live_key hid)
  exact ⟨hlt,(inRange_src h1 (.inl hlt)).1⟩
 have hmix:∀ id id',id'∈liveIds Hs→id≠id'→srcOf ren id≠srcOf ren id':=fun id id' hid' hne=>by
  obtain ⟨h3,h4⟩:=hsrc id' hid'
  rw [h4]
  rcases srcOf_cases ren id with e | ⟨x,hx,e⟩
  ·rw [e]; exact hne
  ·rw [← e]
   have:=List.all_eq_true.1 hr x hx
   simp only [decide_eq_true_eq] at this
   omega
 refine apart_of fun id id' k1 k2 hne n1 n2=>?_
 rcases List.mem_append.1 k2 with k2 | k2
 ·rcases List.mem_append.1 k1 with k1 | k1
  ·exact apart_spec h id id' k1 k2 hne n1 n2
  ·exact (hmix id' id k1 (Ne.symm hne)).symm
 ·exact hmix id id' k2 hne
theorem frame_lt (Hs Y:Heap) (hs:Scoped b Hs) (hb:b≤hi) (h:(liveIds Y).all (fun id=>decide (id<hi))=true):(liveIds (Y++Hs)).all (fun id=>decide (id<hi))=true:=by
 rw [liveIds_app,List.all_append,h,Bool.true_and,List.all_eq_true]
 intro id hid
 have:=hs.lt id (live_key hid)
 simp only [decide_eq_true_eq]
 omega
end
theorem Cov.goF {s1 s2:Slots} {n1 n2 b:Nat} (Hs X Y:Heap) (ren nils:List (Nat × Nat)) (hs:Scoped b Hs) (hX:kOK b Hs X) (hr:ren.all (fun x=>decide (b≤x.2))=true)
  (h:b≤n2∧inRange b n2 ren=true∧inRange b n2 nils=true∧apart ren nils (liveIds Y)=true∧(liveIds Y).all (fun id=>decide (id<n2))=true∧HeapCov n2 ren nils X Y∧SlotsCov n2 ren nils s1 s2):Cov ⟨s1,X++Hs,n1,b⟩ ⟨s2,Y++Hs,n2,b⟩ :=
 Cov.mk ren nils rfl h.1 h.2.1 h.2.2.1 (frame_apart Hs Y hs h.2.1 hr h.2.2.2.1) (frame_lt Hs Y hs h.1 h.2.2.2.2.1) (frame_cov (n:=0) Hs X Y hs hX.mem h.2.1 h.2.2.1 h.1 h.2.2.2.2.2.1) h.2.2.2.2.2.2
theorem keys_over (u:Heap):∀ (H:Heap) (i:Nat),(keys u).contains i=false→(keys (over u H)).contains i=(keys H).contains i
 | [],i,h=>rfl
 | (j,c)::H,i,h=>by
  cases hj:(keys u).contains j
  ·simp only [over,hj,cond_false]
   simp only [keys,List.map_cons,List.contains_cons]
   rw [show (List.map (fun x=>x.1) (over u H)).contains i=(List.map (fun x=>x.1) H).contains i from keys_over u H i h]
  ·simp only [over,hj,cond_true]
   rw [keys_over u H i h]
   have:(i==j)=false:=by
    have:i≠j:=by rintro rfl; rw [h] at hj; cases hj
    simpa using this
   simp only [keys,List.map_cons,List.contains_cons,this,Bool.false_or]
theorem RetOK.goF {rs:List ARes} {nid:Nat} {r:PV} {e:AEx} {s:Slots} {n1 b1:Nat} (Hs H0 X u:Heap) (ren nils:List (Nat × Nat)) (he:e=.ret∨e=.normal) (hs:Scoped nid Hs) (hX:kOK nid Hs X) (hr:ren.all (fun x=>decide (nid≤x.2))=true)
  (h:onAll (readAll ⟨s,X++Hs,n1,b1⟩ rs) fun ps=>inRange nid (nid+4) ren=true∧inRange nid (nid+4) nils=true∧apart ren nils (liveIds (u++Go.Proofs.Yteepabfepfehgaa.over u H0))=true∧(liveIds (u++Go.Proofs.Yteepabfepfehgaa.over u H0)).all (fun id=>decide (id<nid+4))=true∧HeapCov (nid+4) ren nils X (u++Go.Proofs.Yteepabfepfehgaa.over u H0)∧PVCov (nid+4) ren nils (retPV ps) r) :
  RetOK rs (H0++Hs) nid r u e ⟨s,X++Hs,n1,b1⟩:=by
 cases hp:readAll ⟨s,X++Hs,n1,b1⟩ rs with
 | none=>rw [hp] at h; exact h.elim
 | some ps =>
  rw [hp] at h
  obtain ⟨h2,h3,h4,h5,h6,h7⟩:=h
  have hget:∀ id,getH ((u++Go.Proofs.Yteepabfepfehgaa.over u H0)++Hs) id=getH (u++(H0++Hs)) id:=fun id=>by
   rw [List.append_assoc,getH_appC u (Go.Proofs.Yteepabfepfehgaa.over u H0++Hs),getH_appC u (H0++Hs)]
   cases hk:(keys u).contains id
   ·simp only [cond_false]
    rw [getH_appC _ Hs,getH_appC H0 Hs,keys_over u H0 id hk,getH_over u H0 id hk]
   ·rfl
  have hall:∃ (ren nils:List (Nat × Nat)) (H2:Heap),(∀ id,getH H2 id=getH (u++(H0++Hs)) id)∧inRange nid (nid+4) ren=true∧inRange nid (nid+4) nils=true∧apart ren nils (liveIds H2)=true∧(liveIds H2).all (fun id=>decide (id<nid+4))=true ∧
    HCov (nid+4) ren nils (X++Hs) H2∧PVCov (nid+4) ren nils (retPV ps) r :=
   ⟨ren,nils,(u++Go.Proofs.Yteepabfepfehgaa.over u H0)++Hs,hget,h2,h3,frame_apart Hs _ hs h2 hr h4,frame_lt Hs _ hs (by omega) h5,frame_cov (n:=0) Hs X _ hs hX.mem h2 h3 (by omega) h6,h7⟩
  rcases he with rfl | rfl
  ·show onAll (readAll ⟨s,X++Hs,n1,b1⟩ rs) _
   rw [hp]
   exact hall
  ·show onAll (readAll ⟨s,X++Hs,n1,b1⟩ rs) _
   rw [hp]
   exact hall
theorem subH_frame {b:Nat} {Hs X:Heap} (hs:Scoped b Hs) (hX:kOK b Hs X):subH Hs (X++Hs):=fun id c hc=>by
 rw [getH_appC]
 have hid:=getH_key hc
 have hlt:=hs.lt id (by simpa using hid)
 cases hk:(keys X).contains id
 ·exact hc
 ·rcases hX.mem id (by simpa using hk) with h | h
  ·omega
  ·exact absurd (by simpa using hid) h
theorem capsC {b:Nat} {caps:List PV} (h:lowAll b (idsOfs caps)=true) (hi:Nat) (hb:b≤hi):PVCovs hi [] [] caps caps:=PVCovs.self (b:=b) rfl rfl hb caps h
theorem nn_of {C:Ctx} {Y:Nat→Prop} {m:Names} {w:World} {H:Heap} {n:Nat} (hH:HS C Y m w H n) {id T k:Nat} {cols:List Col} (hg:getH H id=some (.arr T k cols)) (hk:0<k):nlOf m id=false:=by
 obtain ⟨pl,h1,h2,_⟩:=hH.blk id _ hg
 obtain ⟨xs,cap,s1,s2,s3,s4,s5,⟨A,hA⟩,s7⟩:=h2
 have:=s4 hk
 simp only [nlOf,h1,hA]
 rw [hA] at this
 cases A with
 | none=>simp [Value.ownBlock] at this
 | some a=>rfl
theorem HSF.some_sub {C : Ctx} {Y : Nat → Prop} {m : Names} {w : World} {H H' : Heap} {Fr : Nat → Prop} (h : HSF C Y m w H Fr) (e : ∀ id b,getH H' id = some b → getH H id = some b) : HSF C Y m w H' Fr :=
  { h with
    blk := fun id b hb => h.blk id b (e id b hb)
    inj := fun id id' b b' pl pl' g hne hb hb' hm hm' hl => h.inj id id' b b' pl pl' g hne (e id b hb) (e id' b' hb') hm hm' hl }
theorem ACall.lit {f:Nat} {args:List PV} {Hs:Heap} {nid id T n:Nat} {cols:List Col} (h:ACall P f args Hs nid (.sl id 0 n) [(id,some (.arr T n cols))]) (hn:0<n) (ho:noOs cols=true) (hid:getH Hs id=none) :
  ACall P f args Hs nid (.lit false n cols) []:=fun C vs h1 h2 h3 h4=>by
 refine (h C vs h1 h2 h3 h4).imp fun v w' h=>?_
 obtain ⟨Y',m',r1,r2,r3⟩:=h
 obtain ⟨Y2,k1,k2,k3⟩:=freeze_core r2 [id]
 have hg:getH ([(id,some (.arr T n cols))]++Hs) id=some (.arr T n cols):=by simp [getH]
 have hr:=k1 _ v r1
 have hnl:=nn_of r2 hg hn
 simp only [lend,hg,List.contains_cons,List.contains_nil,beq_self_eq_true,Bool.or_false,ho,Bool.true_and,cond_true,hnl] at hr
 refine ⟨Y2,m',by simpa using hr,k2.some_sub (fun i b hb=>?_),?_⟩
 ·have hi:i≠id:=by
   rintro rfl
   rw [List.nil_append,hid] at hb
   cases hb
  have e1:(id==i)=false:=by simpa using fun e=>hi e.symm
  simp only [kill,List.map_cons,List.map_nil,List.cons_append,List.nil_append,getH,e1,cond_false] at hb ⊢
  exact hb
 ·exact r3.trans k3
open Go.RowKit
open Go.RowKit
theorem scoped_list {b:Nat}:∀ {H:Heap},(∀ x∈H,x.1<b∧lowBlk b x.2=true)→Scoped b H
 | [],_=>⟨fun id hid=>by simp [keys] at hid,fun id x hx=>by simp [getH] at hx⟩
 | (k,c)::H,h=>by
  have ih:=scoped_list (H:=H) fun x hx=>h x (List.mem_cons_of_mem _ hx)
  have h0:=h _ List.mem_cons_self
  refine ⟨fun id hid=>?_,fun id x hx=>?_⟩
  ·simp only [keys,List.map_cons,List.mem_cons] at hid
   rcases hid with rfl | hid
   ·exact h0.1
   ·exact ih.lt id hid
  ·simp only [getH] at hx
   cases hh:(k==id)
   ·rw [hh] at hx
    exact ih.blk id x hx
   ·rw [hh] at hx
    simp only [cond_true] at hx
    have:=h0.2
    simp only at this
    rw [hx] at this
    exact this
open Go.RowKit
theorem HSF.below {C : Ctx} {n : Nat} {w' : World} (h : HS C C.Y0 C.m0 C.w0 [] n) (hb : Below C.w0.heap.size C.w0 w') : HS C C.Y0 C.m0 w' [] (n + 4) :=
  { blk := fun id b hg => by simp [getH] at hg
    inj := fun id id' b b' pl pl' g _ hg => by simp [getH] at hg
    ylt := fun b hY => Nat.lt_of_lt_of_le (h.ylt b hY) hb.size
    keep := h.keep
    size := hb.size
    frame := fun b hlt _ => hb.block b hlt
    os := hb.os
    tape := hb.tape
    output := hb.output
    y0lt := h.y0lt
    x0 := h.x0
    yless := h.yless
    own := h.own
    low := fun id hid => h.low id (by omega)
    names := h.names
    fresh := fun id hid => h.fresh id (by omega)
    known := h.known
    gl := h.gl }
theorem GOK0.congr {z z':Nat→Option Obj} {low:Nat} (h:∀ b,b<low→z b=z' b) (k:GOK0 z low):GOK0 z' low:=by obtain ⟨o,m,h1,h2,h3⟩:=k; exact ⟨o,m,h1,(h _ h1).symm.trans h2,h3⟩
theorem GOK.congr {z z':Nat→Option Obj} {low:Nat} (h:∀ b,b<low→z b=z' b) (k:GOK z low):GOK z' low:=GOK0.congr h k
def GW (w:World):Prop:=∃ low,low≤w.heap.size∧GOK (fun b=>w.heap[b]?) low
theorem GW.of {C:Ctx} (h:GLW C):GW C.w0:=⟨C.lowb,h.le,GOK.congr (fun b hb=>(h.same b hb).symm) h.ok⟩
theorem GW.cell {w:World} (h:GW w):∃ m,w.cell? ⟨0,0,none⟩=some (.int .i64 m):=by obtain ⟨low,_,o,m,_,h2,h3⟩:=h; exact ⟨m,by unfold World.cell?; simp only [h2]; unfold cell0 at h3; split at h3 <;> first | (simp at h3; done) | (simpa using h3)⟩
end Go.Proofs.Yteepabfepfehgaa
