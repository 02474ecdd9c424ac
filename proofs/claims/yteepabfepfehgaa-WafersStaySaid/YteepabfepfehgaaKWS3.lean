/-
 A region that draws its order: the text's order shows what every order does,if operations that don't wait for one another touch different slots and names.
-/
import Derived.Test.YteepabfepfehgaaKWS2
import Derived.Below
import Derived.Test.YteepabfepfehgaaKWS1
import Derived.Shelf.GgSortFunc.RowK
import Derived.Shelf.SlSortCmp.InsertionK
set_option linter.unusedVariables false
set_option linter.unusedSimpArgs false
namespace Go.Proofs.Yteepabfepfehgaa
open Go.RowKit
variable {P:Program} {C:Ctx} {nt:Nat}
structure SatF (C:Ctx) (nt:Nat) (Y:Nat→Prop) (m:Names) (s:Slots) (H:Heap) (Fr:Nat→Prop) (a:Act) (w:World):Prop where
 size:a.tmps.size=nt
 defers:a.defers=[]
 slots:∀ i p,getS s i=p→p≠.any→∃ v,a.tmps[i]?=some v∧Rep Y m w p v
 heap:HSF C Y m w H Fr
theorem SatF.operand {Y:Nat→Prop} {m:Names} {s:Slots} {H:Heap} {Fr:Nat→Prop} {a:Act} {w:World} (h:SatF C nt Y m s H Fr a w):∀ x ax,compX x=some ax→Rep Y m w (ax.val s) (a.eval x):=by
 intro x ax hx
 cases x with
 | tmp t =>
  simp only [compX,Option.some.injEq] at hx
  subst hx
  simp only [AX.val,Act.eval]
  by_cases hany:getS s t=.any
  ·rw [hany]; exact .any
  ·obtain ⟨v,h1,h2⟩:=h.slots t _ rfl hany
   rw [Array.getD_eq_getD_getElem?,h1]
   exact h2
 | const v =>
  simp only [compX] at hx
  obtain ⟨p,hp,rfl⟩:=map_some hx
  exact rep_cv hp
 | global g=>simp [compX] at hx
 | func f =>
  simp only [compX,Option.some.injEq] at hx
  subst hx
  exact .fn (vs:=[]) rfl (fun i p v hp hv=>by simp at hp)
theorem SatF.put {Y Y':Nat→Prop} {m m':Names} {s s':Slots} {H H':Heap} {Fr Fr':Nat→Prop} {a:Act} {w w':World} {d:Option Nat} {p:PV} {v:Value} (h:SatF C nt Y m s H Fr a w) (hd:dstIn nt d=true) (hr:Rep Y' m' w' p v)
  (hH:HSF C Y' m' w' H' Fr') (ev:Ev Y m w Y' m' w') (hs:∀ t,getS s' t=getS (putS s d p) t):SatF C nt Y' m' s' H' Fr' (a.put d v) w':=by
 refine ⟨?_,?_,?_,hH⟩
 ·cases d <;> simp [Act.put,h.size]
 ·cases d <;> simp [Act.put,h.defers]
 ·intro i q hq hne
  rw [hs,getS_put] at hq
  by_cases e:d=some i
  ·subst e
   simp only [if_true] at hq
   subst hq
   have hi:i<a.tmps.size:=by rw [h.size]; simpa [dstIn] using hd
   exact ⟨v,by simp [Act.put,hi],hr⟩
  ·rw [if_neg e] at hq
   obtain ⟨u,h1,h2⟩:=h.slots i q hq hne
   refine ⟨u,?_,h2.ev ev⟩
   cases d with
   | none=>exact h1
   | some d =>
    have:d≠i:=fun h=>e (by rw [h])
    simp [Act.put,Array.getElem?_setIfInBounds_ne this,h1]
theorem HSF.same {Y:Nat→Prop} {m:Names} {w:World} {H H':Heap} {Fr:Nat→Prop} (h:HSF C Y m w H Fr) (e:∀ id,getH H' id=getH H id):HSF C Y m w H' Fr :=
 ⟨fun id b hb=>h.blk id b (by rw [← e]; exact hb),fun id id' b b' pl pl' g hne h1 h2=>h.inj id id' b b' pl pl' g hne (by rw [← e]; exact h1) (by rw [← e]; exact h2),h.ylt,h.keep,h.size,h.frame,h.os,h.tape,h.output,h.y0lt,h.x0,h.yless,h.own,h.low,h.names,h.fresh,h.known,h.gl⟩
theorem wantedF_of {ops:Array Oper} {o:Oper} {Y:Nat→Prop} {m:Names} {s:Slots} {H:Heap} {Fr:Nat→Prop} {a:Act} {w:World} (h:SatF C nt Y m s H Fr a w) {d:Nat} {want:Bool} {t:Option Bool} (hg:dstG ops o.guard=some (some (d,want))) (ht:getS s d=gPV t) :
  Region.wanted o (yielded ops a.tmps)=(t==some want):=by
 unfold dstG at hg
 split at hg
 ·cases hg
 ·rename_i g j b' hgd
  split at hg
  ·rename_i d' hd
   simp only [Option.some.injEq,Prod.mk.injEq] at hg
   obtain ⟨rfl,rfl⟩:=hg
   obtain ⟨v,h1,h2⟩:=h.slots d' _ ht (by cases t <;> simp [gPV])
   have hy:yielded ops a.tmps j=t:=by
    cases t with
    | some t=>rw [show v=.bool t from Rep.bool_inv h2] at h1; unfold yielded; rw [hd]; simp [h1]
    | none =>
     obtain ⟨vs,e1,e2,_⟩:=Rep.tup_inv (ps:=[]) h2
     rw [e1] at h1; unfold yielded; rw [hd]; simp [h1]
   unfold Region.wanted
   rw [hgd]
   simp only [hy]
  ·cases hg
theorem lowAll_mem {n:Nat} {l:List Nat} (h:lowAll n l=true) {id:Nat} (hid:id∈l):id<n:=by
 have:=List.all_eq_true.1 h id hid; simpa using this
theorem lowAll_app {n:Nat} {l l':List Nat} (h:lowAll n (l++l')=true):lowAll n l=true∧lowAll n l'=true:=by
 unfold lowAll at *; rw [List.all_append,Bool.and_eq_true] at h; exact h
mutual
theorem Rep.upto {Y:Nat→Prop} {m:Names} {w:World} {n:Nat}:∀ (p:PV) (v:Value),Rep Y m w p v→lowAll n (idsOf p)=true→Rep Y (upto m n) w p v
 | .int _ _,v,h,_=>by rw [h.int_inv]; exact .int
 | .bool _,v,h,_=>by rw [h.bool_inv]; exact .bool
 | .str _,v,h,_=>by rw [h.str_inv]; exact .str
 | .lit _ _ _,v,h,hl=>by cases h with | lit h=>exact .lit h
 | .ptr id _,v,h,hl=>by
  obtain ⟨pl,h1,rfl⟩:=h.ptr_inv
  have:id<n:=lowAll_mem hl (by simp [idsOf])
  exact .ptr (by unfold Go.Proofs.Yteepabfepfehgaa.upto; rw [if_pos this]; exact h1)
 | .nilp,v,h,_=>by cases h; exact .nilp
 | .nili,v,h,_=>by cases h; exact .nili
 | .elp _ _,v,h,_=>by obtain ⟨b,oo,u,rfl,h1,h2⟩:=h.elp_inv; exact .elp h1 u h2
 | .arp id _ _,v,h,hl=>by
  obtain ⟨pl,h1,h2,rfl⟩:=h.arp_inv
  have:id<n:=lowAll_mem hl (by simp [idsOf])
  exact .arp (by unfold Go.Proofs.Yteepabfepfehgaa.upto; rw [if_pos this]; exact h1) h2
 | .arv id,v,h,hl=>by
  obtain ⟨pl,h1,h2,h3,rfl⟩:=h.arv_inv
  have:id<n:=lowAll_mem hl (by simp [idsOf])
  exact .arv (by unfold Go.Proofs.Yteepabfepfehgaa.upto; rw [if_pos this]; exact h1) h2 h3
 | .sl id _ _,v,h,hl=>by
  obtain ⟨pl,A,B,c,cap,h1,rfl,h3,h4,h5,h6,h7,h8,h9⟩:=h.sl_inv
  have:id<n:=lowAll_mem hl (by simp [idsOf])
  exact .sl (by unfold Go.Proofs.Yteepabfepfehgaa.upto; rw [if_pos this]; exact h1) h3 h4 h5 h6 h7 h8 h9
 | .agg ps,v,h,hl=>by
  obtain ⟨vs,rfl,h1,h2,h3⟩:=h.agg_inv
  simp only [idsOf] at hl
  exact .agg h1 (Rep.uptos ps vs h2 hl) h3
 | .tup ps,v,h,hl=>by
  obtain ⟨vs,rfl,h1,h2⟩:=h.tup_inv
  simp only [idsOf] at hl
  exact .tup h1 (Rep.uptos ps vs h2 hl)
 | .fn _ ps,v,h,hl=>by
  obtain ⟨vs,rfl,h1,h2⟩:=h.fn_inv
  simp only [idsOf] at hl
  exact .fn h1 (Rep.uptos ps vs h2 hl)
 | .mp id,v,h,hl=>by
  obtain ⟨pl,h1,rfl⟩:=h.mp_inv
  have:id<n:=lowAll_mem hl (by simp [idsOf])
  exact .mp (by unfold Go.Proofs.Yteepabfepfehgaa.upto; rw [if_pos this]; exact h1)
 | .stp id,v,h,hl=>by
  obtain ⟨pl,h1,rfl⟩:=h.stp_inv
  have:id<n:=lowAll_mem hl (by simp [idsOf])
  exact .stp (by unfold Go.Proofs.Yteepabfepfehgaa.upto; rw [if_pos this]; exact h1)
 | .any,v,h,_=>.any
theorem Rep.uptos {Y:Nat→Prop} {m:Names} {w:World} {n:Nat}:∀ (ps:List PV) (vs:List Value),(∀ (i:Nat) p v,ps[i]?=some p→vs[i]?=some v→Rep Y m w p v)→lowAll n (idsOfs ps)=true →
  ∀ (i:Nat) p v,ps[i]?=some p→vs[i]?=some v→Rep Y (upto m n) w p v
 | [],vs,h,hl,i,p,v,hi,hv=>by simp at hi
 | q::ps,[],h,hl,i,p,v,hi,hv=>by simp at hv
 | q::ps,u::vs,h,hl,i,p,v,hi,hv=>by
  simp only [idsOfs] at hl
  obtain ⟨l1,l2⟩:=lowAll_app hl
  rcases i with _ | i
  ·simp only [List.getElem?_cons_zero,Option.some.injEq] at hi hv
   subst hi; subst hv
   exact Rep.upto q u (h 0 q u rfl rfl) l1
  ·simp only [List.getElem?_cons_succ] at hi hv
   exact Rep.uptos ps vs (fun j p v h1 h2=>h (j+1) p v (by simpa using h1) (by simpa using h2)) l2 i p v hi hv
end
theorem allTo_at {f:Nat→Bool}:∀ {k:Nat},allTo k f=true→∀ j,j<k→f j=true
 | 0,_,j,hj=>by omega
 | k+1,h,j,hj=>by
  simp only [allTo,Bool.and_eq_true] at h
  rcases Nat.lt_succ_iff_lt_or_eq.1 hj with h1 | rfl
  ·exact allTo_at h.1 j h1
  ·exact h.2
def Col.lowAt (n i:Nat):Col→Prop
 | .o id _=>id i<n
 | .q id=>id i<n
 | _=>True
theorem lowCols_get {n k:Nat}:∀ {cs:List Col} {j:Nat} {c:Col},lowCols n k cs=true→cs[j]?=some c→∀ {i:Nat},i<k→c.lowAt n i
 | [],j,c,_,hc,i,hi=>by simp at hc
 | d::cs,j,c,h,hc,i,hi=>by
  rcases j with _ | j
  ·simp only [List.getElem?_cons_zero,Option.some.injEq] at hc
   subst hc
   cases d with
   | o a g=>simp only [lowCols,Bool.and_eq_true] at h; simpa [Col.lowAt] using allTo_at h.1 i hi
   | q a=>simp only [lowCols,Bool.and_eq_true] at h; simpa [Col.lowAt] using allTo_at h.1 i hi
   | _=>trivial
  ·simp only [List.getElem?_cons_succ] at hc
   refine lowCols_get (cs:=cs) ?_ hc hi
   cases d with
   | o a g=>simp only [lowCols,Bool.and_eq_true] at h; exact h.2
   | q a=>simp only [lowCols,Bool.and_eq_true] at h; exact h.2
   | _=>exact h
theorem ACR.upto {Y:Nat→Prop} {m:Names} {w:World} {n i:Nat} {c:Col} {v:Value} (h:ACR Y m w c i v) (hl:c.lowAt n i):ACR Y (upto m n) w c i v:=by
 cases c with
 | o a g =>
  obtain ⟨pl,A,B,c,cap,h1,h2⟩:=h
  exact ⟨pl,A,B,c,cap,by unfold Go.Proofs.Yteepabfepfehgaa.upto; rw [if_pos (show a i<n from hl)]; exact h1,h2⟩
 | q a =>
  obtain ⟨pl,h1,h2⟩:=h
  exact ⟨pl,by unfold Go.Proofs.Yteepabfepfehgaa.upto; rw [if_pos (show a i<n from hl)]; exact h1,h2⟩
 | _=>exact h
theorem BlkSat.upto {Y:Nat→Prop} {m:Names} {w:World} {n:Nat} {pl:Pl} {b:ABlk} (h:BlkSat Y m w pl b) (hl:lowBlk n (some b)=true):BlkSat Y (upto m n) w pl b:=by
 cases b with
 | box T cs =>
  obtain ⟨vs,h1,h2,h3,h4⟩:=h
  exact ⟨vs,h1,h2,h3,Rep.uptos cs vs h4 hl⟩
 | arr T k cols =>
  obtain ⟨xs,cap,s1,s2,s3,s4,s5,s6,s7⟩:=h
  refine ⟨xs,cap,s1,s2,s3,s4,s5,s6,fun i j c hi hj=>?_⟩
  obtain ⟨v,h1,h2⟩:=s7 i j c hi hj
  exact ⟨v,h1,ACR.upto h2 (lowCols_get (show lowCols n k cols=true from hl) hj hi)⟩
 | map kk dom c=>exact h
 | mape kk dom c q sid =>
  have hid:sid<n:=by simpa [lowBlk] using hl
  obtain ⟨hn,hk0,es,clk,h1,h2,h3,pls,h4,h5⟩:=h
  exact ⟨hn,hk0,es,clk,h1,h2,h3,pls,by unfold Go.Proofs.Yteepabfepfehgaa.upto; rw [if_pos hid]; exact h4,h5⟩
 | sit s p=>exact h
theorem lowH_mem {H:Heap} {n:Nat}:∀ {l:List Nat},lowH H n l=true→∀ id,id∈l→id<n∧lowBlk n (getH H id)=true
 | [],_,id,hid=>by cases hid
 | x::l,h,id,hid=>by
  simp only [lowH,Bool.and_eq_true,decide_eq_true_eq] at h
  rcases List.mem_cons.1 hid with rfl | hid
  ·exact h.1
  ·exact lowH_mem h.2 id hid
theorem lowH_all {H:Heap} {n:Nat} {l:List Nat} (h:lowH H n l=true):lowAll n l=true:=by
 unfold lowAll; rw [List.all_eq_true]; intro id hid; simpa using (lowH_mem h id hid).1
theorem lowH_app {H:Heap} {n:Nat}:∀ {l l':List Nat},lowH H n (l++l')=true→lowH H n l=true∧lowH H n l'=true
 | [],l',h=>⟨rfl,h⟩
 | x::l,l',h=>by
  simp only [List.cons_append,lowH,Bool.and_eq_true] at h ⊢
  obtain ⟨h1,h2⟩:=lowH_app h.2
  exact ⟨⟨h.1,h1⟩,h2⟩
def OpR (P:Program) (ρ:AX→PV) (H:Heap) (n:Nat) (v:PV) (u:Heap) (rds:List Nat):AOp→Prop
 | .call f args=>∃ (L F:List Nat) (Hs:Heap) (u0:Heap),subH Hs H∧(∀ id∈L++F,getH Hs id=none∧getH u0 id=none)∧(L=[]∨(v.plain=true∧plainH u0=true∧plainH Hs=true)) ∧
   (∀ nl:Nat→Bool,ACall P f (lends H (L++F) nl (args.map ρ)) Hs n v u0)∧u=u0++kill F∧rds=idsOfs (args.map ρ)++(keys Hs++(L++F))∧lowH H n rds=true
 | .callv x args=>∃ f cap,ρ x=.fn f cap∧∃ (L F:List Nat) (Hs:Heap) (u0:Heap),subH Hs H∧(∀ id∈L++F,getH Hs id=none∧getH u0 id=none)∧(L=[]∨(v.plain=true∧plainH u0=true∧plainH Hs=true)) ∧
   (∀ nl:Nat→Bool,ACall P f (lends H (L++F) nl (args.map ρ++cap)) Hs n v u0)∧u=u0++kill F∧rds=idsOfs (args.map ρ++cap)++(keys Hs++(L++F))∧lowH H n rds=true
 | op=>∃ vc:Prop,step ρ H n op=some (vc,v,u)∧vc∧rds=idsOfs ((rdXs op).map ρ)
theorem OpR.of_opX {s:Slots} {H:Heap} {n:Nat} {K:PV→Heap→List Nat→Prop} {op:AOp} (h:opX P s H n K op):∃ v u rds,OpR P (AX.val s) H n v u rds op∧K v u rds:=by
 have still:bindStep (step (AX.val s) H n op) (fun v u=>K v u (idsOfs ((rdXs op).map (AX.val s))))→∃ v u rds,(∃ vc:Prop,step (AX.val s) H n op=some (vc,v,u)∧vc∧rds=idsOfs ((rdXs op).map (AX.val s)))∧K v u rds:=by
  intro h
  unfold bindStep at h
  split at h
  ·rename_i vc v u hst
   exact ⟨v,u,_,⟨vc,hst,h.1,rfl⟩,h.2⟩
  ·exact h.elim
 cases op with
 | call f args =>
  obtain ⟨L,F,Hs,r,u,h1,h2,h3,h4,h5,h6⟩:=h
  exact ⟨r,u++kill F,_,⟨L,F,Hs,u,h1,h2,h3,h4,rfl,rfl,h5⟩,h6⟩
 | callv x args =>
  have h':onFn (x.val s) fun f cap=>CallX P f (args.map (AX.val s)++cap) H n fun v u rds=>lowH H n (idsOfs (args.map (AX.val s)++cap)++rds)=true∧K v u (idsOfs (args.map (AX.val s)++cap)++rds):=h
  unfold onFn at h'
  split at h'
  ·rename_i f cap hf
   obtain ⟨L,F,Hs,r,u,h1,h2,h3,h4,h5,h6⟩:=h'
   exact ⟨r,u++kill F,_,⟨f,cap,hf,L,F,Hs,u,h1,h2,h3,h4,rfl,rfl,h5⟩,h6⟩
  ·exact h'.elim
 | _=>exact still h
theorem fillP_congr {ρ ρ':AX→PV}:∀ (parts:List (Nat × Nat × AX)) (cs:List PV),(∀ x∈parts.map (·.2.2),ρ x=ρ' x)→fillP ρ cs parts=fillP ρ' cs parts
 | [],cs,_=>rfl
 | (o,n,x)::r,cs,h=>by
  simp only [fillP]
  rw [h x (by simp)]
  cases (ρ' x).cells with
  | none=>rfl
  | some ps =>
   simp only
   rw [fillP_congr r _ (fun y hy=>h y (by simp at hy ⊢; exact .inr hy))]
theorem optInt_congr {ρ ρ':AX→PV} {x:Option AX} (h:∀ y∈x.toList,ρ y=ρ' y):optInt ρ x=optInt ρ' x:=by
 cases x with
 | none=>rfl
 | some y=>simp only [optInt]; rw [h y (by simp)]
theorem idsOfs_mem {ps:List PV} {p:PV} (hp:p∈ps) {id:Nat} (h:id∈idsOf p):id∈idsOfs ps:=by
 induction ps with
 | nil=>cases hp
 | cons q ps ih =>
  simp only [idsOfs,List.mem_append]
  rcases List.mem_cons.1 hp with rfl | hp
  ·exact .inl h
  ·exact .inr (ih hp)
theorem tailOf_congr {H H':Heap} {p:PV} (h:∀ id∈idsOf p,getH H id=getH H' id):tailOf H p=tailOf H' p:=by
 cases p <;> simp only [tailOf]
 rename_i id off n
 rw [h id (by simp [idsOf])]
theorem step_local {ρ ρ':AX→PV} {H H':Heap} {n:Nat} {op:AOp} (hx:∀ x∈opXs op,ρ x=ρ' x) (hH:∀ id∈idsOfs ((rdXs op).map ρ),getH H id=getH H' id):step ρ H n op=step ρ' H' n op:=by
 have hid:∀ x∈rdXs op,∀ id∈idsOf (ρ' x),getH H id=getH H' id:=fun x hxm id hid=>hH id (idsOfs_mem (p:=ρ' x) (by rw [← hx x (rdXs_sub op x hxm)]; exact List.mem_map_of_mem hxm) hid)
 cases op with
 | mv x=>simp only [step]; rw [hx x (by simp [opXs])]
 | pick c a b=>simp only [step]; rw [hx c (by simp [opXs]),hx a (by simp [opXs]),hx b (by simp [opXs])]
 | box T x=>simp only [step]; rw [hx x (by simp [opXs])]
 | alloc T z=>rfl
 | build z ps=>simp only [step]; rw [fillP_congr ps z hx]
 | bslice T sz k z ps=>simp only [step]; rw [fillP_congr ps _ hx]
 | bslit sz k z ps=>simp only [step]; rw [fillP_congr ps _ hx]
 | bnil T Ti sz k z zi ps=>simp only [step]; rw [fillP_congr ps _ hx]
 | allocb T n=>rfl
 | aadrb n x i =>
  have hi:=hid x (by simp [rdXs])
  simp only [step]; rw [hx x (by simp [opXs]),hx i (by simp [opXs])]
  cases hp:ρ' x <;> try rfl
  cases hq:ρ' i <;> try rfl
  simp only
  rw [hi _ (by rw [hp]; simp [idsOf])]
 | slcb n x lo hi =>
  have hi':=hid x (by simp [rdXs])
  simp only [step]
  rw [hx x (by simp [opXs]),optInt_congr (x:=lo) (fun y hy=>hx y (List.mem_cons_of_mem _ (List.mem_append_left _ hy))),optInt_congr (x:=hi) (fun y hy=>hx y (List.mem_cons_of_mem _ (List.mem_append_right _ hy)))]
  cases optInt ρ' lo with
  | none=>rfl
  | some l =>
   cases optInt ρ' hi with
   | none=>rfl
   | some h =>
    simp only
    cases hp:ρ' x <;> simp only
    rw [hi' _ (by rw [hp]; simp [idsOf])]
 | load s x =>
  have hi:=hid x (by simp [rdXs])
  simp only [step]; rw [hx x (by simp [opXs])]
  cases hp:ρ' x <;> simp only
  ·rw [hi _ (by rw [hp]; simp [idsOf])]
  ·rw [hi _ (by rw [hp]; simp [idsOf])]
 | store s x v =>
  have hi:=hid x (by simp [rdXs])
  simp only [step]; rw [hx x (by simp [opXs]),hx v (by simp [opXs])]
  cases (ρ' v).cells with
  | none=>rfl
  | some ps =>
   simp only
   cases hp:ρ' x <;> simp only
   ·rw [hi _ (by rw [hp]; simp [idsOf])]
   ·rw [hi _ (by rw [hp]; simp [idsOf])]
 | fadr o x=>simp only [step]; rw [hx x (by simp [opXs])]
 | fld o s x=>simp only [step]; rw [hx x (by simp [opXs])]
 | iadr sz x i =>
  have hi:=hid x (by simp [rdXs])
  simp only [step]; rw [hx x (by simp [opXs]),hx i (by simp [opXs])]
  cases hp:ρ' x <;> cases ρ' i <;> (try rfl)
  simp only
  rw [hi _ (by rw [hp]; simp [idsOf])]
 | idxs x i=>simp only [step]; rw [hx x (by simp [opXs]),hx i (by simp [opXs])]
 | bin ty op x y=>simp only [step]; rw [hx x (by simp [opXs]),hx y (by simp [opXs])]
 | un op x=>simp only [step]; rw [hx x (by simp [opXs])]
 | len b x=>simp only [step]; rw [hx x (by simp [opXs])]
 | app T sz by' x y =>
  have hi:=hid x (by simp [rdXs])
  simp only [step]; rw [hx x (by simp [opXs]),hx y (by simp [opXs]),tailOf_congr (hid y (by simp [rdXs]))]
  cases tailOf H' (ρ' y) with
  | none=>rfl
  | some t =>
   simp only
   cases hp:ρ' x <;> simp only
   rw [hi _ (by rw [hp]; simp [idsOf])]
 | ext x i=>simp only [step]; rw [hx x (by simp [opXs])]
 | slc sz x lo hi =>
  have hi':=hid x (by simp [rdXs])
  simp only [step]
  rw [hx x (by simp [opXs]),optInt_congr (x:=lo) (fun y hy=>hx y (List.mem_cons_of_mem _ (List.mem_append_left _ hy))),optInt_congr (x:=hi) (fun y hy=>hx y (List.mem_cons_of_mem _ (List.mem_append_right _ hy)))]
  cases optInt ρ' lo with
  | none=>rfl
  | some l =>
   cases optInt ρ' hi with
   | none=>rfl
   | some h =>
    simp only
    cases hp:ρ' x <;> simp only
    rw [hi' _ (by rw [hp]; simp [idsOf])]
 | slc3 sz x lo hi mx =>
  simp only [step]
  rw [hx x (by simp [opXs]),hx mx (by simp [opXs]),optInt_congr (x:=lo) (fun y hy=>hx y (List.mem_cons_of_mem _ (List.mem_cons_of_mem _ (List.mem_append_left _ hy)))),optInt_congr (x:=hi) (fun y hy=>hx y (List.mem_cons_of_mem _ (List.mem_cons_of_mem _ (List.mem_append_right _ hy))))]
 | appin sz x y =>
  have hi:=hid x (by simp [rdXs])
  simp only [step]; rw [hx x (by simp [opXs]),hx y (by simp [opXs]),tailOf_congr (hid y (by simp [rdXs]))]
  cases tailOf H' (ρ' y) with
  | none=>rfl
  | some t =>
   simp only
   cases hp:ρ' x <;> simp only
   rw [hi _ (by rw [hp]; simp [idsOf])]
 | bad=>rfl
 | unk=>rfl
 | ment kk z x k =>
  have hi:=hid x (by simp [rdXs])
  simp only [step]; rw [hx x (by simp [opXs]),hx k (by simp [opXs])]
  cases hp:ρ' x <;> simp only
  rw [hi _ (by rw [hp]; simp [idsOf])]
 | mest x t v =>
  have hi:=hid x (by simp [rdXs])
  simp only [step]; rw [hx x (by simp [opXs]),hx t (by simp [opXs]),hx v (by simp [opXs])]
  cases hp:ρ' x <;> try rfl
  cases hq:ρ' t <;> try rfl
  simp only
  rw [hi _ (by rw [hp]; simp [idsOf])]
 | srg x =>
  simp only [step]; rw [hx x (by simp [opXs])]
 | snx x =>
  have hi:=hid x (by simp [rdXs])
  simp only [step]; rw [hx x (by simp [opXs])]
  cases hp:ρ' x <;> try rfl
  rename_i id off
  cases off <;> simp only
  rw [hi _ (by rw [hp]; simp [idsOf])]
 | cpy sz x y =>
  have hi:=hid x (by simp [rdXs])
  simp only [step]; rw [hx x (by simp [opXs]),hx y (by simp [opXs]),tailOf_congr (hid y (by simp [rdXs]))]
  cases tailOf H' (ρ' y) with
  | none=>rfl
  | some t =>
   simp only
   cases hp:ρ' x <;> simp only
   rw [hi _ (by rw [hp]; simp [idsOf])]
 | clr z x =>
  have hi:=hid x (by simp [rdXs])
  simp only [step]; rw [hx x (by simp [opXs])]
  cases hp:ρ' x <;> simp only
  rw [hi _ (by rw [hp]; simp [idsOf])]
 | sls x lo hi =>
  simp only [step]
  rw [hx x (by simp [opXs]),optInt_congr (x:=lo) (fun y hy=>hx y (List.mem_cons_of_mem _ (List.mem_append_left _ hy))),optInt_congr (x:=hi) (fun y hy=>hx y (List.mem_cons_of_mem _ (List.mem_append_right _ hy)))]
 | conv k x=>simp only [step]; rw [hx x (by simp [opXs])]
 | nilchk x=>simp only [step]; rw [hx x (by simp [opXs])]
 | mks T sz by' z x=>simp only [step]; rw [hx x (by simp [opXs])]
 | mkfn f cs =>
  simp only [step]
  have:cs.map ρ=cs.map ρ':=List.map_congr_left hx
  rw [this]
 | mm mx x ys =>
  simp only [step]
  have:ys.map ρ=ys.map ρ':=List.map_congr_left fun y hy=>hx y (List.mem_cons_of_mem _ hy)
  rw [hx x (by simp [opXs]),this]
 | eqs neg ks x y=>simp only [step]; rw [hx x (by simp [opXs]),hx y (by simp [opXs])]
 | mmk kk z=>rfl
 | mlk ok kk z x k =>
  have hi:=hid x (by simp [rdXs])
  simp only [step]; rw [hx x (by simp [opXs]),hx k (by simp [opXs])]
  cases hp:ρ' x <;> simp only
  rw [hi _ (by rw [hp]; simp [idsOf])]
 | mup kk x k v =>
  have hi:=hid x (by simp [rdXs])
  simp only [step]; rw [hx x (by simp [opXs]),hx k (by simp [opXs]),hx v (by simp [opXs])]
  cases hp:ρ' x <;> simp only
  rw [hi _ (by rw [hp]; simp [idsOf])]
 | mlen x =>
  have hi:=hid x (by simp [rdXs])
  simp only [step]; rw [hx x (by simp [opXs])]
  cases hp:ρ' x <;> try rfl
  simp only
  rw [hi _ (by rw [hp]; simp [idsOf])]
 | s2b x=>simp only [step]; rw [hx x (by simp [opXs])]
 | s2bo x=>simp only [step]; rw [hx x (by simp [opXs])]
 | b2s x=>simp only [step]; rw [hx x (by simp [opXs]),tailOf_congr (hid x (by simp [rdXs]))]
 | i2s x=>simp only [step]; rw [hx x (by simp [opXs])]
 | aadr n sz x i=>simp only [step]; rw [hx x (by simp [opXs]),hx i (by simp [opXs])]
 | aidx n sz s x i=>simp only [step]; rw [hx x (by simp [opXs]),hx i (by simp [opXs])]
 | call f az=>rfl
 | callv x az=>rfl
 | callx k az=>rfl
mutual
theorem lend_congr {H H':Heap} {L:List Nat} {nl:Nat→Bool} (h:∀ id∈L,getH H id=getH H' id):∀ p,lend H L nl p=lend H' L nl p
 | .agg ps=>by simp only [lend]; rw [lends_congr h ps]
 | .sl id off n=>by
  simp only [lend]
  cases hc:L.contains id && (off==0)
  ·rfl
  ·simp only [Bool.and_eq_true,List.contains_iff_mem] at hc
   rw [h id hc.1]
 | .int _ _=>by simp [lend]
 | .bool _=>by simp [lend]
 | .str _=>by simp [lend]
 | .lit _ _ _=>by simp [lend]
 | .ptr _ _=>by simp [lend]
 | .nilp=>by simp [lend]
 | .nili=>by simp [lend]
 | .elp _ _=>by simp [lend]
 | .arp _ _ _=>by simp [lend]
 | .arv _=>by simp [lend]
 | .tup _=>by simp [lend]
 | .fn _ _=>by simp [lend]
 | .mp _=>by simp [lend]
 | .stp _=>by simp [lend]
 | .any=>by simp [lend]
theorem lends_congr {H H':Heap} {L:List Nat} {nl:Nat→Bool} (h:∀ id∈L,getH H id=getH H' id):∀ ps,lends H L nl ps=lends H' L nl ps
 | []=>by simp [lends]
 | p::ps=>by simp only [lends]; rw [lend_congr h p,lends_congr h ps]
end
theorem lowH_congr {H H':Heap} {n:Nat}:∀ {l:List Nat},(∀ id∈l,getH H id=getH H' id)→lowH H n l=lowH H' n l
 | [],_=>rfl
 | x::l,h=>by simp only [lowH]; rw [h x (by simp),lowH_congr (fun id hid=>h id (by simp [hid]))]
theorem keys_of_getH {H:Heap} {id:Nat} {b:ABlk} (h:getH H id=some b):id∈keys H:=by
 induction H with
 | nil=>simp [getH] at h
 | cons x H ih =>
  obtain ⟨i,c⟩:=x
  simp only [getH] at h
  simp only [keys,List.map_cons,List.mem_cons]
  by_cases e:(i==id)=true
  ·exact .inl (by simpa using e:i=id).symm
  ·simp only [Bool.not_eq_true] at e; simp only [e,cond_false] at h; exact .inr (ih h)
theorem OpR.local {ρ ρ':AX→PV} {H H':Heap} {n:Nat} {v:PV} {u:Heap} {rds:List Nat} {op:AOp} (h:OpR P ρ H n v u rds op) (hx:∀ x∈opXs op,ρ x=ρ' x) (hH:∀ id∈rds,getH H id=getH H' id):OpR P ρ' H' n v u rds op:=by
 have callp:∀ (f:Nat) (args args':List PV),args'=args→(∃ (L F:List Nat) (Hs:Heap) (u0:Heap),subH Hs H∧(∀ id∈L++F,getH Hs id=none∧getH u0 id=none)∧(L=[]∨(v.plain=true∧plainH u0=true∧plainH Hs=true)) ∧
   (∀ nl:Nat→Bool,ACall P f (lends H (L++F) nl args) Hs n v u0)∧u=u0++kill F∧rds=idsOfs args++(keys Hs++(L++F))∧lowH H n rds=true) →
   ∃ (L F:List Nat) (Hs:Heap) (u0:Heap),subH Hs H'∧(∀ id∈L++F,getH Hs id=none∧getH u0 id=none)∧(L=[]∨(v.plain=true∧plainH u0=true∧plainH Hs=true)) ∧
   (∀ nl:Nat→Bool,ACall P f (lends H' (L++F) nl args') Hs n v u0)∧u=u0++kill F∧rds=idsOfs args'++(keys Hs++(L++F))∧lowH H' n rds=true:=by
  rintro f args args' rfl ⟨L,F,Hs,u0,h1,h2,h3,h4,h5,h6,h7⟩
  refine ⟨L,F,Hs,u0,fun id b hb=>?_,h2,h3,fun nl=>?_,h5,h6,?_⟩
  ·rw [← hH id (by rw [h6]; simp [keys_of_getH hb])]; exact h1 id b hb
  ·rw [← lends_congr (H:=H) (fun id hid=>hH id (by rw [h6]; simp only [List.mem_append] at hid ⊢; exact .inr (.inr hid)))]; exact h4 nl
  ·rw [← lowH_congr hH]; exact h7
 cases op with
 | call f args =>
  have e:args.map ρ'=args.map ρ:=(List.map_congr_left hx).symm
  exact callp f _ _ e h
 | callv x args =>
  obtain ⟨f,cap,h1,h2⟩:=h
  have e:args.map ρ'=args.map ρ:=(List.map_congr_left fun y hy=>hx y (by simp [opXs,hy])).symm
  exact ⟨f,cap,by rw [← hx x (by simp [opXs])]; exact h1,callp f _ _ (by rw [e]) h2⟩
 | _ =>
  obtain ⟨vc,h1,h2,h3⟩:=h
  refine ⟨vc,?_,h2,?_⟩
  ·rw [← step_local hx (fun id hid=>hH id (by rw [h3]; exact hid))]; exact h1
  ·rw [h3,List.map_congr_left fun x hxm=>hx x (rdXs_sub _ x hxm)]
theorem OpR.sound {o:Oper} {ao:AOp} (hc:compOp P o=some ao) {Y:Nat→Prop} {m:Names} {s:Slots} {H:Heap} {Fr:Nat→Prop} {n:Nat} {a:Act} {w:World} (hS:SatF C nt Y m s H Fr a w) (h4:Has4 Fr n) {v:PV} {u:Heap} {rds:List Nat}
  (h:OpR P (AX.val s) H n v u rds ao) {K':Act→World→Prop} {Q:Exit→Act→World→Prop} (hK:∀ val Y' m' w',Rep Y' m' w' v val→HSF C Y' m' w' (u++H) (Fr4 Fr n)→Ev Y m w Y' m' w'→K' (a.put o.dst val) w'):o.wp P a w K' Q:=by
 have still:ao.still=true→(∃ vc:Prop,step (AX.val s) H n ao=some (vc,v,u)∧vc∧rds=idsOfs ((rdXs ao).map (AX.val s)))→o.wp P a w K' Q:=by
  rintro hst ⟨vc,h1,h2,_⟩
  obtain ⟨val,w',Y',m',hd,g1,g2,g3⟩:=step_ok hc hst C Y m w H Fr n (AX.val s) a.eval vc v u hS.operand hS.heap h4 h1 h2
  have:=hK val Y' m' w' g1 g2 g3
  unfold Oper.wp
  rcases hd with hd | ⟨hd,rfl⟩
  ·rw [hd]; exact this
  ·rw [hd]; exact this
 have callp:∀ (f:Nat) (args:List PV) (vs:List Value),vs.length=args.length→(∀ (i:Nat) p v,args[i]?=some p→vs[i]?=some v→Rep Y m w p v) →
   (∃ (L F:List Nat) (Hs:Heap) (u0:Heap),subH Hs H∧(∀ id∈L++F,getH Hs id=none∧getH u0 id=none)∧(L=[]∨(v.plain=true∧plainH u0=true∧plainH Hs=true)) ∧
   (∀ nl:Nat→Bool,ACall P f (lends H (L++F) nl args) Hs n v u0)∧u=u0++kill F∧rds=idsOfs args++(keys Hs++(L++F))∧lowH H n rds=true) →
   CallSat P f vs.toArray w fun val w'=>∃ Y' m',Rep Y' m' w' v val∧HSF C Y' m' w' (u++H) (Fr4 Fr n)∧Ev Y m w Y' m' w':=by
  rintro f args vs hl hr ⟨L,F,Hs,u0,h1,h2,h3,h5,rfl,h6,h7⟩
  rw [h6] at h7
  obtain ⟨l1,l2⟩:=lowH_app h7
  exact call_core h1 h2 h3 h5 hS.heap h4 hl (Rep.uptos args vs hr (lowH_all l1)) (by
   intro id b hb
   have hmem:id∈keys Hs++(L++F):=by
    rcases hb with ⟨hb,_⟩ | hb
    ·exact List.mem_append.2 (.inr hb)
    ·exact List.mem_append.2 (.inl (keys_of_getH hb))
   have hb':getH H id=some b:=by
    rcases hb with ⟨_,hb⟩ | hb
    ·exact hb
    ·exact h1 _ _ hb
   obtain ⟨q1,q2⟩:=lowH_mem l2 id hmem
   rw [hb'] at q2
   obtain ⟨pl,p1,p2,_⟩:=hS.heap.blk id b hb'
   exact ⟨pl,by unfold Go.Proofs.Yteepabfepfehgaa.upto; rw [if_pos q1]; exact p1,p2.upto q2⟩)
 cases hst:ao.still
 ·obtain ⟨c,az,ho,has,hcase⟩:=compOp_call hc hst
  obtain ⟨hl,hr⟩:=compXs_rep hS.operand has
  rcases hcase with ⟨f,hf,rfl⟩ | ⟨t,hf,rfl⟩
  ·refine callSat_wp ?_ (callp f _ _ hl hr h) ?_
   ·have e:(c.args.toList.map a.eval).toArray=c.args.map a.eval:=Array.toList_inj.1 (by simp)
    rw [e]
    simp [execOp,ho,resolve,hf,Deferred.ofValue,Act.eval,invoke]
   ·rintro val w' ⟨Y',m',h1,h2,h3⟩
    exact hK val Y' m' w' h1 h2 h3
  ·obtain ⟨f,cap,hp,h⟩:=h
   have hv:=hS.operand (.tmp t) (.t t) rfl
   rw [hp] at hv
   obtain ⟨vs,e1,e2,e3⟩:=hv.fn_inv
   refine callSat_wp ?_ (callp f _ (c.args.toList.map a.eval++vs) (by simp only [List.length_append,hl,e2]) (by
     intro i p v hp hv
     by_cases hi:i<(az.map (AX.val s)).length
     ·rw [List.getElem?_append_left hi] at hp
      rw [List.getElem?_append_left (by rw [hl]; exact hi)] at hv
      exact hr i p v hp hv
     ·rw [List.getElem?_append_right (by omega)] at hp
      rw [List.getElem?_append_right (by rw [hl]; omega),hl] at hv
      exact e3 _ p v hp hv) h) ?_
   ·have e:(c.args.toList.map a.eval++vs).toArray=c.args.map a.eval++vs.toArray:=Array.toList_inj.1 (by simp)
    rw [e]
    simp [execOp,ho,resolve,hf,Deferred.ofValue,e1,invoke]
   ·rintro val w' ⟨Y',m',h1,h2,h3⟩
    exact hK val Y' m' w' h1 h2 h3
 ·refine still hst ?_
  cases ao <;> first | exact h | (simp [AOp.still] at hst)
structure TE where
 dst:Option Nat
 names:List Nat
 rds:List Nat
 v:PV
 u:Heap
 ran:Bool
def TE.rec1 (t:TE):Rec1:=⟨t.dst,t.names,t.rds,keys t.u⟩
def selS:List TE→Nat→(Nat→Bool)→Slots→Slots
 | [],_,_,s=>s
 | t::tr,k,L,s=>selS tr (k+1) L (bif L k then putS s t.dst t.v else s)
def selH:List TE→Nat→(Nat→Bool)→Heap→Heap
 | [],_,_,H=>H
 | t::tr,k,L,H=>selH tr (k+1) L (bif L k then t.u++H else H)
def SEq (s s':Slots):Prop:=∀ t,getS s t=getS s' t
theorem selS_congr:∀ (tr:List TE) (k:Nat) (L L':Nat→Bool) (s s':Slots) (t:Nat),getS s t=getS s' t→(∀ j e,tr[j]?=some e→e.dst=some t→L (k+j)=L' (k+j))→getS (selS tr k L s) t=getS (selS tr k L' s') t
 | [],k,L,L',s,s',t,h,_=>h
 | e::tr,k,L,L',s,s',t,h,hd=>by
  simp only [selS]
  refine selS_congr tr (k+1) L L' _ _ t ?_ (fun j e' hj hdj=>by have:=hd (j+1) e' (by simpa using hj) hdj; rwa [show k+(j+1)=k+1+j from by omega] at this)
  by_cases he:e.dst=some t
  ·have:=hd 0 e rfl he
   simp only [Nat.add_zero] at this
   rw [this]
   cases L' k
   ·exact h
   ·simp only [cond_true]; rw [getS_put,getS_put,if_pos he,if_pos he]
  ·have h1:∀ s,getS (putS s e.dst e.v) t=getS s t:=fun s=>by rw [getS_put,if_neg he]
   cases L k <;> cases L' k <;> simp only [cond_true,cond_false,h1] <;> exact h
theorem selH_congr:∀ (tr:List TE) (k:Nat) (L L':Nat→Bool) (H H':Heap) (id:Nat),getH H id=getH H' id→(∀ j e,tr[j]?=some e→hasH e.u id=true→L (k+j)=L' (k+j))→getH (selH tr k L H) id=getH (selH tr k L' H') id
 | [],k,L,L',H,H',id,h,_=>h
 | e::tr,k,L,L',H,H',id,h,hd=>by
  simp only [selH]
  refine selH_congr tr (k+1) L L' _ _ id ?_ (fun j e' hj hdj=>by have:=hd (j+1) e' (by simpa using hj) hdj; rwa [show k+(j+1)=k+1+j from by omega] at this)
  by_cases he:hasH e.u id=true
  ·have:=hd 0 e rfl he
   simp only [Nat.add_zero] at this
   rw [this]
   cases L' k
   ·exact h
   ·simp only [cond_true]; rw [getH_app,getH_app,if_pos he,if_pos he]
  ·have h1:∀ H,getH (e.u++H) id=getH H id:=fun H=>by rw [getH_app,if_neg he]
   cases L k <;> cases L' k <;> simp only [cond_true,cond_false,h1] <;> exact h
theorem selS_none:∀ (tr:List TE) (k:Nat) (L:Nat→Bool) (s:Slots),(∀ j,k≤j→L j=false)→selS tr k L s=s
 | [],k,L,s,_=>rfl
 | e::tr,k,L,s,h=>by simp only [selS]; rw [h k (Nat.le_refl _)]; exact selS_none tr (k+1) L s (fun j hj=>h j (by omega))
theorem selH_none:∀ (tr:List TE) (k:Nat) (L:Nat→Bool) (H:Heap),(∀ j,k≤j→L j=false)→selH tr k L H=H
 | [],k,L,H,_=>rfl
 | e::tr,k,L,H,h=>by simp only [selH]; rw [h k (Nat.le_refl _)]; exact selH_none tr (k+1) L H (fun j hj=>h j (by omega))
theorem selS_add:∀ (tr:List TE) (k i:Nat) (L:Nat→Bool) (s:Slots) (e:TE) (t:Nat),tr[i]?=some e→L (k+i)=false→(∀ j e',tr[j]?=some e'→i<j→L (k+j)=true→e.dst=some t→e'.dst≠some t) →
  getS (selS tr k (fun x=>L x || x==k+i) s) t=getS (putS (selS tr k L s) e.dst e.v) t:=by
 intro tr
 induction tr with
 | nil=>intro k i L s e t h; simp at h
 | cons x tr ih =>
  intro k i L s e t h hL hd
  rcases i with _ | i
  ·simp only [List.getElem?_cons_zero,Option.some.injEq] at h
   subst h
   simp only [Nat.add_zero] at hL hd ⊢
   simp only [selS,hL,beq_self_eq_true,Bool.or_true,cond_true,cond_false]
   rw [getS_put]
   by_cases he:x.dst=some t
   ·rw [if_pos he]
    have hw:∀ (tr:List TE) (k':Nat) (s:Slots),k<k'→getS s t=x.v→(∀ j e',tr[j]?=some e'→L (k'+j)=true→e'.dst≠some t)→getS (selS tr k' (fun x=>L x || x==k) s) t=x.v:=by
     intro tr
     induction tr with
     | nil=>intro k' s _ h _; exact h
     | cons y tr ih2 =>
      intro k' s hk h hdd
      simp only [selS]
      refine ih2 (k'+1) _ (by omega) ?_ (fun j e' hj hLj=>hdd (j+1) e' (by simpa using hj) (by rwa [show k'+(j+1)=k'+1+j from by omega]))
      have hkk:(k'==k)=false:=by
       have:k'≠k:=by omega
       simpa using this
      rw [hkk,Bool.or_false]
      cases hLk:L k'
      ·exact h
      ·simp only [cond_true]
       rw [getS_put,if_neg (hdd 0 y rfl (by simpa using hLk))]
       exact h
    refine hw tr (k+1) _ (by omega) (by rw [getS_put,if_pos he]) (fun j e' hj hLj=>hd (j+1) e' (by simpa using hj) (by omega) (by rwa [show k+(j+1)=k+1+j from by omega]) he)
   ·rw [if_neg he]
    refine selS_congr tr (k+1) _ L _ s t (by rw [getS_put,if_neg he]) (fun j e' hj _=>?_)
    have:(k+1+j==k)=false:=by
     have:k+1+j≠k:=by omega
     simpa using this
    simp [this]
  ·simp only [List.getElem?_cons_succ] at h
   have hki:(k==k+(i+1))=false:=by
    have:k≠k+(i+1):=by omega
    simp
   simp only [selS,hki,Bool.or_false]
   have:=ih (k+1) i L (bif L k then putS s x.dst x.v else s) e t h (by rwa [show k+1+i=k+(i+1) from by omega]) (fun j e' hj hij hLj=>hd (j+1) e' (by simpa using hj) (by omega) (by rwa [show k+(j+1)=k+1+j from by omega]))
   rw [show k+(i+1)=k+1+i from by omega]
   exact this
theorem selH_add:∀ (tr:List TE) (k i:Nat) (L:Nat→Bool) (H:Heap) (e:TE) (id:Nat),tr[i]?=some e→L (k+i)=false→(∀ j e',tr[j]?=some e'→i<j→L (k+j)=true→hasH e.u id=true→hasH e'.u id=false) →
  getH (selH tr k (fun x=>L x || x==k+i) H) id=getH (e.u++selH tr k L H) id:=by
 intro tr
 induction tr with
 | nil=>intro k i L H e id h; simp at h
 | cons x tr ih =>
  intro k i L H e id h hL hd
  rcases i with _ | i
  ·simp only [List.getElem?_cons_zero,Option.some.injEq] at h
   subst h
   simp only [Nat.add_zero] at hL hd ⊢
   simp only [selH,hL,beq_self_eq_true,Bool.or_true,cond_true,cond_false]
   rw [getH_app]
   by_cases he:hasH x.u id=true
   ·rw [if_pos he]
    have hw:∀ (tr:List TE) (k':Nat) (H:Heap),k<k'→getH H id=getH x.u id→(∀ j e',tr[j]?=some e'→L (k'+j)=true→hasH e'.u id=false)→getH (selH tr k' (fun x=>L x || x==k) H) id=getH x.u id:=by
     intro tr
     induction tr with
     | nil=>intro k' H _ h _; exact h
     | cons y tr ih2 =>
      intro k' H hk h hdd
      simp only [selH]
      refine ih2 (k'+1) _ (by omega) ?_ (fun j e' hj hLj=>hdd (j+1) e' (by simpa using hj) (by rwa [show k'+(j+1)=k'+1+j from by omega]))
      have hkk:(k'==k)=false:=by
       have:k'≠k:=by omega
       simpa using this
      rw [hkk,Bool.or_false]
      cases hLk:L k'
      ·exact h
      ·simp only [cond_true]
       rw [getH_app,if_neg (by rw [hdd 0 y rfl (by simpa using hLk)]; simp)]
       exact h
    refine hw tr (k+1) _ (by omega) (by rw [getH_app,if_pos he]) (fun j e' hj hLj=>hd (j+1) e' (by simpa using hj) (by omega) (by rwa [show k+(j+1)=k+1+j from by omega]) he)
   ·rw [if_neg he]
    refine selH_congr tr (k+1) _ L _ H id (by rw [getH_app,if_neg he]) (fun j e' hj _=>?_)
    have:(k+1+j==k)=false:=by
     have:k+1+j≠k:=by omega
     simpa using this
    simp [this]
  ·simp only [List.getElem?_cons_succ] at h
   have hki:(k==k+(i+1))=false:=by
    have:k≠k+(i+1):=by omega
    simp
   simp only [selH,hki,Bool.or_false]
   have:=ih (k+1) i L (bif L k then x.u++H else H) e id h (by rwa [show k+1+i=k+(i+1) from by omega]) (fun j e' hj hij hLj=>hd (j+1) e' (by simpa using hj) (by omega) (by rwa [show k+(j+1)=k+1+j from by omega]))
   rw [show k+(i+1)=k+1+i from by omega]
   exact this
def Fact (P:Program) (x:AIn) (s:Slots) (H:Heap) (n:Nat) (t:TE):Prop :=
 t.dst=x.dst∧match x.guard with
 | none=>t.ran=true∧t.names=namesX (opXs x.op)∧OpR P (AX.val s) H n t.v t.u t.rds x.op
 | some (j,want)=>∃ b,getS s j=gPV b∧t.ran=(b==some want)∧((t.ran=true∧t.names=j::namesX (opXs x.op)∧OpR P (AX.val s) H n t.v t.u t.rds x.op)∨(t.ran=false∧t.names=[j]∧t.v=.tup []∧t.u=[]∧t.rds=[]))
theorem OpR.same {ρ ρ':AX→PV} {H:Heap} {n:Nat} {v:PV} {u:Heap} {rds:List Nat} {op:AOp} (h:OpR P ρ H n v u rds op) (e:ρ=ρ'):OpR P ρ' H n v u rds op:=e ▸ h
theorem val_congr {s s':Slots} (h:SEq s s'):AX.val s=AX.val s':=by
 funext x
 cases x with
 | t n=>exact h n
 | c p=>rfl
theorem runAny_trace {K:Slots→Heap→Nat→Prop}:∀ (l:List (AIn × List Nat)) (prev:List TE) (k:Nat) (s0 s:Slots) (H:Heap) (n:Nat),SEq s s0→runAny P l (prev.map TE.rec1) s H n K →
  ∃ tr:List TE,tr.length=l.length∧(∀ (i:Nat) x fr t,l[i]?=some (x,fr)→tr[i]?=some t→Fact P x (selS tr k (fun j=>decide (j<k+i)) s0) (selH tr k (fun j=>decide (j<k+i)) H) (n+4 * i) t ∧
   ∀ j∈fr,∃ t',(prev++tr)[j]?=some t'∧j<prev.length+i∧indep t'.rec1 t.rec1=true)∧∃ s',SEq s' (selS tr k (fun _=>true) s0)∧K s' (selH tr k (fun _=>true) H) (n+4 * l.length)
 | [],prev,k,s0,s,H,n,hs,h=>⟨[],rfl,fun i x fr t hi=>by simp at hi,s,hs,h⟩
 | (⟨d,g,op⟩,fr)::l,prev,k,s0,s,H,n,hs,h=>by
  have free:∀ (fr:List Nat) (t:TE),freeOf (prev.map TE.rec1) t.rec1 fr=true→∀ j∈fr,∃ t',prev[j]?=some t'∧indep t'.rec1 t.rec1=true:=by
   intro fr t
   induction fr with
   | nil=>intro _ j hj; cases hj
   | cons x fr ih =>
    intro hf j hj
    simp only [freeOf,Bool.and_eq_true] at hf
    rcases List.mem_cons.1 hj with rfl | hj
    ·have h1:=hf.1
     rw [List.getElem?_map] at h1
     cases hp:prev[j]? with
     | none=>rw [hp] at h1; simp at h1
     | some t'=>rw [hp] at h1; exact ⟨t',rfl,h1⟩
    ·exact ih hf.2 j hj
  -- one operation,then the rest
  have step1:∀ (t:TE) (s1:Slots),SEq s1 s→Fact P ⟨d,g,op⟩ s0 H n t→freeOf (prev.map TE.rec1) t.rec1 fr=true→runAny P l ((prev++[t]).map TE.rec1) (putS s1 d t.v) (t.u++H) (n+4) K→t.dst=d →
    ∃ tr:List TE,tr.length=((⟨d,g,op⟩,fr)::l:List (AIn × List Nat)).length∧(∀ (i:Nat) x fr' t,((⟨d,g,op⟩,fr)::l)[i]?=some (x,fr')→tr[i]?=some t→Fact P x (selS tr k (fun j=>decide (j<k+i)) s0) (selH tr k (fun j=>decide (j<k+i)) H) (n+4 * i) t ∧
     ∀ j∈fr',∃ t',(prev++tr)[j]?=some t'∧j<prev.length+i∧indep t'.rec1 t.rec1=true)∧∃ s',SEq s' (selS tr k (fun _=>true) s0)∧K s' (selH tr k (fun _=>true) H) (n+4 * ((⟨d,g,op⟩,fr)::l:List (AIn × List Nat)).length):=by
   intro t s1 hs1 hf hfree hrun hd
   have hseq:SEq (putS s1 d t.v) (putS s0 t.dst t.v):=fun i=>by rw [getS_put,getS_put,hd,hs1 i,hs i]
   obtain ⟨tr,e1,e2,s',e3,e4⟩:=runAny_trace l (prev++[t]) (k+1) (putS s0 t.dst t.v) _ _ _ hseq hrun
   refine ⟨t::tr,by simp [e1],fun i x fr' t' hi ht=>?_,s',?_,?_⟩
   ·rcases i with _ | i
    ·simp only [List.getElem?_cons_zero,Option.some.injEq,Prod.mk.injEq] at hi ht
     obtain ⟨rfl,rfl⟩:=hi
     subst ht
     refine ⟨?_,fun j hj=>?_⟩
     ·rw [selS_none _ _ _ _ (fun j hj=>by simp; omega),selH_none _ _ _ _ (fun j hj=>by simp; omega)]
      exact hf
     ·obtain ⟨t',h1,h2⟩:=free fr t hfree j hj
      have hjl:j<prev.length:=(List.getElem?_eq_some_iff.1 h1).1
      exact ⟨t',by rw [List.getElem?_append_left hjl]; exact h1,by omega,h2⟩
    ·simp only [List.getElem?_cons_succ] at hi ht
     obtain ⟨f1,f2⟩:=e2 i x fr' t' hi ht
     have hk:decide (k<k+(i+1))=true:=by simp
     simp only [selS,selH,hk,cond_true]
     rw [show k+(i+1)=k+1+i from by omega,show n+4 * (i+1)=n+4+4 * i from by omega]
     refine ⟨f1,fun j hj=>?_⟩
     obtain ⟨q,h1,h2,h3⟩:=f2 j hj
     refine ⟨q,by simpa using h1,by simp at h2; omega,h3⟩
   ·simp only [selS,cond_true]; exact e3
   ·simp only [selH,cond_true,List.length_cons]
    rw [show n+4 * (l.length+1)=n+4+4 * l.length from by omega]
    exact e4
  have hval:AX.val s=AX.val s0:=val_congr hs
  rcases g with _ | ⟨j,want⟩
  ·obtain ⟨v,u,rds,h1,h2,h3⟩:=OpR.of_opX (show opX P s H n _ op from h)
   exact step1 ⟨d,namesX (opXs op),rds,v,u,true⟩ s (fun _=>rfl) ⟨rfl,rfl,rfl,h1.same hval⟩ h2 (by simpa [TE.rec1] using h3) rfl
  ·cases want
   ·have h':onGrd (getS s j) (fun b=>split2 b
     (fun _=>freeOf (prev.map TE.rec1) ⟨d,[j],[],[]⟩ fr=true∧runAny P l (prev.map TE.rec1++[⟨d,[j],[],[]⟩]) (putS ((j,.bool true)::s) d (.tup [])) H (n+4) K)
     (fun _=>opX P ((j,.bool false)::s) H n (fun v u rds=>freeOf (prev.map TE.rec1) ⟨d,j::namesX (opXs op),rds,keys u⟩ fr=true∧runAny P l (prev.map TE.rec1++[⟨d,j::namesX (opXs op),rds,keys u⟩]) (putS ((j,.bool false)::s) d v) (u++H) (n+4) K) op)) (fun _=>freeOf (prev.map TE.rec1) ⟨d,[j],[],[]⟩ fr=true∧runAny P l (prev.map TE.rec1++[⟨d,[j],[],[]⟩]) (putS s d (.tup [])) H (n+4) K):=h
    unfold onGrd at h'
    split at h'
    ·rename_i b hb
     have hb0:getS s0 j=.bool b:=by rw [← hs]; exact hb
     cases b
     ·obtain ⟨v,u,rds,h1,h2,h3⟩:=OpR.of_opX (h'.2 rfl)
      have hss:SEq ((j,.bool false)::s) s:=getS_self hb
      exact step1 ⟨d,j::namesX (opXs op),rds,v,u,true⟩ _ hss ⟨rfl,some false,hb0,rfl,.inl ⟨rfl,rfl,h1.same ((val_congr hss).trans hval)⟩⟩ h2 (by simpa [TE.rec1] using h3) rfl
     ·obtain ⟨h2,h3⟩:=h'.1 rfl
      exact step1 ⟨d,[j],[],.tup [],[],false⟩ _ (getS_self hb) ⟨rfl,some true,hb0,rfl,.inr ⟨rfl,rfl,rfl,rfl,rfl⟩⟩ h2 (by simpa [TE.rec1,keys] using h3) rfl
    ·rename_i hb
     have hb0:getS s0 j=gPV none:=by rw [← hs]; exact hb
     obtain ⟨h2,h3⟩:=h'
     exact step1 ⟨d,[j],[],.tup [],[],false⟩ s (fun _=>rfl) ⟨rfl,none,hb0,rfl,.inr ⟨rfl,rfl,rfl,rfl,rfl⟩⟩ h2 (by simpa [TE.rec1,keys] using h3) rfl
    ·exact h'.elim
   ·have h':onGrd (getS s j) (fun b=>split2 b
     (fun _=>opX P ((j,.bool true)::s) H n (fun v u rds=>freeOf (prev.map TE.rec1) ⟨d,j::namesX (opXs op),rds,keys u⟩ fr=true∧runAny P l (prev.map TE.rec1++[⟨d,j::namesX (opXs op),rds,keys u⟩]) (putS ((j,.bool true)::s) d v) (u++H) (n+4) K) op)
     (fun _=>freeOf (prev.map TE.rec1) ⟨d,[j],[],[]⟩ fr=true∧runAny P l (prev.map TE.rec1++[⟨d,[j],[],[]⟩]) (putS ((j,.bool false)::s) d (.tup [])) H (n+4) K)) (fun _=>freeOf (prev.map TE.rec1) ⟨d,[j],[],[]⟩ fr=true∧runAny P l (prev.map TE.rec1++[⟨d,[j],[],[]⟩]) (putS s d (.tup [])) H (n+4) K):=h
    unfold onGrd at h'
    split at h'
    ·rename_i b hb
     have hb0:getS s0 j=.bool b:=by rw [← hs]; exact hb
     cases b
     ·obtain ⟨h2,h3⟩:=h'.2 rfl
      exact step1 ⟨d,[j],[],.tup [],[],false⟩ _ (getS_self hb) ⟨rfl,some false,hb0,rfl,.inr ⟨rfl,rfl,rfl,rfl,rfl⟩⟩ h2 (by simpa [TE.rec1,keys] using h3) rfl
     ·obtain ⟨v,u,rds,h1,h2,h3⟩:=OpR.of_opX (h'.1 rfl)
      have hss:SEq ((j,.bool true)::s) s:=getS_self hb
      exact step1 ⟨d,j::namesX (opXs op),rds,v,u,true⟩ _ hss ⟨rfl,some true,hb0,rfl,.inl ⟨rfl,rfl,h1.same ((val_congr hss).trans hval)⟩⟩ h2 (by simpa [TE.rec1] using h3) rfl
    ·rename_i hb
     have hb0:getS s0 j=gPV none:=by rw [← hs]; exact hb
     obtain ⟨h2,h3⟩:=h'
     exact step1 ⟨d,[j],[],.tup [],[],false⟩ s (fun _=>rfl) ⟨rfl,none,hb0,rfl,.inr ⟨rfl,rfl,rfl,rfl,rfl⟩⟩ h2 (by simpa [TE.rec1,keys] using h3) rfl
    ·exact h'.elim
theorem compOps_get {ops:Array Oper}:∀ {rest:List Oper} {la:List AIn},compOps P nt ops rest=some la→la.length=rest.length∧∀ (i:Nat) o,rest[i]?=some o→∃ x,la[i]?=some x∧compOp P o=some x.op∧dstG ops o.guard=some x.guard∧dstIn nt o.dst=true∧x.dst=o.dst
 | [],la,h=>by simp only [compOps,Option.some.injEq] at h; subst h; exact ⟨rfl,fun i o hi=>by simp at hi⟩
 | o::rest,la,h=>by
  simp only [compOps] at h
  split at h
  ·rename_i a g r h1 h2 h3
   split at h
   ·rename_i hd
    simp only [Option.some.injEq] at h
    subst h
    obtain ⟨i1,i2⟩:=compOps_get h3
    refine ⟨by simp [i1],fun i o' hi=>?_⟩
    rcases i with _ | i
    ·simp only [List.getElem?_cons_zero,Option.some.injEq] at hi
     subst hi
     exact ⟨_,rfl,h1,h2,hd,rfl⟩
    ·simp only [List.getElem?_cons_succ] at hi ⊢
     exact i2 i o' hi
   ·cases h
  ·cases h
theorem hasH_keys {u:Heap} {id:Nat}:hasH u id=true↔id∈keys u:=by
 induction u with
 | nil=>simp [hasH,keys]
 | cons x u ih =>
  obtain ⟨i,b⟩:=x
  simp only [hasH,keys,List.map_cons,List.mem_cons,Bool.or_eq_true,beq_iff_eq]
  have ih':hasH u id=true↔id∈u.map (·.1):=ih
  rw [ih']
  constructor
  ·rintro (h | h)
   ·exact .inl h.symm
   ·exact .inr h
  ·rintro (h | h)
   ·exact .inl h.symm
   ·exact .inr h
theorem disj_not {a b:List Nat} (h:disj a b=true) {x:Nat} (h1:x∈a) (h2:x∈b):False:=by
 have:=List.all_eq_true.1 h x h1
 simp only [Bool.not_eq_true',← Bool.not_eq_true,List.contains_iff_mem] at this
 exact this h2
theorem indep_spec {r q:Rec1} (h:indep r q=true):(∀ t,r.dst=some t→t ∉ q.names)∧(∀ t,q.dst=some t→t ∉ r.names)∧(∀ t,r.dst=some t→q.dst≠some t)∧disj r.wrs q.rds=true∧disj q.wrs r.rds=true∧disj r.wrs q.wrs=true:=by
 simp only [indep,Bool.and_eq_true] at h
 obtain ⟨⟨⟨⟨⟨h1,h2⟩,h3⟩,h4⟩,h5⟩,h6⟩:=h
 refine ⟨fun t e=>?_,fun t e=>?_,fun t e e'=>?_,h4,h5,h6⟩
 ·rw [e] at h1
  have h1':(!q.names.contains t)=true:=h1
  simp only [Bool.not_eq_true',← Bool.not_eq_true,List.contains_iff_mem] at h1'
  exact h1'
 ·rw [e] at h2
  have h2':(!r.names.contains t)=true:=h2
  simp only [Bool.not_eq_true',← Bool.not_eq_true,List.contains_iff_mem] at h2'
  exact h2'
 ·rw [e,e'] at h3
  have h3':(t != t)=true:=h3
  simp at h3'
theorem namesX_mem {xs:List AX} {n:Nat} (h:AX.t n∈xs):n∈namesX xs:=by
 induction xs with
 | nil=>cases h
 | cons x xs ih =>
  simp only [namesX,List.mem_append]
  rcases List.mem_cons.1 h with rfl | h
  ·exact .inl (by simp [axSlot])
  ·exact .inr (ih h)
def unl (listed:Array Bool):Nat:=(listed.toList.filter fun b=>!b).length
theorem filt_set:∀ (l:List Bool) (i:Nat),l[i]?=some false→((l.set i true).filter fun b=>!b).length+1=(l.filter fun b=>!b).length
 | [],i,h=>by simp at h
 | b::l,0,h=>by simp at h; subst h; simp
 | b::l,i+1,h=>by
  have:=filt_set l i (by simpa using h)
  cases b <;> simp at this ⊢ <;> omega
theorem region_any_ok {ops:Array Oper} {la:List AIn} {Q:Exit→Act→World→Prop} {b:Nat} {K:Slots→Heap→Nat→Prop} (hK:∀ s H n Y m a w,K s H n→Sat C nt Y m ⟨s,H,n,b⟩ a w→Q .normal a w)
  (hla:compOps P nt ops ops.toList=some la) (hcl:closedB ops (Region.before ops).toList=true) {s:Slots} {H:Heap} {n:Nat} {Y:Nat→Prop} {m:Names} {a:Act} {w:World} (hS:Sat C nt Y m ⟨s,H,n,b⟩ a w)
  (hrun:runAny P (la.zip (freesOf (Region.before ops).toList ops.size)) [] s H n K):wpAny P .any ops Q ops.size (Array.replicate ops.size false) a w:=by
 generalize hms:(Region.before ops).toList=ms at hcl hrun
 obtain ⟨hlen0,hget⟩:=compOps_get hla
 have hlen:la.length=ops.size:=by have:=hlen0; simpa using this
 obtain ⟨tr,t1,t2,s',t3,t4⟩:=runAny_trace (la.zip (freesOf ms ops.size)) [] 0 s s H n (fun _=>rfl) hrun
 have hN:(la.zip (freesOf ms ops.size)).length=ops.size:=by simp [hlen,freesOf]
 rw [hN] at t1 t4
 simp only [Nat.zero_add,List.nil_append,List.length_nil] at t2
 -- the facts of operation i
 have fact:∀ i o,ops[i]?=some o→∃ x t,tr[i]?=some t∧compOp P o=some x.op∧dstG ops o.guard=some x.guard∧dstIn nt o.dst=true∧x.dst=o.dst ∧
   Fact P x (selS tr 0 (fun j=>decide (j<i)) s) (selH tr 0 (fun j=>decide (j<i)) H) (n+4 * i) t∧∀ j,j<i→(ms.getD i 0).testBit j=true∨∃ t',tr[j]?=some t'∧indep t'.rec1 t.rec1=true:=by
  intro i o ho
  have hi:i<ops.size:=(Array.getElem?_eq_some_iff.1 ho).1
  obtain ⟨x,x1,x2,x3,x4,x5⟩:=hget i o (by simpa using ho)
  obtain ⟨t,ht⟩:=get_some tr (k:=i) (by omega)
  have hfr:(freesOf ms ops.size)[i]?=some ((List.range i).filter fun j=>!(ms.getD i 0).testBit j):=by
   simp [freesOf,hi]
  have hz:(la.zip (freesOf ms ops.size))[i]?=some (x,(List.range i).filter fun j=>!(ms.getD i 0).testBit j):=by
   rw [List.getElem?_zip_eq_some]; exact ⟨x1,hfr⟩
  obtain ⟨f1,f2⟩:=t2 i x _ t hz ht
  refine ⟨x,t,ht,x2,x3,x4,x5,f1,fun j hj=>?_⟩
  by_cases hb:(ms.getD i 0).testBit j=true
  ·exact .inl hb
  ·obtain ⟨t',g1,_,g3⟩:=f2 j (by simp only [List.mem_filter,List.mem_range]; exact ⟨hj,by simpa using hb⟩)
   exact .inr ⟨t',g1,g3⟩
 have bits:∀ i o,ops[i]?=some o→(∀ e∈o.after,Region.binds .any e=true→e.on<i)∧∀ k,k<ops.size→(ms.getD i 0).testBit k=true→directB o k=true∨∃ e∈o.after,Region.binds .any e=true∧(ms.getD e.on 0).testBit k=true:=by
  intro i o ho
  have hi:i<ops.size:=(Array.getElem?_eq_some_iff.1 ho).1
  have h1:=List.all_eq_true.1 hcl i (List.mem_range.2 hi)
  simp only [ho,Bool.and_eq_true] at h1
  refine ⟨fun e he hbd=>?_,fun k hk htb=>?_⟩
  ·have:=Array.all_eq_true_iff_forall_mem.1 h1.1 e he
   simpa [hbd] using this
  ·have:=List.all_eq_true.1 h1.2 k (List.mem_range.2 hk)
   simp only [htb,Bool.not_true,Bool.false_or,Bool.or_eq_true] at this
   rcases this with h | h
   ·exact .inl h
   ·rw [← Array.any_toList,List.any_eq_true] at h
    obtain ⟨e,he,h⟩:=h
    replace he:=Array.mem_toList_iff.1 he
    simp only [Bool.and_eq_true] at h
    exact .inr ⟨e,he,h.1,h.2⟩
 -- sets of operations that hold what theirs wait for
 let Closed:(Nat→Bool)→Prop:=fun L=>∀ i o,L i=true→ops[i]?=some o→∀ e∈o.after,Region.binds .any e=true→L e.on=true
 have clos:∀ (L:Nat→Bool),Closed L→∀ i o,ops[i]?=some o→(∀ e∈o.after,Region.binds .any e=true→L e.on=true)→∀ k,k<ops.size→(ms.getD i 0).testBit k=true→L k=true:=by
  intro L hL i
  induction i using Nat.strongRecOn with
  | _ i ih =>
   intro o ho hd k hk htb
   obtain ⟨b1,b2⟩:=bits i o ho
   rcases b2 k hk htb with h | ⟨e,he,hbd,h⟩
   ·simp only [directB] at h
    rw [← Array.any_toList,List.any_eq_true] at h
    obtain ⟨e,he,h⟩:=h
    replace he:=Array.mem_toList_iff.1 he
    simp only [Bool.and_eq_true,beq_iff_eq] at h
    rw [← h.2]
    exact hd e he h.1
   ·have hlt:=b1 e he hbd
    have hi:i<ops.size:=(Array.getElem?_eq_some_iff.1 ho).1
    have ho':ops[e.on]?=some ops[e.on]:=Array.getElem?_eq_getElem (by omega)
    exact ih e.on hlt ops[e.on] ho' (hL e.on _ (hd e he hbd) ho') k hk h
 let FrL:(Nat→Bool)→Nat→Prop:=fun L id=>n≤id∧∀ i,L i=true→¬ (n+4 * i≤id∧id<n+4 * i+4)
 let Inv:Array Bool→Act→World→Prop:=fun listed a w=>∃ (L:Nat→Bool) (Y:Nat→Prop) (m:Names),listed.size=ops.size∧(∀ i,i<ops.size→listed[i]?=some (L i))∧(∀ i,ops.size≤i→L i=false)∧Closed L ∧
  SatF C nt Y m (selS tr 0 L s) (selH tr 0 L H) (FrL L) a w
 have key:∀ (fuel:Nat) (listed:Array Bool) (a:Act) (w:World),Inv listed a w→unl listed≤fuel→wpAny P .any ops Q fuel listed a w:=by
  -- where nothing is ready,all is done
  have done:∀ (listed:Array Bool) (a:Act) (w:World),Inv listed a w→Region.ready .any ops listed=[]→Q .normal a w:=by
   rintro listed a w ⟨L,Y,m,h1,h2,h3,h4,h5⟩ hr
   have all:∀ i,i<ops.size→L i=true:=by
    intro i
    induction i using Nat.strongRecOn with
    | _ i ih =>
     intro hi
     cases hLi:L i with
     | true=>rfl
     | false =>
      exfalso
      have hmem:i∈Region.ready .any ops listed:=by
       rw [mem_ready]
       have ho:ops[i]?=some ops[i]:=Array.getElem?_eq_getElem hi
       refine ⟨by rw [Array.getD_eq_getD_getElem?,h2 i hi,hLi]; rfl,ops[i],ho,fun e he hbd=>?_⟩
       have hlt:=(bits i _ ho).1 e he hbd
       rw [Array.getD_eq_getD_getElem?,h2 e.on (by omega),ih e.on hlt (by omega)]
       rfl
      rw [hr] at hmem
      cases hmem
   have e1:∀ t,getS s' t=getS (selS tr 0 L s) t:=fun t=>by
    rw [t3 t]
    refine selS_congr tr 0 _ _ s s t rfl (fun j e hj _=>?_)
    have hjl:j<tr.length:=(List.getElem?_eq_some_iff.1 hj).1
    rw [Nat.zero_add,all j (by omega)]
   have e2:∀ id,getH (selH tr 0 (fun _=>true) H) id=getH (selH tr 0 L H) id:=fun id=>by
    refine selH_congr tr 0 _ _ H H id rfl (fun j e hj _=>?_)
    have hjl:j<tr.length:=(List.getElem?_eq_some_iff.1 hj).1
    rw [Nat.zero_add,all j (by omega)]
   refine hK _ _ _ Y m a w t4 ⟨h5.size,h5.defers,fun i p hp hne=>h5.slots i p (by rw [← e1]; exact hp) hne,?_,hS.base⟩
   refine (h5.heap.same e2).mono (fun id hid=>?_)
   have hid':n+4 * ops.size≤id:=hid
   refine ⟨by omega,fun i hi hrng=>?_⟩
   have:i<ops.size:=by
    rcases Nat.lt_or_ge i ops.size with h | h
    ·exact h
    ·rw [h3 i h] at hi; cases hi
   omega
  intro fuel
  induction fuel with
  | zero =>
   rintro listed a w hI hu
   have hr:Region.ready .any ops listed=[]:=by
    obtain ⟨L,Y,m,h1,h2,h3,h4,h5⟩:=hI
    rw [List.eq_nil_iff_forall_not_mem]
    intro i hi
    have h0:=(mem_ready.1 hi).1
    rcases Nat.lt_or_ge i listed.size with hlt | hge
    ·have hf:listed[i]=false:=by simpa [Array.getD_eq_getD_getElem?,hlt] using h0
     have:false∈listed.toList.filter fun b=>!b:=by
      rw [List.mem_filter]; exact ⟨by rw [← hf]; exact Array.getElem_mem_toList hlt,rfl⟩
     have:=List.length_pos_of_mem this
     unfold unl at hu
     omega
    ·rw [Array.getD_eq_getD_getElem?,Array.getElem?_eq_none hge] at h0; cases h0
   exact ⟨hr,done listed a w hI hr⟩
  | succ fuel ih =>
   rintro listed a w hI hu
   refine ⟨done listed a w hI,fun i hi=>?_⟩
   obtain ⟨L,Y,m,h1,h2,h3,h4,h5⟩:=hI
   obtain ⟨hun,o,ho,hdir⟩:=mem_ready.1 hi
   have hi':i<ops.size:=(Array.getElem?_eq_some_iff.1 ho).1
   have hLi:L i=false:=by rw [Array.getD_eq_getD_getElem?,h2 i hi'] at hun; exact hun
   have hbi:=(bits i o ho).1
   have hdirL:∀ e∈o.after,Region.binds .any e=true→L e.on=true:=fun e he hbd=>by
    have:=hdir e he hbd
    rw [Array.getD_eq_getD_getElem?,h2 e.on (by have:=hbi e he hbd; omega)] at this
    exact this
   obtain ⟨x,t,ht,x2,x3,x4,x5,hf,hfree⟩:=fact i o ho
   -- what the operation looks at is as in the text's order
   have before:∀ j,j<i→L j=false→∃ t',tr[j]?=some t'∧indep t'.rec1 t.rec1=true:=by
    intro j hj hLj
    rcases hfree j hj with h | h
    ·rw [clos L h4 i o ho hdirL j (by omega) h] at hLj; cases hLj
    ·exact h
   have behind:∀ j,i<j→L j=true→∃ t',tr[j]?=some t'∧indep t.rec1 t'.rec1=true:=by
    intro j hj hLj
    have hjN:j<ops.size:=by
     rcases Nat.lt_or_ge j ops.size with h | h
     ·exact h
     ·rw [h3 j h] at hLj; cases hLj
    have hoj:ops[j]?=some ops[j]:=Array.getElem?_eq_getElem hjN
    obtain ⟨x',t',ht',_,_,_,_,_,hfr'⟩:=fact j _ hoj
    rcases hfr' i hj with h | ⟨t0,g1,g2⟩
    ·have:=clos L h4 j _ hoj (h4 j _ hLj hoj) i hi' h
     rw [hLi] at this; cases this
    ·rw [ht] at g1; injection g1 with g1; subst g1
     exact ⟨t',ht',g2⟩
   have seeS:∀ q,q∈t.names→getS (selS tr 0 (fun j=>decide (j<i)) s) q=getS (selS tr 0 L s) q:=by
    intro q hq
    refine selS_congr tr 0 _ _ s s q rfl (fun j e hj hd=>?_)
    rw [Nat.zero_add]
    rcases Nat.lt_trichotomy j i with hlt | rfl | hgt
    ·cases hLj:L j
     ·exfalso
      obtain ⟨t',g1,g2⟩:=before j hlt hLj
      rw [hj] at g1; injection g1 with g1; subst g1
      exact (indep_spec g2).1 q hd hq
     ·simp [hlt]
    ·simp [hLi]
    ·cases hLj:L j
     ·simp; omega
     ·exfalso
      obtain ⟨t',g1,g2⟩:=behind j hgt hLj
      rw [hj] at g1; injection g1 with g1; subst g1
      exact (indep_spec g2).2.1 q hd hq
   have seeH:∀ id,id∈t.rds→getH (selH tr 0 (fun j=>decide (j<i)) H) id=getH (selH tr 0 L H) id:=by
    intro id hq
    refine selH_congr tr 0 _ _ H H id rfl (fun j e hj hd=>?_)
    rw [Nat.zero_add]
    have hk:=hasH_keys.1 hd
    rcases Nat.lt_trichotomy j i with hlt | rfl | hgt
    ·cases hLj:L j
     ·exfalso
      obtain ⟨t',g1,g2⟩:=before j hlt hLj
      rw [hj] at g1; injection g1 with g1; subst g1
      exact disj_not (indep_spec g2).2.2.2.1 hk hq
     ·simp [hlt]
    ·simp [hLi]
    ·cases hLj:L j
     ·simp; omega
     ·exfalso
      obtain ⟨t',g1,g2⟩:=behind j hgt hLj
      rw [hj] at g1; injection g1 with g1; subst g1
      exact disj_not (indep_spec g2).2.2.2.2.1 hk hq
   -- the set with it
   let L':Nat→Bool:=fun j=>L j || j==i
   have newS:∀ q,getS (selS tr 0 L' s) q=getS (putS (selS tr 0 L s) t.dst t.v) q:=by
    intro q
    have:=selS_add tr 0 i L s t q ht (by rw [Nat.zero_add]; exact hLi) (fun j e' hj hij hLj hd hd'=>by
     rw [Nat.zero_add] at hLj
     obtain ⟨t',g1,g2⟩:=behind j hij hLj
     rw [hj] at g1; injection g1 with g1; subst g1
     exact (indep_spec g2).2.2.1 q hd hd')
    simpa using this
   have newH:∀ id,getH (selH tr 0 L' H) id=getH (t.u++selH tr 0 L H) id:=by
    intro id
    have:=selH_add tr 0 i L H t id ht (by rw [Nat.zero_add]; exact hLi) (fun j e' hj hij hLj hd=>by
     rw [Nat.zero_add] at hLj
     obtain ⟨t',g1,g2⟩:=behind j hij hLj
     rw [hj] at g1; injection g1 with g1; subst g1
     cases hh:hasH e'.u id
     ·rfl
     ·exact (disj_not (indep_spec g2).2.2.2.2.2 (hasH_keys.1 hd) (hasH_keys.1 hh)).elim)
    simpa using this
   have has:Has4 (FrL L) (n+4 * i):=fun id g1 g2=>⟨by omega,fun j hj hrng=>by
    have:j=i:=by omega
    subst this
    rw [hLi] at hj; cases hj⟩
   have frs:∀ id,FrL L' id→Fr4 (FrL L) (n+4 * i) id:=fun id hid=>⟨⟨hid.1,fun j hj=>hid.2 j (by simp [L',hj])⟩,hid.2 i (by simp [L'])⟩
   have next:∀ (a':Act) (w':World) (Y':Nat→Prop) (m':Names),SatF C nt Y' m' (selS tr 0 L' s) (selH tr 0 L' H) (FrL L') a' w'→wpAny P .any ops Q fuel (listed.setIfInBounds i true) a' w':=by
    intro a' w' Y' m' hs
    refine ih _ a' w' ⟨L',Y',m',by simp [h1],fun j hj=>?_,fun j hj=>?_,fun j o' hLj hoj e he hbd=>?_,hs⟩ ?_
    ·by_cases e:i=j
     ·subst e; rw [Array.getElem?_setIfInBounds_self_of_lt (by omega)]; simp [L']
     ·rw [Array.getElem?_setIfInBounds_ne e,h2 j hj]
      have:(j==i)=false:=by simpa using fun h=>e h.symm
      simp [L',this]
    ·have:(j==i)=false:=by
      have:j≠i:=by omega
      simpa using this
     simp [L',this,h3 j hj]
    ·by_cases e':j=i
     ·subst e'
      rw [ho] at hoj; injection hoj with hoj; subst hoj
      simp [L',hdirL e he hbd]
     ·have hLj':L j=true:=by
       have:(j==i)=false:=by simpa using e'
       simpa [L',this] using hLj
      simp [L',h4 j o' hLj' hoj e he hbd]
    ·have hl:listed.toList[i]?=some false:=by
      have:=h2 i hi'
      rw [hLi] at this
      simpa using this
     have:=filt_set listed.toList i hl
     unfold unl at hu ⊢
     rw [Array.toList_setIfInBounds]
     omega
   have hdst:t.dst=o.dst:=hf.1.trans x5
   have skip:t.ran=false→t.v=.tup []→t.u=[]→wpAny P .any ops Q fuel (listed.setIfInBounds i true) (a.put o.dst undef) w:=by
    intro _ hv hu'
    refine next _ _ Y m (SatF.put h5 x4 (p:=.tup []) (.tup (ps:=[]) (vs:=[]) rfl (by simp)) ?_ (Ev.refl _ _ _) (fun q=>by rw [newS q,hdst,hv]))
    refine (h5.heap.same (fun id=>by rw [newH id,hu']; rfl)).mono (fun id hid=>(frs id hid).1)
   have run:OpR P (AX.val (selS tr 0 (fun j=>decide (j<i)) s)) (selH tr 0 (fun j=>decide (j<i)) H) (n+4 * i) t.v t.u t.rds x.op→(∀ q,q∈namesX (opXs x.op)→q∈t.names) →
     o.wp P a w (wpAny P .any ops Q fuel (listed.setIfInBounds i true)) Q:=by
    intro hop hnm
    have hloc:=hop.local (ρ':=AX.val (selS tr 0 L s)) (H':=selH tr 0 L H) (fun y hy=>by
     cases y with
     | t q=>exact seeS q (hnm q (namesX_mem hy))
     | c p=>rfl) (fun id hid=>seeH id hid)
    refine hloc.sound x2 h5 has (fun val Y' m' w' g1 g2 g3=>next _ _ Y' m' ?_)
    exact SatF.put h5 x4 g1 ((g2.same (fun id=>newH id)).mono frs) g3 (fun q=>by rw [newS q,hdst])
   unfold wpOp
   simp only [ho]
   obtain ⟨_,hg⟩:=hf
   rcases hxg:x.guard with _ | ⟨j,want⟩
   ·rw [hxg] at hg x3
    obtain ⟨_,g2,g3⟩:=hg
    rw [wanted_none x3,if_pos rfl]
    exact .inl (run g3 (fun q hq=>by rw [g2]; exact hq))
   ·rw [hxg] at hg x3
    obtain ⟨bb,g1,g2,g3⟩:=hg
    have hjn:j∈t.names:=by
     rcases g3 with ⟨_,g3,_⟩ | ⟨_,g3,_⟩ <;> rw [g3] <;> simp
    have hgj:getS (selS tr 0 L s) j=gPV bb:=by rw [← seeS j hjn]; exact g1
    rw [wantedF_of h5 x3 hgj]
    rcases g3 with ⟨r1,r2,r3⟩ | ⟨r1,r2,r3,r4,r5⟩
    ·rw [if_pos (by rw [← g2,r1])]
     exact .inl (run r3 (fun q hq=>by rw [r2]; simp [hq]))
    ·rw [if_neg (by rw [← g2,r1]; simp)]
     exact skip r1 r3 r4
 refine key _ _ a w ⟨fun _=>false,Y,m,by simp,fun i hi=>by simp [hi],fun _ _=>rfl,(fun i o h=>by cases h),?_⟩ ?_
 ·rw [selS_none _ _ _ _ (fun _ _=>rfl),selH_none _ _ _ _ (fun _ _=>rfl)]
  exact ⟨hS.size,hS.defers,hS.slots,hS.heap.mono (fun id hid=>hid.1)⟩
 ·unfold unl
  exact Nat.le_trans (List.length_filter_le _ _) (by simp)
open Go.RowKit
variable {P:Program} {C:Ctx} {nt:Nat}
def PostA (C:Ctx) (nt:Nat) (Q:AEx→ST→Prop):Exit→Act→World→Prop
 | .normal,a,w=>∃ st Y m,Q .normal st∧Sat C nt Y m st a w
 | .exit i,a,w=>∃ st Y m,Q (.exit i) st∧Sat C nt Y m st a w
 | .ret,a,w=>∃ st Y m,Q .ret st∧Sat C nt Y m st a w
 | _,_,_=>False
theorem least {p:Nat→Prop} (h:∃ k,p k):∃ k,p k∧∀ j,p j→k≤j:=by
 obtain ⟨k,hk⟩:=h
 induction k using Nat.strongRecOn with
 | _ k ih =>
  by_cases hj:∃ j,j<k∧p j
  ·obtain ⟨j,h1,h2⟩:=hj; exact ih j h1 h2
  ·exact ⟨k,hk,fun j hpj=>Nat.le_of_not_lt fun hlt=>hj ⟨j,hlt,hpj⟩⟩
theorem Sat.drew {Y:Nat→Prop} {m:Names} {st:ST} {a:Act} {w:World} (h:Sat C nt Y m st a w):∃ Y',Sat C nt Y' m st a { w with drawn:=w.drawn+1 }:=by
 have hg:w.grownBy { w with drawn:=w.drawn+1 } none:=grown_drew (grown_refl w none)
 have hne:∀ id b,getH st.heap id=some b→id≠st.next:=by
  rintro id b hb rfl
  obtain ⟨pl,e,_⟩:=h.heap.blk _ b hb
  rw [h.heap.fresh _ (Nat.le_refl _)] at e
  cases e
 obtain ⟨h1,h2⟩:=h.heap.go (Fr':=fun id=>st.next≤id) (fun _ h=>h) hg (by simp) (m':=m) (fun _ _ h=>h) (fun id hid=>h.heap.fresh id hid) (fun _ _ h=>.inl h) st.next (H':=st.heap) (fun id b hb=>.inl ⟨hne id b hb,hb,by simp⟩)
 exact ⟨_,h.size,h.defers,fun i p hp hne=>by
  obtain ⟨v,k1,k2⟩:=h.slots i p hp hne
  exact ⟨v,k1,k2.ev h2⟩,h1,h.base⟩
theorem run_ok:∀ (c:Code) (ac:ACode) (st:ST) (Q:AEx→ST→Prop) (Y:Nat→Prop) (m:Names) (a:Act) (w:World),comp P nt c=some ac→run P ac st Q→Sat C nt Y m st a w→c.wp P (PostA C nt Q) a w:=by
 intro c
 induction c with
 | skip =>
  intro ac st Q Y m a w hc h hS
  simp only [comp,Option.some.injEq] at hc; subst hc
  exact wp_skip ⟨st,Y,m,h,hS⟩
 | ret =>
  intro ac st Q Y m a w hc h hS
  simp only [comp,Option.some.injEq] at hc; subst hc
  exact wp_ret ⟨st,Y,m,h,hS⟩
 | exit i =>
  intro ac st Q Y m a w hc h hS
  simp only [comp,Option.some.injEq] at hc; subst hc
  exact wp_exit ⟨st,Y,m,h,hS⟩
 | region id ops d =>
  intro ac st Q Y m a w hc h hS
  cases d
  ·simp only [comp,cond_false] at hc
   obtain ⟨l,hl,rfl⟩:=map_some hc
   obtain ⟨s,H,n,b⟩:=st
   exact wp_region_list (runOps_ok (b:=b) (K:=fun s H n=>Q .normal ⟨s,H,n,b⟩) (fun s H n Y m a w hq hs=>⟨_,Y,m,hq,hs⟩) ops.toList l s H n Y m a w hl hS h)
  ·simp only [comp,cond_true] at hc
   cases hcl:closedB ops (Region.before ops).toList && P.follows .mixedOrders
   ·simp [hcl] at hc
   ·simp only [hcl,cond_true] at hc
    obtain ⟨l,hl,rfl⟩:=map_some hc
    simp only [Bool.and_eq_true] at hcl
    obtain ⟨s,H,n,b⟩:=st
    obtain ⟨Y',hS'⟩:=hS.drew
    exact wp_region_any hcl.2 (region_any_ok (b:=b) (K:=fun s H n=>Q .normal ⟨s,H,n,b⟩) (fun s H n Y m a w hq hs=>⟨_,Y,m,hq,hs⟩) hl hcl.1 hS' h)
 | seq x y ih1 ih2 =>
  intro ac st Q Y m a w hc h hS
  simp only [comp] at hc
  split at hc
  ·rename_i x' y' h1 h2
   simp only [Option.some.injEq] at hc; subst hc
   refine wp_seq (wp_mono (ih1 x' st _ Y m a w h1 h hS) ?_)
   intro e a w hp
   cases e with
   | normal=>obtain ⟨st',Y',m',hq,hs⟩:=hp; exact ih2 y' st' Q Y' m' a w h2 hq hs
   | exit i=>exact hp
   | ret=>exact hp
   | goto l=>exact hp.elim
   | panic c=>exact hp.elim
   | outgrown=>exact hp.elim
  ·cases hc
 | cond x b1 b2 ih1 ih2 =>
  intro ac st Q Y m a w hc h hS
  simp only [comp] at hc
  split at hc
  ·rename_i x' y' z' h1 h2 h3
   simp only [Option.some.injEq] at hc; subst hc
   have h':onBool (x'.val st.slots) fun c=>split2 c (fun _=>run P y' st Q) (fun _=>run P z' st Q):=h
   unfold onBool at h'
   split at h'
   ·rename_i t ht
    have hv:=hS.operand x x' h1
    rw [ht] at hv
    exact wp_cond_split hv.bool_inv (fun e=>ih1 y' st Q Y m a w h2 (h'.1 e) hS) (fun e=>ih2 z' st Q Y m a w h3 (h'.2 e) hS)
   ·exact h'.elim
  ·cases hc
 | block id x ih =>
  intro ac st Q Y m a w hc h hS
  simp only [comp] at hc
  obtain ⟨x',hx,rfl⟩:=map_some hc
  refine wp_block (wp_mono (ih x' st _ Y m a w hx h hS) ?_)
  intro e a w hp
  cases e with
  | normal=>exact hp
  | ret=>exact hp
  | exit i =>
   obtain ⟨st',Y',m',hq,hs⟩:=hp
   have hq':bif i==id then Q .normal st' else Q (.exit i) st':=hq
   show if i=id then PostA C nt Q .normal a w else PostA C nt Q (.exit i) a w
   by_cases e:i=id
   ·subst e
    rw [if_pos rfl]
    exact ⟨st',Y',m',by simpa using hq',hs⟩
   ·have:(i==id)=false:=by simpa using e
    rw [if_neg e]
    exact ⟨st',Y',m',by simpa [this] using hq',hs⟩
  | goto l=>exact hp.elim
  | panic c=>exact hp.elim
  | outgrown=>exact hp.elim
 | loop x ih =>
  intro ac st Q Y m a w hc h hS
  simp only [comp] at hc
  obtain ⟨x',hx,rfl⟩:=map_some hc
  obtain ⟨ι,I,μ,i0,hcov,hstep⟩:=h
  obtain ⟨Y0,m0,hS0⟩:=hcov C nt Y m a w hS
  -- the least measure of a member that the state fits
  let good:Act→World→Nat→Prop:=fun a w k=>∃ i Y m,Sat C nt Y m (I i) a w∧μ i=k
  let M:Act→World→Nat:=fun a w=>open Classical in if h:∃ k,good a w k then Classical.choose (least h) else 0
  have hM:∀ a w k,good a w k→good a w (M a w)∧M a w≤k:=by
   intro a w k hk
   have hex:∃ k,good a w k:=⟨k,hk⟩
   have e:M a w=Classical.choose (least hex):=by simp only [M]; rw [dif_pos hex]
   have sp:=Classical.choose_spec (least hex)
   rw [e]
   exact ⟨sp.1,sp.2 k hk⟩
  refine wp_loop (fun a w=>∃ k,good a w k) M ⟨_,i0,Y0,m0,hS0,rfl⟩ ?_
  rintro a w ⟨k,hk⟩
  obtain ⟨⟨i,Y,m,hS,hi⟩,_⟩:=hM a w k hk
  refine wp_mono (ih x' (I i) _ Y m a w hx (hstep i) hS) ?_
  intro e a1 w1 hp
  cases e with
  | normal =>
   obtain ⟨st',Y',m',⟨j,hlt,hc2⟩,hs⟩:=hp
   obtain ⟨Y2,m2,hS2⟩:=hc2 C nt Y' m' a1 w1 hs
   have hg:good a1 w1 (μ j):=⟨j,Y2,m2,hS2,rfl⟩
   exact ⟨⟨_,hg⟩,by have:=(hM a1 w1 _ hg).2; omega⟩
  | exit i=>exact hp
  | ret=>exact hp
  | goto l=>exact hp.elim
  | panic c=>exact hp.elim
  | outgrown=>exact hp.elim
 | _=>intro ac st Q Y m a w hc h hS; simp [comp] at hc
open Go.RowKit
variable {P:Program}
def ColEq (n:Nat) (c c':Col):Prop:=∀ (Y:Nat→Prop) (w:World) (k:Nat) (v:Value),k<n→ColRep Y w c k v→ColRep Y w c' k v
def ColsEq (n:Nat):List Col→List Col→Prop
 | [],[]=>True
 | c::cs,d::ds=>ColEq n c d∧ColsEq n cs ds
 | _,_=>False
theorem ColEq.refl (n:Nat) (c:Col):ColEq n c c:=fun _ _ _ _ _ h=>h
theorem ColEq.i {n:Nat} {k:IntKind} {g h:Nat→Int} (e:∀ j,j<n→g j=h j):ColEq n (.i k g) (.i k h):=fun Y w j v hj hv=>by
 cases hv; rw [e j hj]; exact .i
theorem ColEq.b {n:Nat} {g h:Nat→Bool} (e:∀ j,j<n→g j=h j):ColEq n (.b g) (.b h):=fun Y w j v hj hv=>by
 cases hv; rw [e j hj]; exact .b
theorem ColEq.s {n:Nat} {g h:Nat→List UInt8} (e:∀ j,j<n→g j=h j):ColEq n (.s g) (.s h):=fun Y w j v hj hv=>by
 cases hv; rw [e j hj]; exact .s
theorem ColsEq.len:∀ {n:Nat} {cs ds:List Col},ColsEq n cs ds→cs.length=ds.length
 | n,[],[],h=>rfl
 | n,c::cs,[],h=>h.elim
 | n,[],d::ds,h=>h.elim
 | n,c::cs,d::ds,h=>by simp [ColsEq.len h.2]
theorem ColsEq.get:∀ {n:Nat} {cs ds:List Col},ColsEq n cs ds→∀ (i:Nat) d,ds[i]?=some d→∃ c,cs[i]?=some c∧ColEq n c d
 | n,[],[],h,i,d,hd=>by simp at hd
 | n,c::cs,[],h,i,d,hd=>h.elim
 | n,[],d::ds,h,i,d',hd=>h.elim
 | n,c::cs,d::ds,h,i,d',hd=>by
  rcases i with _ | i
  ·simp only [List.getElem?_cons_zero,Option.some.injEq] at hd; subst hd; exact ⟨c,rfl,h.1⟩
  ·simp only [List.getElem?_cons_succ] at hd; simpa using ColsEq.get h.2 i d' hd
theorem ColsEq.refl (n:Nat):∀ cs:List Col,ColsEq n cs cs
 | []=>trivial
 | c::cs=>⟨ColEq.refl n c,ColsEq.refl n cs⟩
theorem ColsEq.lit {Y:Nat→Prop} {m:Names} {w:World} {nl:Bool} {n:Nat} {cs ds:List Col} {v:Value} (h:ColsEq n cs ds) (hr:Rep Y m w (.lit nl n cs) v):Rep Y m w (.lit nl n ds) v:=by
 obtain ⟨A,cap,u,rfl,e2,e3,e4,e5,e6⟩:=hr.lit_inv
 refine Rep.lit_mk u e2 e3 e4 (fun j k hj hk=>by rw [← h.len] at hk ⊢; exact e5 j k hj hk) (fun j k d hj hd=>?_)
 obtain ⟨c,hc,he⟩:=h.get k d hd
 exact he _ _ _ _ hj (e6 j k c hj hc)
theorem ColEq.l {n:Nat} {nl nl':Nat→Bool} {len len':Nat→Nat} {cols cols':Nat→List Col} (e:∀ j,j<n→nl j=nl' j∧len j=len' j∧ColsEq (len j) (cols j) (cols' j)):ColEq n (.l nl len cols) (.l nl' len' cols'):=fun Y w j v hj hv=>by
 obtain ⟨h1,h2,h3⟩:=e j hj
 have hr:Rep Y (fun _=>none) w (.lit (nl j) (len j) (cols j)) v:=rep_colPV hv
 have:=h3.lit hr
 rw [h1,h2] at this
 obtain ⟨A,cap,u,rfl,e2,e3,e4,e5,e6⟩:=this.lit_inv
 exact .l u e2 e3 e4 e5 e6
def MEq:MCol→MCol→MK→Prop
 | .l nl len cols,.l nl' len' cols',q=>nl q=nl' q∧len q=len' q∧ColsEq (len q) (cols q) (cols' q)
 | .i k g,.i k' g',q=>mVal (.i k g) q=mVal (.i k' g') q
 | .b g,.b g',q=>mVal (.b g) q=mVal (.b g') q
 | .s g,.s g',q=>mVal (.s g) q=mVal (.s g') q
 | _,_,_=>False
theorem MEq.refl (c:MCol) (q:MK):MEq c c q:=by
 cases c with
 | l nl len cols=>exact ⟨rfl,rfl,ColsEq.refl _ _⟩
 | _=>rfl
theorem MEq.rep {Y:Nat→Prop} {w:World} {c c':MCol} {q:MK} {v:Value} (e:MEq c c' q) (h:MR Y w c q v):MR Y w c' q v:=by
 cases c <;> cases c' <;> first | exact h.trans e | exact e.elim | skip
 exact ColEq.l (fun j _=>e) Y w 0 v (Nat.zero_lt_one) h
def srcOf:List (Nat × Nat)→Nat→Nat
 | [],id=>id
 | (a,b)::r,id=>bif a==id then b else srcOf r id
def ACEq (hi:Nat) (ren nils:List (Nat × Nat)) (n:Nat):Col→Col→Prop
 | .i k g,.i k' g'=>ColEq n (.i k g) (.i k' g')
 | .b g,.b g'=>ColEq n (.b g) (.b g')
 | .s g,.s g'=>ColEq n (.s g) (.s g')
 | .l a g c,.l a' g' c'=>ColEq n (.l a g c) (.l a' g' c')
 | .o a g,.o a' g'=>∀ j,j<n→srcOf ren (a' j)=a j∧(nils.all fun x=>x.1 != a' j)=true∧a' j<hi∧g j=g' j
 | .q a,.q a'=>∀ j,j<n→srcOf ren (a' j)=a j∧(nils.all fun x=>x.1 != a' j)=true∧a' j<hi
 | _,_=>False
def AColsEq (hi:Nat) (ren nils:List (Nat × Nat)) (n:Nat):List Col→List Col→Prop
 | [],[]=>True
 | c::cs,d::ds=>ACEq hi ren nils n c d∧AColsEq hi ren nils n cs ds
 | _,_=>False
theorem AColsEq.len {hi:Nat} {ren nils:List (Nat × Nat)}:∀ {n:Nat} {cs ds:List Col},AColsEq hi ren nils n cs ds→cs.length=ds.length
 | n,[],[],h=>rfl
 | n,c::cs,[],h=>h.elim
 | n,[],d::ds,h=>h.elim
 | n,c::cs,d::ds,h=>by simp [AColsEq.len h.2]
theorem AColsEq.get {hi:Nat} {ren nils:List (Nat × Nat)}:∀ {n:Nat} {cs ds:List Col},AColsEq hi ren nils n cs ds→∀ (i:Nat) d,ds[i]?=some d→∃ c,cs[i]?=some c∧ACEq hi ren nils n c d
 | n,[],[],h,i,d,hd=>by simp at hd
 | n,c::cs,[],h,i,d,hd=>h.elim
 | n,[],d::ds,h,i,d',hd=>h.elim
 | n,c::cs,d::ds,h,i,d',hd=>by
  rcases i with _ | i
  ·simp only [List.getElem?_cons_zero,Option.some.injEq] at hd; subst hd; exact ⟨c,rfl,h.1⟩
  ·simp only [List.getElem?_cons_succ] at hd; simpa using AColsEq.get h.2 i d' hd
mutual
def PVCov (hi:Nat) (ren nils:List (Nat × Nat)):PV→PV→Prop
 | _,.any=>True
 | .int k n,.int k' n'=>k=k'∧n=n'
 | .bool b,.bool b'=>b=b'
 | .str s,.str s'=>s=s'
 | .lit nl n c,.lit nl' n' c'=>nl=nl'∧n=n'∧ColsEq n c c'
 | .ptr id o,.ptr id' o'=>srcOf ren id'=id∧(nils.all fun x=>x.1 != id')=true∧id'<hi∧o=o'
 | .nilp,.nilp=>True
 | .nili,.nili=>True
 | .elp c i,.elp c' i'=>c=c'∧i=i'
 | .arp id i j,.arp id' i' j'=>srcOf ren id'=id∧(nils.all fun x=>x.1 != id')=true∧id'<hi∧i=i'∧j=j'
 | .arv id,.arv id'=>srcOf ren id'=id∧(nils.all fun x=>x.1 != id')=true∧id'<hi
 | .sl id o n,.sl id' o' n'=>srcOf ren id'=id∧(nils.all fun x=>x.1 != id')=true∧id'<hi∧o=o'∧n=n'
 | .lit nl n _,.sl id' o' n'=>(nils.any fun x=>x.1==id')=true∧nl=true∧n=0∧o'=0∧n'=0
 | .agg ps,.agg ps'=>PVCovs hi ren nils ps ps'
 | .tup ps,.tup ps'=>PVCovs hi ren nils ps ps'
 | .fn f ps,.fn f' ps'=>f=f'∧PVCovs hi ren nils ps ps'
 | .mp id,.mp id'=>srcOf ren id'=id∧(nils.all fun x=>x.1 != id')=true∧id'<hi
 | .stp id,.stp id'=>srcOf ren id'=id∧(nils.all fun x=>x.1 != id')=true∧id'<hi
 | _,_=>False
def PVCovs (hi:Nat) (ren nils:List (Nat × Nat)):List PV→List PV→Prop
 | [],[]=>True
 | p::ps,q::qs=>PVCov hi ren nils p q∧PVCovs hi ren nils ps qs
 | _,_=>False
end
def BlkCov (hi:Nat) (ren nils:List (Nat × Nat)):ABlk→ABlk→Prop
 | .box T cs,.box T' cs'=>T=T'∧PVCovs hi ren nils cs cs'
 | .arr T n cols,.arr T' n' cols'=>T=T'∧n=n'∧AColsEq hi ren nils n cols cols'
 | .map kk dom c,.map kk' dom' c'=>kk=kk'∧∀ q,keyG kk q=true→dom q=dom' q∧(dom q=true→MEq c c' q)
 | .mape kk dom c q sid,.mape kk' dom' c' q' sid'=>kk=kk'∧dom=dom'∧c=c'∧q=q'∧srcOf ren sid'=sid∧(nils.all fun x=>x.1 != sid')=true∧sid'<hi
 | .sit s p,.sit s' p'=>s=s'∧p=p'
 | _,_=>False
def onBlk:Option ABlk→(ABlk→Prop)→Prop
 | some b,k=>k b
 | none,_=>False
def nilBlk (sz:Nat):ABlk→Prop
 | .arr _ n cols=>n=0∧cols.length=sz
 | _=>False
def nilSz:List (Nat × Nat)→Nat→Option Nat
 | [],_=>none
 | (a,b)::r,id=>bif a==id then some b else nilSz r id
def orNil (o:Option Nat) (A:Nat→Prop) (B:Prop):Prop:=match o with
 | some sz=>A sz
 | none=>B
def HeapCov (hi:Nat) (ren nils:List (Nat × Nat)) (H:Heap):Heap→Prop
 | []=>True
 | (_,none)::H2=>HeapCov hi ren nils H H2
 | (id,some b)::H2=>orNil (nilSz nils id) (fun sz=>nilBlk sz b) (onBlk (getH H (srcOf ren id)) fun b1=>BlkCov hi ren nils b1 b)∧HeapCov hi ren nils H H2
def HCov (hi:Nat) (ren nils:List (Nat × Nat)) (H H2:Heap):Prop:=∀ id b,getH H2 id=some b→orNil (nilSz nils id) (fun sz=>nilBlk sz b) (onBlk (getH H (srcOf ren id)) fun b1=>BlkCov hi ren nils b1 b)
def liveIds:Heap→List Nat
 | []=>[]
 | (_,none)::H=>liveIds H
 | (id,some _)::H=>id::liveIds H
def apart (ren nils:List (Nat × Nat)):List Nat→Bool
 | []=>true
 | id::r=>(r.all fun j=>j==id || (nilSz nils id).isSome || (nilSz nils j).isSome || srcOf ren j != srcOf ren id) && apart ren nils r
def SlotsCov (hi:Nat) (ren nils:List (Nat × Nat)) (s:Slots):Slots→Prop
 | []=>True
 | (i,p)::s2=>PVCov hi ren nils (getS s i) p∧SlotsCov hi ren nils s s2
def inRange (lo hi:Nat) (l:List (Nat × Nat)):Bool:=l.all fun x=>decide (lo≤x.1) && decide (x.1<hi)
def newNames (ren nils:List (Nat × Nat)) (hi:Nat) (m:Names):Names:=fun id =>
 match nilSz nils id with
 | some sz=>some ⟨0,.slice none 0 0,0,sz,0⟩
 | none=>if id<hi then m (srcOf ren id) else none
section
variable {ren nils:List (Nat × Nat)} {Y:Nat→Prop} {m:Names} {w:World} {hi:Nat}
theorem nilSz_any {l:List (Nat × Nat)} {id:Nat}:(l.any fun x=>x.1==id)=true↔(nilSz l id).isSome=true:=by
 induction l with
 | nil=>simp [nilSz]
 | cons x l ih =>
  obtain ⟨a,b⟩:=x
  simp only [List.any_cons,nilSz,Bool.or_eq_true]
  by_cases h:(a==id)=true
  ·simp [h]
  ·simp only [Bool.not_eq_true] at h; simp [h,ih]
theorem nilSz_all {l:List (Nat × Nat)} {id:Nat} (h:(l.all fun x=>x.1 != id)=true):nilSz l id=none:=by
 cases hn:nilSz l id with
 | none=>rfl
 | some sz =>
  have:=nilSz_any.2 (show (nilSz l id).isSome=true by rw [hn]; rfl)
  rw [List.any_eq_true] at this
  obtain ⟨x,hx,hx2⟩:=this
  rw [List.all_eq_true] at h
  have:=h x hx
  simp only [bne_iff_ne,ne_eq] at this
  exact absurd (by simpa using hx2) this
theorem newNames_of {id':Nat} (hn:(nils.all fun x=>x.1 != id')=true) {pl:Pl} (hm:m (srcOf ren id')=some pl) (hlt:id'<hi):newNames ren nils hi m id'=some pl:=by
 unfold newNames
 rw [nilSz_all hn]
 simp only
 rw [if_pos hlt,hm]
mutual
theorem PVCov.rep:∀ (q p:PV) (v:Value),PVCov hi ren nils p q→Rep Y m w p v→Rep Y (newNames ren nils hi m) w q v
 | .any,p,v,h,hr=>.any
 | .int _ _,p,v,h,hr=>by
  cases p <;> simp only [PVCov] at h
  obtain ⟨rfl,rfl⟩:=h; rw [hr.int_inv]; exact .int
 | .bool _,p,v,h,hr=>by
  cases p <;> simp only [PVCov] at h
  subst h; rw [hr.bool_inv]; exact .bool
 | .str _,p,v,h,hr=>by
  cases p <;> simp only [PVCov] at h
  subst h; rw [hr.str_inv]; exact .str
 | .lit _ _ _,p,v,h,hr=>by
  cases p <;> simp only [PVCov] at h
  obtain ⟨rfl,rfl,h⟩:=h
  have:=h.lit hr
  cases this with | lit h=>exact .lit h
 | .ptr _ _,p,v,h,hr=>by
  cases p <;> simp only [PVCov] at h
  obtain ⟨rfl,hn,hlt,rfl⟩:=h
  obtain ⟨pl,h1,rfl⟩:=hr.ptr_inv
  exact .ptr (newNames_of hn h1 hlt)
 | .nilp,p,v,h,hr=>by
  cases p <;> simp only [PVCov] at h
  cases hr; exact .nilp
 | .nili,p,v,h,hr=>by
  cases p <;> simp only [PVCov] at h
  cases hr; exact .nili
 | .elp _ _,p,v,h,hr=>by
  cases p <;> simp only [PVCov] at h
  obtain ⟨rfl,rfl⟩:=h
  obtain ⟨b,oo,u,rfl,h1,h2⟩:=hr.elp_inv
  exact .elp h1 u h2
 | .arp _ _ _,p,v,h,hr=>by
  cases p <;> simp only [PVCov] at h
  obtain ⟨rfl,hn,hlt,rfl,rfl⟩:=h
  obtain ⟨pl,h1,h2,rfl⟩:=hr.arp_inv
  exact .arp (newNames_of hn h1 hlt) h2
 | .arv _,p,v,h,hr=>by
  cases p <;> simp only [PVCov] at h
  obtain ⟨rfl,hn,hlt⟩:=h
  obtain ⟨pl,h1,h2,h3,rfl⟩:=hr.arv_inv
  exact .arv (newNames_of hn h1 hlt) h2 h3
 | .sl id' _ _,p,v,h,hr=>by
  cases p <;> simp only [PVCov] at h
  ·obtain ⟨hn,rfl,rfl,rfl,rfl⟩:=h
   obtain ⟨A,cap,u,rfl,e2,e3,_⟩:=hr.lit_inv
   have hA:A=none:=by cases A <;> simp at e2; rfl
   subst hA
   obtain ⟨_,rfl⟩:=e3 rfl
   obtain ⟨sz,hsz⟩:=Option.isSome_iff_exists.1 (nilSz_any.1 hn)
   have:newNames ren nils hi m id'=some ⟨0,.slice none 0 0,0,sz,0⟩:=by unfold newNames; rw [hsz]
   exact .sl this rfl (Nat.le_refl _) (fun _=>⟨rfl,rfl⟩) (fun h=>by omega) (fun _=>rfl) (Nat.le_refl _) rfl
  ·obtain ⟨rfl,hn,hlt,rfl,rfl⟩:=h
   obtain ⟨pl,A,B,c,cap,h1,rfl,h3,h4,h5,h6,h7,h8,h9⟩:=hr.sl_inv
   exact .sl (newNames_of hn h1 hlt) h3 h4 h5 h6 h7 h8 h9
 | .agg qs,p,v,h,hr=>by
  cases p <;> simp only [PVCov] at h
  obtain ⟨vs,rfl,h1,h2,h3⟩:=hr.agg_inv
  have:=PVCovs.rep qs _ vs h h2
  exact .agg (h1.trans this.1) this.2 h3
 | .tup qs,p,v,h,hr=>by
  cases p <;> simp only [PVCov] at h
  obtain ⟨vs,rfl,h1,h2⟩:=hr.tup_inv
  have:=PVCovs.rep qs _ vs h h2
  exact .tup (h1.trans this.1) this.2
 | .fn _ qs,p,v,h,hr=>by
  cases p <;> simp only [PVCov] at h
  obtain ⟨rfl,h⟩:=h
  obtain ⟨vs,rfl,h1,h2⟩:=hr.fn_inv
  have:=PVCovs.rep qs _ vs h h2
  exact .fn (h1.trans this.1) this.2
 | .mp _,p,v,h,hr=>by
  cases p <;> simp only [PVCov] at h
  obtain ⟨rfl,hn,hlt⟩:=h
  obtain ⟨pl,h1,rfl⟩:=hr.mp_inv
  exact .mp (newNames_of hn h1 hlt)
 | .stp _,p,v,h,hr=>by
  cases p <;> simp only [PVCov] at h
  obtain ⟨rfl,hn,hlt⟩:=h
  obtain ⟨pl,h1,rfl⟩:=hr.stp_inv
  exact .stp (newNames_of hn h1 hlt)
theorem PVCovs.rep:∀ (qs ps:List PV) (vs:List Value),PVCovs hi ren nils ps qs→(∀ (i:Nat) p v,ps[i]?=some p→vs[i]?=some v→Rep Y m w p v) →
  ps.length=qs.length∧∀ (i:Nat) q v,qs[i]?=some q→vs[i]?=some v→Rep Y (newNames ren nils hi m) w q v
 | [],ps,vs,h,hr=>by
  cases ps <;> simp only [PVCovs] at h
  exact ⟨rfl,fun i q v hq=>by simp at hq⟩
 | q::qs,ps,vs,h,hr=>by
  cases ps <;> simp only [PVCovs] at h
  rename_i p ps
  have ih:=PVCovs.rep qs ps (vs.drop 1) h.2 (fun i p v hp hv=>hr (i+1) p v (by simpa using hp) (by rw [List.getElem?_drop] at hv; rwa [Nat.add_comm] at hv))
  refine ⟨by simp [ih.1],fun i q' v hq hv=>?_⟩
  rcases i with _ | i
  ·simp only [List.getElem?_cons_zero,Option.some.injEq] at hq
   subst hq
   exact PVCov.rep q p v h.1 (hr 0 p v rfl hv)
  ·simp only [List.getElem?_cons_succ] at hq
   exact ih.2 i q' v hq (by rw [List.getElem?_drop,Nat.add_comm]; exact hv)
end
theorem ACEq.rep {n:Nat} {c d:Col} (h:ACEq hi ren nils n c d) {k:Nat} {v:Value} (hk:k<n) (hr:ACR Y m w c k v):ACR Y (newNames ren nils hi m) w d k v:=by
 cases c with
 | o a g =>
  cases d <;> simp only [ACEq] at h
  obtain ⟨h1,h2,h3,h4⟩:=h k hk
  obtain ⟨pl,A,B,c,cap,g1,g2⟩:=hr
  rw [h4] at g2
  exact ⟨pl,A,B,c,cap,newNames_of h2 (by rw [h1]; exact g1) h3,g2⟩
 | q a =>
  cases d <;> simp only [ACEq] at h
  obtain ⟨h1,h2,h3⟩:=h k hk
  obtain ⟨pl,g1,g2⟩:=hr
  exact ⟨pl,newNames_of h2 (by rw [h1]; exact g1) h3,g2⟩
 | _ =>
  cases d <;> simp only [ACEq] at h
  exact (h _ _ _ _ hk (ACR.col hr rfl)).acr
theorem BlkCov.sat {b1 b:ABlk} {pl:Pl} (h:BlkCov hi ren nils b1 b) (hb:BlkSat Y m w pl b1):BlkSat Y (newNames ren nils hi m) w pl b∧b.lies pl=b1.lies pl:=by
 cases b1 <;> cases b <;> simp only [BlkCov] at h
 ·obtain ⟨rfl,h⟩:=h
  obtain ⟨vs,h1,h2,h3,h4⟩:=hb
  have:=PVCovs.rep _ _ vs h h4
  exact ⟨⟨vs,h1,h2.trans this.1,h3,this.2⟩,rfl⟩
 ·obtain ⟨rfl,rfl,h⟩:=h
  obtain ⟨xs,cap,s1,s2,s3,s4,s5,s6,s7⟩:=hb
  refine ⟨⟨xs,cap,s1,s2.trans h.len,by rw [← h.len]; exact s3,s4,s5,s6,fun i j d hi hd=>?_⟩,rfl⟩
  obtain ⟨c,hc,he⟩:=h.get j d hd
  obtain ⟨v,h1,h2⟩:=s7 i j c hi hc
  exact ⟨v,by rw [← h.len]; exact h1,he.rep hi h2⟩
 ·obtain ⟨rfl,h⟩:=h
  obtain ⟨es,clk,h1,h2,h3⟩:=hb
  refine ⟨⟨es,clk,h1,h2,fun q hq=>?_⟩,rfl⟩
  obtain ⟨e1,e2⟩:=h q hq
  obtain ⟨k1,k2⟩:=h3 q hq
  rw [← e1]
  exact ⟨fun hd=>let ⟨x,a,b,d⟩:=k1 hd; ⟨x,a,b,(e2 hd).rep d⟩,k2⟩
 ·obtain ⟨rfl,rfl,rfl,rfl,k1,k2,k3⟩:=h
  obtain ⟨hn,hk0,es,clk,h1,h2,h3,pls,h4,h5⟩:=hb
  exact ⟨⟨hn,hk0,es,clk,h1,h2,h3,pls,newNames_of k2 (by rw [k1]; exact h4) k3,h5⟩,rfl⟩
 ·obtain ⟨rfl,rfl⟩:=h
  exact ⟨hb,rfl⟩
theorem HeapCov.get {H:Heap}:∀ {H2:Heap} {id:Nat} {b:ABlk},HeapCov hi ren nils H H2→getH H2 id=some b→orNil (nilSz nils id) (fun sz=>nilBlk sz b) (onBlk (getH H (srcOf ren id)) fun b1=>BlkCov hi ren nils b1 b)
 | [],id,b,h,hg=>by simp [getH] at hg
 | (i,none)::H2,id,b,h,hg=>by
  simp only [HeapCov] at h
  simp only [getH] at hg
  by_cases e:(i==id)=true
  ·simp [e] at hg
  ·simp only [Bool.not_eq_true] at e; simp only [e,cond_false] at hg; exact HeapCov.get h hg
 | (i,some b')::H2,id,b,h,hg=>by
  simp only [HeapCov] at h
  simp only [getH] at hg
  by_cases e:(i==id)=true
  ·simp only [e,cond_true,Option.some.injEq] at hg
   subst hg
   have:i=id:=by simpa using e
   subst this
   exact h.1
  ·simp only [Bool.not_eq_true] at e; simp only [e,cond_false] at hg; exact HeapCov.get h.2 hg
theorem live_mem:∀ {H:Heap} {id:Nat} {b:ABlk},getH H id=some b→id∈liveIds H
 | [],id,b,h=>by simp [getH] at h
 | (i,none)::H,id,b,h=>by
  simp only [getH] at h
  by_cases e:(i==id)=true
  ·simp [e] at h
  ·simp only [Bool.not_eq_true] at e; simp only [e,cond_false] at h; exact live_mem (H:=H) h
 | (i,some b')::H,id,b,h=>by
  simp only [getH] at h
  simp only [liveIds,List.mem_cons]
  by_cases e:(i==id)=true
  ·exact .inl (by simpa using e:i=id).symm
  ·simp only [Bool.not_eq_true] at e; simp only [e,cond_false] at h; exact .inr (live_mem h)
theorem apart_spec:∀ {l:List Nat},apart ren nils l=true→∀ id id',id∈l→id'∈l→id≠id'→nilSz nils id=none→nilSz nils id'=none→srcOf ren id≠srcOf ren id'
 | [],h,id,id',h1,h2,hne,n1,n2=>by cases h1
 | x::l,h,id,id',h1,h2,hne,n1,n2=>by
  simp only [apart,Bool.and_eq_true,List.all_eq_true] at h
  rcases List.mem_cons.1 h1 with rfl | k1 <;> rcases List.mem_cons.1 h2 with rfl | k2
  ·exact absurd rfl hne
  ·have:=h.1 id' k2
   simp only [n1,n2,Option.isSome_none,Bool.or_false,Bool.or_eq_true,beq_iff_eq,bne_iff_ne,ne_eq] at this
   rcases this with e | e
   ·exact absurd e.symm hne
   ·exact fun e'=>e e'.symm
  ·have:=h.1 id k1
   simp only [n1,n2,Option.isSome_none,Bool.or_false,Bool.or_eq_true,beq_iff_eq,bne_iff_ne,ne_eq] at this
   rcases this with e | e
   ·exact absurd e hne
   ·exact e
  ·exact apart_spec h.2 id id' k1 k2 hne n1 n2
theorem inRange_src {lo:Nat} {l:List (Nat × Nat)} (h:inRange lo hi l=true) {id:Nat} (hid:id<lo∨hi≤id):srcOf l id=id∧nilSz l id=none:=by
 induction l with
 | nil=>exact ⟨rfl,rfl⟩
 | cons x l ih =>
  obtain ⟨a,b⟩:=x
  simp only [inRange,List.all_cons,Bool.and_eq_true,decide_eq_true_eq] at h
  have e:(a==id)=false:=by
   have:a≠id:=by omega
   simpa using this
  simp only [srcOf,nilSz,e,cond_false]
  exact ih (by unfold inRange; exact h.2)
theorem cov_heap {C:Ctx} {H H2:Heap} {next:Nat} (hH:HS C Y m w H next) (h1:C.base≤hi) (h2:inRange C.base hi ren=true) (h3:inRange C.base hi nils=true) (h4:apart ren nils (liveIds H2)=true) (h5:HCov hi ren nils H H2) (h6:(liveIds H2).all (fun id=>decide (id<hi))=true) :
  HS C Y (newNames ren nils hi m) w H2 hi:=by
 have get:∀ id b,getH H2 id=some b→∃ pl,newNames ren nils hi m id=some pl∧BlkSat Y (newNames ren nils hi m) w pl b ∧
   ((nilSz nils id≠none∧b.lies pl=none)∨(nilSz nils id=none∧∃ b1,getH H (srcOf ren id)=some b1∧m (srcOf ren id)=some pl∧b.lies pl=b1.lies pl)):=by
  intro id b hb
  have hg:=h5 _ _ hb
  have hlt:id<hi:=by have:=List.all_eq_true.1 h6 id (live_mem hb); simpa using this
  cases hn:nilSz nils id with
  | some sz =>
   rw [hn] at hg
   have hg':nilBlk sz b:=hg
   cases b with
   | box T cs=>exact hg'.elim
   | map kk dom c=>exact hg'.elim
   | mape kk dom c q sid=>exact hg'.elim
   | sit s p=>exact hg'.elim
   | arr T n cols =>
    obtain ⟨rfl,hsz⟩:=hg'
    refine ⟨⟨0,.slice none 0 0,0,sz,0⟩,by unfold newNames; rw [hn],⟨[],0,rfl,hsz.symm,⟨by simp,.inl ⟨rfl,rfl⟩⟩,fun h=>by omega,by simp,⟨none,rfl⟩,fun i j c hi=>by omega⟩,.inl ⟨by simp,rfl⟩⟩
  | none =>
   rw [hn] at hg
   have hg':onBlk (getH H (srcOf ren id)) fun b1=>BlkCov hi ren nils b1 b:=hg
   unfold onBlk at hg'
   split at hg'
   ·rename_i b1 hb1
    obtain ⟨pl,p1,p2,p3⟩:=hH.blk _ _ hb1
    obtain ⟨q1,q2⟩:=hg'.sat p2
    exact ⟨pl,by unfold newNames; rw [hn]; simp only; rw [if_pos hlt,p1],q1,.inr ⟨rfl,b1,hb1,p1,q2⟩⟩
   ·exact hg'.elim
 refine ⟨?_,?_,hH.ylt,hH.keep,hH.size,hH.frame,hH.os,hH.tape,hH.output,hH.y0lt,hH.x0,hH.yless,hH.own,fun id hid=>Nat.le_trans h1 hid,?_,?_,?_,hH.gl⟩
 ·intro id b hb
  obtain ⟨pl,p1,p2,p3⟩:=get id b hb
  refine ⟨pl,p1,p2,fun g hg=>?_⟩
  rcases p3 with ⟨_,p3⟩ | ⟨_,b1,q1,q2,q3⟩
  ·rw [p3] at hg; cases hg
  ·obtain ⟨pl',r1,_,r3⟩:=hH.blk _ _ q1
   rw [q2] at r1; injection r1 with r1; subst r1
   exact r3 g (q3 ▸ hg)
 ·intro id id' b b' pl pl' g hne hb hb' hm hm' hl hl'
  obtain ⟨p,p1,_,p3⟩:=get id b hb
  obtain ⟨p',p1',_,p3'⟩:=get id' b' hb'
  rw [hm] at p1; injection p1 with p1; subst p1
  rw [hm'] at p1'; injection p1' with p1'; subst p1'
  rcases p3 with ⟨_,p3⟩ | ⟨n1,b1,q1,q2,q3⟩
  ·rw [p3] at hl; cases hl
  ·rcases p3' with ⟨_,p3'⟩ | ⟨n2,b2,r1,r2,r3⟩
   ·rw [p3'] at hl'; cases hl'
   ·exact hH.inj _ _ b1 b2 pl pl' g (apart_spec h4 id id' (live_mem hb) (live_mem hb') hne n1 n2) q1 r1 q2 r2 (q3 ▸ hl) (r3 ▸ hl')
 ·intro id pl hid
  have hlt:id<C.base:=by
   rcases Nat.lt_or_ge id C.base with h | h
   ·exact h
   ·rw [hH.own id h] at hid; cases hid
  obtain ⟨e1,_⟩:=inRange_src h2 (id:=id) (.inl hlt)
  obtain ⟨_,e2⟩:=inRange_src h3 (id:=id) (.inl hlt)
  unfold newNames
  rw [e2]
  simp only
  rw [if_pos (by omega),e1]
  exact hH.names id pl hid
 ·intro id hid
  obtain ⟨_,e2⟩:=inRange_src h3 (id:=id) (.inr hid)
  unfold newNames
  rw [e2]
  simp only
  rw [if_neg (by omega)]
 ·intro id pl hid
  rcases Nat.lt_or_ge id C.base with hlt | hge
  ·obtain ⟨e1,_⟩:=inRange_src h2 (id:=id) (.inl hlt)
   obtain ⟨_,e2⟩:=inRange_src h3 (id:=id) (.inl hlt)
   unfold newNames at hid
   rw [e2] at hid
   simp only at hid
   rw [if_pos (by omega),e1] at hid
   exact hH.known id pl hid
  ·exact .inr hge
theorem SlotsCov.get {s:Slots}:∀ {s2:Slots} {i:Nat} {p:PV},SlotsCov hi ren nils s s2→getS s2 i=p→p≠.any→PVCov hi ren nils (getS s i) p
 | [],i,p,h,hg,hne=>by simp only [getS] at hg; exact absurd hg.symm hne
 | (j,q)::s2,i,p,h,hg,hne=>by
  simp only [SlotsCov] at h
  simp only [getS] at hg
  by_cases e:(j==i)=true
  ·simp only [e,cond_true] at hg
   subst hg
   have:j=i:=by simpa using e
   subst this
   exact h.1
  ·simp only [Bool.not_eq_true] at e
   simp only [e,cond_false] at hg
   exact SlotsCov.get h.2 hg hne
end
theorem Cov.mk {st st2:ST} (ren nils:List (Nat × Nat)) (h0:st2.base=st.base) (h1:st.base≤st2.next) (h2:inRange st.base st2.next ren=true) (h3:inRange st.base st2.next nils=true) (h4:apart ren nils (liveIds st2.heap)=true)
  (h6:(liveIds st2.heap).all (fun id=>decide (id<st2.next))=true) (h5:HCov st2.next ren nils st.heap st2.heap) (h7:SlotsCov st2.next ren nils st.slots st2.slots):Cov st st2:=by
 intro C nt Y m a w hS
 refine ⟨Y,newNames ren nils st2.next m,hS.size,hS.defers,?_,cov_heap hS.heap (by rw [hS.base]; exact h1) (by rw [hS.base]; exact h2) (by rw [hS.base]; exact h3) h4 h5 h6,hS.base.trans h0.symm⟩
 intro i p hp hne
 have hc:=SlotsCov.get h7 hp hne
 by_cases hany:getS st.slots i=.any
 ·rw [hany] at hc
  cases p <;> simp [PVCov] at hc hne
 ·obtain ⟨v,e1,e2⟩:=hS.slots i _ rfl hany
  exact ⟨v,e1,PVCov.rep _ _ v hc e2⟩
theorem Cov.refl (st:ST):Cov st st:=fun C nt Y m a w h=>⟨Y,m,h⟩
noncomputable def readRes (st:ST):ARes→Option PV
 | .t n=>some (getS st.slots n)
 | .c n s=>match step (AX.val st.slots) st.heap st.next (.load s (.t n)) with
  | some (_,p,_)=>some p
  | none=>none
noncomputable def readAll (st:ST):List ARes→Option (List PV)
 | []=>some []
 | r::rs=>match readRes st r,readAll st rs with
  | some p,some ps=>some (p::ps)
  | _,_=>none
def retPV:List PV→PV
 | [p]=>p
 | ps=>.tup ps
def onAll:Option (List PV)→(List PV→Prop)→Prop
 | some ps,k=>k ps
 | none,_=>False
def RetOKW (k:Nat) (rs:List ARes) (Hs:Heap) (nid:Nat) (r:PV) (u:Heap):AEx→ST→Prop
 | .exit _,_=>False
 | _,st=>onAll (readAll st rs) fun ps=>∃ (ren nils:List (Nat × Nat)) (H2:Heap),(∀ id,getH H2 id=getH (u++Hs) id)∧inRange nid (nid+k) ren=true∧inRange nid (nid+k) nils=true∧apart ren nils (liveIds H2)=true∧(liveIds H2).all (fun id=>decide (id<nid+k))=true ∧
   HCov (nid+k) ren nils st.heap H2∧PVCov (nid+k) ren nils (retPV ps) r
def RetOK (rs:List ARes) (Hs:Heap) (nid:Nat) (r:PV) (u:Heap):AEx→ST→Prop
 | .exit _,_=>False
 | _,st=>onAll (readAll st rs) fun ps=>∃ (ren nils:List (Nat × Nat)) (H2:Heap),(∀ id,getH H2 id=getH (u++Hs) id)∧inRange nid (nid+4) ren=true∧inRange nid (nid+4) nils=true∧apart ren nils (liveIds H2)=true∧(liveIds H2).all (fun id=>decide (id<nid+4))=true ∧
   HCov (nid+4) ren nils st.heap H2∧PVCov (nid+4) ren nils (retPV ps) r
theorem did_load {o:Oper} {t:TypeId} {x:Operand} {ρv:Operand→Value} {w w':World} {v:Value} (ho:o.op=.load t x) (h:Did P o ρv w v w'):∃ a,ρv x=.pointer (some a)∧(loadVar t a).run P w=.ok v w':=by
 have key:(execOp ρv o).run P w=((Instr.loadAt t (ρv x)).run P w).andThen fun a w'=>.ok (.value a) w':=by
  simp [execOp,ho]
 unfold Did at h
 rw [key] at h
 unfold Instr.loadAt at h
 cases hv:ρv x with
 | pointer a =>
  cases a with
  | none=>simp [hv,Instr.sureAddr] at h
  | some a =>
   refine ⟨a,rfl,?_⟩
   simp only [hv,Instr.sureAddr,Sem.run_bind,Sem.run_pure,Result.andThen_ok] at h
   cases hl:(loadVar t a).run P w with
   | ok v' w'' =>
    rw [hl] at h
    simp only [Result.andThen_ok,Result.ok.injEq,Next.value.injEq,reduceCtorEq,false_and,or_false] at h
    obtain ⟨rfl,rfl⟩:=h
    rfl
   | halt x w''=>rw [hl] at h; simp at h
 | _=>simp [hv,Instr.sureAddr] at h
def resSem (a:Act):ResultVar→Sem Value
 | .tmp t=>pure (a.tmps.getD t undef)
 | .cell x t=>do loadVar t (← asAddr (a.tmps.getD x undef))
theorem results_ok {C:Ctx} {nt:Nat} {Y:Nat→Prop} {m:Names} {st:ST} {a:Act} {w:World} (hS:Sat C nt Y m st a w):∀ (rs:List ResultVar) (az:List ARes) (ps:List PV),compR P rs=some az→readAll st az=some ps →
  ∃ vs:List Value,(rs.mapM (resSem a)).run P w=.ok vs w∧vs.length=ps.length∧∀ (i:Nat) p v,ps[i]?=some p→vs[i]?=some v→Rep Y m w p v
 | [],az,ps,hc,hr=>by
  simp only [compR,Option.some.injEq] at hc; subst hc
  simp only [readAll,Option.some.injEq] at hr; subst hr
  exact ⟨[],rfl,rfl,by simp⟩
 | .tmp t::rs,az,ps,hc,hr=>by
  simp only [compR] at hc
  obtain ⟨az',h1,rfl⟩:=map_some hc
  simp only [readAll,readRes] at hr
  split at hr
  ·rename_i p ps' h2 h3
   simp only [Option.some.injEq] at hr h2
   subst hr; subst h2
   obtain ⟨vs,e1,e2,e3⟩:=results_ok hS rs az' ps' h1 h3
   have hv:=hS.operand (.tmp t) (.t t) rfl
   refine ⟨a.tmps.getD t undef::vs,?_,by simp [e2],?_⟩
   ·rw [List.mapM_cons]
    simp [e1,resSem]
   ·intro i p v hp hv'
    rcases i with _ | i
    ·simp only [List.getElem?_cons_zero,Option.some.injEq] at hp hv'
     subst hp; subst hv'
     exact hv
    ·simp only [List.getElem?_cons_succ] at hp hv'
     exact e3 i p v hp hv'
  ·cases hr
 | .cell x t::rs,az,ps,hc,hr=>by
  simp only [compR] at hc
  split at hc
  ·rename_i s az' h0 h1
   simp only [Option.some.injEq] at hc
   subst hc
   simp only [readAll,readRes] at hr
   split at hr
   ·rename_i p ps' h2 h3
    simp only [Option.some.injEq] at hr
    subst hr
    split at h2
    ·rename_i vc p' u hst
     simp only [Option.some.injEq] at h2
     subst h2
     obtain ⟨vs,e1,e2,e3⟩:=results_ok hS rs az' ps' h1 h3
     let o:Oper:={ (default:Oper) with op:=.load t (.tmp x) }
     have hu:=load_quiet (P:=P) (o:=o) (x':=.t x) rfl h0 rfl Y m w st.heap st.next (AX.val st.slots) a.eval vc p' u hS.operand (fun id b hb=>by obtain ⟨pl,q1,q2,_⟩:=hS.heap.blk id b hb; exact ⟨pl,q1,q2⟩) hst
     obtain ⟨rfl,v,hd,hrep⟩:=hu
     obtain ⟨ad,d1,d2⟩:=did_load rfl hd
     have d1':a.tmps.getD x undef=.pointer (some ad):=d1
     refine ⟨v::vs,?_,by simp [e2],?_⟩
     ·rw [List.mapM_cons]
      simp [resSem,d1',asAddr,d2,e1]
     ·intro i p v' hp hv'
      rcases i with _ | i
      ·simp only [List.getElem?_cons_zero,Option.some.injEq] at hp hv'
       subst hp; subst hv'
       exact hrep
      ·simp only [List.getElem?_cons_succ] at hp hv'
       exact e3 i p v' hp hv'
    ·cases h2
   ·cases hr
  ·cases hc
def argSlots:Nat→List PV→Slots
 | _,[]=>[]
 | k,p::ps=>(k,p)::argSlots (k+1) ps
theorem getS_args:∀ (ps:List PV) (k i:Nat),getS (argSlots k ps) i=if k≤i then ps.getD (i - k) .any else .any
 | [],k,i=>by simp [argSlots,getS]
 | p::ps,k,i=>by
  simp only [argSlots,getS]
  by_cases h:k=i
  ·subst h; simp
  ·have e:(k==i)=false:=by simpa using h
   simp only [e,cond_false]
   rw [getS_args ps]
   by_cases h2:k≤i
   ·obtain ⟨d,hd⟩:∃ d,i - k=d+1:=⟨i - k - 1,by omega⟩
    rw [if_pos h2,if_pos (by omega),hd,show i - (k+1)=d from by omega]
    rfl
   ·rw [if_neg h2,if_neg (by omega)]
theorem HSF.ev {C:Ctx} {Y:Nat→Prop} {m:Names} {w:World} {H:Heap} {Fr:Nat→Prop} (h:HSF C Y m w H Fr):Ev C.Y0 C.m0 C.w0 Y m w :=
 ⟨h.size,fun b hb hY=>h.frame b hb (fun hx=>hY (h.x0 b hx)),h.yless,h.names⟩
def SRun (P:Program) (ac:ACode) (st:ST) (Q:AEx→ST→Prop):Prop:=∀ (nt:Nat) (c:Code) (C:Ctx) (Y:Nat→Prop) (m:Names) (a:Act) (w:World),comp P nt c=some ac→Sat C nt Y m st a w→c.wp P (PostA C nt Q) a w
theorem SRun.of_run {ac:ACode} {st:ST} {Q:AEx→ST→Prop} (h:run P ac st Q):SRun P ac st Q:=fun nt c C Y m a w hc hS=>run_ok c ac st Q Y m a w hc h hS
theorem comp_seq_inv {nt:Nat} {c:Code} {x y:ACode} (h:comp P nt c=some (.seq x y)):∃ c1 c2,c=.seq c1 c2∧comp P nt c1=some x∧comp P nt c2=some y:=by
 cases c with
 | seq c1 c2 =>
  simp only [comp] at h
  split at h
  ·rename_i x' y' h1 h2
   simp only [Option.some.injEq,ACode.seq.injEq] at h
   obtain ⟨rfl,rfl⟩:=h
   exact ⟨c1,c2,rfl,h1,h2⟩
  ·cases h
 | region id ops d =>
  simp only [comp] at h
  cases d
  ·simp only [cond_false] at h
   obtain ⟨_,_,e⟩:=map_some h; cases e
  ·simp only [cond_true] at h
   cases hb:closedB ops (Region.before ops).toList && P.follows .mixedOrders
   ·simp [hb] at h
   ·simp only [hb,cond_true] at h
    obtain ⟨_,_,e⟩:=map_some h; cases e
 | cond x a b=>simp only [comp] at h; split at h <;> simp at h
 | block i x=>simp only [comp] at h; obtain ⟨_,_,e⟩:=map_some h; cases e
 | loop x=>simp only [comp] at h; obtain ⟨_,_,e⟩:=map_some h; cases e
 | _=>simp [comp] at h
theorem SRun.seq {x y:ACode} {st:ST} {Q:AEx→ST→Prop} (h:SRun P x st (seqK (fun s=>SRun P y s Q) Q)):SRun P (.seq x y) st Q:=by
 intro nt c C Y m a w hc hS
 obtain ⟨c1,c2,rfl,h1,h2⟩:=comp_seq_inv hc
 refine wp_seq (wp_mono (h nt c1 C Y m a w h1 hS) ?_)
 intro e a w hp
 cases e with
 | normal=>obtain ⟨st',Y',m',hq,hs⟩:=hp; exact hq nt c2 C Y' m' a w h2 hs
 | exit i=>exact hp
 | ret=>exact hp
 | goto l=>exact hp.elim
 | panic c=>exact hp.elim
 | outgrown=>exact hp.elim
theorem SRun.cov {x:ACode} {st st':ST} {Q:AEx→ST→Prop} (hc:Cov st st') (h:SRun P x st' Q):SRun P x st Q:=fun nt c C Y m a w hcc hS=>by
 obtain ⟨Y',m',hS'⟩:=hc C nt Y m a w hS
 exact h nt c C Y' m' a w hcc hS'
def frzS (H:Heap) (G:List Nat) (nl:Nat→Bool) (s:Slots):Slots:=s.map fun x=>(x.1,lend H G nl x.2)
theorem getS_frz (H:Heap) (G:List Nat) (nl:Nat→Bool):∀ (s:Slots) (i:Nat),getS (frzS H G nl s) i=lend H G nl (getS s i)
 | [],i=>by simp [frzS,getS,lend]
 | (j,p)::s,i=>by
  have ih:=getS_frz H G nl s i
  simp only [frzS] at ih
  simp only [frzS,List.map_cons,getS]
  cases j==i
  ·simpa using ih
  ·rfl
theorem acallIW_of_srun {kk:Nat} {f:Nat} {af:AFn} (hf:compF P f=some af) {args:List PV} {Hs:Heap} {nid:Nat} {ι:Type} {Post:ι→Prop} {rr:ι→PV} {uu:ι→Heap} (hlen:args.length≤af.nt) (h:SRun P af.body ⟨argSlots 0 args,Hs,nid,nid⟩ (fun e s=>∃ i,Post i∧RetOKW kk af.res Hs nid (rr i) (uu i) e s)) :
  ACallIW P kk f args Hs nid Post rr uu:=by
 intro C vs hbase hl hr hH
 unfold compF at hf
 split at hf
 ·rename_i fn hfn
  split at hf
  ·cases hf
  ·rename_i hname
   split at hf
   ·rename_i c hbody
    split at hf
    ·rename_i b rs hb hrs
     simp only [Option.some.injEq] at hf
     subst hf
     simp only at h hlen
     refine .inl ⟨fn,hfn,by simpa using hname,by rw [hbody]; rfl,?_⟩
     refine calls_of_wp hfn hbody ?_
     have hS:Sat C fn.ntmps C.Y0 C.m0 ⟨argSlots 0 args,Hs,nid,nid⟩ { tmps:=vs.toArray++Array.replicate (fn.ntmps - vs.toArray.size) undef,defers:=[] } C.w0:=by
      refine ⟨by simp; omega,rfl,?_,hH,hbase⟩
      intro i p hp hne
      simp only at hp
      rw [getS_args] at hp
      simp only [Nat.zero_le,if_true,Nat.sub_zero] at hp
      have hi:i<args.length:=by
       rcases Nat.lt_or_ge i args.length with h | h
       ·exact h
       ·rw [List.getD_eq_getElem?_getD,List.getElem?_eq_none h] at hp
        exact absurd hp.symm hne
      rw [List.getD_eq_getElem?_getD,List.getElem?_eq_getElem hi] at hp
      have hv:vs[i]?=some vs[i]:=List.getElem?_eq_getElem (by omega)
      refine ⟨vs[i],?_,hr i p _ (by rw [List.getElem?_eq_getElem hi]; exact congrArg some hp) hv⟩
      rw [Array.getElem?_append_left (by simp; omega)]
      simp
     refine wp_mono (h fn.ntmps c C C.Y0 C.m0 _ C.w0 hb hS) ?_
     have fin:∀ (i:ι),Post i→∀ (st:ST) (Y:Nat→Prop) (m:Names) (a:Act) (w:World),RetOKW kk rs Hs nid (rr i) (uu i) .ret st→Sat C fn.ntmps Y m st a w →
       a.defers=[]∧∃ v,(results fn a.tmps).run P w=.ok v w∧∃ v',Ending.returned v=.returned v'∧∃ i,Post i∧∃ Y' m',Rep Y' m' w (rr i) v'∧HS C Y' m' w (uu i++Hs) (nid+kk)∧Ev C.Y0 C.m0 C.w0 Y' m' w:=by
      intro i hi st Y m a w hq hS
      have hq':onAll (readAll st rs) fun ps=>∃ (ren nils:List (Nat × Nat)) (H2:Heap),(∀ id,getH H2 id=getH (uu i++Hs) id)∧inRange nid (nid+kk) ren=true∧inRange nid (nid+kk) nils=true∧apart ren nils (liveIds H2)=true∧(liveIds H2).all (fun id=>decide (id<nid+kk))=true ∧
       HCov (nid+kk) ren nils st.heap H2∧PVCov (nid+kk) ren nils (retPV ps) (rr i):=hq
      unfold onAll at hq'
      split at hq'
      ·rename_i ps hps
       obtain ⟨ren,nils,H2,hH2,h1,h2,h3,h4,h5,h6⟩:=hq'
       obtain ⟨ws,e1,e2,e3⟩:=results_ok hS fn.results.toList rs ps hrs hps
       have hres:(results fn a.tmps).run P w=.ok (if hh:ws.toArray.size=1 then ws.toArray[0] else .tuple ws.toArray) w:=by
        have hm:fn.results.mapM (resSem a)=List.toArray <$> fn.results.toList.mapM (resSem a):=by
         conv=>lhs; rw [← Array.toArray_toList (xs:=fn.results)]
         rw [List.mapM_toArray]
        have h0:(results fn a.tmps)=(do let vs ← fn.results.mapM (resSem a); pure (if hh:vs.size=1 then vs[0] else .tuple vs)):=by
         unfold results
         have:(fun (x:ResultVar)=>match x with | .tmp t=>(pure (a.tmps.getD t undef):Sem Value) | .cell x t=>do loadVar t (← asAddr (a.tmps.getD x undef)))=resSem a:=by
          funext x
          cases x <;> rfl
         rw [← this]
         rfl
        rw [h0,hm]
        simp only [Sem.run_bind,Sem.run_map,e1,Result.andThen_ok,Sem.run_pure]
       refine ⟨hS.defers,_,hres,_,rfl,i,hi,Y,newNames ren nils (nid+kk) m,?_,?_,?_⟩
       ·refine PVCov.rep _ _ _ h6 ?_
        rcases ps with _ | ⟨p,_ | ⟨p2,ps⟩⟩
        ·have:ws=[]:=List.eq_nil_of_length_eq_zero e2
         subst this
         exact .tup rfl (by simp)
        ·obtain ⟨w0,hw0⟩:∃ w0,ws=[w0]:=List.length_eq_one_iff.1 e2
         subst hw0
         exact e3 0 p w0 rfl rfl
        ·have hne:ws.length≠1:=by rw [e2]; simp
         have:(if hh:ws.toArray.size=1 then ws.toArray[0] else Value.tuple ws.toArray)=.tuple ws.toArray:=by rw [dif_neg (by simpa using hne)]
         rw [this]
         exact .tup e2 e3
       ·exact (cov_heap hS.heap (by rw [hbase]; omega) (by rw [hbase]; exact h1) (by rw [hbase]; exact h2) h3 h5 h4).same (fun id=>(hH2 id).symm)
       ·exact (cov_heap hS.heap (by rw [hbase]; omega) (by rw [hbase]; exact h1) (by rw [hbase]; exact h2) h3 h5 h4).ev
      ·exact hq'.elim
     intro e a w hp
     cases e with
     | normal=>obtain ⟨st,Y,m,⟨i,hi,hq⟩,hs⟩:=hp; exact fin i hi st Y m a w hq hs
     | ret=>obtain ⟨st,Y,m,⟨i,hi,hq⟩,hs⟩:=hp; exact fin i hi st Y m a w hq hs
     | exit i=>obtain ⟨st,Y,m,⟨i,hi,hq⟩,hs⟩:=hp; exact hq.elim
     | goto l=>exact hp.elim
     | panic c=>exact hp.elim
     | outgrown=>exact hp.elim
    ·cases hf
   ·cases hf
 ·cases hf
theorem acallI_of_srun {f:Nat} {af:AFn} (hf:compF P f=some af) {args:List PV} {Hs:Heap} {nid:Nat} {ι:Type} {Post:ι→Prop} {rr:ι→PV} {uu:ι→Heap} (hlen:args.length≤af.nt) (h:SRun P af.body ⟨argSlots 0 args,Hs,nid,nid⟩ (fun e s=>∃ i,Post i∧RetOK af.res Hs nid (rr i) (uu i) e s)) :
  ACallI P f args Hs nid Post rr uu :=
 acallIW_of_srun (kk:=4) hf hlen (by
  have e:∀ i,RetOKW 4 af.res Hs nid (rr i) (uu i)=RetOK af.res Hs nid (rr i) (uu i):=fun i=>by
   funext e s
   cases e <;> rfl
  simpa only [e] using h)
theorem acall_of_srun {f:Nat} {af:AFn} (hf:compF P f=some af) {args:List PV} {Hs:Heap} {nid:Nat} {r:PV} {u:Heap} (hlen:args.length≤af.nt) (h:SRun P af.body ⟨argSlots 0 args,Hs,nid,nid⟩ (RetOK af.res Hs nid r u)) :
  ACall P f args Hs nid r u :=
 (acallI_of_srun (ι:=Unit) (Post:=fun _=>True) (rr:=fun _=>r) (uu:=fun _=>u) hf hlen (by
  have e:(fun e s=>∃ i:Unit,True∧RetOK af.res Hs nid r u e s)=RetOK af.res Hs nid r u:=by
   funext e s
   simp
  rw [e]
  exact h)).one
theorem acall_of_run {f:Nat} {af:AFn} (hf:compF P f=some af) {args:List PV} {Hs:Heap} {nid:Nat} {r:PV} {u:Heap} (hlen:args.length≤af.nt) (h:run P af.body ⟨argSlots 0 args,Hs,nid,nid⟩ (RetOK af.res Hs nid r u)) :
  ACall P f args Hs nid r u:=acall_of_srun hf hlen (.of_run h)
open Go.RowKit
theorem split2_dec {p:Prop} [Decidable p] {X Y:Unit→Prop} (h1:p→X ()) (h2:¬ p→Y ()):split2 (decide p) X Y:=⟨fun h=>h1 (of_decide_eq_true h),fun h=>h2 (of_decide_eq_false h)⟩
theorem split2_yes {b:Bool} {X Y:Unit→Prop} (hb:b=true) (h1:X ()):split2 b X Y:=⟨fun _=>h1,fun h=>absurd (hb.symm.trans h) (by simp)⟩
theorem split2_no {b:Bool} {X Y:Unit→Prop} (hb:b=false) (h1:Y ()):split2 b X Y:=⟨fun h=>absurd (hb.symm.trans h) (by simp),fun _=>h1⟩
theorem LoopOK.mk {R:ST→(AEx→ST→Prop)→Prop} {st:ST} {Q:AEx→ST→Prop} {ι:Type} (I:ι→ST) (μ:ι→Nat) (x:ι) (h1:Cov st (I x)) (h2:∀ x,R (I x) (loopK (fun s=>∃ y,μ y<μ x∧Cov s (I y)) Q)):LoopOK R st Q :=
 ⟨ι,I,μ,x,h1,h2⟩
theorem RetOK.pure {rs:List ARes} {nid:Nat} {r:PV} {e:AEx} {st:ST} (he:e=.ret∨e=.normal) {ps:List PV} (h1:readAll st rs=some ps) (h2:PVCov (nid+4) [] [] (retPV ps) r):RetOK rs [] nid r [] e st:=by
 rcases he with rfl | rfl
 ·show onAll (readAll st rs) _
  rw [h1]
  exact ⟨[],[],[],fun _=>rfl,rfl,rfl,rfl,rfl,fun id b h=>by simp [getH] at h,h2⟩
 ·show onAll (readAll st rs) _
  rw [h1]
  exact ⟨[],[],[],fun _=>rfl,rfl,rfl,rfl,rfl,fun id b h=>by simp [getH] at h,h2⟩
theorem RetOK.mk {rs:List ARes} {Hs:Heap} {nid:Nat} {r:PV} {u:Heap} {e:AEx} {st:ST} (he:e=.ret∨e=.normal) {ps:List PV} (ren nils:List (Nat × Nat)) (h1:readAll st rs=some ps) (h2:inRange nid (nid+4) ren=true) (h3:inRange nid (nid+4) nils=true)
  (h4:apart ren nils (liveIds (u++Hs))=true) (h5:(liveIds (u++Hs)).all (fun id=>decide (id<nid+4))=true) (h60:HeapCov (nid+4) ren nils st.heap (u++Hs)) (h7:PVCov (nid+4) ren nils (retPV ps) r):RetOK rs Hs nid r u e st:=by
 have h6:HCov (nid+4) ren nils st.heap (u++Hs):=fun id b h=>HeapCov.get h60 h
 rcases he with rfl | rfl
 ·show onAll (readAll st rs) _
  rw [h1]
  exact ⟨ren,nils,u++Hs,fun _=>rfl,h2,h3,h4,h5,h6,h7⟩
 ·show onAll (readAll st rs) _
  rw [h1]
  exact ⟨ren,nils,u++Hs,fun _=>rfl,h2,h3,h4,h5,h6,h7⟩
theorem Cov.plain {st st2:ST} (h0:st2.base=st.base) (h1:st.base≤st2.next) (h2:st2.heap=[]) (h7:SlotsCov st2.next [] [] st.slots st2.slots):Cov st st2 :=
 Cov.mk [] [] h0 h1 rfl rfl (by rw [h2]; rfl) (by rw [h2]; rfl) (by rw [h2]; exact fun id b h=>by simp [getH] at h) h7
mutual
theorem lend_nil (H:Heap) (nl:Nat→Bool):∀ p,lend H [] nl p=p
 | .agg ps=>by simp only [lend]; rw [lends_nil H nl ps]
 | .sl _ _ _=>by simp [lend]
 | .int _ _=>by simp [lend]
 | .bool _=>by simp [lend]
 | .str _=>by simp [lend]
 | .lit _ _ _=>by simp [lend]
 | .ptr _ _=>by simp [lend]
 | .nilp=>by simp [lend]
 | .nili=>by simp [lend]
 | .elp _ _=>by simp [lend]
 | .arp _ _ _=>by simp [lend]
 | .arv _=>by simp [lend]
 | .tup _=>by simp [lend]
 | .fn _ _=>by simp [lend]
 | .mp _=>by simp [lend]
 | .stp _=>by simp [lend]
 | .any=>by simp [lend]
theorem lends_nil (H:Heap) (nl:Nat→Bool):∀ ps,lends H [] nl ps=ps
 | []=>by simp [lends]
 | p::ps=>by simp only [lends]; rw [lend_nil H nl p,lends_nil H nl ps]
end
theorem CallX.pure {P:Program} {f:Nat} {args:List PV} {H:Heap} {nid:Nat} {K:PV→Heap→List Nat→Prop} {r:PV} {u:Heap} (h:ACall P f args [] nid r u) (hK:K r u []):CallX P f args H nid K :=
 ⟨[],[],[],r,u,fun id b h=>by simp [getH] at h,fun id h=>by simp at h,.inl rfl,fun nl=>by show ACall P f (lends H [] nl args) [] nid r u; rw [lends_nil]; exact h,by simpa [kill,keys] using hK⟩
theorem CallX.on {P:Program} {f:Nat} {args:List PV} {H:Heap} {nid:Nat} {K:PV→Heap→List Nat→Prop} {Hs:Heap} {r:PV} {u:Heap} (h:ACall P f args Hs nid r u) (hs:subH Hs H) (hK:K r u (keys Hs)):CallX P f args H nid K :=
 ⟨[],[],Hs,r,u,hs,fun id h=>by simp at h,.inl rfl,fun nl=>by show ACall P f (lends H [] nl args) Hs nid r u; rw [lends_nil]; exact h,by simpa [kill] using hK⟩
theorem CallX.lent {P:Program} {f:Nat} {args:List PV} {H:Heap} {nid:Nat} {K:PV→Heap→List Nat→Prop} (L:List Nat) {r:PV} {u:Heap} (h:∀ nl,ACall P f (lends H L nl args) [] nid r u) (hp:r.plain=true) (hu:plainH u=true) (hL:∀ id∈L,getH u id=none) (hK:K r u L):CallX P f args H nid K :=
 ⟨L,[],[],r,u,fun id b h=>by simp [getH] at h,fun id h=>⟨rfl,hL id (by simpa using h)⟩,.inr ⟨hp,hu,rfl⟩,fun nl=>by rw [List.append_nil]; exact h nl,by simpa [kill,keys] using hK⟩
theorem CallX.given {P:Program} {f:Nat} {args:List PV} {H:Heap} {nid:Nat} {K:PV→Heap→List Nat→Prop} (F:List Nat) {Hs:Heap} {r:PV} {u:Heap} (h:∀ nl,ACall P f (lends H F nl args) Hs nid r u) (hs:subH Hs H) (hF:∀ id∈F,getH Hs id=none∧getH u id=none) (hK:K r (u++kill F) (keys Hs++F)):CallX P f args H nid K :=
 ⟨[],F,Hs,r,u,hs,fun id h=>hF id (by simpa using h),.inl rfl,fun nl=>by rw [List.nil_append]; exact h nl,by simpa using hK⟩
theorem CallO.x {P:Program} {f:Nat} {args:List PV} {H:Heap} {nid:Nat} {K:PV→Heap→Prop} (h:CallX P f args H nid (fun r u _=>K r u)):CallOK P f args H nid K:=by
 obtain ⟨L,F,Hs,r,u,h1,h2,h3,h4,h5⟩:=h
 refine .inl ⟨[],L,F,Hs,r,u,h1,h2,h3,h4,fun nl=>?_⟩
 rw [lend_nil]
 exact h5
theorem CallO.any {P:Program} {f:Nat} {args:List PV} {H:Heap} {nid:Nat} {K:PV→Heap→Prop} {Hs:Heap} {ι:Type} {Post:ι→Prop} {r:ι→PV} {u:ι→Heap} (h:ACallI P f args Hs nid Post r u) (hs:subH Hs H) (hK:∀ i,Post i→K (r i) (u i)):CallOK P f args H nid K:=.inr ⟨ι,Post,r,u,Hs,hs,h,hK⟩
theorem CallO.pure {P:Program} {f:Nat} {args:List PV} {H:Heap} {nid:Nat} {K:PV→Heap→Prop} {r:PV} {u:Heap} (h:ACall P f args [] nid r u) (hK:K r u):CallOK P f args H nid K:=CallO.x (CallX.pure h hK)
theorem CallO.on {P:Program} {f:Nat} {args:List PV} {H:Heap} {nid:Nat} {K:PV→Heap→Prop} {Hs:Heap} {r:PV} {u:Heap} (h:ACall P f args Hs nid r u) (hs:subH Hs H) (hK:K r u):CallOK P f args H nid K:=CallO.x (CallX.on h hs hK)
theorem CallO.lent {P:Program} {f:Nat} {args:List PV} {H:Heap} {nid:Nat} {K:PV→Heap→Prop} (L:List Nat) {r:PV} {u:Heap} (h:∀ nl,ACall P f (lends H L nl args) [] nid r u) (hp:r.plain=true) (hu:plainH u=true) (hL:∀ id∈L,getH u id=none) (hK:K r u):CallOK P f args H nid K :=
 CallO.x (CallX.lent L h hp hu hL hK)
theorem CallO.given {P:Program} {f:Nat} {args:List PV} {H:Heap} {nid:Nat} {K:PV→Heap→Prop} (F:List Nat) {Hs:Heap} {r:PV} {u:Heap} (h:∀ nl,ACall P f (lends H F nl args) Hs nid r u) (hs:subH Hs H) (hF:∀ id∈F,getH Hs id=none∧getH u id=none) (hK:K r (u++kill F)):CallOK P f args H nid K :=
 CallO.x (CallX.given F h hs hF hK)
theorem id_facts {s nid:Nat} (h:s<nid):(nid==s)=false∧(s==nid)=false∧(∀ k,(nid+k==s)=false)∧(∀ k,(s==nid+k)=false):=by
 refine ⟨?_,?_,fun k=>?_,fun k=>?_⟩ <;> (rw [beq_eq_false_iff_ne]; omega)
open Go.RowKit
universe u
inductive Tag {α:Sort u} (a:α):Type where
 | mk
def BS (s:Step) (K:PV→Heap→Prop) (_:Tag K):Prop:=bindStep s K
theorem BS_some (vc:Prop) (v:PV) (u:Heap) (K:PV→Heap→Prop) (t:Tag K):BS (some (vc,v,u)) K t=(vc∧K v u):=rfl
theorem BS_true (v:PV) (u:Heap) (K:PV→Heap→Prop) (t:Tag K):BS (some (True,v,u)) K t=K v u:=by show (True∧K v u)=K v u; simp
theorem BS_none (K:PV→Heap→Prop) (t:Tag K):BS none K t=False:=rfl
def OB (p:PV) (K:Bool→Prop) (_:Tag K):Prop:=onBool p K
theorem OB_bool (b:Bool) (K:Bool→Prop) (t:Tag K):OB (.bool b) K t=K b:=rfl
def OG (p:PV) (K:Bool→Prop) (Z:Unit→Prop) (_:Tag K) (_:Tag Z):Prop:=onGrd p K Z
theorem OG_bool (b:Bool) (K:Bool→Prop) (Z:Unit→Prop) (t:Tag K) (t':Tag Z):OG (.bool b) K Z t t'=K b:=rfl
theorem OG_tup (K:Bool→Prop) (Z:Unit→Prop) (t:Tag K) (t':Tag Z):OG (.tup []) K Z t t'=Z ():=rfl
def S2 (b:Bool) (X Y:Unit→Prop) (_:Tag X) (_:Tag Y):Prop:=split2 b X Y
theorem S2_true (X Y:Unit→Prop) (t:Tag X) (t':Tag Y):S2 true X Y t t'=X ():=split2_true X Y
theorem S2_false (X Y:Unit→Prop) (t:Tag X) (t':Tag Y):S2 false X Y t t'=Y ():=split2_false X Y
def OF (p:PV) (K:Nat→List PV→Prop) (_:Tag K):Prop:=onFn p K
theorem OF_fn (f:Nat) (cap:List PV) (K:Nat→List PV→Prop) (t:Tag K):OF (.fn f cap) K t=K f cap:=rfl
def CX (P:Program) (f:Nat) (args:List PV) (H:Heap) (nid:Nat) (K:PV→Heap→List Nat→Prop) (_:Tag K):Prop:=CallX P f args H nid K
def CO (P:Program) (f:Nat) (args:List PV) (H:Heap) (nid:Nat) (K:PV→Heap→Prop) (_:Tag K):Prop:=CallOK P f args H nid K
section
variable (P:Program)
def ROp (s:Slots) (H:Heap) (n:Nat) (K:PV→Heap→Prop) (t:Tag K):AOp→Prop
 | .call f args=>CO P f (args.map (AX.val s)) H n K t
 | .callv x args=>OF (x.val s) (fun f cap=>CO P f (args.map (AX.val s)++cap) H n K t) .mk
 | op=>BS (step (AX.val s) H n op) K t
theorem ROp_eq (s:Slots) (H:Heap) (n:Nat) (K:PV→Heap→Prop) (t:Tag K) (op:AOp):ROp P s H n K t op=runOp P s H n K op:=by cases op <;> rfl
def ROps:List AIn→Slots→Heap→Nat→(K:Slots→Heap→Nat→Prop)→Tag K→Prop
 | [],s,H,n,K,_=>K s H n
 | ⟨d,none,op⟩::l,s,H,n,K,t=>ROp P s H n (fun v u=>ROps l (putS s d v) (u++H) (n+4) K t) .mk op
 | ⟨d,some (j,true),op⟩::l,s,H,n,K,t=>OG (getS s j) (fun b=>S2 b
   (fun _=>ROp P ((j,.bool true)::s) H n (fun v u=>ROps l (putS ((j,.bool true)::s) d v) (u++H) (n+4) K t) .mk op)
   (fun _=>ROps l (putS ((j,.bool false)::s) d (.tup [])) H (n+4) K t) .mk .mk) (fun _=>ROps l (putS s d (.tup [])) H (n+4) K t) .mk .mk
 | ⟨d,some (j,false),op⟩::l,s,H,n,K,t=>OG (getS s j) (fun b=>S2 b
   (fun _=>ROps l (putS ((j,.bool true)::s) d (.tup [])) H (n+4) K t)
   (fun _=>ROp P ((j,.bool false)::s) H n (fun v u=>ROps l (putS ((j,.bool false)::s) d v) (u++H) (n+4) K t) .mk op) .mk .mk) (fun _=>ROps l (putS s d (.tup [])) H (n+4) K t) .mk .mk
theorem ROps_eq:∀ (l:List AIn) (s:Slots) (H:Heap) (n:Nat) (K:Slots→Heap→Nat→Prop) (t:Tag K),ROps P l s H n K t=runOps P l s H n K
 | [],s,H,n,K,t=>rfl
 | ⟨d,none,op⟩::l,s,H,n,K,t=>by
  simp only [ROps,runOps,ROp_eq,ROps_eq l]
 | ⟨d,some (j,true),op⟩::l,s,H,n,K,t=>by
  simp only [ROps,runOps,ROp_eq,ROps_eq l,OG,S2]
 | ⟨d,some (j,false),op⟩::l,s,H,n,K,t=>by
  simp only [ROps,runOps,ROp_eq,ROps_eq l,OG,S2]
def OX (s:Slots) (H:Heap) (n:Nat) (K:PV→Heap→List Nat→Prop) (t:Tag K):AOp→Prop
 | .call f args=>CX P f (args.map (AX.val s)) H n (fun v u rds=>lowH H n (idsOf (.agg (args.map (AX.val s)))++rds)=true∧K v u (idsOf (.agg (args.map (AX.val s)))++rds)) .mk
 | .callv x args=>OF (x.val s) (fun f cap=>CX P f (args.map (AX.val s)++cap) H n (fun v u rds=>lowH H n (idsOf (.agg (args.map (AX.val s)++cap))++rds)=true∧K v u (idsOf (.agg (args.map (AX.val s)++cap))++rds)) .mk) .mk
 | op=>BS (step (AX.val s) H n op) (fun v u=>K v u (idsOf (.agg ((rdXs op).map (AX.val s))))) .mk
theorem OX_eq (s:Slots) (H:Heap) (n:Nat) (K:PV→Heap→List Nat→Prop) (t:Tag K) (op:AOp):OX P s H n K t op=opX P s H n K op:=by cases op <;> simp only [OX,opX,idsOf] <;> rfl
def RAny:List (AIn × List Nat)→List Rec1→Slots→Heap→Nat→(K:Slots→Heap→Nat→Prop)→Tag K→Prop
 | [],recs,s,H,n,K,_=>K s H n
 | (⟨d,none,op⟩,fr)::l,recs,s,H,n,K,t=>OX P s H n (fun v u rds=>freeOf recs ⟨d,namesX (opXs op),rds,keys u⟩ fr=true∧RAny l (recs++[⟨d,namesX (opXs op),rds,keys u⟩]) (putS s d v) (u++H) (n+4) K t) .mk op
 | (⟨d,some (j,true),op⟩,fr)::l,recs,s,H,n,K,t=>OG (getS s j) (fun b=>S2 b
   (fun _=>OX P ((j,.bool true)::s) H n (fun v u rds=>freeOf recs ⟨d,j::namesX (opXs op),rds,keys u⟩ fr=true∧RAny l (recs++[⟨d,j::namesX (opXs op),rds,keys u⟩]) (putS ((j,.bool true)::s) d v) (u++H) (n+4) K t) .mk op)
   (fun _=>freeOf recs ⟨d,[j],[],[]⟩ fr=true∧RAny l (recs++[⟨d,[j],[],[]⟩]) (putS ((j,.bool false)::s) d (.tup [])) H (n+4) K t) .mk .mk) (fun _=>freeOf recs ⟨d,[j],[],[]⟩ fr=true∧RAny l (recs++[⟨d,[j],[],[]⟩]) (putS s d (.tup [])) H (n+4) K t) .mk .mk
 | (⟨d,some (j,false),op⟩,fr)::l,recs,s,H,n,K,t=>OG (getS s j) (fun b=>S2 b
   (fun _=>freeOf recs ⟨d,[j],[],[]⟩ fr=true∧RAny l (recs++[⟨d,[j],[],[]⟩]) (putS ((j,.bool true)::s) d (.tup [])) H (n+4) K t)
   (fun _=>OX P ((j,.bool false)::s) H n (fun v u rds=>freeOf recs ⟨d,j::namesX (opXs op),rds,keys u⟩ fr=true∧RAny l (recs++[⟨d,j::namesX (opXs op),rds,keys u⟩]) (putS ((j,.bool false)::s) d v) (u++H) (n+4) K t) .mk op) .mk .mk) (fun _=>freeOf recs ⟨d,[j],[],[]⟩ fr=true∧RAny l (recs++[⟨d,[j],[],[]⟩]) (putS s d (.tup [])) H (n+4) K t) .mk .mk
theorem RAny_eq:∀ (l:List (AIn × List Nat)) (recs:List Rec1) (s:Slots) (H:Heap) (n:Nat) (K:Slots→Heap→Nat→Prop) (t:Tag K),RAny P l recs s H n K t=runAny P l recs s H n K
 | [],recs,s,H,n,K,t=>rfl
 | (⟨d,none,op⟩,fr)::l,recs,s,H,n,K,t=>by
  simp only [RAny,runAny,OX_eq,RAny_eq l]
 | (⟨d,some (j,true),op⟩,fr)::l,recs,s,H,n,K,t=>by
  simp only [RAny,runAny,OX_eq,RAny_eq l,OG,S2]
 | (⟨d,some (j,false),op⟩,fr)::l,recs,s,H,n,K,t=>by
  simp only [RAny,runAny,OX_eq,RAny_eq l,OG,S2]
def blkK (id:Nat) (Q:AEx→ST→Prop):AEx→ST→Prop
 | .normal,s=>Q .normal s
 | .exit i,s=>S2 (i==id) (fun _=>Q .normal s) (fun _=>Q (.exit i) s) .mk .mk
 | .ret,s=>Q .ret s
theorem blkK_eq (id:Nat) (Q:AEx→ST→Prop):blkK id Q=blockK id Q:=by
 funext e s
 cases e with
 | normal=>rfl
 | ret=>rfl
 | exit i =>
  simp only [blkK,blockK,S2]
  cases i==id
  ·simp [split2]
  ·simp [split2]
def LP (c:ACode) (st:ST) (Q:AEx→ST→Prop) (_:Tag Q):Prop:=LoopOK (run P c) st Q
def Run:ACode→ST→(Q:AEx→ST→Prop)→Tag Q→Prop
 | .skip,st,Q,_=>Q .normal st
 | .ops l,st,Q,_=>ROps P l st.slots st.heap st.next (fun s H n=>Q .normal ⟨s,H,n,st.base⟩) .mk
 | .any l,st,Q,_=>RAny P l [] st.slots st.heap st.next (fun s H n=>Q .normal ⟨s,H,n,st.base⟩) .mk
 | .seq a b,st,Q,t=>Run a st (seqK (fun s=>Run b s Q t) Q) .mk
 | .cond x a b,st,Q,t=>OB (x.val st.slots) (fun c=>S2 c (fun _=>Run a st Q t) (fun _=>Run b st Q t) .mk .mk) .mk
 | .block id c,st,Q,_=>Run c st (blkK id Q) .mk
 | .loop c,st,Q,t=>LP P c st Q t
 | .exit i,st,Q,_=>Q (.exit i) st
 | .ret,st,Q,_=>Q .ret st
theorem Run_eq:∀ (c:ACode) (st:ST) (Q:AEx→ST→Prop) (t:Tag Q),Run P c st Q t=run P c st Q
 | .skip,st,Q,t=>rfl
 | .ops l,st,Q,t=>by simp only [Run,run,ROps_eq]
 | .any l,st,Q,t=>by simp only [Run,run,RAny_eq]
 | .seq a b,st,Q,t=>by simp only [Run,run,Run_eq a,Run_eq b]
 | .cond x a b,st,Q,t=>by simp only [Run,run,Run_eq a,Run_eq b,OB,S2]
 | .block id c,st,Q,t=>by simp only [Run,run,Run_eq c,blkK_eq]
 | .loop c,st,Q,t=>by simp only [Run,run,LP]
 | .exit i,st,Q,t=>rfl
 | .ret,st,Q,t=>rfl
end
theorem getS_hit (i:Nat) (p:PV) (s:Slots):getS ((i,p)::s) i=p:=by simp [getS]
theorem getS_miss {i j:Nat} (h:(i==j)=false) (p:PV) (s:Slots):getS ((i,p)::s) j=getS s j:=by simp [getS,h]
theorem getH_hit (i:Nat) (b:Option ABlk) (H:Heap):getH ((i,b)::H) i=b:=by simp [getH]
theorem getH_miss {i j:Nat} (h:(i==j)=false) (b:Option ABlk) (H:Heap):getH ((i,b)::H) j=getH H j:=by simp [getH,h]
theorem acall_run {P:Program} {f:Nat} {af:AFn} {args:List PV} {Hs:Heap} {nid:Nat} {r:PV} {u:Heap} (hc:compF P f=some af) (hn:args.length≤af.nt)
  (h:Run P af.body ⟨argSlots 0 args,Hs,nid,nid⟩ (RetOK af.res Hs nid r u) .mk):ACall P f args Hs nid r u :=
 acall_of_run hc hn (by rw [← Run_eq]; exact h)
theorem LP.mk {P:Program} {c:ACode} {st:ST} {Q:AEx→ST→Prop} {t:Tag Q} {ι:Type} (I:ι→ST) (μ:ι→Nat) (x:ι) (h1:Cov st (I x)) (h2:∀ x,Run P c (I x) (loopK (fun s=>∃ y,μ y<μ x∧Cov s (I y)) Q) .mk):LP P c st Q t :=
 LoopOK.mk I μ x h1 fun x=>by rw [← Run_eq P c _ _ .mk]; exact h2 x
theorem S2.dec {p:Prop} [Decidable p] {X Y:Unit→Prop} {t:Tag X} {t':Tag Y} (h1:p→X ()) (h2:¬ p→Y ()):S2 (decide p) X Y t t':=split2_dec h1 h2
theorem S2.yes {b:Bool} {X Y:Unit→Prop} {t:Tag X} {t':Tag Y} (hb:b=true) (h1:X ()):S2 b X Y t t':=split2_yes hb h1
theorem S2.no {b:Bool} {X Y:Unit→Prop} {t:Tag X} {t':Tag Y} (hb:b=false) (h1:Y ()):S2 b X Y t t':=split2_no hb h1
theorem S2.intro {b:Bool} {X Y:Unit→Prop} {t:Tag X} {t':Tag Y} (h1:b=true→X ()) (h2:b=false→Y ()):S2 b X Y t t':=⟨h1,h2⟩
theorem apart_nil:∀ l:List Nat,apart [] [] l=true
 | []=>rfl
 | id::r=>by
  simp only [apart,apart_nil r,nilSz,srcOf,Bool.and_true,List.all_eq_true]
  intro j hj
  by_cases h:j=id <;> simp [h]
def over (u:Heap):Heap→Heap
 | []=>[]
 | (i,b)::H=>bif (keys u).contains i then over u H else (i,b)::over u H
theorem getH_appC:∀ (u H:Heap) (i:Nat),getH (u++H) i=bif (keys u).contains i then getH u i else getH H i
 | [],H,i=>by simp [keys]
 | (j,b)::u,H,i=>by
  simp only [List.cons_append,getH,keys,List.map_cons,List.contains_cons]
  have:=getH_appC u H i
  simp only [keys] at this
  by_cases e:j=i
  ·subst e; simp
  ·have e1:(j==i)=false:=by simpa using e
   have e2:(i==j)=false:=by simpa using fun h=>e h.symm
   simp only [e1,e2,cond_false,Bool.false_or,this]
theorem getH_over (u:Heap):∀ (H:Heap) (i:Nat),(keys u).contains i=false→getH (over u H) i=getH H i
 | [],i,h=>rfl
 | (j,b)::H,i,h=>by
  by_cases e:j=i
  ·subst e
   simp only [over,h,cond_false,getH]
   simp
  ·have e1:(j==i)=false:=by simpa using e
   cases hj:(keys u).contains j
   ·simp only [over,hj,cond_false,getH,e1]
    exact getH_over u H i h
   ·simp only [over,hj,cond_true,getH,e1,cond_false]
    exact getH_over u H i h
theorem RetOK.over {rs:List ARes} {Hs:Heap} {nid:Nat} {r:PV} {u:Heap} {e:AEx} {st:ST} (he:e=.ret∨e=.normal) {ps:List PV} (ren nils:List (Nat × Nat)) (h1:readAll st rs=some ps) (h2:inRange nid (nid+4) ren=true) (h3:inRange nid (nid+4) nils=true)
  (h4:apart ren nils (liveIds (u++Hs))=true) (h5:(liveIds (u++Hs)).all (fun id=>decide (id<nid+4))=true) (h60:HeapCov (nid+4) ren nils st.heap (u++Go.Proofs.Yteepabfepfehgaa.over u Hs)) (h7:PVCov (nid+4) ren nils (retPV ps) r):RetOK rs Hs nid r u e st:=by
 have h6:HCov (nid+4) ren nils st.heap (u++Hs):=fun id b h=>HeapCov.get h60 (by
  rw [getH_appC] at h ⊢
  cases hk:(keys u).contains id
  ·simp only [hk,cond_false] at h ⊢
   rw [getH_over u Hs id hk]; exact h
  ·simp only [hk,cond_true] at h ⊢
   exact h)
 rcases he with rfl | rfl
 ·show onAll (readAll st rs) _
  rw [h1]
  exact ⟨ren,nils,u++Hs,fun _=>rfl,h2,h3,h4,h5,h6,h7⟩
 ·show onAll (readAll st rs) _
  rw [h1]
  exact ⟨ren,nils,u++Hs,fun _=>rfl,h2,h3,h4,h5,h6,h7⟩
theorem RetOK.same {rs:List ARes} {Hs:Heap} {nid:Nat} {r:PV} {u:Heap} {e:AEx} {st:ST} (he:e=.ret∨e=.normal) {ps:List PV} (h1:readAll st rs=some ps) (h5:(liveIds (u++Hs)).all (fun id=>decide (id<nid+4))=true)
  (h6:HeapCov (nid+4) [] [] st.heap (u++Go.Proofs.Yteepabfepfehgaa.over u Hs)) (h7:PVCov (nid+4) [] [] (retPV ps) r):RetOK rs Hs nid r u e st :=
 RetOK.over he [] [] h1 rfl rfl (apart_nil _) h5 h6 h7
theorem subH_hit (id:Nat) (b:Option ABlk) (H:Heap):subH [(id,b)] ((id,b)::H):=fun i c h=>by
 by_cases e:id=i
 ·subst e; simp only [getH_hit] at h ⊢; exact h
 ·have e1:(id==i)=false:=by simpa using e
  simp [getH,e1] at h
theorem subH_get {id:Nat} {b:Option ABlk} {H:Heap} (h:getH H id=b):subH [(id,b)] H:=fun i c hc=>by
 by_cases e:id=i
 ·subst e; simp only [getH_hit] at hc; rw [h]; exact hc
 ·have e1:(id==i)=false:=by simpa using e
  simp [getH,e1] at hc
theorem Cov.go (ren nils:List (Nat × Nat)) {s1 s2:Slots} {H1 H2:Heap} {n1 n2 b:Nat} (h:b≤n2∧inRange b n2 ren=true∧inRange b n2 nils=true∧apart ren nils (liveIds H2)=true∧(liveIds H2).all (fun id=>decide (id<n2))=true ∧
  HeapCov n2 ren nils H1 H2∧SlotsCov n2 ren nils s1 s2):Cov ⟨s1,H1,n1,b⟩ ⟨s2,H2,n2,b⟩ :=
 Cov.mk ren nils rfl h.1 h.2.1 h.2.2.1 h.2.2.2.1 h.2.2.2.2.1 (fun id b hb=>HeapCov.get h.2.2.2.2.2.1 hb) h.2.2.2.2.2.2
theorem idS1 (n k:Nat):(n+(k+1)==n)=false:=by rw [beq_eq_false_iff_ne]; omega
theorem idS2 (n k:Nat):(n==n+(k+1))=false:=by rw [beq_eq_false_iff_ne]; omega
theorem id_all {s nid:Nat} (h:s<nid):(nid==s)=false∧(s==nid)=false∧(∀ k,(nid+k==s)=false)∧(∀ k,(s==nid+k)=false)∧¬ nid=s∧¬ s=nid∧(∀ k,¬ nid+k=s)∧(∀ k,¬ s=nid+k)∧∀ k,s<nid+k:=by
 obtain ⟨h1,h2,h3,h4⟩:=id_facts h
 exact ⟨h1,h2,h3,h4,by omega,by omega,fun k=>by omega,fun k=>by omega,fun k=>by omega⟩
theorem lowBlk_box (n T:Nat) (cs:List PV):lowBlk n (some (.box T cs))=lowAll n (idsOfs cs):=rfl
theorem lowBlk_arr (n T k:Nat) (cols:List Col):lowBlk n (some (.arr T k cols))=lowCols n k cols:=rfl
theorem lowBlk_none (n:Nat):lowBlk n none=true:=rfl
theorem LP.mkP {P:Program} {c:ACode} {st:ST} {Q:AEx→ST→Prop} {t:Tag Q} {ι:Type} (p:ι→Prop) (I:ι→ST) (μ:ι→Nat) (x:ι) (hx:p x) (h1:Cov st (I x))
  (h2:∀ x,p x→Run P c (I x) (loopK (fun s=>∃ y,(p y∧μ y<μ x)∧Cov s (I y)) Q) .mk):LP P c st Q t :=
 LP.mk (ι:={x:ι // p x}) (fun x=>I x.1) (fun x=>μ x.1) ⟨x,hx⟩ h1 fun x=>by
  have e:(fun s=>∃ y:{x:ι // p x},μ y.1<μ x.1∧Cov s (I y.1))=(fun s=>∃ y,(p y∧μ y<μ x.1)∧Cov s (I y)):=by
   funext s
   exact propext ⟨fun ⟨y,h1,h2⟩=>⟨y.1,⟨y.2,h1⟩,h2⟩,fun ⟨y,⟨h1,h2⟩,h3⟩=>⟨⟨y,h1⟩,h2,h3⟩⟩
  rw [e]
  exact h2 x.1 x.2
theorem getH_appOver (u Hs:Heap) (id:Nat):getH (u++Go.Proofs.Yteepabfepfehgaa.over u Hs) id=getH (u++Hs) id:=by
 rw [getH_appC,getH_appC]
 cases hk:(keys u).contains id
 ·simp only [cond_false]; exact getH_over u Hs id hk
 ·rfl
theorem RetOK.go {rs:List ARes} {Hs:Heap} {nid:Nat} {r:PV} {u:Heap} {e:AEx} {st:ST} (ren nils:List (Nat × Nat)) (he:e=.ret∨e=.normal) (h:onAll (readAll st rs) fun ps=>inRange nid (nid+4) ren=true∧inRange nid (nid+4) nils=true ∧
  apart ren nils (liveIds (u++Go.Proofs.Yteepabfepfehgaa.over u Hs))=true∧(liveIds (u++Go.Proofs.Yteepabfepfehgaa.over u Hs)).all (fun id=>decide (id<nid+4))=true∧HeapCov (nid+4) ren nils st.heap (u++Go.Proofs.Yteepabfepfehgaa.over u Hs)∧PVCov (nid+4) ren nils (retPV ps) r):RetOK rs Hs nid r u e st:=by
 cases hp:readAll st rs with
 | none=>rw [hp] at h; exact h.elim
 | some ps =>
  rw [hp] at h
  obtain ⟨h2,h3,h4,h5,h6,h7⟩:=h
  have h6':HCov (nid+4) ren nils st.heap (u++Go.Proofs.Yteepabfepfehgaa.over u Hs):=fun id b h=>HeapCov.get h6 h
  rcases he with rfl | rfl
  ·show onAll (readAll st rs) _
   rw [hp]
   exact ⟨ren,nils,_,getH_appOver u Hs,h2,h3,h4,h5,h6',h7⟩
  ·show onAll (readAll st rs) _
   rw [hp]
   exact ⟨ren,nils,_,getH_appOver u Hs,h2,h3,h4,h5,h6',h7⟩
def SR (P:Program) (c:ACode) (st:ST) (Q:AEx→ST→Prop) (_:Tag Q):Prop:=SRun P c st Q
theorem SR.run {P:Program} {c:ACode} {st:ST} {Q:AEx→ST→Prop} {t t':Tag Q} (h:Run P c st Q t):SR P c st Q t':=SRun.of_run (by rw [← Run_eq P c st Q t]; exact h)
theorem SR.seq {P:Program} {x y:ACode} {st:ST} {Q:AEx→ST→Prop} {t:Tag Q} (h:Run P x st (seqK (fun s=>SR P y s Q .mk) Q) .mk):SR P (.seq x y) st Q t:=SRun.seq (SRun.of_run (by rw [← Run_eq P x st _ .mk]; exact h))
theorem SR.cov {P:Program} {x:ACode} {st st':ST} {Q:AEx→ST→Prop} {t t':Tag Q} (hc:Cov st st') (h:SR P x st' Q t'):SR P x st Q t:=SRun.cov hc h
theorem acall_sr {P:Program} {f:Nat} {af:AFn} {args:List PV} {Hs:Heap} {nid:Nat} {r:PV} {u:Heap} (hc:compF P f=some af) (hn:args.length≤af.nt)
  (h:SR P af.body ⟨argSlots 0 args,Hs,nid,nid⟩ (RetOK af.res Hs nid r u) .mk):ACall P f args Hs nid r u:=acall_of_srun hc hn h
theorem aqN:type_of% (And.intro (And.intro (And.intro @noOs.eq_1 (And.intro @noOs.eq_2 @noOs.eq_3)) (And.intro (And.intro @noOs.eq_4 @noOs.eq_5) (And.intro @noOs.eq_6 @mkCol.eq_6))) (And.intro (And.intro @Col.app.eq_6 (And.intro @Col.put.eq_6 @Col.paste.eq_6)) (And.intro (And.intro @colPV.eq_5 @colSls.eq_1) (And.intro @colSls.eq_2 @colSls.eq_3)))):=(And.intro (And.intro (And.intro @noOs.eq_1 (And.intro @noOs.eq_2 @noOs.eq_3)) (And.intro (And.intro @noOs.eq_4 @noOs.eq_5) (And.intro @noOs.eq_6 @mkCol.eq_6))) (And.intro (And.intro @Col.app.eq_6 (And.intro @Col.put.eq_6 @Col.paste.eq_6)) (And.intro (And.intro @colPV.eq_5 @colSls.eq_1) (And.intro @colSls.eq_2 @colSls.eq_3))))
theorem aqP:type_of% (And.intro (And.intro (And.intro @noOs.eq_7 (And.intro @mkCol.eq_7 @Col.app.eq_7)) (And.intro (And.intro @Col.put.eq_7 @Col.paste.eq_7) (And.intro @colPV.eq_6 @colPtrs.eq_1))) (And.intro (And.intro (And.intro @colPtrs.eq_2 @colPtrs.eq_3) (And.intro @mkKey.eq_5 @keyIn.eq_4)) (And.intro (And.intro @allTo.eq_1 @allTo.eq_2) (And.intro (And.intro @lowCols.eq_1 (And.intro @lowCols.eq_2 @lowCols.eq_3)) (And.intro (And.intro @lowCols.eq_4 @lowCols.eq_5) (And.intro @lowCols.eq_6 @lowCols.eq_7)))))):=(And.intro (And.intro (And.intro @noOs.eq_7 (And.intro @mkCol.eq_7 @Col.app.eq_7)) (And.intro (And.intro @Col.put.eq_7 @Col.paste.eq_7) (And.intro @colPV.eq_6 @colPtrs.eq_1))) (And.intro (And.intro (And.intro @colPtrs.eq_2 @colPtrs.eq_3) (And.intro @mkKey.eq_5 @keyIn.eq_4)) (And.intro (And.intro @allTo.eq_1 @allTo.eq_2) (And.intro (And.intro @lowCols.eq_1 (And.intro @lowCols.eq_2 @lowCols.eq_3)) (And.intro (And.intro @lowCols.eq_4 @lowCols.eq_5) (And.intro @lowCols.eq_6 @lowCols.eq_7))))))
theorem aqM:type_of% (And.intro (And.intro @opXs.eq_48 (And.intro @opXs.eq_49 @opXs.eq_50)) (And.intro (And.intro @rdXs.eq_16 (And.intro @rdXs.eq_17 @rdXs.eq_18)) (And.intro @idsOf.eq_10 (And.intro @MCol.noL.eq_1 @MCol.noL.eq_2)))):=(And.intro (And.intro @opXs.eq_48 (And.intro @opXs.eq_49 @opXs.eq_50)) (And.intro (And.intro @rdXs.eq_16 (And.intro @rdXs.eq_17 @rdXs.eq_18)) (And.intro @idsOf.eq_10 (And.intro @MCol.noL.eq_1 @MCol.noL.eq_2))))
theorem aqT:type_of% (And.intro (And.intro (And.intro (And.intro (And.intro (And.intro @Run.eq_1 (And.intro @Run.eq_2 @Run.eq_3)) (And.intro @Run.eq_4 (And.intro @Run.eq_5 @Run.eq_6))) (And.intro (And.intro @Run.eq_7 (And.intro @Run.eq_8 @Run.eq_9)) (And.intro @ROps.eq_1 (And.intro @ROps.eq_2 @ROps.eq_3)))) (And.intro (And.intro (And.intro @ROps.eq_4 (And.intro @RAny.eq_1 @RAny.eq_2)) (And.intro @RAny.eq_3 (And.intro @RAny.eq_4 @BS_some))) (And.intro (And.intro @BS_true (And.intro @BS_none @OB_bool)) (And.intro @OG_bool (And.intro @OG_tup @S2_true))))) (And.intro (And.intro (And.intro (And.intro @S2_false (And.intro @OF_fn @getS_hit)) (And.intro @getS_miss (And.intro @getS.eq_1 @getH_hit))) (And.intro (And.intro @getH_miss (And.intro @getH.eq_1 @putS.eq_1)) (And.intro @putS.eq_2 (And.intro @AX.val.eq_1 @AX.val.eq_2)))) (And.intro (And.intro (And.intro @cond_true.{1} (And.intro @cond_false.{1} @idS1)) (And.intro @idS2 (And.intro @List.nil_append.{0} @List.cons_append.{0}))) (And.intro (And.intro @true_and (And.intro @and_true @ne_eq.{1})) (And.intro @not_true_eq_false (And.intro @if_false.{1} @if_true.{1})))))) (And.intro (And.intro (And.intro (And.intro (And.intro @ite_false.{1} (And.intro @ite_true.{1} @List.map_cons.{0,0})) (And.intro @List.map_nil.{0,0} (And.intro @List.drop_zero.{0} @List.drop_succ_cons.{0}))) (And.intro (And.intro @List.take_succ_cons.{0} (And.intro @List.take_zero.{0} @List.length_cons.{0})) (And.intro @List.length_nil.{0} (And.intro @Nat.zero_add @decide_true)))) (And.intro (And.intro (And.intro @decide_false (And.intro @beq_self_eq_true.{0} @Bool.and_true)) (And.intro @Bool.and_false (And.intro @Bool.true_and @Bool.false_and))) (And.intro (And.intro @Int.toNat_natCast (And.intro @lowBlk_box @lowBlk_arr)) (And.intro @lowBlk_none (And.intro @List.append_nil.{0} @List.getElem?_cons_zero.{0}))))) (And.intro (And.intro (And.intro (And.intro @List.getElem?_cons_succ.{0} (And.intro @List.all_cons.{0} @List.all_nil.{0})) (And.intro @List.any_cons.{0} (And.intro @List.any_nil.{0} @List.contains_cons.{0}))) (And.intro (And.intro @List.contains_nil.{0} (And.intro @Bool.or_false @Bool.false_or)) (And.intro @Bool.or_true (And.intro @Bool.true_or @Bool.not_false)))) (And.intro (And.intro (And.intro @Bool.not_true (And.intro @bne_self_eq_false.{0} @List.singleton_append.{0})) (And.intro @Int.add_sub_cancel (And.intro @List.replicate_succ.{0} @List.replicate_zero.{0}))) (And.intro (And.intro @List.flatten_cons.{0} (And.intro @List.flatten_nil.{0} @List.set_cons_succ.{0})) (And.intro (And.intro @List.set_cons_zero.{0} @List.headD_cons.{0}) (And.intro @List.tail_cons.{0} @Nat.add_lt_add_iff_left))))))):=And.intro (And.intro (And.intro (And.intro (And.intro (And.intro @Run.eq_1 (And.intro @Run.eq_2 @Run.eq_3)) (And.intro @Run.eq_4 (And.intro @Run.eq_5 @Run.eq_6))) (And.intro (And.intro @Run.eq_7 (And.intro @Run.eq_8 @Run.eq_9)) (And.intro @ROps.eq_1 (And.intro @ROps.eq_2 @ROps.eq_3)))) (And.intro (And.intro (And.intro @ROps.eq_4 (And.intro @RAny.eq_1 @RAny.eq_2)) (And.intro @RAny.eq_3 (And.intro @RAny.eq_4 @BS_some))) (And.intro (And.intro @BS_true (And.intro @BS_none @OB_bool)) (And.intro @OG_bool (And.intro @OG_tup @S2_true))))) (And.intro (And.intro (And.intro (And.intro @S2_false (And.intro @OF_fn @getS_hit)) (And.intro @getS_miss (And.intro @getS.eq_1 @getH_hit))) (And.intro (And.intro @getH_miss (And.intro @getH.eq_1 @putS.eq_1)) (And.intro @putS.eq_2 (And.intro @AX.val.eq_1 @AX.val.eq_2)))) (And.intro (And.intro (And.intro @cond_true.{1} (And.intro @cond_false.{1} @idS1)) (And.intro @idS2 (And.intro @List.nil_append.{0} @List.cons_append.{0}))) (And.intro (And.intro @true_and (And.intro @and_true @ne_eq.{1})) (And.intro @not_true_eq_false (And.intro @if_false.{1} @if_true.{1})))))) (And.intro (And.intro (And.intro (And.intro (And.intro @ite_false.{1} (And.intro @ite_true.{1} @List.map_cons.{0,0})) (And.intro @List.map_nil.{0,0} (And.intro @List.drop_zero.{0} @List.drop_succ_cons.{0}))) (And.intro (And.intro @List.take_succ_cons.{0} (And.intro @List.take_zero.{0} @List.length_cons.{0})) (And.intro @List.length_nil.{0} (And.intro @Nat.zero_add @decide_true)))) (And.intro (And.intro (And.intro @decide_false (And.intro @beq_self_eq_true.{0} @Bool.and_true)) (And.intro @Bool.and_false (And.intro @Bool.true_and @Bool.false_and))) (And.intro (And.intro @Int.toNat_natCast (And.intro @lowBlk_box @lowBlk_arr)) (And.intro @lowBlk_none (And.intro @List.append_nil.{0} @List.getElem?_cons_zero.{0}))))) (And.intro (And.intro (And.intro (And.intro @List.getElem?_cons_succ.{0} (And.intro @List.all_cons.{0} @List.all_nil.{0})) (And.intro @List.any_cons.{0} (And.intro @List.any_nil.{0} @List.contains_cons.{0}))) (And.intro (And.intro @List.contains_nil.{0} (And.intro @Bool.or_false @Bool.false_or)) (And.intro @Bool.or_true (And.intro @Bool.true_or @Bool.not_false)))) (And.intro (And.intro (And.intro @Bool.not_true (And.intro @bne_self_eq_false.{0} @List.singleton_append.{0})) (And.intro @Int.add_sub_cancel (And.intro @List.replicate_succ.{0} @List.replicate_zero.{0}))) (And.intro (And.intro @List.flatten_cons.{0} (And.intro @List.flatten_nil.{0} @List.set_cons_succ.{0})) (And.intro (And.intro @List.set_cons_zero.{0} @List.headD_cons.{0}) (And.intro @List.tail_cons.{0} @Nat.add_lt_add_iff_left))))))
theorem aqU:type_of% (And.intro (And.intro (And.intro (And.intro (And.intro (And.intro (And.intro @freeOf.eq_1 (And.intro @freeOf.eq_2 @indep.eq_1)) (And.intro @offO.eq_1 (And.intro @offO.eq_2 @neqO.eq_1))) (And.intro (And.intro @neqO.eq_2 (And.intro @disj.eq_1 @namesX.eq_1)) (And.intro @namesX.eq_2 (And.intro @axSlot.eq_1 @axSlot.eq_2)))) (And.intro (And.intro (And.intro @opXs.eq_1 (And.intro @opXs.eq_2 @opXs.eq_3)) (And.intro @opXs.eq_4 (And.intro @opXs.eq_5 @opXs.eq_6))) (And.intro (And.intro @opXs.eq_7 (And.intro @opXs.eq_8 @opXs.eq_9)) (And.intro @opXs.eq_10 (And.intro @opXs.eq_11 @opXs.eq_12))))) (And.intro (And.intro (And.intro (And.intro @opXs.eq_13 (And.intro @opXs.eq_14 @opXs.eq_15)) (And.intro @opXs.eq_16 (And.intro @opXs.eq_17 @opXs.eq_18))) (And.intro (And.intro @opXs.eq_19 (And.intro @opXs.eq_20 @opXs.eq_21)) (And.intro @opXs.eq_22 (And.intro @opXs.eq_23 @opXs.eq_24)))) (And.intro (And.intro (And.intro @opXs.eq_25 (And.intro @opXs.eq_26 @opXs.eq_27)) (And.intro @opXs.eq_28 (And.intro @opXs.eq_29 @opXs.eq_30))) (And.intro (And.intro @opXs.eq_31 (And.intro @opXs.eq_32 @opXs.eq_33)) (And.intro @opXs.eq_34 (And.intro @opXs.eq_35 @opXs.eq_36)))))) (And.intro (And.intro (And.intro (And.intro (And.intro @opXs.eq_37 (And.intro @opXs.eq_38 @opXs.eq_39)) (And.intro @opXs.eq_40 (And.intro @opXs.eq_41 @opXs.eq_42))) (And.intro (And.intro @opXs.eq_43 (And.intro @opXs.eq_44 @opXs.eq_45)) (And.intro @opXs.eq_46 (And.intro @opXs.eq_47 @rdXs.eq_1)))) (And.intro (And.intro (And.intro @rdXs.eq_2 (And.intro @rdXs.eq_3 @rdXs.eq_4)) (And.intro @rdXs.eq_5 (And.intro @rdXs.eq_6 @rdXs.eq_7))) (And.intro (And.intro @rdXs.eq_8 (And.intro @rdXs.eq_9 @rdXs.eq_10)) (And.intro @rdXs.eq_11 (And.intro @rdXs.eq_12 @rdXs.eq_13))))) (And.intro (And.intro (And.intro (And.intro @rdXs.eq_14 (And.intro @rdXs.eq_15 @idsOf.eq_1)) (And.intro @idsOf.eq_2 (And.intro @idsOf.eq_3 @idsOf.eq_4))) (And.intro (And.intro @idsOf.eq_5 (And.intro @idsOf.eq_6 @idsOf.eq_7)) (And.intro @idsOf.eq_8 (And.intro @idsOf.eq_9 @idsOfs.eq_1)))) (And.intro (And.intro (And.intro @idsOfs.eq_2 (And.intro @lowH.eq_1 @lowH.eq_2)) (And.intro @lowAll.eq_1 (And.intro @keys.eq_1 @optInt.eq_1))) (And.intro (And.intro @optInt.eq_2 (And.intro @fillP.eq_1 @fillP.eq_2)) (And.intro (And.intro @repl.eq_1 @chunk.eq_1) (And.intro @chunk.eq_2 @mkCols.eq_1))))))) (And.intro (And.intro (And.intro (And.intro (And.intro (And.intro @mkCols.eq_2 (And.intro @mkCols.eq_3 @mkCol.eq_1)) (And.intro @mkCol.eq_2 (And.intro @mkCol.eq_3 @mkCol.eq_4))) (And.intro (And.intro @mkCol.eq_5 (And.intro @colInts.eq_1 @colInts.eq_2)) (And.intro @colInts.eq_3 (And.intro @colBools.eq_1 @colBools.eq_2)))) (And.intro (And.intro (And.intro @colBools.eq_3 (And.intro @colStrs.eq_1 @colStrs.eq_2)) (And.intro @colStrs.eq_3 (And.intro @colLits.eq_1 @colLits.eq_2))) (And.intro (And.intro @colLits.eq_3 (And.intro @colsApp.eq_1 @colsApp.eq_2)) (And.intro @colsApp.eq_3 (And.intro @Col.app.eq_1 @Col.app.eq_2))))) (And.intro (And.intro (And.intro (And.intro @Col.app.eq_3 (And.intro @Col.app.eq_4 @Col.app.eq_5)) (And.intro @tailOf.eq_1 (And.intro @tailOf.eq_2 @tailOf.eq_3))) (And.intro (And.intro @splice.eq_1 (And.intro @splice.eq_2 @colsPut.eq_1)) (And.intro @colsPut.eq_2 (And.intro @colsPut.eq_3 @colsPut.eq_4)))) (And.intro (And.intro (And.intro @Col.put.eq_1 (And.intro @Col.put.eq_2 @Col.put.eq_3)) (And.intro @Col.put.eq_4 (And.intro @Col.put.eq_5 @mmFold.eq_1))) (And.intro (And.intro @mmFold.eq_2 (And.intro @mmFold.eq_3 @eqK.eq_1)) (And.intro (And.intro @eqK.eq_2 @eqK.eq_3) (And.intro @eqK.eq_4 @eqK.eq_5)))))) (And.intro (And.intro (And.intro (And.intro (And.intro @colsPaste.eq_1 (And.intro @colsPaste.eq_2 @colsPaste.eq_3)) (And.intro @Col.paste.eq_1 (And.intro @Col.paste.eq_2 @Col.paste.eq_3))) (And.intro (And.intro @Col.paste.eq_4 (And.intro @Col.paste.eq_5 @mNew.eq_1)) (And.intro @mNew.eq_2 (And.intro @mNew.eq_3 @mNew.eq_4)))) (And.intro (And.intro (And.intro @mkKey.eq_1 (And.intro @mkKey.eq_2 @mkKey.eq_3)) (And.intro @mkKey.eq_4 (And.intro @keyIn.eq_1 @keyIn.eq_2))) (And.intro (And.intro @keyIn.eq_3 (And.intro @mGet.eq_1 @mGet.eq_2)) (And.intro @mGet.eq_3 (And.intro @mGet.eq_4 @mPut.eq_1))))) (And.intro (And.intro (And.intro (And.intro @mPut.eq_2 (And.intro @mPut.eq_3 @mPut.eq_4)) (And.intro @res.eq_1 (And.intro @stepIdx.eq_1 @mix.eq_1))) (And.intro (And.intro @mix.eq_2 (And.intro @mix.eq_3 @mix.eq_4)) (And.intro @PV.cells.eq_1 (And.intro @PV.cells.eq_2 @PV.cells.eq_3)))) (And.intro (And.intro (And.intro @PV.cells.eq_4 (And.intro @argSlots.eq_1 @argSlots.eq_2)) (And.intro @colPV.eq_1 (And.intro @colPV.eq_2 @colPV.eq_3))) (And.intro (And.intro @colPV.eq_4 (And.intro @ROp.eq_1 @ROp.eq_2)) (And.intro (And.intro @ROp.eq_3 @OX.eq_1) (And.intro @OX.eq_2 @OX.eq_3)))))))):=(And.intro (And.intro (And.intro (And.intro (And.intro (And.intro (And.intro @freeOf.eq_1 (And.intro @freeOf.eq_2 @indep.eq_1)) (And.intro @offO.eq_1 (And.intro @offO.eq_2 @neqO.eq_1))) (And.intro (And.intro @neqO.eq_2 (And.intro @disj.eq_1 @namesX.eq_1)) (And.intro @namesX.eq_2 (And.intro @axSlot.eq_1 @axSlot.eq_2)))) (And.intro (And.intro (And.intro @opXs.eq_1 (And.intro @opXs.eq_2 @opXs.eq_3)) (And.intro @opXs.eq_4 (And.intro @opXs.eq_5 @opXs.eq_6))) (And.intro (And.intro @opXs.eq_7 (And.intro @opXs.eq_8 @opXs.eq_9)) (And.intro @opXs.eq_10 (And.intro @opXs.eq_11 @opXs.eq_12))))) (And.intro (And.intro (And.intro (And.intro @opXs.eq_13 (And.intro @opXs.eq_14 @opXs.eq_15)) (And.intro @opXs.eq_16 (And.intro @opXs.eq_17 @opXs.eq_18))) (And.intro (And.intro @opXs.eq_19 (And.intro @opXs.eq_20 @opXs.eq_21)) (And.intro @opXs.eq_22 (And.intro @opXs.eq_23 @opXs.eq_24)))) (And.intro (And.intro (And.intro @opXs.eq_25 (And.intro @opXs.eq_26 @opXs.eq_27)) (And.intro @opXs.eq_28 (And.intro @opXs.eq_29 @opXs.eq_30))) (And.intro (And.intro @opXs.eq_31 (And.intro @opXs.eq_32 @opXs.eq_33)) (And.intro @opXs.eq_34 (And.intro @opXs.eq_35 @opXs.eq_36)))))) (And.intro (And.intro (And.intro (And.intro (And.intro @opXs.eq_37 (And.intro @opXs.eq_38 @opXs.eq_39)) (And.intro @opXs.eq_40 (And.intro @opXs.eq_41 @opXs.eq_42))) (And.intro (And.intro @opXs.eq_43 (And.intro @opXs.eq_44 @opXs.eq_45)) (And.intro @opXs.eq_46 (And.intro @opXs.eq_47 @rdXs.eq_1)))) (And.intro (And.intro (And.intro @rdXs.eq_2 (And.intro @rdXs.eq_3 @rdXs.eq_4)) (And.intro @rdXs.eq_5 (And.intro @rdXs.eq_6 @rdXs.eq_7))) (And.intro (And.intro @rdXs.eq_8 (And.intro @rdXs.eq_9 @rdXs.eq_10)) (And.intro @rdXs.eq_11 (And.intro @rdXs.eq_12 @rdXs.eq_13))))) (And.intro (And.intro (And.intro (And.intro @rdXs.eq_14 (And.intro @rdXs.eq_15 @idsOf.eq_1)) (And.intro @idsOf.eq_2 (And.intro @idsOf.eq_3 @idsOf.eq_4))) (And.intro (And.intro @idsOf.eq_5 (And.intro @idsOf.eq_6 @idsOf.eq_7)) (And.intro @idsOf.eq_8 (And.intro @idsOf.eq_9 @idsOfs.eq_1)))) (And.intro (And.intro (And.intro @idsOfs.eq_2 (And.intro @lowH.eq_1 @lowH.eq_2)) (And.intro @lowAll.eq_1 (And.intro @keys.eq_1 @optInt.eq_1))) (And.intro (And.intro @optInt.eq_2 (And.intro @fillP.eq_1 @fillP.eq_2)) (And.intro (And.intro @repl.eq_1 @chunk.eq_1) (And.intro @chunk.eq_2 @mkCols.eq_1))))))) (And.intro (And.intro (And.intro (And.intro (And.intro (And.intro @mkCols.eq_2 (And.intro @mkCols.eq_3 @mkCol.eq_1)) (And.intro @mkCol.eq_2 (And.intro @mkCol.eq_3 @mkCol.eq_4))) (And.intro (And.intro @mkCol.eq_5 (And.intro @colInts.eq_1 @colInts.eq_2)) (And.intro @colInts.eq_3 (And.intro @colBools.eq_1 @colBools.eq_2)))) (And.intro (And.intro (And.intro @colBools.eq_3 (And.intro @colStrs.eq_1 @colStrs.eq_2)) (And.intro @colStrs.eq_3 (And.intro @colLits.eq_1 @colLits.eq_2))) (And.intro (And.intro @colLits.eq_3 (And.intro @colsApp.eq_1 @colsApp.eq_2)) (And.intro @colsApp.eq_3 (And.intro @Col.app.eq_1 @Col.app.eq_2))))) (And.intro (And.intro (And.intro (And.intro @Col.app.eq_3 (And.intro @Col.app.eq_4 @Col.app.eq_5)) (And.intro @tailOf.eq_1 (And.intro @tailOf.eq_2 @tailOf.eq_3))) (And.intro (And.intro @splice.eq_1 (And.intro @splice.eq_2 @colsPut.eq_1)) (And.intro @colsPut.eq_2 (And.intro @colsPut.eq_3 @colsPut.eq_4)))) (And.intro (And.intro (And.intro @Col.put.eq_1 (And.intro @Col.put.eq_2 @Col.put.eq_3)) (And.intro @Col.put.eq_4 (And.intro @Col.put.eq_5 @mmFold.eq_1))) (And.intro (And.intro @mmFold.eq_2 (And.intro @mmFold.eq_3 @eqK.eq_1)) (And.intro (And.intro @eqK.eq_2 @eqK.eq_3) (And.intro @eqK.eq_4 @eqK.eq_5)))))) (And.intro (And.intro (And.intro (And.intro (And.intro @colsPaste.eq_1 (And.intro @colsPaste.eq_2 @colsPaste.eq_3)) (And.intro @Col.paste.eq_1 (And.intro @Col.paste.eq_2 @Col.paste.eq_3))) (And.intro (And.intro @Col.paste.eq_4 (And.intro @Col.paste.eq_5 @mNew.eq_1)) (And.intro @mNew.eq_2 (And.intro @mNew.eq_3 @mNew.eq_4)))) (And.intro (And.intro (And.intro @mkKey.eq_1 (And.intro @mkKey.eq_2 @mkKey.eq_3)) (And.intro @mkKey.eq_4 (And.intro @keyIn.eq_1 @keyIn.eq_2))) (And.intro (And.intro @keyIn.eq_3 (And.intro @mGet.eq_1 @mGet.eq_2)) (And.intro @mGet.eq_3 (And.intro @mGet.eq_4 @mPut.eq_1))))) (And.intro (And.intro (And.intro (And.intro @mPut.eq_2 (And.intro @mPut.eq_3 @mPut.eq_4)) (And.intro @res.eq_1 (And.intro @stepIdx.eq_1 @mix.eq_1))) (And.intro (And.intro @mix.eq_2 (And.intro @mix.eq_3 @mix.eq_4)) (And.intro @PV.cells.eq_1 (And.intro @PV.cells.eq_2 @PV.cells.eq_3)))) (And.intro (And.intro (And.intro @PV.cells.eq_4 (And.intro @argSlots.eq_1 @argSlots.eq_2)) (And.intro @colPV.eq_1 (And.intro @colPV.eq_2 @colPV.eq_3))) (And.intro (And.intro @colPV.eq_4 (And.intro @ROp.eq_1 @ROp.eq_2)) (And.intro (And.intro @ROp.eq_3 @OX.eq_1) (And.intro @OX.eq_2 @OX.eq_3))))))))
theorem tmS (a b:Nat):((a:Int).tmod (b:Int))=((a % b:Nat):Int):=(Int.ofNat_tmod a b).symm
theorem tdS (a b:Nat):((a:Int).tdiv (b:Int))=((a / b:Nat):Int):=(Int.ofNat_tdiv a b).symm
theorem aqA:type_of% (And.intro (And.intro (And.intro aqT (And.intro aqU aqN)) (And.intro (And.intro aqP aqM) (And.intro @Int.cast_ofNat_Int @not_false_eq_true))) (And.intro (And.intro @Nat.min_eq_left (And.intro @Int.tdiv_one tmS)) (And.intro (And.intro tdS @Option.toList_none.{0}) (And.intro @Option.toList_some.{0} @BEq.rfl.{0})))):=(And.intro (And.intro (And.intro aqT (And.intro aqU aqN)) (And.intro (And.intro aqP aqM) (And.intro @Int.cast_ofNat_Int @not_false_eq_true))) (And.intro (And.intro @Nat.min_eq_left (And.intro @Int.tdiv_one tmS)) (And.intro (And.intro tdS @Option.toList_none.{0}) (And.intro @Option.toList_some.{0} @BEq.rfl.{0}))))
theorem cvT:type_of% (And.intro (And.intro (And.intro (And.intro (And.intro (And.intro @retPV.eq_1 @retPV.eq_2) (And.intro @over.eq_1 (And.intro @over.eq_2 @keys.eq_1))) (And.intro (And.intro @HeapCov.eq_1 (And.intro @HeapCov.eq_2 @HeapCov.eq_3)) (And.intro @orNil.eq_1 (And.intro @orNil.eq_2 @nilSz.eq_1)))) (And.intro (And.intro (And.intro @nilSz.eq_2 @onBlk.eq_1) (And.intro @onBlk.eq_2 (And.intro @srcOf.eq_1 @srcOf.eq_2))) (And.intro (And.intro @BlkCov.eq_1 (And.intro @BlkCov.eq_2 @BlkCov.eq_3)) (And.intro @BlkCov.eq_4 (And.intro @BlkCov.eq_5 @BlkCov.eq_6))))) (And.intro (And.intro (And.intro (And.intro @MEq.eq_1 @MEq.eq_2) (And.intro @MEq.eq_3 (And.intro @MEq.eq_4 @PVCovs.eq_1))) (And.intro (And.intro @PVCovs.eq_2 (And.intro @PVCovs.eq_3 @PVCov.eq_1)) (And.intro @PVCov.eq_2 (And.intro @PVCov.eq_3 @PVCov.eq_4)))) (And.intro (And.intro (And.intro @PVCov.eq_5 @PVCov.eq_6) (And.intro @PVCov.eq_7 (And.intro @PVCov.eq_8 @PVCov.eq_9))) (And.intro (And.intro @PVCov.eq_10 (And.intro @PVCov.eq_11 @PVCov.eq_12)) (And.intro @PVCov.eq_13 (And.intro @PVCov.eq_14 @PVCov.eq_15)))))) (And.intro (And.intro (And.intro (And.intro (And.intro @PVCov.eq_16 @PVCov.eq_17) (And.intro @ColsEq.eq_1 (And.intro @ColsEq.eq_2 @ColsEq.eq_3))) (And.intro (And.intro @AColsEq.eq_1 (And.intro @AColsEq.eq_2 @AColsEq.eq_3)) (And.intro @ACEq.eq_1 (And.intro @ACEq.eq_2 @ACEq.eq_3)))) (And.intro (And.intro (And.intro @ACEq.eq_4 @ACEq.eq_5) (And.intro @ACEq.eq_6 (And.intro @liveIds.eq_1 @liveIds.eq_2))) (And.intro (And.intro @liveIds.eq_3 (And.intro @SlotsCov.eq_1 @SlotsCov.eq_2)) (And.intro @inRange.eq_1 (And.intro @apart.eq_1 @apart.eq_2))))) (And.intro (And.intro (And.intro (And.intro @nilBlk.eq_1 @nilBlk.eq_2) (And.intro @readAll.eq_1 (And.intro @readAll.eq_2 @readRes.eq_1))) (And.intro (And.intro @readRes.eq_2 (And.intro @onAll.eq_1 @onAll.eq_2)) (And.intro @AX.val.eq_1 (And.intro @AX.val.eq_2 @getH_hit)))) (And.intro (And.intro (And.intro @getH_miss (And.intro @getH.eq_1 @getS_hit)) (And.intro @getS_miss (And.intro @getS.eq_1 @ColEq.refl))) (And.intro (And.intro @idS1 (And.intro @idS2 @Bool.or_false)) (And.intro @Bool.or_true (And.intro @Bool.true_or @Bool.false_or))))))):=(And.intro (And.intro (And.intro (And.intro (And.intro (And.intro @retPV.eq_1 @retPV.eq_2) (And.intro @over.eq_1 (And.intro @over.eq_2 @keys.eq_1))) (And.intro (And.intro @HeapCov.eq_1 (And.intro @HeapCov.eq_2 @HeapCov.eq_3)) (And.intro @orNil.eq_1 (And.intro @orNil.eq_2 @nilSz.eq_1)))) (And.intro (And.intro (And.intro @nilSz.eq_2 @onBlk.eq_1) (And.intro @onBlk.eq_2 (And.intro @srcOf.eq_1 @srcOf.eq_2))) (And.intro (And.intro @BlkCov.eq_1 (And.intro @BlkCov.eq_2 @BlkCov.eq_3)) (And.intro @BlkCov.eq_4 (And.intro @BlkCov.eq_5 @BlkCov.eq_6))))) (And.intro (And.intro (And.intro (And.intro @MEq.eq_1 @MEq.eq_2) (And.intro @MEq.eq_3 (And.intro @MEq.eq_4 @PVCovs.eq_1))) (And.intro (And.intro @PVCovs.eq_2 (And.intro @PVCovs.eq_3 @PVCov.eq_1)) (And.intro @PVCov.eq_2 (And.intro @PVCov.eq_3 @PVCov.eq_4)))) (And.intro (And.intro (And.intro @PVCov.eq_5 @PVCov.eq_6) (And.intro @PVCov.eq_7 (And.intro @PVCov.eq_8 @PVCov.eq_9))) (And.intro (And.intro @PVCov.eq_10 (And.intro @PVCov.eq_11 @PVCov.eq_12)) (And.intro @PVCov.eq_13 (And.intro @PVCov.eq_14 @PVCov.eq_15)))))) (And.intro (And.intro (And.intro (And.intro (And.intro @PVCov.eq_16 @PVCov.eq_17) (And.intro @ColsEq.eq_1 (And.intro @ColsEq.eq_2 @ColsEq.eq_3))) (And.intro (And.intro @AColsEq.eq_1 (And.intro @AColsEq.eq_2 @AColsEq.eq_3)) (And.intro @ACEq.eq_1 (And.intro @ACEq.eq_2 @ACEq.eq_3)))) (And.intro (And.intro (And.intro @ACEq.eq_4 @ACEq.eq_5) (And.intro @ACEq.eq_6 (And.intro @liveIds.eq_1 @liveIds.eq_2))) (And.intro (And.intro @liveIds.eq_3 (And.intro @SlotsCov.eq_1 @SlotsCov.eq_2)) (And.intro @inRange.eq_1 (And.intro @apart.eq_1 @apart.eq_2))))) (And.intro (And.intro (And.intro (And.intro @nilBlk.eq_1 @nilBlk.eq_2) (And.intro @readAll.eq_1 (And.intro @readAll.eq_2 @readRes.eq_1))) (And.intro (And.intro @readRes.eq_2 (And.intro @onAll.eq_1 @onAll.eq_2)) (And.intro @AX.val.eq_1 (And.intro @AX.val.eq_2 @getH_hit)))) (And.intro (And.intro (And.intro @getH_miss (And.intro @getH.eq_1 @getS_hit)) (And.intro @getS_miss (And.intro @getS.eq_1 @ColEq.refl))) (And.intro (And.intro @idS1 (And.intro @idS2 @Bool.or_false)) (And.intro @Bool.or_true (And.intro @Bool.true_or @Bool.false_or)))))))
open Go.RowKit
mutual
def ArgEq:PV→PV→Prop
 | .lit nl n c,.lit nl' n' c'=>nl=nl'∧n=n'∧ColsEq n c c'
 | .agg ps,.agg qs=>ArgEqs ps qs
 | p,q=>p=q
def ArgEqs:List PV→List PV→Prop
 | [],[]=>True
 | p::ps,q::qs=>ArgEq p q∧ArgEqs ps qs
 | _,_=>False
end
section
variable {Y:Nat→Prop} {m:Names} {w:World}
mutual
theorem ArgEq.rep:∀ (q p:PV) (v:Value),ArgEq p q→Rep Y m w p v→Rep Y m w q v
 | .lit _ _ _,p,v,h,hr=>by
  cases p <;> simp only [ArgEq] at h <;> try contradiction
  obtain ⟨rfl,rfl,h⟩:=h
  exact h.lit hr
 | .agg qs,p,v,h,hr=>by
  cases p <;> simp only [ArgEq] at h <;> try contradiction
  obtain ⟨vs,rfl,h1,h2,h3⟩:=hr.agg_inv
  have:=ArgEqs.rep qs _ vs h h2
  exact .agg (h1.trans this.1) this.2 h3
 | .int _ _,p,v,h,hr=>by cases p <;> simp only [ArgEq] at h <;> first | contradiction | (injections; subst_vars; exact hr)
 | .bool _,p,v,h,hr=>by cases p <;> simp only [ArgEq] at h <;> first | contradiction | (injections; subst_vars; exact hr)
 | .str _,p,v,h,hr=>by cases p <;> simp only [ArgEq] at h <;> first | contradiction | (injections; subst_vars; exact hr)
 | .ptr _ _,p,v,h,hr=>by cases p <;> simp only [ArgEq] at h <;> first | contradiction | (injections; subst_vars; exact hr)
 | .nilp,p,v,h,hr=>by cases p <;> simp only [ArgEq] at h <;> first | contradiction | exact hr
 | .nili,p,v,h,hr=>by cases p <;> simp only [ArgEq] at h <;> first | contradiction | exact hr
 | .elp _ _,p,v,h,hr=>by cases p <;> simp only [ArgEq] at h <;> first | contradiction | (injections; subst_vars; exact hr)
 | .arp _ _ _,p,v,h,hr=>by cases p <;> simp only [ArgEq] at h <;> first | contradiction | (injections; subst_vars; exact hr)
 | .arv _,p,v,h,hr=>by cases p <;> simp only [ArgEq] at h <;> first | contradiction | (injections; subst_vars; exact hr)
 | .sl _ _ _,p,v,h,hr=>by cases p <;> simp only [ArgEq] at h <;> first | contradiction | (injections; subst_vars; exact hr)
 | .tup _,p,v,h,hr=>by cases p <;> simp only [ArgEq] at h <;> first | contradiction | (injections; subst_vars; exact hr)
 | .fn _ _,p,v,h,hr=>by cases p <;> simp only [ArgEq] at h <;> first | contradiction | (injections; subst_vars; exact hr)
 | .mp _,p,v,h,hr=>by cases p <;> simp only [ArgEq] at h <;> first | contradiction | (injections; subst_vars; exact hr)
 | .stp _,p,v,h,hr=>by cases p <;> simp only [ArgEq] at h <;> first | contradiction | (injections; subst_vars; exact hr)
 | .any,p,v,h,hr=>.any
theorem ArgEqs.rep:∀ (qs ps:List PV) (vs:List Value),ArgEqs ps qs→(∀ (i:Nat) p v,ps[i]?=some p→vs[i]?=some v→Rep Y m w p v) →
  ps.length=qs.length∧∀ (i:Nat) q v,qs[i]?=some q→vs[i]?=some v→Rep Y m w q v
 | [],ps,vs,h,hr=>by
  cases ps <;> simp only [ArgEqs] at h
  exact ⟨rfl,fun i q v hq=>by simp at hq⟩
 | q::qs,ps,vs,h,hr=>by
  cases ps <;> simp only [ArgEqs] at h
  rename_i p ps
  have ih:=ArgEqs.rep qs ps (vs.drop 1) h.2 (fun i p v hp hv=>hr (i+1) p v (by simpa using hp) (by rw [List.getElem?_drop] at hv; rwa [Nat.add_comm] at hv))
  refine ⟨by simp [ih.1],fun i q' v hq hv=>?_⟩
  rcases i with _ | i
  ·simp only [List.getElem?_cons_zero,Option.some.injEq] at hq
   subst hq
   exact ArgEq.rep q p v h.1 (hr 0 p v rfl hv)
  ·simp only [List.getElem?_cons_succ] at hq
   exact ih.2 i q' v hq (by rw [List.getElem?_drop,Nat.add_comm]; exact hv)
end
end
variable {P:Program} {f:Nat} {az az':List PV} {Hs:Heap} {nid:Nat} {r:PV} {u:Heap}
theorem ACall.args (ha:ACall P f az' Hs nid r u) (h:ArgEqs az az'):ACall P f az Hs nid r u:=fun C vs hb hl hr hs=>by
 have:=ArgEqs.rep az' az vs h hr
 exact ha C vs hb (hl.trans this.1) this.2 hs
theorem ACall.nonnil (i:Nat) {nl:Bool} {n:Nat} {cols:List Col} (hi:az[i]?=some (.lit nl n cols)) (h:(nl=true→n=0)→ACall P f az Hs nid r u):ACall P f az Hs nid r u:=fun C vs hb hl hr hs=>by
 have hlt:i<vs.length:=by rw [hl]; exact (List.getElem?_eq_some_iff.1 hi).1
 obtain ⟨A,cap,u',hv,e2,e3,_⟩:=(hr i _ vs[i] hi (List.getElem?_eq_getElem hlt)).lit_inv
 exact h (fun hn=>by
  subst hn
  have hA:A=none:=by cases A <;> simp at e2; rfl
  exact (e3 hA).1) C vs hb hl hr hs
theorem CallX.gave {P:Program} {f:Nat} {args:List PV} {H:Heap} {nid:Nat} {K:PV→Heap→List Nat→Prop} (F:List Nat) {r:PV} {u:Heap} (h:∀ nl,ACall P f (lends H F nl args) [] nid r u) (hF:∀ id∈F,getH u id=none) (hK:K r (u++kill F) F):CallX P f args H nid K :=
 CallX.given F h (fun id b h=>by simp [getH] at h) (fun id hid=>⟨rfl,hF id hid⟩) (by simpa [keys] using hK)
theorem CallO.gave {P:Program} {f:Nat} {args:List PV} {H:Heap} {nid:Nat} {K:PV→Heap→Prop} (F:List Nat) {r:PV} {u:Heap} (h:∀ nl,ACall P f (lends H F nl args) [] nid r u) (hF:∀ id∈F,getH u id=none) (hK:K r (u++kill F)):CallOK P f args H nid K :=
 CallO.x (CallX.gave F h hF hK)
theorem subH_cons {id:Nat} {b:Option ABlk} {Hs H:Heap} (h:getH H id=b) (hs:subH Hs H):subH ((id,b)::Hs) H:=fun i c hc=>by
 by_cases e:id=i
 ·subst e; simp only [getH_hit] at hc; rw [h]; exact hc
 ·have e1:(id==i)=false:=by simpa using e
  rw [getH_miss e1] at hc
  exact hs i c hc
theorem subH_nil (H:Heap):subH [] H:=fun i c hc=>by simp [getH] at hc
theorem SRun.mono {x:ACode} {st:ST} {Q Q':AEx→ST→Prop} (h:∀ e s,Q e s→Q' e s) (k:SRun P x st Q):SRun P x st Q':=fun nt c C Y m a w hc hS=>by
 refine wp_mono (k nt c C Y m a w hc hS) ?_
 intro e a w hp
 cases e with
 | normal=>obtain ⟨st',Y',m',hq,hs⟩:=hp; exact ⟨st',Y',m',h _ _ hq,hs⟩
 | exit i=>obtain ⟨st',Y',m',hq,hs⟩:=hp; exact ⟨st',Y',m',h _ _ hq,hs⟩
 | ret=>obtain ⟨st',Y',m',hq,hs⟩:=hp; exact ⟨st',Y',m',h _ _ hq,hs⟩
 | goto l=>exact hp.elim
 | panic c=>exact hp.elim
 | outgrown=>exact hp.elim
theorem SR.seqTo {x y:ACode} {st:ST} {Q:AEx→ST→Prop} {t:Tag Q} (st':ST) (h:Run P x st (seqK (fun s=>Cov s st') Q) .mk) (h2:SR P y st' Q .mk):SR P (.seq x y) st Q t :=
 SRun.seq (SRun.mono (Q:=seqK (fun s=>Cov s st') Q) (fun e s hk=>by
  cases e
  ·exact SRun.cov hk h2
  ·exact hk
  ·exact hk) (SRun.of_run (by rw [← Run_eq P x st _ .mk]; exact h)))
theorem SR.seqEx {x y:ACode} {st:ST} {Q:AEx→ST→Prop} {t:Tag Q} {ι:Type} (I:ι→ST) (h:Run P x st (seqK (fun s=>∃ i,Cov s (I i)) Q) .mk) (h2:∀ i,SR P y (I i) Q .mk):SR P (.seq x y) st Q t :=
 SRun.seq (SRun.mono (Q:=seqK (fun s=>∃ i,Cov s (I i)) Q) (fun e s hk=>by
  cases e
  ·obtain ⟨i,hk⟩:=hk; exact SRun.cov hk (h2 i)
  ·exact hk
  ·exact hk) (SRun.of_run (by rw [← Run_eq P x st _ .mk]; exact h)))
theorem calls_of_callSat {f : Nat} {fn : Func} {vs : Array Value} {w : World} {R : Value → World → Prop} (hf : P.funcs[f]? = some fn) (h1 : (fn.name == "runtime.NumGoroutine") = false) (h2 : fn.body.isNone = false) (h : CallSat P f vs w R) :
  Calls P f vs w fun e w' => ∃ v, e = .returned v ∧ R v w' := by
 rcases h with ⟨_, _, _, _, h⟩ | ⟨v, w', h, _⟩
 ·exact h
 ·exfalso
  unfold callFunc at h
  have h1' : fn.name ≠ "runtime.NumGoroutine" := by simpa using h1
  have h2' : fn.body ≠ none := fun e => by rw [e] at h2; simp at h2
  simp [hf, h1', h2'] at h
theorem calls_of_acall {f : Nat} {fn : Func} {A : Option Addr} {cap : Nat} {L : List Int} {w : World} (hf : P.funcs[f]? = some fn) (h1 : (fn.name == "runtime.NumGoroutine") = false) (h2 : fn.body.isNone = false) (hr : RowV w A (ints L)) (hcap : A = none → cap = 0) (hle : L.length ≤ cap) (hg : GOK (fun b => w.heap[b]?) w.heap.size)
  (h : ∀ nl nid, ACall P f [.lit nl L.length [.i .i64 fun i => L.getD i 0]] [] nid (.bool true) []) : Calls P f #[.slice A L.length cap] w fun e w' => e = .returned (.bool true) ∧ Below w.heap.size w w' := by
 have hn0 : A = none → L.length = 0 := fun e => by
  rcases L with _ | ⟨x, L⟩
  ·rfl
  ·obtain ⟨b, o, h, _⟩ := hr.int (k := 0) (x := x) rfl
   rw [e] at h; cases h
 let C : Ctx := ⟨w, fun _ => False, fun _ => False, fun _ => none, 0, fun b => w.heap[b]?, w.heap.size⟩
 have hs : HS C C.Y0 C.m0 C.w0 [] 0 := by
  refine ⟨fun id b hb => by simp [getH] at hb, fun id id' b b' pl pl' g hne hb => by simp [getH] at hb, fun b hb => hb.elim, fun b hb => hb.elim, Nat.le_refl _, fun b _ _ => rfl, rfl, rfl, rfl, fun b hb => hb.elim, fun b hb => hb.elim, fun b hb => hb.elim, fun _ _ => rfl, fun id hid => hid, fun id pl hp => hp, fun _ _ => rfl, fun id pl hp => (by cases hp), ⟨Nat.le_refl _, fun _ _ => rfl, fun b hb => hb.elim, hg⟩⟩
 have hrep : Rep C.Y0 C.m0 C.w0 (.lit A.isNone L.length [.i .i64 fun i => L.getD i 0]) (.slice A L.length cap) := by
  refine .lit (.l (u := fun j _ => .int .i64 (L.getD j 0)) rfl (fun e => ⟨hn0 e, hcap e⟩) hle (fun j m hj hm => ?_) (fun j m c hj hm => ?_))
  ·have hj' : j < L.length := hj
   have hm0 : m = 0 := by have : m < 1 := hm; omega
   subst hm0
   obtain ⟨b, o, h, hc⟩ := hr.int (k := j) (x := L.getD j 0) (by rw [List.getD_eq_getElem?_getD, List.getElem?_eq_getElem hj']; rfl)
   exact ⟨b, o, h, id, by simpa using hc⟩
  ·rcases m with _ | m
   ·simp only [List.getElem?_cons_zero, Option.some.injEq] at hm
    subst hm
    exact .i (g := fun i => L.getD i 0)
   ·simp at hm
 have hc := h A.isNone 0 C [.slice A L.length cap] rfl rfl (fun i p v hp hv => by
  rcases i with _ | i
  ·simp only [List.getElem?_cons_zero, Option.some.injEq] at hp hv
   subst hp; subst hv
   exact hrep
  ·simp at hp) hs
 refine (calls_of_callSat hf h1 h2 hc).mono ?_
 rintro e w' ⟨v, rfl, Y', m', r1, r2, r3⟩
 have hv := r1.bool_inv
 subst hv
 exact ⟨rfl, ⟨r2.os, r2.tape, r2.output, r2.size, fun k hk => r2.frame k hk id⟩⟩
def LN (P:Program) (c:ACode):Nat→ST→(AEx→ST→Prop)→Prop
 | 0,_,_=>False
 | k+1,st,Q=>Run P c st (loopK (fun s=>LN P c k s Q) Q) .mk
open Go.RowKit
variable {P:Program}
variable {f:Nat} {az az':List PV} {Hs:Heap} {nid:Nat} {r:PV} {u:Heap}
theorem firstBad2 (a b:Int):firstBad (fun x:Int=>x) [a,b]=if a=0 then b else a:=by
 simp only [firstBad]
 split
 ·rename_i h; split
  ·rename_i h2; exact h2.symm
  ·rfl
 ·rfl
open Go.RowKit
variable {P:Program}
theorem bindStep_mono {s:Step} {K K':PV→Heap→Prop} (h:∀ v u,K v u→K' v u) (k:bindStep s K):bindStep s K':=by
 unfold bindStep at k ⊢
 split at k
 ·exact ⟨k.1,h _ _ k.2⟩
 ·exact k.elim
theorem onBool_mono {p:PV} {K K':Bool→Prop} (h:∀ b,K b→K' b) (k:onBool p K):onBool p K':=by
 unfold onBool at k ⊢
 split at k
 ·exact h _ k
 ·exact k.elim
theorem onGrd_mono {p:PV} {K K':Bool→Prop} {Z Z':Unit→Prop} (h:∀ b,K b→K' b) (hz:Z ()→Z' ()) (k:onGrd p K Z):onGrd p K' Z':=by
 unfold onGrd at k ⊢
 split at k
 ·exact h _ k
 ·exact hz k
 ·exact k.elim
theorem split2_mono {b:Bool} {X X' Y Y':Unit→Prop} (h1:X ()→X' ()) (h2:Y ()→Y' ()) (k:split2 b X Y):split2 b X' Y':=⟨fun h=>h1 (k.1 h),fun h=>h2 (k.2 h)⟩
theorem onFn_mono {p:PV} {K K':Nat→List PV→Prop} (h:∀ f c,K f c→K' f c) (k:onFn p K):onFn p K':=by
 unfold onFn at k ⊢
 split at k
 ·exact h _ _ k
 ·exact k.elim
theorem CallX_mono {f:Nat} {az:List PV} {H:Heap} {n:Nat} {K K':PV→Heap→List Nat→Prop} (h:∀ v u r,K v u r→K' v u r) (k:CallX P f az H n K):CallX P f az H n K':=by
 obtain ⟨L,F,Hs,r,u,h1,h2,h3,h4,h5⟩:=k
 exact ⟨L,F,Hs,r,u,h1,h2,h3,h4,h _ _ _ h5⟩
theorem CallOK_mono {f:Nat} {az:List PV} {H:Heap} {n:Nat} {K K':PV→Heap→Prop} (h:∀ v u,K v u→K' v u) (k:CallOK P f az H n K):CallOK P f az H n K':=by
 rcases k with ⟨G,k⟩ | ⟨ι,Post,r,u,Hs,h1,h2,h3⟩
 ·exact .inl ⟨G,CallX_mono (fun v u r hk nl=>h _ _ (hk nl)) k⟩
 ·exact .inr ⟨ι,Post,r,u,Hs,h1,h2,fun i hi=>h _ _ (h3 i hi)⟩
theorem runOp_mono {s:Slots} {H:Heap} {n:Nat} {K K':PV→Heap→Prop} (h:∀ v u,K v u→K' v u) (op:AOp) (k:runOp P s H n K op):runOp P s H n K' op:=by
 cases op <;> simp only [runOp] at k ⊢ <;> first
  | exact bindStep_mono h k
  | exact CallOK_mono h k
  | exact onFn_mono (fun f c hk=>CallOK_mono h hk) k
theorem runOps_mono:∀ (l:List AIn) (s:Slots) (H:Heap) (n:Nat) {K K':Slots→Heap→Nat→Prop},(∀ s H n,K s H n→K' s H n)→runOps P l s H n K→runOps P l s H n K'
 | [],s,H,n,K,K',h,k=>h _ _ _ k
 | ⟨d,none,op⟩::l,s,H,n,K,K',h,k=>by
  simp only [runOps] at k ⊢
  exact runOp_mono (fun v u hk=>runOps_mono l _ _ _ h hk) op k
 | ⟨d,some (j,true),op⟩::l,s,H,n,K,K',h,k=>by
  simp only [runOps] at k ⊢
  exact onGrd_mono (fun b hk=>split2_mono (fun hk=>runOp_mono (fun v u hk=>runOps_mono l _ _ _ h hk) op hk) (fun hk=>runOps_mono l _ _ _ h hk) hk) (fun hk=>runOps_mono l _ _ _ h hk) k
 | ⟨d,some (j,false),op⟩::l,s,H,n,K,K',h,k=>by
  simp only [runOps] at k ⊢
  exact onGrd_mono (fun b hk=>split2_mono (fun hk=>runOps_mono l _ _ _ h hk) (fun hk=>runOp_mono (fun v u hk=>runOps_mono l _ _ _ h hk) op hk) hk) (fun hk=>runOps_mono l _ _ _ h hk) k
theorem opX_mono {s:Slots} {H:Heap} {n:Nat} {K K':PV→Heap→List Nat→Prop} (h:∀ v u r,K v u r→K' v u r) (op:AOp) (k:opX P s H n K op):opX P s H n K' op:=by
 cases op with
 | call f args=>simp only [opX] at k ⊢; exact CallX_mono (fun v u r hk=>And.intro hk.1 (h _ _ _ hk.2)) k
 | callv x args=>simp only [opX] at k ⊢; exact onFn_mono (fun f c hk=>CallX_mono (fun v u r hk=>And.intro hk.1 (h _ _ _ hk.2)) hk) k
 | _=>simp only [opX] at k ⊢; exact bindStep_mono (fun v u hk=>h _ _ _ hk) k
theorem runAny_mono:∀ (l:List (AIn × List Nat)) (recs:List Rec1) (s:Slots) (H:Heap) (n:Nat) {K K':Slots→Heap→Nat→Prop},(∀ s H n,K s H n→K' s H n)→runAny P l recs s H n K→runAny P l recs s H n K'
 | [],recs,s,H,n,K,K',h,k=>h _ _ _ k
 | (⟨d,none,op⟩,fr)::l,recs,s,H,n,K,K',h,k=>by
  simp only [runAny] at k ⊢
  exact opX_mono (fun v u r hk=>⟨hk.1,runAny_mono l _ _ _ _ h hk.2⟩) op k
 | (⟨d,some (j,true),op⟩,fr)::l,recs,s,H,n,K,K',h,k=>by
  simp only [runAny] at k ⊢
  exact onGrd_mono (fun b hk=>split2_mono (fun hk=>opX_mono (fun v u r hk=>⟨hk.1,runAny_mono l _ _ _ _ h hk.2⟩) op hk) (fun hk=>⟨hk.1,runAny_mono l _ _ _ _ h hk.2⟩) hk) (fun hk=>⟨hk.1,runAny_mono l _ _ _ _ h hk.2⟩) k
 | (⟨d,some (j,false),op⟩,fr)::l,recs,s,H,n,K,K',h,k=>by
  simp only [runAny] at k ⊢
  exact onGrd_mono (fun b hk=>split2_mono (fun hk=>⟨hk.1,runAny_mono l _ _ _ _ h hk.2⟩) (fun hk=>opX_mono (fun v u r hk=>⟨hk.1,runAny_mono l _ _ _ _ h hk.2⟩) op hk) hk) (fun hk=>⟨hk.1,runAny_mono l _ _ _ _ h hk.2⟩) k
theorem run_mono:∀ (c:ACode) (st:ST) {Q Q':AEx→ST→Prop},(∀ e s,Q e s→Q' e s)→run P c st Q→run P c st Q'
 | .skip,st,Q,Q',h,k=>h _ _ k
 | .ops l,st,Q,Q',h,k=>runOps_mono l _ _ _ (fun s H n hk=>h _ _ hk) k
 | .any l,st,Q,Q',h,k=>runAny_mono l _ _ _ _ (fun s H n hk=>h _ _ hk) k
 | .seq a b,st,Q,Q',h,k=>run_mono a st (fun e s hk=>by
   cases e
   ·exact run_mono b s h hk
   ·exact h _ _ hk
   ·exact h _ _ hk) k
 | .cond x a b,st,Q,Q',h,k=>onBool_mono (fun c hk=>split2_mono (fun hk=>run_mono a st h hk) (fun hk=>run_mono b st h hk) hk) k
 | .block id c,st,Q,Q',h,k=>run_mono c st (fun e s hk=>by
   cases e with
   | normal=>exact h _ _ hk
   | ret=>exact h _ _ hk
   | exit i =>
    simp only [blockK] at hk ⊢
    cases hi:(i==id) <;> simp only [hi,cond_true,cond_false] at hk ⊢
    ·exact h _ _ hk
    ·exact h _ _ hk) k
 | .loop c,st,Q,Q',h,k=>by
  obtain ⟨ι,I,μ,x,h1,h2⟩:=k
  exact ⟨ι,I,μ,x,h1,fun y=>run_mono c _ (fun e s hk=>by
   cases e
   ·exact hk
   ·exact h _ _ hk
   ·exact h _ _ hk) (h2 y)⟩
 | .exit i,st,Q,Q',h,k=>h _ _ k
 | .ret,st,Q,Q',h,k=>h _ _ k
theorem LN_succ (c:ACode) (k:Nat) (st:ST) (Q:AEx→ST→Prop):LN P c (k+1) st Q=Run P c st (loopK (fun s=>LN P c k s Q) Q) .mk:=rfl
theorem LP.rounds (k:Nat) {c:ACode} {st:ST} {Q:AEx→ST→Prop} {t:Tag Q} (h:LN P c k st Q):LP P c st Q t :=
 LP.mk (ι:={x:Nat × ST // LN P c x.1 x.2 Q}) (fun x=>x.1.2) (fun x=>x.1.1) ⟨(k,st),h⟩ (Cov.refl st) (fun x=>by
  obtain ⟨⟨n,s⟩,hx⟩:=x
  cases n with
  | zero=>exact hx.elim
  | succ n =>
   have hx':Run P c s (loopK (fun s=>LN P c n s Q) Q) .mk:=hx
   rw [Run_eq] at hx' ⊢
   refine run_mono c s (fun e s' hk=>?_) hx'
   cases e
   ·exact ⟨⟨(n,s'),hk⟩,Nat.lt_succ_self _,Cov.refl _⟩
   ·exact hk
   ·exact hk)
open Go.RowKit
theorem Cov.trans {a b c:ST} (h1:Cov a b) (h2:Cov b c):Cov a c:=fun C nt Y m x w h=>by
 obtain ⟨Y1,m1,k⟩:=h1 C nt Y m x w h
 exact h2 C nt Y1 m1 x w k
mutual
def fitP (id q:Nat):PV→Prop
 | .sl i o l=>(i==id)=false∨o+l≤q
 | .arp i r _=>(i==id)=false∨r<q
 | .arv i=>(i==id)=false
 | .stp i=>(i==id)=false
 | .agg ps=>fitPs id q ps
 | .tup ps=>fitPs id q ps
 | .fn _ ps=>fitPs id q ps
 | _=>True
def fitPs (id q:Nat):List PV→Prop
 | []=>True
 | p::ps=>fitP id q p∧fitPs id q ps
end
def fitS (id q:Nat):Slots→Prop
 | []=>True
 | (_,p)::s=>fitP id q p∧fitS id q s
def fitH (id q:Nat):Heap→Prop
 | []=>True
 | (_,some (.box _ cs))::H=>fitPs id q cs∧fitH id q H
 | (_,some (.arr _ _ cols))::H=>noOs cols=true∧fitH id q H
 | (_,some (.mape _ _ _ _ sid))::H=>(sid==id)=false∧fitH id q H
 | _::H=>fitH id q H
theorem fitPs.get {id q:Nat}:∀ {ps:List PV} {i:Nat} {p:PV},fitPs id q ps→ps[i]?=some p→fitP id q p
 | p'::ps,0,p,h,hp=>by simp at hp; subst hp; exact h.1
 | p'::ps,i+1,p,h,hp=>by simp at hp; exact fitPs.get h.2 hp
theorem fitS.get {id q:Nat}:∀ {s:Slots} (i:Nat),fitS id q s→fitP id q (getS s i)
 | [],i,h=>trivial
 | (j,p)::s,i,h=>by
  simp only [getS]
  cases (j==i)
  ·exact fitS.get i h.2
  ·exact h.1
theorem fitH.get {id q:Nat}:∀ {H:Heap} {i T:Nat} {cs:List PV},fitH id q H→getH H i=some (.box T cs)→fitPs id q cs
 | (j,b)::H,i,T,cs,h,hg=>by
  simp only [getH] at hg
  cases hj:(j==i)
  ·rw [hj] at hg
   have:fitH id q H:=by
    unfold fitH at h
    split at h
    ·rename_i e; cases e
    ·rename_i e; cases e; exact h.2
    ·rename_i e; cases e; exact h.2
    ·rename_i e; cases e; exact h.2
    ·rename_i e; cases e; exact h
   exact fitH.get this hg
  ·rw [hj] at hg
   simp only [cond_true] at hg
   subst hg
   exact h.1
theorem fitH.noO {id q:Nat}:∀ {H:Heap} {i T n:Nat} {cols:List Col},fitH id q H→getH H i=some (.arr T n cols)→noOs cols=true
 | (j,b)::H,i,T,n,cols,h,hg=>by
  simp only [getH] at hg
  cases hj:(j==i)
  ·rw [hj] at hg
   have:fitH id q H:=by
    unfold fitH at h
    split at h
    ·rename_i e; cases e
    ·rename_i e; cases e; exact h.2
    ·rename_i e; cases e; exact h.2
    ·rename_i e; cases e; exact h.2
    ·rename_i e; cases e; exact h
   exact fitH.noO this hg
  ·rw [hj] at hg
   simp only [cond_true] at hg
   subst hg
   exact h.1
theorem fitH.noE {id q:Nat}:∀ {H:Heap} {i:Nat} {kk:KT} {dom:MK→Bool} {c:MCol} {k:MK} {sid:Nat},fitH id q H→getH H i=some (.mape kk dom c k sid)→(sid==id)=false
 | (j,b)::H,i,kk,dom,c,k,sid,h,hg=>by
  simp only [getH] at hg
  cases hj:(j==i)
  ·rw [hj] at hg
   have:fitH id q H:=by
    unfold fitH at h
    split at h
    ·rename_i e; cases e
    ·rename_i e; cases e; exact h.2
    ·rename_i e; cases e; exact h.2
    ·rename_i e; cases e; exact h.2
    ·rename_i e; cases e; exact h
   exact fitH.noE this hg
  ·rw [hj] at hg
   simp only [cond_true] at hg
   subst hg
   exact h.1
theorem noOs_ev {Y:Nat→Prop} {m m':Names} {w:World} {cols:List Col} (ho:noOs cols=true) {j i:Nat} {c:Col} {v:Value} (hc:cols[j]?=some c) (h:ACR Y m w c i v):ACR Y m' w c i v:=(ACR.col h (noOs_get ho hc)).acr
def setN (m:Names) (id:Nat) (pl:Pl):Names:=fun i=>if i=id then some pl else m i
section
variable {Y:Nat→Prop} {m:Names} {w:World} {id q cap:Nat} {pl:Pl} {A:Option Addr}
mutual
theorem fitP.rep (hm:m id=some pl) (hA:pl.hdr=.slice A pl.n cap) (hq:q≤pl.n):∀ (p:PV) (v:Value),fitP id q p→Rep Y m w p v→Rep Y (setN m id ⟨pl.blk,.slice A q cap,q,pl.sz,pl.o⟩) w p v
 | .int _ _,v,_,h=>by cases h; exact .int
 | .bool _,v,_,h=>by cases h; exact .bool
 | .str _,v,_,h=>by cases h; exact .str
 | .lit _ _ _,v,_,h=>by cases h with | lit h=>exact .lit h
 | .ptr i _,v,_,h=>by
  obtain ⟨pl2,h1,rfl⟩:=h.ptr_inv
  by_cases e:i=id
  ·subst e
   rw [hm] at h1; injection h1 with h1; subst h1
   exact .ptr (pl:=⟨pl.blk,.slice A q cap,q,pl.sz,pl.o⟩) (by simp [setN])
  ·exact .ptr (by simp [setN,e,h1])
 | .nilp,v,_,h=>by cases h; exact .nilp
 | .nili,v,_,h=>by cases h; exact .nili
 | .elp _ _,v,_,h=>by
  obtain ⟨b,oo,u,rfl,h1,h2⟩:=h.elp_inv
  exact .elp h1 u h2
 | .arp i r j,v,hf,h=>by
  obtain ⟨pl2,h1,h2,rfl⟩:=h.arp_inv
  by_cases e:i=id
  ·subst e
   rw [hm] at h1; injection h1 with h1; subst h1
   simp [fitP] at hf
   exact .arp (pl:=⟨pl.blk,.slice A q cap,q,pl.sz,pl.o⟩) (by simp [setN]) hf
  ·exact .arp (by simp [setN,e,h1]) h2
 | .arv i,v,hf,h=>by
  obtain ⟨pl2,h1,h2,h3,rfl⟩:=h.arv_inv
  have e:¬ i=id:=by simpa [fitP] using hf
  exact .arv (by simp [setN,e,h1]) h2 h3
 | .sl i o l,v,hf,h=>by
  obtain ⟨pl2,A2,B,c,cap2,h1,rfl,h3,h4,h5,h6,h7,h8,h9⟩:=h.sl_inv
  by_cases e:i=id
  ·subst e
   rw [hm] at h1; injection h1 with h1; subst h1
   simp [fitP] at hf
   rw [hA] at h3; injection h3 with h3 _ h3'; subst h3; subst h3'
   exact .sl (pl:=⟨pl.blk,.slice A q cap,q,pl.sz,pl.o⟩) (by simp [setN]) rfl hf h5 h6 h7 h8 h9
  ·exact .sl (by simp [setN,e,h1]) h3 h4 h5 h6 h7 h8 h9
 | .agg ps,v,hf,h=>by
  obtain ⟨vs,rfl,h1,h2,h3⟩:=h.agg_inv
  exact .agg h1 (fitPs.rep hm hA hq ps vs hf h2) h3
 | .tup ps,v,hf,h=>by
  obtain ⟨vs,rfl,h1,h2⟩:=h.tup_inv
  exact .tup h1 (fitPs.rep hm hA hq ps vs hf h2)
 | .fn _ ps,v,hf,h=>by
  obtain ⟨vs,rfl,h1,h2⟩:=h.fn_inv
  exact .fn h1 (fitPs.rep hm hA hq ps vs hf h2)
 | .mp i,v,_,h=>by
  obtain ⟨pl2,h1,rfl⟩:=h.mp_inv
  by_cases e:i=id
  ·subst e
   rw [hm] at h1; injection h1 with h1; subst h1
   exact .mp (pl:=⟨pl.blk,.slice A q cap,q,pl.sz,pl.o⟩) (by simp [setN])
  ·exact .mp (by simp [setN,e,h1])
 | .stp i,v,hf,h=>by
  obtain ⟨pl2,h1,rfl⟩:=h.stp_inv
  have e:¬ i=id:=fun e=>by rw [e] at hf; simp [fitP] at hf
  exact .stp (by simp [setN,e,h1])
 | .any,v,_,h=>.any
theorem fitPs.rep (hm:m id=some pl) (hA:pl.hdr=.slice A pl.n cap) (hq:q≤pl.n):∀ (ps:List PV) (vs:List Value),fitPs id q ps→(∀ (i:Nat) p v,ps[i]?=some p→vs[i]?=some v→Rep Y m w p v) →
  ∀ (i:Nat) p v,ps[i]?=some p→vs[i]?=some v→Rep Y (setN m id ⟨pl.blk,.slice A q cap,q,pl.sz,pl.o⟩) w p v
 | [],vs,_,_=>fun i p v hp=>by simp at hp
 | p::ps,[],_,_=>fun i p v _ hv=>by simp at hv
 | p::ps,x::vs,hf,h=>fun i p' v hp hv=>by
  cases i with
  | zero=>simp at hp hv; subst hp; subst hv; exact fitP.rep hm hA hq p x hf.1 (h 0 p x rfl rfl)
  | succ i=>simp at hp hv; exact fitPs.rep hm hA hq ps vs hf.2 (fun j p v hp hv=>h (j+1) p v (by simpa using hp) (by simpa using hv)) i p' v hp hv
end
end
theorem Cov.shrink {s:Slots} {H:Heap} {n b id T k q:Nat} {cols:List Col} (hb:getH H id=some (.arr T k cols)) (hq:q≤k) (hid:b≤id) (hs:fitS id q s) (hh:fitH id q H) :
  Cov ⟨s,H,n,b⟩ ⟨s,(id,some (.arr T q cols))::H,n,b⟩:=by
 intro C nt Y m a w hS
 have hH:HS C Y m w H n:=hS.heap
 obtain ⟨pl,hm,hbs,hlies⟩:=hH.blk id _ hb
 obtain ⟨xs,cap,s1,s2,s3,s4,s5,⟨A,hA⟩,s7⟩:=hbs
 have hA':pl.hdr=.slice A pl.n cap:=by rw [s1]; exact hA
 have hqn:q≤pl.n:=by omega
 have hbase:C.base=b:=hS.base
 obtain ⟨pl',hpl⟩:∃ pl':Pl,pl'=⟨pl.blk,.slice A q cap,q,pl.sz,pl.o⟩:=⟨_,rfl⟩
 have hm':setN m id pl' id=some pl':=by simp [setN]
 have hno:∀ i,i≠id→setN m id pl' i=m i:=fun i hi=>by simp [setN,hi]
 have hlie:∀ (c:ABlk),(∃ T k cols,c=.arr T k cols)→c.lies pl'=c.lies pl:=by
  rintro c ⟨T,k,cols,rfl⟩
  show pl'.hdr.ownBlock=pl.hdr.ownBlock
  rw [hpl,hA',ownBlock_ablk,ownBlock_ablk]
 have hgb:∀ i c,getH ((id,some (.arr T q cols))::H) i=some c→(i=id∧c=.arr T q cols)∨(i≠id∧getH H i=some c):=fun i c hc=>getH_set hc
 have hblk2:∀ i c,i≠id→getH H i=some c→∃ p2,m i=some p2∧BlkSat Y (setN m id pl') w p2 c:=by
  intro i c hi hc
  obtain ⟨p2,h1,h2,_⟩:=hH.blk i c hc
  refine ⟨p2,h1,?_⟩
  cases c with
  | box T2 cs =>
   obtain ⟨vs,g1,g2,g3,g4⟩:=h2
   exact ⟨vs,g1,g2,g3,by rw [hpl]; exact fitPs.rep hm hA' hqn cs vs (fitH.get hh hc) g4⟩
  | arr T2 n2 c2 =>
   obtain ⟨xs,cap,k1,k2,k3,k4,k5,k6,k7⟩:=h2
   refine ⟨xs,cap,k1,k2,k3,k4,k5,k6,fun i j c hi hj=>?_⟩
   obtain ⟨v,g1,g2⟩:=k7 i j c hi hj
   exact ⟨v,g1,noOs_ev (hh.noO hc) hj g2⟩
  | map kk dom c2=>exact h2
  | mape kk dom c2 qq sid =>
   obtain ⟨hn,hk0,es,clk,e1,e2,e3,pls,e4,e5⟩:=h2
   have hne:¬ sid=id:=fun e=>by have:=fitH.noE hh hc; rw [e] at this; simp at this
   exact ⟨hn,hk0,es,clk,e1,e2,e3,pls,by unfold setN; rw [if_neg hne]; exact e4,e5⟩
  | sit s p=>exact h2
 refine ⟨Y,setN m id pl',hS.size,hS.defers,?_,?_,hS.base⟩
 ·intro i p hp hne
  obtain ⟨v,e1,e2⟩:=hS.slots i p hp hne
  refine ⟨v,e1,?_⟩
  rw [hpl]
  exact fitP.rep hm hA' hqn p v (by rw [← hp]; exact fitS.get i hs) e2
 ·refine ⟨?_,?_,hH.ylt,hH.keep,hH.size,hH.frame,hH.os,hH.tape,hH.output,hH.y0lt,hH.x0,hH.yless,hH.own,hH.low,?_,?_,?_,hH.gl⟩
  ·intro i c hc
   rcases hgb i c hc with ⟨rfl,rfl⟩ | ⟨hi,hc⟩
   ·refine ⟨pl',hm',?_,fun g hg=>hlies g (by rw [hlie _ ⟨_,_,_,rfl⟩] at hg; exact hg)⟩
    rw [hpl]
    rw [hA] at s3
    refine ⟨xs.take (q * cols.length),cap,rfl,s2,s3.less hq,fun h=>?_,fun v hv=>s5 v (List.mem_of_mem_take hv),⟨A,rfl⟩,fun i j c0 hi hc=>?_⟩
    ·have:=s4 (by omega)
     rw [hA,ownBlock_ablk] at this
     rw [ownBlock_ablk]
     exact this
    ·obtain ⟨v,g1,g2⟩:=s7 i j c0 (by omega) hc
     have hj:j<cols.length:=(List.getElem?_eq_some_iff.1 hc).1
     have hlt:i * cols.length+j<q * cols.length:=by
      have:i * cols.length+cols.length≤q * cols.length:=by rw [← Nat.succ_mul]; exact Nat.mul_le_mul_right _ hi
      omega
     exact ⟨v,by rw [List.getElem?_take,if_pos hlt]; exact g1,noOs_ev (hh.noO hb) hc g2⟩
   ·obtain ⟨p2,h1,h2⟩:=hblk2 i c hi hc
    obtain ⟨p3,k1,_,k3⟩:=hH.blk i c hc
    rw [h1] at k1; injection k1 with k1; subst k1
    exact ⟨p2,by rw [hno i hi]; exact h1,h2,k3⟩
  ·intro i j c d p1 p2 g hij hc hd h1 h2 hl
   rcases hgb i c hc with ⟨ei,ec⟩ | ⟨hi,hc'⟩ <;> rcases hgb j d hd with ⟨ej,ed⟩ | ⟨hj,hd'⟩
   ·exact absurd (ei.trans ej.symm) hij
   ·subst ei; subst ec
    rw [hm'] at h1; injection h1 with h1; subst h1
    rw [hno j hj] at h2
    rw [hlie _ ⟨_,_,_,rfl⟩] at hl
    exact hH.inj i j (.arr T k cols) d pl p2 g hij hb hd' hm h2 hl
   ·subst ej; subst ed
    rw [hm'] at h2; injection h2 with h2; subst h2
    rw [hno i hi] at h1
    rw [hlie _ ⟨_,_,_,rfl⟩]
    exact hH.inj i j c (.arr T k cols) p1 pl g hij hc' hb h1 hm hl
   ·rw [hno i hi] at h1
    rw [hno j hj] at h2
    exact hH.inj i j c d p1 p2 g hij hc' hd' h1 h2 hl
  ·intro i p hp
   have hi:i≠id:=by rintro rfl; rw [hH.own i (by omega)] at hp; cases hp
   rw [hno i hi]
   exact hH.names i p hp
  ·intro i hi
   have hne:i≠id:=by rintro rfl; rw [hH.fresh i hi] at hm; cases hm
   rw [hno i hne]
   exact hH.fresh i hi
  ·intro i p hp
   by_cases e:i=id
   ·subst e; exact .inr (by omega)
   ·rw [hno i e] at hp; exact hH.known i p hp
def below (x n:Int):Int:=if n<1 then 0 else x % n
def nextV (L:List Int) (p:Nat) (n:Int):Int :=
 if L.length=0 then below (((p:Int)+1) * 7919) n
 else below (below (L.getD (p % L.length) 0) 1073741824+(p:Int) / (L.length:Int) * (7919+(p:Int) % (L.length:Int))) n
theorem below_bd (x:Int) {n:Int} (h:1≤n):0≤below x n∧below x n<n:=by
 unfold below
 rw [if_neg (by omega)]
 exact ⟨Int.emod_nonneg _ (by omega),Int.emod_lt_of_pos _ (by omega)⟩
theorem nextV_bd (L:List Int) (p:Nat) {n:Int} (h:1≤n):0≤nextV L p n∧nextV L p n<n:=by
 unfold nextV
 split <;> exact below_bd _ h
def flipV (L:List Int) (p:Nat) (n:Int):Bool:=nextV L p n==0
def rangeV (L:List Int) (p:Nat) (lo hi:Int):Int:=lo+nextV L p (hi - lo+1)
theorem rangeV_bd (L:List Int) (p:Nat) {lo hi:Int} (h:lo≤hi):lo≤rangeV L p lo hi∧rangeV L p lo hi≤hi:=by
 have:=nextV_bd L p (n:=hi - lo+1) (by omega)
 unfold rangeV
 omega
def pickI (L:List Int) (p:Nat) (n:Nat):Nat:=(nextV L p n).toNat
theorem pickI_lt (L:List Int) (p:Nat) {n:Nat} (h:0<n):pickI L p n<n:=by
 have:=nextV_bd L p (n:=(n:Int)) (by omega)
 unfold pickI
 omega
def pickV (L:List Int) (p:Nat) (l:List Int):Int:=l.getD (pickI L p l.length) 0
theorem pickV_mem (L:List Int) (p:Nat) {l:List Int} (h:0<l.length):pickV L p l∈l:=by
 have:=pickI_lt L p h
 unfold pickV
 rw [List.getD_eq_getElem?_getD,List.getElem?_eq_getElem this]
 exact List.getElem_mem _
theorem pickV_bd (L:List Int) (p:Nat) {l:List Int} {lo hi:Int} (h:0<l.length) (hb:∀ x∈l,lo≤x∧x≤hi):lo≤pickV L p l∧pickV L p l≤hi:=hb _ (pickV_mem L p h)
theorem round_bd (p n:Nat) (hn:0<n) (hp:p≤1099511627776):0≤(p:Int) / (n:Int) * (7919+(p:Int) % (n:Int))∧(p:Int) / (n:Int) * (7919+(p:Int) % (n:Int))≤8708132091985920:=by
 have h:((p:Int) / (n:Int) * (7919+(p:Int) % (n:Int)))=((p / n * (7919+p % n):Nat):Int):=by
  rw [Int.natCast_mul,Int.natCast_add,Int.natCast_ediv,Int.natCast_emod]; rfl
 rw [h]
 have h1:p / n * (p % n)≤p:=Nat.le_trans (Nat.mul_le_mul_left _ (Nat.le_of_lt (Nat.mod_lt _ hn))) (Nat.div_mul_le_self p n)
 have h2:p / n≤p:=Nat.div_le_self _ _
 have h3:p / n * (7919+p % n)=7919 * (p / n)+p / n * (p % n):=by rw [Nat.mul_add,Nat.mul_comm (p / n) 7919]
 omega
abbrev Pt:=Int × Int
def p0:Pt:=(0,0)
def apartI (a b:Pt):Int:=max (max (max (a.1 - b.1) (b.1 - a.1)) (a.2 - b.2)) (b.2 - a.2)
abbrev Best:=Option (List Int × Int)
def cutB (b:Best) (sum:Int):Bool:=match b with
 | some (_,s)=>decide (s≤sum)
 | none=>false
def lastP (P:List Pt) (now:List Int):Pt:=P.getD (now.getD (now.length - 1) 0).toNat p0
def rtGo (P:List Pt):Nat→List Int→Int→Best→Best
 | 0,_,_,b=>b
 | f+1,now,sum,b=>if cutB b sum=true then b else if now.length=P.length then some (now,sum) else
  (List.range P.length).foldl (fun b i=>if now.contains ((i:Nat):Int)=true then b else rtGo P f (now++[((i:Nat):Int)]) (sum+apartI (lastP P now) (P.getD i p0)) b) b
def rtTo (P:List Pt) (f:Nat) (now:List Int) (sum:Int) (b:Best) (k:Nat):Best :=
 (List.range k).foldl (fun b i=>if now.contains ((i:Nat):Int)=true then b else rtGo P f (now++[((i:Nat):Int)]) (sum+apartI (lastP P now) (P.getD i p0)) b) b
theorem rtTo_succ (P:List Pt) (f:Nat) (now:List Int) (sum:Int) (b:Best) (k:Nat):rtTo P f now sum b (k+1) =
  if now.contains (k:Int)=true then rtTo P f now sum b k else rtGo P f (now++[(k:Int)]) (sum+apartI (lastP P now) (P.getD k p0)) (rtTo P f now sum b k):=by
 simp [rtTo,List.range_succ]
theorem rtGo_cut {P:List Pt} {f:Nat} {now:List Int} {sum:Int} {b:Best} (h:cutB b sum=true):rtGo P f now sum b=b:=by
 cases f with
 | zero=>rfl
 | succ f=>unfold rtGo; rw [if_pos h]
theorem rtGo_full {P:List Pt} {f:Nat} {now:List Int} {sum:Int} {b:Best} (h:cutB b sum=false) (hn:now.length=P.length):rtGo P (f+1) now sum b=some (now,sum):=by
 unfold rtGo; rw [if_neg (by simp [h]),if_pos hn]
theorem rtGo_more {P:List Pt} {f:Nat} {now:List Int} {sum:Int} {b:Best} (h:cutB b sum=false) (hn:now.length≠P.length):rtGo P (f+1) now sum b=rtTo P f now sum b P.length:=by
 unfold rtGo; rw [if_neg (by simp [h]),if_neg hn]; rfl
structure PtsOk (P:List Pt):Prop where
 len:P.length≤9
 near:∀ x∈P,(-1000≤x.1∧x.1≤1000) ∧ -1000≤x.2∧x.2≤1000
theorem PtsOk.get {P:List Pt} (h:PtsOk P) (i:Nat):(-1000≤(P.getD i p0).1∧(P.getD i p0).1≤1000) ∧ -1000≤(P.getD i p0).2∧(P.getD i p0).2≤1000:=by
 rw [List.getD_eq_getElem?_getD]
 cases hg:P[i]? with
 | none=>simp [p0]
 | some x=>exact h.near x (List.mem_of_getElem? hg)
theorem apartI_bd {a b:Pt} (ha:(-1000≤a.1∧a.1≤1000) ∧ -1000≤a.2∧a.2≤1000) (hb:(-1000≤b.1∧b.1≤1000) ∧ -1000≤b.2∧b.2≤1000):0≤apartI a b∧apartI a b≤2000:=by
 unfold apartI
 omega
def BestOk (P:List Pt) (b:Best):Prop:=∀ l s,b=some (l,s)→l.length=P.length∧0≤s∧s≤20000
theorem rtGo_ok {P:List Pt} (hP:PtsOk P):∀ (f:Nat) (now:List Int) (sum:Int) (b:Best),0≤sum→sum+2000 * ((f:Int) - 1)≤20000→BestOk P b→BestOk P (rtGo P f now sum b)
 | 0,_,_,_,_,_,hb=>hb
 | f+1,now,sum,b,h0,h1,hb=>by
  have hsum:sum≤20000:=by omega
  by_cases hc:cutB b sum=true
  ·rw [rtGo_cut hc]; exact hb
  ·simp only [Bool.not_eq_true] at hc
   by_cases hn:now.length=P.length
   ·rw [rtGo_full hc hn]
    intro l s e
    injection e with e
    injection e with e1 e2
    subst e1; subst e2
    exact ⟨hn,h0,hsum⟩
   ·rw [rtGo_more hc hn]
    have:∀ k,BestOk P (rtTo P f now sum b k):=by
     intro k
     induction k with
     | zero=>exact hb
     | succ k ih =>
      rw [rtTo_succ]
      split
      ·exact ih
      ·cases f with
       | zero=>exact ih
       | succ f =>
        have:=apartI_bd (hP.get (now.getD (now.length - 1) 0).toNat) (hP.get k)
        have e:apartI (lastP P now) (P.getD k p0)=apartI (P.getD (now.getD (now.length - 1) 0).toNat p0) (P.getD k p0):=rfl
        exact rtGo_ok hP (f+1) _ _ _ (by omega) (by push_cast at h1 ⊢; omega) ih
    exact this _
theorem rtTo_ok {P:List Pt} (hP:PtsOk P) {f:Nat} {now:List Int} {sum:Int} {b:Best} (h0:0≤sum) (h1:sum+2000 * (f:Int)≤20000) (hb:BestOk P b) (k:Nat):BestOk P (rtTo P f now sum b k):=by
 induction k with
 | zero=>exact hb
 | succ k ih =>
  rw [rtTo_succ]
  split
  ·exact ih
  ·have:=apartI_bd (hP.get (now.getD (now.length - 1) 0).toNat) (hP.get k)
   have e:apartI (lastP P now) (P.getD k p0)=apartI (P.getD (now.getD (now.length - 1) 0).toNat p0) (P.getD k p0):=rfl
   exact rtGo_ok hP f _ _ _ (by omega) (by omega) ih
theorem rtGo_keep {P:List Pt}:∀ (f:Nat) (now:List Int) (sum:Int) (b:Best),b≠none→rtGo P f now sum b≠none
 | 0,_,_,_,h=>h
 | f+1,now,sum,b,h=>by
  by_cases hc:cutB b sum=true
  ·rw [rtGo_cut hc]; exact h
  ·simp only [Bool.not_eq_true] at hc
   by_cases hn:now.length=P.length
   ·rw [rtGo_full hc hn]; simp
   ·rw [rtGo_more hc hn]
    have:∀ k,rtTo P f now sum b k≠none:=by
     intro k
     induction k with
     | zero=>exact h
     | succ k ih =>
      rw [rtTo_succ]
      split
      ·exact ih
      ·exact rtGo_keep f _ _ _ ih
    exact this _
theorem rtTo_keep {P:List Pt} {f:Nat} {now:List Int} {sum:Int} {b:Best} {j:Nat} (h:rtTo P f now sum b j≠none):∀ k,j≤k→rtTo P f now sum b k≠none
 | 0,hk=>by
  have:j=0:=by omega
  subst this; exact h
 | k+1,hk=>by
  by_cases e:j=k+1
  ·subst e; exact h
  ·rw [rtTo_succ]
   have ih:=rtTo_keep h k (by omega)
   split
   ·exact ih
   ·exact rtGo_keep f _ _ _ ih
def iota (m:Nat):List Int:=(List.range m).map fun (i:Nat)=>(i:Int)
theorem iota_succ (m:Nat):iota (m+1)=iota m++[(m:Int)]:=by simp [iota,List.range_succ]
theorem iota_len (m:Nat):(iota m).length=m:=by simp [iota]
theorem iota_has (m k:Nat):(iota m).contains (k:Int)=decide (k<m):=by
 rw [Bool.eq_iff_iff]
 simp only [iota,List.contains_iff_mem,List.mem_map,List.mem_range,decide_eq_true_eq]
 constructor
 ·rintro ⟨i,hi,h⟩; omega
 ·intro h; exact ⟨k,h,rfl⟩
theorem rtGo_some {P:List Pt}:∀ (f m:Nat) (sum:Int),m+f=P.length+1→0<f→rtGo P f (iota m) sum none≠none
 | 0,m,sum,h,h0=>absurd h0 (by omega)
 | f+1,m,sum,h,_=>by
  have hc:cutB none sum=false:=rfl
  by_cases hn:(iota m).length=P.length
  ·rw [rtGo_full hc hn]; simp
  ·rw [rtGo_more hc hn]
   rw [iota_len] at hn
   have hm:∀ k,k≤m→rtTo P f (iota m) sum none k=none:=by
    intro k
    induction k with
    | zero=>intro _; rfl
    | succ k ih=>intro hk; rw [rtTo_succ,iota_has,if_pos (by simp; omega)]; exact ih (by omega)
   refine rtTo_keep (j:=m+1) ?_ _ (by omega)
   rw [rtTo_succ,iota_has,if_neg (by simp),← iota_succ,hm m (Nat.le_refl _)]
   exact rtGo_some f (m+1) _ (by omega) (by omega)
def routeV (P:List Pt):Best:=rtGo P P.length [0] 0 none
theorem routeV_some {P:List Pt} (h:P≠[]):∃ l s,routeV P=some (l,s):=by
 have hl:0<P.length:=List.length_pos_iff.2 h
 have:=rtGo_some (P:=P) P.length 1 0 (by omega) hl
 have e:iota 1=[0]:=rfl
 rw [e] at this
 unfold routeV
 cases hr:rtGo P P.length [0] 0 none with
 | none=>exact absurd hr this
 | some x=>exact ⟨x.1,x.2,rfl⟩
def ptBad (x:Pt):Int:=if (outB x.1 (-1000) 1000 || outB x.2 (-1000) 1000)=true then 1 else 0
def routeFault (P:List Pt):Int:=if P.length=0 then 8 else if 9<P.length then 2 else firstBad ptBad P
theorem routeFault_ok {P:List Pt} (h:routeFault P=0):P≠[]∧PtsOk P:=by
 unfold routeFault at h
 split at h
 ·contradiction
 ·split at h
  ·contradiction
  ·rename_i h1 h2
   refine ⟨fun e=>h1 (by rw [e]; rfl),by omega,fun x hx=>?_⟩
   have:=firstBad_all h x hx
   unfold ptBad outB at this
   simp only [Bool.or_eq_true,decide_eq_true_eq] at this
   split at this
   ·contradiction
   ·omega
def ptAt (A:List Int) (q:Nat):Pt:=(rangeV A q (-3) 9,pickV A (q+1) [0,0,1,5,-7])
def ptsN (A:List Int) (p:Nat):Nat:=(pickV A p [1,2,3,4,5,6]).toNat
def pts0 (A:List Int) (p m:Nat):List Pt:=(List.range m).map fun i=>ptAt A (p+2 * i)
def pts1 (A:List Int) (p m:Nat) (l:List Pt):List Pt × Nat :=
 if flipV A p 15=true then (l.set (nextV A (p+1) (m:Int)).toNat (pickV A (p+2) [-1001,1001,1000],(l.getD (nextV A (p+1) (m:Int)).toNat p0).2),p+3) else (l,p+1)
def pointListV (A:List Int) (p:Nat):List Pt × Nat :=
 if flipV A (pts1 A (p+1+2 * ptsN A p) (ptsN A p) (pts0 A (p+1) (ptsN A p))).2 40=true then ([],(pts1 A (p+1+2 * ptsN A p) (ptsN A p) (pts0 A (p+1) (ptsN A p))).2+1)
 else ((pts1 A (p+1+2 * ptsN A p) (ptsN A p) (pts0 A (p+1) (ptsN A p))).1,(pts1 A (p+1+2 * ptsN A p) (ptsN A p) (pts0 A (p+1) (ptsN A p))).2+1)
theorem ptsN_bd (A:List Int) (p:Nat):1≤ptsN A p∧ptsN A p≤6∧pickV A p [1,2,3,4,5,6]=(ptsN A p:Int):=by
 have:=pickV_bd A p (l:=[1,2,3,4,5,6]) (lo:=1) (hi:=6) (by simp) (by intro x hx; simp at hx; omega)
 unfold ptsN
 omega
theorem pts0_len (A:List Int) (p m:Nat):(pts0 A p m).length=m:=by simp [pts0]
theorem pts0_succ (A:List Int) (p m:Nat):pts0 A p (m+1)=pts0 A p m++[ptAt A (p+2 * m)]:=by simp [pts0,List.range_succ]
theorem pts1_len (A:List Int) (p m:Nat) (l:List Pt):(pts1 A p m l).1.length=l.length∧(pts1 A p m l).2≤p+3:=by
 unfold pts1
 split <;> simp
theorem pointListV_bd (A:List Int) (p:Nat):(pointListV A p).1.length≤6∧(pointListV A p).2≤p+20:=by
 have h1:=ptsN_bd A p
 have h2:=pts1_len A (p+1+2 * ptsN A p) (ptsN A p) (pts0 A (p+1) (ptsN A p))
 rw [pts0_len] at h2
 unfold pointListV
 split <;> simp <;> omega
open Go.RowKit
section
variable (P:Program)
def run0Op (s:Slots) (H:Heap) (n:Nat) (K:PV→Heap→Prop):AOp→Prop
 | .call f args=>CallX P f (args.map (AX.val s)) H n (fun v u _=>K v u)
 | .callv x args=>onFn (x.val s) fun f cap=>CallX P f (args.map (AX.val s)++cap) H n (fun v u _=>K v u)
 | op=>bindStep (step (AX.val s) H n op) K
def run0Ops:List AIn→Slots→Heap→Nat→(Slots→Heap→Nat→Prop)→Prop
 | [],s,H,n,K=>K s H n
 | ⟨d,none,op⟩::l,s,H,n,K=>run0Op P s H n (fun v u=>run0Ops l (putS s d v) (u++H) (n+4) K) op
 | ⟨d,some (j,true),op⟩::l,s,H,n,K=>onGrd (getS s j) (fun b=>split2 b
   (fun _=>run0Op P ((j,.bool true)::s) H n (fun v u=>run0Ops l (putS ((j,.bool true)::s) d v) (u++H) (n+4) K) op)
   (fun _=>run0Ops l (putS ((j,.bool false)::s) d (.tup [])) H (n+4) K)) (fun _=>run0Ops l (putS s d (.tup [])) H (n+4) K)
 | ⟨d,some (j,false),op⟩::l,s,H,n,K=>onGrd (getS s j) (fun b=>split2 b
   (fun _=>run0Ops l (putS ((j,.bool true)::s) d (.tup [])) H (n+4) K)
   (fun _=>run0Op P ((j,.bool false)::s) H n (fun v u=>run0Ops l (putS ((j,.bool false)::s) d v) (u++H) (n+4) K) op)) (fun _=>run0Ops l (putS s d (.tup [])) H (n+4) K)
def run0:ACode→ST→(AEx→ST→Prop)→Prop
 | .skip,st,Q=>Q .normal st
 | .ops l,st,Q=>run0Ops P l st.slots st.heap st.next (fun s H n=>Q .normal ⟨s,H,n,st.base⟩)
 | .any l,st,Q=>runAny P l [] st.slots st.heap st.next (fun s H n=>Q .normal ⟨s,H,n,st.base⟩)
 | .seq a b,st,Q=>run0 a st (seqK (fun s=>run0 b s Q) Q)
 | .cond x a b,st,Q=>onBool (x.val st.slots) fun c=>split2 c (fun _=>run0 a st Q) (fun _=>run0 b st Q)
 | .block id c,st,Q=>run0 c st (blockK id Q)
 | .loop c,st,Q=>LoopOK (run0 c) st Q
 | .exit i,st,Q=>Q (.exit i) st
 | .ret,st,Q=>Q .ret st
variable {P} {ι:Type}
theorem bindStep_ex {s:Step} {K:PV→Heap→Prop} {K':ι→PV→Heap→Prop} (h:∀ v u,K v u→∃ i,K' i v u) (k:bindStep s K):∃ i,bindStep s (K' i):=by
 unfold bindStep at k
 split at k
 ·obtain ⟨i,hi⟩:=h _ _ k.2
  exact ⟨i,k.1,hi⟩
 ·exact k.elim
theorem CallX_ex {f:Nat} {az:List PV} {H:Heap} {n:Nat} {K:PV→Heap→List Nat→Prop} {K':ι→PV→Heap→List Nat→Prop} (h:∀ v u r,K v u r→∃ i,K' i v u r) (k:CallX P f az H n K):∃ i,CallX P f az H n (K' i):=by
 obtain ⟨L,F,Hs,r,u,h1,h2,h3,h4,h5⟩:=k
 obtain ⟨i,hi⟩:=h _ _ _ h5
 exact ⟨i,L,F,Hs,r,u,h1,h2,h3,h4,hi⟩
theorem onFn_ex {p:PV} {K:Nat→List PV→Prop} {K':ι→Nat→List PV→Prop} (h:∀ f c,K f c→∃ i,K' i f c) (k:onFn p K):∃ i,onFn p (K' i):=by
 unfold onFn at k
 split at k
 ·exact h _ _ k
 ·exact k.elim
theorem onGrd_ex {p:PV} {X Y:Unit→Prop} {X' Y':ι→Unit→Prop} {Z:Unit→Prop} {Z':ι→Unit→Prop} (hx:X ()→∃ i,X' i ()) (hy:Y ()→∃ i,Y' i ()) (hz:Z ()→∃ i,Z' i ()) (k:onGrd p (fun b=>split2 b X Y) Z):∃ i,onGrd p (fun b=>split2 b (X' i) (Y' i)) (Z' i):=by
 unfold onGrd at k
 split at k
 ·rename_i b
  cases b with
  | true=>obtain ⟨i,hi⟩:=hx (k.1 rfl); exact ⟨i,⟨fun _=>hi,fun h=>(by cases h)⟩⟩
  | false=>obtain ⟨i,hi⟩:=hy (k.2 rfl); exact ⟨i,⟨fun h=>(by cases h),fun _=>hi⟩⟩
 ·obtain ⟨i,hi⟩:=hz k; exact ⟨i,hi⟩
 ·exact k.elim
theorem onBool_ex {p:PV} {X Y:Unit→Prop} {X' Y':ι→Unit→Prop} (hx:X ()→∃ i,X' i ()) (hy:Y ()→∃ i,Y' i ()) (k:onBool p (fun b=>split2 b X Y)):∃ i,onBool p (fun b=>split2 b (X' i) (Y' i)):=by
 unfold onBool at k
 split at k
 ·rename_i b
  cases b with
  | true=>obtain ⟨i,hi⟩:=hx (k.1 rfl); exact ⟨i,⟨fun _=>hi,fun h=>(by cases h)⟩⟩
  | false=>obtain ⟨i,hi⟩:=hy (k.2 rfl); exact ⟨i,⟨fun h=>(by cases h),fun _=>hi⟩⟩
 ·exact k.elim
theorem runOp_ex {s:Slots} {H:Heap} {n:Nat} {K:PV→Heap→Prop} {K':ι→PV→Heap→Prop} (h:∀ v u,K v u→∃ i,K' i v u) (op:AOp) (k:run0Op P s H n K op):∃ i,runOp P s H n (K' i) op:=by
 cases op with
 | call f args =>
  simp only [run0Op] at k
  obtain ⟨i,hi⟩:=CallX_ex (K':=fun i v u _=>K' i v u) (fun v u _ hk=>h v u hk) k
  exact ⟨i,CallO.x hi⟩
 | callv x args =>
  simp only [run0Op] at k
  obtain ⟨i,hi⟩:=onFn_ex (K':=fun i f cap=>CallX P f (args.map (AX.val s)++cap) H n (fun v u _=>K' i v u)) (fun f c hk=>CallX_ex (K':=fun i v u _=>K' i v u) (fun v u _ hk=>h v u hk) hk) k
  exact ⟨i,by simp only [runOp]; exact onFn_mono (fun f c hk=>CallO.x hk) hi⟩
 | _ =>
  simp only [run0Op] at k
  obtain ⟨i,hi⟩:=bindStep_ex h k
  exact ⟨i,by simp only [runOp]; exact hi⟩
theorem runOps_ex:∀ (l:List AIn) (s:Slots) (H:Heap) (n:Nat) {K:Slots→Heap→Nat→Prop} {K':ι→Slots→Heap→Nat→Prop},(∀ s H n,K s H n→∃ i,K' i s H n)→run0Ops P l s H n K→∃ i,runOps P l s H n (K' i)
 | [],s,H,n,K,K',h,k=>h _ _ _ k
 | ⟨d,none,op⟩::l,s,H,n,K,K',h,k=>by
  simp only [run0Ops] at k
  simp only [runOps]
  exact runOp_ex (fun v u hk=>runOps_ex l _ _ _ h hk) op k
 | ⟨d,some (j,true),op⟩::l,s,H,n,K,K',h,k=>by
  simp only [run0Ops] at k
  simp only [runOps]
  exact onGrd_ex (fun hk=>runOp_ex (fun v u hk=>runOps_ex l _ _ _ h hk) op hk) (fun hk=>runOps_ex l _ _ _ h hk) (fun hk=>runOps_ex l _ _ _ h hk) k
 | ⟨d,some (j,false),op⟩::l,s,H,n,K,K',h,k=>by
  simp only [run0Ops] at k
  simp only [runOps]
  exact onGrd_ex (fun hk=>runOps_ex l _ _ _ h hk) (fun hk=>runOp_ex (fun v u hk=>runOps_ex l _ _ _ h hk) op hk) (fun hk=>runOps_ex l _ _ _ h hk) k
theorem opX_ex {s:Slots} {H:Heap} {n:Nat} {K:PV→Heap→List Nat→Prop} {K':ι→PV→Heap→List Nat→Prop} (h:∀ v u r,K v u r→∃ i,K' i v u r) (op:AOp) (k:opX P s H n K op):∃ i,opX P s H n (K' i) op:=by
 cases op with
 | call f args =>
  simp only [opX] at k ⊢
  exact CallX_ex (fun v u r hk=>by obtain ⟨i,hi⟩:=h _ _ _ hk.2; exact ⟨i,hk.1,hi⟩) k
 | callv x args =>
  simp only [opX] at k ⊢
  exact onFn_ex (fun f c hk=>CallX_ex (fun v u r hk=>by obtain ⟨i,hi⟩:=h _ _ _ hk.2; exact ⟨i,hk.1,hi⟩) hk) k
 | _=>simp only [opX] at k ⊢; exact bindStep_ex (fun v u hk=>h _ _ _ hk) k
theorem and_ex {a:Prop} {X:Prop} {X':ι→Prop} (h:X→∃ i,X' i) (k:a∧X):∃ i,a∧X' i:=by
 obtain ⟨i,hi⟩:=h k.2; exact ⟨i,k.1,hi⟩
theorem runAny_ex:∀ (l:List (AIn × List Nat)) (recs:List Rec1) (s:Slots) (H:Heap) (n:Nat) {K:Slots→Heap→Nat→Prop} {K':ι→Slots→Heap→Nat→Prop},(∀ s H n,K s H n→∃ i,K' i s H n)→runAny P l recs s H n K→∃ i,runAny P l recs s H n (K' i)
 | [],recs,s,H,n,K,K',h,k=>h _ _ _ k
 | (⟨d,none,op⟩,fr)::l,recs,s,H,n,K,K',h,k=>by
  simp only [runAny] at k ⊢
  exact opX_ex (fun v u r hk=>and_ex (fun hk=>runAny_ex l _ _ _ _ h hk) hk) op k
 | (⟨d,some (j,true),op⟩,fr)::l,recs,s,H,n,K,K',h,k=>by
  simp only [runAny] at k ⊢
  exact onGrd_ex (fun hk=>opX_ex (fun v u r hk=>and_ex (fun hk=>runAny_ex l _ _ _ _ h hk) hk) op hk) (fun hk=>and_ex (fun hk=>runAny_ex l _ _ _ _ h hk) hk) (fun hk=>and_ex (fun hk=>runAny_ex l _ _ _ _ h hk) hk) k
 | (⟨d,some (j,false),op⟩,fr)::l,recs,s,H,n,K,K',h,k=>by
  simp only [runAny] at k ⊢
  exact onGrd_ex (fun hk=>and_ex (fun hk=>runAny_ex l _ _ _ _ h hk) hk) (fun hk=>opX_ex (fun v u r hk=>and_ex (fun hk=>runAny_ex l _ _ _ _ h hk) hk) op hk) (fun hk=>and_ex (fun hk=>runAny_ex l _ _ _ _ h hk) hk) k
def GoodL {κ:Type} (P:Program) (c:ACode) (I:κ→ST) (Q:AEx→ST→Prop):Nat→κ→Prop
 | 0,_=>False
 | m+1,x=>run P c (I x) (loopK (fun s=>∃ y,Cov s (I y)∧GoodL P c I Q m y) Q)
theorem run_ex:∀ (c:ACode) (st:ST) {Q:AEx→ST→Prop} {Q':ι→AEx→ST→Prop},(∀ e s,Q e s→∃ i,Q' i e s)→run0 P c st Q→∃ i,run P c st (Q' i)
 | .skip,st,Q,Q',h,k=>h _ _ k
 | .ops l,st,Q,Q',h,k=>runOps_ex l _ _ _ (fun s H n hk=>h _ _ hk) k
 | .any l,st,Q,Q',h,k=>runAny_ex l _ _ _ _ (fun s H n hk=>h _ _ hk) k
 | .seq a b,st,Q,Q',h,k=>run_ex a st (Q':=fun i=>seqK (fun s=>run P b s (Q' i)) (Q' i)) (fun e s hk=>by
   cases e
   ·exact run_ex b s h hk
   ·exact h _ _ hk
   ·exact h _ _ hk) k
 | .cond x a b,st,Q,Q',h,k=>onBool_ex (fun hk=>run_ex a st h hk) (fun hk=>run_ex b st h hk) k
 | .block id c,st,Q,Q',h,k=>run_ex c st (Q':=fun i=>blockK id (Q' i)) (fun e s hk=>by
   cases e with
   | normal=>exact h _ _ hk
   | ret=>exact h _ _ hk
   | exit i =>
    simp only [blockK] at hk ⊢
    cases hi:(i==id) <;> simp only [hi,cond_true,cond_false] at hk ⊢
    ·exact h _ _ hk
    ·exact h _ _ hk) k
 | .loop c,st,Q,Q',h,k=>by
  obtain ⟨κ,I,μ,x,h1,h2⟩:=k
  have key:∀ (m:Nat) (x:κ),μ x<m→∃ i,GoodL P c I (Q' i) m x:=by
   intro m
   induction m with
   | zero=>intro x hx; exact absurd hx (Nat.not_lt_zero _)
   | succ m ih =>
    intro x hx
    exact run_ex c (I x) (Q':=fun i=>loopK (fun s=>∃ y,Cov s (I y)∧GoodL P c I (Q' i) m y) (Q' i)) (fun e s hk=>by
     cases e with
     | normal =>
      obtain ⟨y,hy,hc⟩:=hk
      obtain ⟨i,hi⟩:=ih y (by omega)
      exact ⟨i,y,hc,hi⟩
     | exit j=>exact h _ _ hk
     | ret=>exact h _ _ hk) (h2 x)
  obtain ⟨i,hi⟩:=key (μ x+1) x (Nat.lt_succ_self _)
  refine ⟨i,{p:Nat × κ // GoodL P c I (Q' i) p.1 p.2},fun p=>I p.1.2,fun p=>p.1.1,⟨(μ x+1,x),hi⟩,h1,fun p=>?_⟩
  obtain ⟨⟨m,y⟩,hp⟩:=p
  cases m with
  | zero=>exact hp.elim
  | succ m =>
   refine run_mono c _ (fun e s hk=>?_) hp
   cases e with
   | normal =>
    obtain ⟨z,hc,hz⟩:=hk
    exact ⟨⟨(m,z),hz⟩,Nat.lt_succ_self _,hc⟩
   | exit j=>exact hk
   | ret=>exact hk
 | .exit i,st,Q,Q',h,k=>h _ _ k
 | .ret,st,Q,Q',h,k=>h _ _ k
end
section
variable (P:Program)
def ROp0 (s:Slots) (H:Heap) (n:Nat) (K:PV→Heap→Prop) (t:Tag K):AOp→Prop
 | .call f args=>CX P f (args.map (AX.val s)) H n (fun v u _=>K v u) .mk
 | .callv x args=>OF (x.val s) (fun f cap=>CX P f (args.map (AX.val s)++cap) H n (fun v u _=>K v u) .mk) .mk
 | op=>BS (step (AX.val s) H n op) K t
theorem ROp0_eq (s:Slots) (H:Heap) (n:Nat) (K:PV→Heap→Prop) (t:Tag K) (op:AOp):ROp0 P s H n K t op=run0Op P s H n K op:=by cases op <;> rfl
def ROps0:List AIn→Slots→Heap→Nat→(K:Slots→Heap→Nat→Prop)→Tag K→Prop
 | [],s,H,n,K,_=>K s H n
 | ⟨d,none,op⟩::l,s,H,n,K,t=>ROp0 P s H n (fun v u=>ROps0 l (putS s d v) (u++H) (n+4) K t) .mk op
 | ⟨d,some (j,true),op⟩::l,s,H,n,K,t=>OG (getS s j) (fun b=>S2 b
   (fun _=>ROp0 P ((j,.bool true)::s) H n (fun v u=>ROps0 l (putS ((j,.bool true)::s) d v) (u++H) (n+4) K t) .mk op)
   (fun _=>ROps0 l (putS ((j,.bool false)::s) d (.tup [])) H (n+4) K t) .mk .mk) (fun _=>ROps0 l (putS s d (.tup [])) H (n+4) K t) .mk .mk
 | ⟨d,some (j,false),op⟩::l,s,H,n,K,t=>OG (getS s j) (fun b=>S2 b
   (fun _=>ROps0 l (putS ((j,.bool true)::s) d (.tup [])) H (n+4) K t)
   (fun _=>ROp0 P ((j,.bool false)::s) H n (fun v u=>ROps0 l (putS ((j,.bool false)::s) d v) (u++H) (n+4) K t) .mk op) .mk .mk) (fun _=>ROps0 l (putS s d (.tup [])) H (n+4) K t) .mk .mk
theorem ROps0_eq:∀ (l:List AIn) (s:Slots) (H:Heap) (n:Nat) (K:Slots→Heap→Nat→Prop) (t:Tag K),ROps0 P l s H n K t=run0Ops P l s H n K
 | [],s,H,n,K,t=>rfl
 | ⟨d,none,op⟩::l,s,H,n,K,t=>by
  simp only [ROps0,run0Ops,ROp0_eq,ROps0_eq l]
 | ⟨d,some (j,true),op⟩::l,s,H,n,K,t=>by
  simp only [ROps0,run0Ops,ROp0_eq,ROps0_eq l,OG,S2]
 | ⟨d,some (j,false),op⟩::l,s,H,n,K,t=>by
  simp only [ROps0,run0Ops,ROp0_eq,ROps0_eq l,OG,S2]
def LP0 (c:ACode) (st:ST) (Q:AEx→ST→Prop) (_:Tag Q):Prop:=LoopOK (run0 P c) st Q
def Run0:ACode→ST→(Q:AEx→ST→Prop)→Tag Q→Prop
 | .skip,st,Q,_=>Q .normal st
 | .ops l,st,Q,_=>ROps0 P l st.slots st.heap st.next (fun s H n=>Q .normal ⟨s,H,n,st.base⟩) .mk
 | .any l,st,Q,_=>RAny P l [] st.slots st.heap st.next (fun s H n=>Q .normal ⟨s,H,n,st.base⟩) .mk
 | .seq a b,st,Q,t=>Run0 a st (seqK (fun s=>Run0 b s Q t) Q) .mk
 | .cond x a b,st,Q,t=>OB (x.val st.slots) (fun c=>S2 c (fun _=>Run0 a st Q t) (fun _=>Run0 b st Q t) .mk .mk) .mk
 | .block id c,st,Q,_=>Run0 c st (blkK id Q) .mk
 | .loop c,st,Q,t=>LP0 P c st Q t
 | .exit i,st,Q,_=>Q (.exit i) st
 | .ret,st,Q,_=>Q .ret st
theorem Run0_eq:∀ (c:ACode) (st:ST) (Q:AEx→ST→Prop) (t:Tag Q),Run0 P c st Q t=run0 P c st Q
 | .skip,st,Q,t=>rfl
 | .ops l,st,Q,t=>by simp only [Run0,run0,ROps0_eq]
 | .any l,st,Q,t=>by simp only [Run0,run0,RAny_eq]
 | .seq a b,st,Q,t=>by simp only [Run0,run0,Run0_eq a,Run0_eq b]
 | .cond x a b,st,Q,t=>by simp only [Run0,run0,Run0_eq a,Run0_eq b,OB,S2]
 | .block id c,st,Q,t=>by simp only [Run0,run0,Run0_eq c,blkK_eq]
 | .loop c,st,Q,t=>by simp only [Run0,run0,LP0]
 | .exit i,st,Q,t=>rfl
 | .ret,st,Q,t=>rfl
end
def EndOK {ι:Type} (Post:ι→Prop) (rs:List ARes) (Hs:Heap) (nid:Nat) (r:ι→PV) (u:ι→Heap) (e:AEx) (s:ST):Prop:=∃ i,Post i∧RetOK rs Hs nid (r i) (u i) e s
theorem EndOK.mk {ι:Type} {Post:ι→Prop} {rs:List ARes} {Hs:Heap} {nid:Nat} {r:ι→PV} {u:ι→Heap} {e:AEx} {s:ST} (i:ι) (h:Post i) (h2:RetOK rs Hs nid (r i) (u i) e s):EndOK Post rs Hs nid r u e s:=⟨i,h,h2⟩
theorem acall_ex {P:Program} {f:Nat} {af:AFn} {args:List PV} {Hs:Heap} {nid:Nat} {ι:Type} {Post:ι→Prop} {r:ι→PV} {u:ι→Heap} (hc:compF P f=some af) (hn:args.length≤af.nt)
  (h:Run0 P af.body ⟨argSlots 0 args,Hs,nid,nid⟩ (EndOK Post af.res Hs nid r u) .mk):∃ i,Post i∧ACall P f args Hs nid (r i) (u i):=by
 rw [Run0_eq] at h
 obtain ⟨⟨i,hi⟩,hr⟩:=run_ex (ι:={i:ι // Post i}) af.body _ (Q':=fun i=>RetOK af.res Hs nid (r i.1) (u i.1)) (fun e s hk=>by
  obtain ⟨i,hi,hk⟩:=hk
  exact ⟨⟨i,hi⟩,hk⟩) h
 exact ⟨i,hi,acall_of_run hc hn hr⟩
theorem LP0.mk {P:Program} {c:ACode} {st:ST} {Q:AEx→ST→Prop} {t:Tag Q} {ι:Type} (I:ι→ST) (μ:ι→Nat) (x:ι) (h1:Cov st (I x)) (h2:∀ x,Run0 P c (I x) (loopK (fun s=>∃ y,μ y<μ x∧Cov s (I y)) Q) .mk):LP0 P c st Q t :=
 LoopOK.mk I μ x h1 fun x=>by rw [← Run0_eq P c _ _ .mk]; exact h2 x
theorem LP0.mkP {P:Program} {c:ACode} {st:ST} {Q:AEx→ST→Prop} {t:Tag Q} {ι:Type} (p:ι→Prop) (I:ι→ST) (μ:ι→Nat) (x:ι) (hx:p x) (h1:Cov st (I x))
  (h2:∀ x,p x→Run0 P c (I x) (loopK (fun s=>∃ y,(p y∧μ y<μ x)∧Cov s (I y)) Q) .mk):LP0 P c st Q t :=
 LP0.mk (ι:={x:ι // p x}) (fun x=>I x.1) (fun x=>μ x.1) ⟨x,hx⟩ h1 fun x=>by
  have e:(fun s=>∃ y:{x:ι // p x},μ y.1<μ x.1∧Cov s (I y.1))=(fun s=>∃ y,(p y∧μ y<μ x.1)∧Cov s (I y)):=by
   funext s
   exact propext ⟨fun ⟨y,h1,h2⟩=>⟨y.1,⟨y.2,h1⟩,h2⟩,fun ⟨y,⟨h1,h2⟩,h3⟩=>⟨⟨y,h1⟩,h2,h3⟩⟩
  rw [e]
  exact h2 x.1 x.2
theorem CallX.onE {P:Program} {f:Nat} {args:List PV} {H:Heap} {nid:Nat} {K:PV→Heap→List Nat→Prop} {Hs:Heap} {ι:Type} {Post:ι→Prop} {r:ι→PV} {u:ι→Heap} (h:∃ i,Post i∧ACall P f args Hs nid (r i) (u i)) (hs:subH Hs H) (hK:∀ i,Post i→K (r i) (u i) (keys Hs)):CallX P f args H nid K:=by
 obtain ⟨i,hi,h⟩:=h
 exact CallX.on h hs (hK i hi)
theorem CallO.onE {P:Program} {f:Nat} {args:List PV} {H:Heap} {nid:Nat} {K:PV→Heap→Prop} {Hs:Heap} {ι:Type} {Post:ι→Prop} {r:ι→PV} {u:ι→Heap} (h:∃ i,Post i∧ACall P f args Hs nid (r i) (u i)) (hs:subH Hs H) (hK:∀ i,Post i→K (r i) (u i)):CallOK P f args H nid K:=by
 obtain ⟨i,hi,h⟩:=h
 exact CallO.on h hs (hK i hi)
theorem CallX.gave1 {P:Program} {f:Nat} {H:Heap} {nid:Nat} {K:PV→Heap→List Nat→Prop} {id n T:Nat} {cols:List Col} {r:PV} {u:Heap} (hid:getH H id=some (.arr T n cols)) (h:∀ nl,ACall P f [.lit nl n cols] [] nid r u) (hu:getH u id=none) (hK:K r (u++[(id,none)]) [id]) (ho:noOs cols=true:=by rfl):CallX P f [.sl id 0 n] H nid K :=
 CallX.gave [id] (fun nl=>by
  have e:lends H [id] nl [.sl id 0 n]=[.lit (nl id) n cols]:=by simp [lends,lend,hid,ho,noOs]
  rw [e]; exact h _) (by simpa using hu) hK
theorem CallO.gave1 {P:Program} {f:Nat} {H:Heap} {nid:Nat} {K:PV→Heap→Prop} {id n T:Nat} {cols:List Col} {r:PV} {u:Heap} (hid:getH H id=some (.arr T n cols)) (h:∀ nl,ACall P f [.lit nl n cols] [] nid r u) (hu:getH u id=none) (hK:K r (u++[(id,none)])) (ho:noOs cols=true:=by rfl):CallOK P f [.sl id 0 n] H nid K :=
 CallO.x (CallX.gave1 hid h hu hK ho)
theorem aqT0:type_of% (And.intro (And.intro (And.intro @Run0.eq_1 (And.intro @Run0.eq_2 @Run0.eq_3)) (And.intro @Run0.eq_4 (And.intro @Run0.eq_5 @Run0.eq_6))) (And.intro (And.intro @Run0.eq_7 (And.intro @Run0.eq_8 @Run0.eq_9)) (And.intro (And.intro @ROps0.eq_1 @ROps0.eq_2) (And.intro @ROps0.eq_3 @ROps0.eq_4)))) :=
 And.intro (And.intro (And.intro @Run0.eq_1 (And.intro @Run0.eq_2 @Run0.eq_3)) (And.intro @Run0.eq_4 (And.intro @Run0.eq_5 @Run0.eq_6))) (And.intro (And.intro @Run0.eq_7 (And.intro @Run0.eq_8 @Run0.eq_9)) (And.intro (And.intro @ROps0.eq_1 @ROps0.eq_2) (And.intro @ROps0.eq_3 @ROps0.eq_4)))
open Go.RowKit
theorem HSF.below {C : Ctx} {n : Nat} {w' : World} (h : HS C C.Y0 C.m0 C.w0 [] n) (hb : Below C.w0.heap.size C.w0 w') : HS C C.Y0 C.m0 w' [] (n + 4) :=
  { blk := fun id b hg => by simp [getH] at hg
    inj := fun id id' b b' pl pl' g _ hg => by simp [getH] at hg
    ylt := fun b hY => Nat.lt_of_lt_of_le (h.ylt b hY) hb.size
    keep := h.keep
    size := hb.size
    frame := fun b hlt _ => hb.block b hlt
    os := hb.os
    tape := hb.tape
    output := hb.output
    y0lt := h.y0lt
    x0 := h.x0
    yless := h.yless
    own := h.own
    low := fun id hid => h.low id (by omega)
    names := h.names
    fresh := fun id hid => h.fresh id (by omega)
    known := h.known
    gl := h.gl }
theorem GOK0.congr {z z':Nat→Option Obj} {low:Nat} (h:∀ b,b<low→z b=z' b) (k:GOK0 z low):GOK0 z' low:=by obtain ⟨o,m,h1,h2,h3⟩:=k; exact ⟨o,m,h1,(h _ h1).symm.trans h2,h3⟩
theorem GOK.congr {z z':Nat→Option Obj} {low:Nat} (h:∀ b,b<low→z b=z' b) (k:GOK z low):GOK z' low:=GOK0.congr h k
def GW (w:World):Prop:=∃ low,low≤w.heap.size∧GOK (fun b=>w.heap[b]?) low
theorem GW.of {C:Ctx} (h:GLW C):GW C.w0:=⟨C.lowb,h.le,GOK.congr (fun b hb=>(h.same b hb).symm) h.ok⟩
theorem GW.cell {w:World} (h:GW w):∃ m,w.cell? ⟨0,0,none⟩=some (.int .i64 m):=by obtain ⟨low,_,o,m,_,h2,h3⟩:=h; exact ⟨m,by unfold World.cell?; simp only [h2]; unfold cell0 at h3; split at h3 <;> first | (simp at h3; done) | (simpa using h3)⟩
open Go.RowKit Go.Sort
def encP (p:Int × Int):List Value:=[.int .i64 p.1,.int .i64 p.2]
def arrP2 (T:Nat) (l:List (Int × Int)):Option ABlk:=some (.arr T l.length [.i .i64 fun i=>(l.getD i (0,0)).1,.i .i64 fun i=>(l.getD i (0,0)).2])
theorem flat_get (l:List (Int × Int)) {i:Nat} (hi:i<l.length):(flatK encP 2 l.toArray).toList[i * 2+0]?=some (.int .i64 (l.getD i (0,0)).1)∧(flatK encP 2 l.toArray).toList[i * 2+1]?=some (.int .i64 (l.getD i (0,0)).2):=by
 have hg:(l.toArray)[i]! = l.getD i (0,0):=by
  rw [getElem!_pos (l.toArray) i (by simpa using hi),List.getD_eq_getElem?_getD,List.getElem?_eq_getElem hi]
  simp
 have hs:(flatK encP 2 l.toArray).size=l.length * 2:=by simp
 have key:∀ t,t<l.length * 2→(flatK encP 2 l.toArray).toList[t]?=some ((encP (l.toArray)[t / 2]!)[t % 2]!):=fun t ht=>by
  have h:=get_flatK encP 2 l.toArray t (by simpa using ht)
  rw [getElem!_pos _ t (by rw [hs]; exact ht)] at h
  rw [Array.getElem?_toList,Array.getElem?_eq_getElem (by rw [hs]; exact ht),h]
 refine ⟨?_,?_⟩
 ·rw [key _ (by omega),show (i * 2+0) / 2=i by omega,show (i * 2+0) % 2=0 by omega,hg]
  rfl
 ·rw [key _ (by omega),show (i * 2+1) / 2=i by omega,show (i * 2+1) % 2=1 by omega,hg]
  rfl
theorem putRow_setRow (w:World) (blk off:Nat) (F cur:Array Value) (T:TypeId) (fz:Nat × Nat) (h:w.heap[blk]?=some (.cells cur T fz)) (hsz:off+F.size≤cur.size) :
  putRow id w blk off F=w.setRow blk (splice cur.toList off F.toList).toArray:=by
 have e:putCells id off F cur=(splice cur.toList off F.toList).toArray:=by
  apply Array.ext_getElem?
  intro k
  have h2:=splice_get F.toList cur.toList off k
  have h3:((splice cur.toList off F.toList).toArray)[k]?=(splice cur.toList off F.toList)[k]?:=by simp
  rw [h3,h2]
  unfold putCells
  rw [Array.getElem?_mapIdx]
  by_cases hk:k<cur.size
  ·rw [Array.getElem?_eq_getElem hk]
   simp only [Option.map_some,Array.length_toList]
   by_cases hc:off≤k∧k<off+F.size
   ·rw [if_pos hc,if_pos ⟨hc.1,hc.2,hk⟩,getElem!_pos F (k - off) (by omega),Array.getElem?_toList,Array.getElem?_eq_getElem (by omega)]
    rfl
   ·rw [if_neg hc,if_neg (fun hh=>hc ⟨hh.1,hh.2.1⟩),Array.getElem?_toList,Array.getElem?_eq_getElem hk]
  ·rw [Array.getElem?_eq_none (by omega)]
   simp only [Option.map_none,Array.length_toList]
   rw [if_neg (by omega),Array.getElem?_toList,Array.getElem?_eq_none (by omega)]
 unfold putRow World.setRow
 rw [mapBlock_congr w blk (putCells id off F) (fun _=>(splice cur.toList off F.toList).toArray) (fun c e' fr h'=>by
  rw [h] at h'
  injection h' with h'
  injection h' with h1 h2 h3
  subst h1
  exact e)]
 unfold mapBlock
 rfl
theorem acall_turned {P : Program} {f g : Nat} {fn : Func} {T : Nat} {l l' : List (Int × Int)} (ix nid : Nat) (hf : P.funcs[f]? = some fn) (h1 : (fn.name == "runtime.NumGoroutine") = false) (h2 : fn.body.isNone = false)
  (hT : T ≠ TS) (hpos : 0 < l.length) (hlen : l'.length = l.length)
  (h : ∀ (w : World) (blk off cap : Nat), HoldsK encP 2 w blk off l.toArray → blk < w.heap.size → Calls P f #[.slice (some ⟨blk, off, none⟩) l.toArray.size cap, .func (.func g) #[] #[]] w fun e w' => e = .returned (.tuple #[]) ∧ ∃ n os, w' = sortWorldK encP 2 w blk off n l'.toArray os) :
  ACall P f [.sl ix 0 l.length, .fn g []] [(ix, arrP2 T l)] nid (.tup []) [(ix, arrP2 T l')] := by
 intro C vs hb hl hrep hs
 obtain ⟨v0, v1, rfl⟩ : ∃ v0 v1, vs = [v0, v1] := by
  match vs, hl with
  | [a, b], _ => exact ⟨a, b, rfl⟩
 have r0 := hrep 0 _ _ rfl rfl
 have r1 := hrep 1 _ _ rfl rfl
 have hgb : getH [(ix, arrP2 T l)] ix = some (.arr T l.length [.i .i64 fun i => (l.getD i (0, 0)).1, .i .i64 fun i => (l.getD i (0, 0)).2]) := by simp [getH, arrP2]
 obtain ⟨pl', hm', hbs, hlies⟩ := hs.blk ix _ hgb
 cases r1 with
 | @fn _ _ us hul hu =>
 have hus : us = [] := List.eq_nil_of_length_eq_zero hul
 subst hus
 cases r0 with
 | @sl _ _ _ pl A B c cap hm hh hl0 h0 hB hB0 hle hc =>
 rw [hm] at hm'
 injection hm' with hm'
 subst hm'
 obtain ⟨hBA, hcc⟩ := h0 rfl
 have hBv := hB (by omega)
 rw [Nat.zero_mul, Nat.add_zero] at hBv
 have hbs' := hbs
 obtain ⟨xs, cap2, s1, s2, s3, s4, s5, s6, s7⟩ := hbs'
 have hol := s4 hpos
 have hs2 : pl.sz = 2 := s2
 have hcells := s3.cells hol
 have hxl : xs.length = l.length * 2 := s3.1
 have hblt := s3.lt pl.blk hol
 have hF : ∀ t, t < l.length * 2 → (flatK encP 2 l'.toArray).size = l.length * 2 := fun _ _ => by simp [hlen]
 have hFs : (flatK encP 2 l'.toArray).toList.length = l.length * 2 := by simp [hlen]
 obtain ⟨cur, hcur, hcsz, Y', hY', hev⟩ := HSF.setArr nid hs (cols' := [.i .i64 fun i => (l'.getD i (0, 0)).1, .i .i64 fun i => (l'.getD i (0, 0)).2]) hm hgb hpos 0 (flatK encP 2 l'.toArray).toList (by
   intro v hv
   obtain ⟨t, ht, rfl⟩ := List.getElem_of_mem hv
   have ht' : t < l'.length * 2 := by rw [hFs] at ht; omega
   have hg := flat_get l' (i := t / 2) (by omega)
   have hcase : t = t / 2 * 2 + 0 ∨ t = t / 2 * 2 + 1 := by omega
   rcases hcase with hc | hc
   ·have := hg.1; rw [← hc, List.getElem?_eq_getElem ht] at this; injection this with this; rw [this]; rfl
   ·have := hg.2; rw [← hc, List.getElem?_eq_getElem ht] at this; injection this with this; rw [this]; rfl)
  (by rw [hFs]; simp) rfl
  (by
   intro a k c' ha hk _ _
   have hg := flat_get l' (i := a) (by omega)
   match k, hk with
   | 0, hk => injection hk with hk; subst hk; exact ⟨_, hg.1, .i⟩
   | 1, hk => injection hk with hk; subst hk; exact ⟨_, hg.2, .i⟩)
  (by
   intro a k c' ha hk hn
   exfalso
   apply hn
   rw [hFs]
   have : k < 2 := (List.getElem?_eq_some_iff.1 hk).1
   simp only [List.length_cons, List.length_nil]
   omega)
 have hex := hcur.exact hT
 have hold : HoldsK encP 2 C.w0 pl.blk pl.o l.toArray := by
  intro j hj
  have hj' : j < l.length * 2 := by simpa using hj
  have hg := flat_get l (i := j / 2) (by omega)
  have hx : ∀ k c, k < 2 → ([.i .i64 fun i => (l.getD i (0, 0)).1, .i .i64 fun i => (l.getD i (0, 0)).2] : List Col)[k]? = some c → ∃ v, xs[j / 2 * 2 + k]? = some v ∧ ColRep C.Y0 C.w0 c (j / 2) v := fun k c _ hk => by
   obtain ⟨v, e1, e2⟩ := s7 (j / 2) k c (by omega) hk
   exact ⟨v, e1, e2.col (noOs_get (by rfl) hk)⟩
  have hlt : j < (flatK encP 2 l.toArray).size := by simpa using hj'
  have key : xs[j]? = (flatK encP 2 l.toArray).toList[j]? := by
   have hcase : j = j / 2 * 2 + 0 ∨ j = j / 2 * 2 + 1 := by omega
   rcases hcase with hc | hc
   ·obtain ⟨v, e1, e2⟩ := hx 0 _ (by omega) rfl
    cases e2
    rw [hc, e1, hg.1]
   ·obtain ⟨v, e1, e2⟩ := hx 1 _ (by omega) rfl
    cases e2
    rw [hc, e1, hg.2]
  rw [Array.getElem?_toList (xs := flatK encP 2 l.toArray), Array.getElem?_eq_getElem hlt] at key
  refine ⟨?_, ?_⟩
  ·rw [hcells j _ key, getElem!_pos _ j hlt]
   rfl
  ·simp [World.frozen?, hex]
 have hcall := h C.w0 pl.blk pl.o c hold hblt
 refine .inl ⟨fn, hf, h1, h2, ?_⟩
 have hargs : ([Value.slice B l.length c, Value.func (.func g) #[] ([] : List Value).toArray] : List Value).toArray = #[.slice (some ⟨pl.blk, pl.o, none⟩) l.toArray.size c, .func (.func g) #[] #[]] := by
  rw [hBv]; simp
 rw [hargs]
 refine hcall.mono fun e w' ⟨he, n, os, hw⟩ => ⟨_, he, Y', C.m0, .tup rfl (fun i p v hp => by simp at hp), ?_, ?_⟩
 all_goals
  have hgr : (C.w0.setRow pl.blk (splice cur.toList (pl.o + 0) (flatK encP 2 l'.toArray).toList).toArray).grownBy w' none := by
   rw [hw]
   unfold sortWorldK putRowK
   have e1 : putRow id (Sort.ahead C.w0 n) pl.blk pl.o (flatK encP 2 l'.toArray) = Sort.ahead (putRow id C.w0 pl.blk pl.o (flatK encP 2 l'.toArray)) n := rfl
   rw [e1, putRow_setRow C.w0 pl.blk pl.o _ cur T (0, 0) hex (by rw [Array.length_toList] at hcsz; simpa using hcsz)]
   exact ⟨rfl, rfl, rfl, by simp [grow, Sort.ahead], fun k hk _ => by simp only [grow, Sort.ahead, Nat.add_zero] at hk ⊢; rw [Array.getElem?_append_left hk]⟩
  obtain ⟨q1, q2⟩ := hY'.push (Fr' := fun id => nid + 4 ≤ id) (fun id hid => ⟨by omega, by omega⟩) hgr
 ·exact q1.same (fun i => by by_cases hi : ix = i <;> simp [getH, arrP2, hi, hlen])
 ·exact hev.trans q2
open Go.RowKit
def frzBlk (H0:Heap) (G:List Nat) (nl:Nat→Bool):ABlk→ABlk
 | .box T cs=>.box T (lends H0 G nl cs)
 | .arr T n cols=>.arr T n cols
 | .map kk dom c=>.map kk dom c
 | .mape kk dom c q sid=>.mape kk dom c q sid
 | .sit s p=>.sit s p
def frzH (H0:Heap) (G:List Nat) (nl:Nat→Bool):Heap→Heap
 | []=>[]
 | (i,some b)::H=>(i,some (frzBlk H0 G nl b))::frzH H0 G nl H
 | (i,none)::H=>(i,none)::frzH H0 G nl H
theorem getH_frzH (H0:Heap) (G:List Nat) (nl:Nat→Bool):∀ (H:Heap) (id:Nat),getH (frzH H0 G nl H) id=(getH H id).map (frzBlk H0 G nl)
 | [],id=>rfl
 | (i,some b)::H,id=>by
  simp only [frzH,getH,getH_frzH H0 G nl H id]
  cases i==id <;> rfl
 | (i,none)::H,id=>by
  simp only [frzH,getH,getH_frzH H0 G nl H id]
  cases i==id <;> rfl
theorem lends_at (H:Heap) (G:List Nat) (nl:Nat→Bool):∀ (ps:List PV) (i:Nat),(lends H G nl ps)[i]?=(ps[i]?).map (lend H G nl)
 | [],i=>by simp [lends]
 | p::ps,0=>by simp [lends]
 | p::ps,i+1=>by simp [lends,lends_at H G nl ps i]
theorem lends_length (H:Heap) (G:List Nat) (nl:Nat→Bool):∀ (ps:List PV),(lends H G nl ps).length=ps.length
 | []=>rfl
 | p::ps=>by simp [lends,lends_length H G nl ps]
variable {P:Program}
theorem SRun.freezeN {x:ACode} {s:Slots} {H:Heap} {n b:Nat} {Q:AEx→ST→Prop} (G:List Nat) (h:∀ nl:Nat→Bool,(∀ id T k cols,getH H id=some (.arr T k cols)→0<k→nl id=false)→SRun P x ⟨frzS H G nl s,kill G++frzH H G nl H,n,b⟩ Q):SRun P x ⟨s,H,n,b⟩ Q:=fun nt c C Y m a w hcc hS=>by
 have hnn:∀ id T k cols,getH H id=some (.arr T k cols)→0<k→nlOf m id=false:=by
  intro id T k cols hg hk
  obtain ⟨pl,h1,h2,_⟩:=hS.heap.blk id _ hg
  obtain ⟨xs,cap,s1,s2,s3,s4,s5,⟨A,hA⟩,s7⟩:=h2
  have:=s4 hk
  simp only [nlOf,h1,hA]
  rw [hA] at this
  cases A with
  | none=>simp [Value.ownBlock] at this
  | some a=>rfl
 obtain ⟨Y',h1,h2,h3⟩:=freeze_core hS.heap G
 have get:∀ id b',getH (kill G++frzH H G (nlOf m) H) id=some b'→∃ b0,getH H id=some b0∧getH (kill G++H) id=some b0∧b'=frzBlk H G (nlOf m) b0:=by
  intro id b' hb
  rw [getH_app] at hb
  cases hk:hasH (kill G) id
  ·simp only [hk,Bool.false_eq_true,if_false] at hb
   rw [getH_frzH] at hb
   obtain ⟨b0,h4,h5⟩:=Option.map_eq_some_iff.1 hb
   refine ⟨b0,h4,?_,h5.symm⟩
   rw [getH_app,hk]
   simpa using h4
  ·simp [hk,getH_kill] at hb
 have lies:∀ (pl:Pl) (b0:ABlk),(frzBlk H G (nlOf m) b0).lies pl=b0.lies pl:=fun pl b0=>by cases b0 <;> rfl
 refine h (nlOf m) hnn nt c C Y' m a w hcc ⟨hS.size,hS.defers,?_,{ h2 with blk:=?_,inj:=?_ },hS.base⟩
 ·intro i p hp hne
  simp only at hp
  rw [getS_frz] at hp
  have hne':getS s i≠.any:=fun e=>hne (by rw [← hp,e]; simp [lend])
  obtain ⟨v,k1,k2⟩:=hS.slots i _ rfl hne'
  refine ⟨v,k1,?_⟩
  subst hp
  exact h1 _ v k2
 ·intro id b' hb
  obtain ⟨b0,g1,g2,rfl⟩:=get id b' hb
  obtain ⟨pl,p1,p2,p3⟩:=h2.blk id b0 g2
  obtain ⟨pl2,q1,q2,_⟩:=hS.heap.blk id b0 g1
  rw [p1] at q1
  injection q1 with q1
  subst q1
  refine ⟨pl,p1,?_,fun g hg=>p3 g (by rwa [lies] at hg)⟩
  cases b0 with
  | box T cs =>
   obtain ⟨vs,r1,r2,r3,r4⟩:=q2
   refine ⟨vs,r1,by rw [lends_length]; exact r2,r3,fun i p v hp hv=>?_⟩
   rw [lends_at] at hp
   obtain ⟨p0,hp0,rfl⟩:=Option.map_eq_some_iff.1 hp
   exact h1 p0 v (r4 i p0 v hp0 hv)
  | arr T n cols=>exact p2
  | map kk dom c=>exact p2
  | mape kk dom c q sid=>exact p2
  | sit s p=>exact p2
 ·intro id id' b b' pl pl' g hne hb hb' hm hm' hl
  obtain ⟨b0,_,g2,rfl⟩:=get id b hb
  obtain ⟨b1,_,g3,rfl⟩:=get id' b' hb'
  rw [lies] at hl ⊢
  exact h2.inj id id' b0 b1 pl pl' g hne g2 g3 hm hm' hl
theorem SRun.freezeB {x:ACode} {s:Slots} {H:Heap} {n b:Nat} {Q:AEx→ST→Prop} (G:List Nat) (h:∀ nl:Nat→Bool,SRun P x ⟨frzS H G nl s,kill G++frzH H G nl H,n,b⟩ Q):SRun P x ⟨s,H,n,b⟩ Q:=SRun.freezeN G fun nl _=>h nl
theorem SR.freezeN {x:ACode} {s:Slots} {H:Heap} {n b:Nat} {Q:AEx→ST→Prop} {t:Tag Q} (G:List Nat) (h:∀ nl:Nat→Bool,(∀ id T k cols,getH H id=some (.arr T k cols)→0<k→nl id=false)→SR P x ⟨frzS H G nl s,kill G++frzH H G nl H,n,b⟩ Q .mk):SR P x ⟨s,H,n,b⟩ Q t:=SRun.freezeN G h
theorem SR.freezeB {x:ACode} {s:Slots} {H:Heap} {n b:Nat} {Q:AEx→ST→Prop} {t:Tag Q} (G:List Nat) (h:∀ nl:Nat→Bool,SR P x ⟨frzS H G nl s,kill G++frzH H G nl H,n,b⟩ Q .mk):SR P x ⟨s,H,n,b⟩ Q t:=SRun.freezeB G h
theorem comp_kind {nt:Nat} {c:Code} {ac:ACode} (h:comp P nt c=some ac):(∀ id x,ac=.block id x→∃ c1,c=.block id c1∧comp P nt c1=some x)∧(∀ x,ac=.loop x→∃ c1,c=.loop c1∧comp P nt c1=some x) ∧
  (∀ x a b,ac=.cond x a b→∃ o c1 c2,c=.cond o c1 c2∧compX o=some x∧comp P nt c1=some a∧comp P nt c2=some b):=by
 cases c with
 | region id ops d =>
  simp only [comp] at h
  cases d
  ·simp only [cond_false] at h
   obtain ⟨_,_,rfl⟩:=map_some h
   exact ⟨fun _ _ e=>(by cases e),fun _ e=>(by cases e),fun _ _ _ e=>(by cases e)⟩
  ·simp only [cond_true] at h
   cases hb:closedB ops (Region.before ops).toList && P.follows .mixedOrders
   ·simp [hb] at h
   ·simp only [hb,cond_true] at h
    obtain ⟨_,_,rfl⟩:=map_some h
    exact ⟨fun _ _ e=>(by cases e),fun _ e=>(by cases e),fun _ _ _ e=>(by cases e)⟩
 | cond o a b =>
  simp only [comp] at h
  split at h
  ·rename_i x' y' z' h1 h2 h3
   injection h with h
   subst h
   refine ⟨fun _ _ e=>(by cases e),fun _ e=>(by cases e),fun x a' b' e=>?_⟩
   injection e with e1 e2 e3
   subst e1; subst e2; subst e3
   exact ⟨_,_,_,rfl,h1,h2,h3⟩
  ·cases h
 | block i x =>
  simp only [comp] at h
  obtain ⟨x',hx,rfl⟩:=map_some h
  refine ⟨fun id y e=>?_,fun _ e=>(by cases e),fun _ _ _ e=>(by cases e)⟩
  injection e with e1 e2
  subst e1; subst e2
  exact ⟨x,rfl,hx⟩
 | loop x =>
  simp only [comp] at h
  obtain ⟨x',hx,rfl⟩:=map_some h
  refine ⟨fun _ _ e=>(by cases e),fun y e=>?_,fun _ _ _ e=>(by cases e)⟩
  injection e with e1
  subst e1
  exact ⟨x,rfl,hx⟩
 | seq c1 c2 =>
  simp only [comp] at h
  split at h
  ·injection h with h
   subst h
   exact ⟨fun _ _ e=>(by cases e),fun _ e=>(by cases e),fun _ _ _ e=>(by cases e)⟩
  ·cases h
 | skip=>simp only [comp,Option.some.injEq] at h; subst h; exact ⟨fun _ _ e=>(by cases e),fun _ e=>(by cases e),fun _ _ _ e=>(by cases e)⟩
 | ret=>simp only [comp,Option.some.injEq] at h; subst h; exact ⟨fun _ _ e=>(by cases e),fun _ e=>(by cases e),fun _ _ _ e=>(by cases e)⟩
 | exit i=>simp only [comp,Option.some.injEq] at h; subst h; exact ⟨fun _ _ e=>(by cases e),fun _ e=>(by cases e),fun _ _ _ e=>(by cases e)⟩
 | _=>simp [comp] at h
theorem SRun.block {id:Nat} {x:ACode} {st:ST} {Q:AEx→ST→Prop} (h:SRun P x st (blkK id Q)):SRun P (.block id x) st Q:=fun nt c C Y m a w hc hS=>by
 obtain ⟨c1,rfl,hx⟩:=(comp_kind hc).1 id x rfl
 refine wp_block (wp_mono (h nt c1 C Y m a w hx hS) ?_)
 intro e a w hp
 cases e with
 | normal=>exact hp
 | ret=>exact hp
 | exit i =>
  obtain ⟨st',Y',m',hq,hs⟩:=hp
  rw [blkK_eq] at hq
  have hq':bif i==id then Q .normal st' else Q (.exit i) st':=hq
  show if i=id then PostA C nt Q .normal a w else PostA C nt Q (.exit i) a w
  by_cases e:i=id
  ·subst e
   rw [if_pos rfl]
   exact ⟨st',Y',m',by simpa using hq',hs⟩
  ·have:(i==id)=false:=by simpa using e
   rw [if_neg e]
   exact ⟨st',Y',m',by simpa [this] using hq',hs⟩
 | goto l=>exact hp.elim
 | panic c=>exact hp.elim
 | outgrown=>exact hp.elim
theorem SRun.cond {x:AX} {y z:ACode} {st:ST} {t:Bool} {Q:AEx→ST→Prop} (ht:x.val st.slots=.bool t) (h1:t=true→SRun P y st Q) (h2:t=false→SRun P z st Q):SRun P (.cond x y z) st Q:=fun nt c C Y m a w hc hS=>by
 obtain ⟨o,c1,c2,rfl,hx,hy,hz⟩:=(comp_kind hc).2.2 x y z rfl
 have hv:=hS.operand o x hx
 rw [ht] at hv
 exact wp_cond_split hv.bool_inv (fun e=>h1 e nt c1 C Y m a w hy hS) (fun e=>h2 e nt c2 C Y m a w hz hS)
theorem SRun.loop {x:ACode} {st:ST} {Q:AEx→ST→Prop} {ι:Type} (I:ι→ST) (μ:ι→Nat) (i0:ι) (hcov:Cov st (I i0)) (hstep:∀ i,SRun P x (I i) (loopK (fun s=>∃ y,μ y<μ i∧Cov s (I y)) Q)):SRun P (.loop x) st Q:=fun nt c C Y m a w hc hS=>by
 obtain ⟨c1,rfl,hx⟩:=(comp_kind hc).2.1 x rfl
 obtain ⟨Y0,m0,hS0⟩:=hcov C nt Y m a w hS
 let good:Act→World→Nat→Prop:=fun a w k=>∃ i Y m,Sat C nt Y m (I i) a w∧μ i=k
 let M:Act→World→Nat:=fun a w=>open Classical in if h:∃ k,good a w k then Classical.choose (least h) else 0
 have hM:∀ a w k,good a w k→good a w (M a w)∧M a w≤k:=by
  intro a w k hk
  have hex:∃ k,good a w k:=⟨k,hk⟩
  have e:M a w=Classical.choose (least hex):=by simp only [M]; rw [dif_pos hex]
  have sp:=Classical.choose_spec (least hex)
  rw [e]
  exact ⟨sp.1,sp.2 k hk⟩
 refine wp_loop (fun a w=>∃ k,good a w k) M ⟨_,i0,Y0,m0,hS0,rfl⟩ ?_
 rintro a w ⟨k,hk⟩
 obtain ⟨⟨i,Y,m,hS,hi⟩,_⟩:=hM a w k hk
 refine wp_mono (hstep i nt c1 C Y m a w hx hS) ?_
 intro e a1 w1 hp
 cases e with
 | normal =>
  obtain ⟨st',Y',m',⟨j,hlt,hc2⟩,hs⟩:=hp
  obtain ⟨Y2,m2,hS2⟩:=hc2 C nt Y' m' a1 w1 hs
  have hg:good a1 w1 (μ j):=⟨j,Y2,m2,hS2,rfl⟩
  exact ⟨⟨_,hg⟩,by have:=(hM a1 w1 _ hg).2; omega⟩
 | exit i=>exact hp
 | ret=>exact hp
 | goto l=>exact hp.elim
 | panic c=>exact hp.elim
 | outgrown=>exact hp.elim
theorem SR.block {id:Nat} {x:ACode} {st:ST} {Q:AEx→ST→Prop} {t:Tag Q} (h:SR P x st (blkK id Q) .mk):SR P (.block id x) st Q t:=SRun.block h
theorem SR.loopP {x:ACode} {st:ST} {Q:AEx→ST→Prop} {t:Tag Q} {ι:Type} (p:ι→Prop) (I:ι→ST) (μ:ι→Nat) (i0:ι) (h0:p i0) (hcov:Cov st (I i0))
  (hstep:∀ i,p i→SR P x (I i) (loopK (fun s=>∃ y,(p y∧μ y<μ i)∧Cov s (I y)) Q) .mk):SR P (.loop x) st Q t :=
 SRun.loop (ι:={i:ι // p i}) (fun i=>I i.1) (fun i=>μ i.1) ⟨i0,h0⟩ hcov fun i=>by
  refine SRun.mono (fun e s hk=>?_) (hstep i.1 i.2)
  cases e with
  | normal=>obtain ⟨y,⟨h1,h2⟩,h3⟩:=hk; exact ⟨⟨y,h1⟩,h2,h3⟩
  | exit j=>exact hk
  | ret=>exact hk
theorem SR.seqW {x y:ACode} {st:ST} {Q:AEx→ST→Prop} {t:Tag Q} {ι:Type} (I:ι→ST) (h:SR P x st (seqK (fun s=>∃ i,Cov s (I i)) Q) .mk) (h2:∀ i,SR P y (I i) Q .mk):SR P (.seq x y) st Q t :=
 SRun.seq (SRun.mono (Q:=seqK (fun s=>∃ i,Cov s (I i)) Q) (fun e s hk=>by
  cases e
  ·obtain ⟨i,hk⟩:=hk; exact SRun.cov hk (h2 i)
  ·exact hk
  ·exact hk) h)
theorem SR.cond {x:AX} {y z:ACode} {st:ST} {b:Bool} {Q:AEx→ST→Prop} {t:Tag Q} (ht:x.val st.slots=.bool b) (h1:b=true→SR P y st Q .mk) (h2:b=false→SR P z st Q .mk):SR P (.cond x y z) st Q t:=SRun.cond ht h1 h2
theorem SR.last {x:ACode} {st:ST} {Q:AEx→ST→Prop} {t:Tag Q} (h:Run P x st Q .mk):SR P x st Q t:=SR.run h
open Go.RowKit
variable {P:Program}
end Go.Proofs.Yteepabfepfehgaa
