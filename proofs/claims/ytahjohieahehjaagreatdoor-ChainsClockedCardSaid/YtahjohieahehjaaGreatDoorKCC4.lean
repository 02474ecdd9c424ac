/-
 Contracts that say of a result only that there is one with a property: the run without frozen arrays picks it,the same for all concrete worlds.
-/
import Derived.Test.YtahjohieahehjaaGreatDoorKCC3
import Derived.KernelRfl
import Derived.IntWalk
set_option linter.unusedVariables false
set_option linter.unusedSimpArgs false
namespace Go.Proofs.YtahjohieahehjaaGreatDoor
open Go.RowKit
section
variable (P:Program)
def run0Op (s:Slots) (H:Heap) (n:Nat) (K:PV→Heap→Prop):AOp→Prop
 | .call f args=>CallX P f (args.map (AX.val s)) H n (fun v u _=>K v u)
 | .callv x args=>onFn (x.val s) fun f cap=>CallX P f (args.map (AX.val s)++cap) H n (fun v u _=>K v u)
 | op=>bindStep (step (AX.val s) H n op) K
def run0Ops:List AIn→Slots→Heap→Nat→(Slots→Heap→Nat→Prop)→Prop
 | [],s,H,n,K=>K s H n
 | ⟨d,none,op⟩::l,s,H,n,K=>run0Op P s H n (fun v u=>run0Ops l (putS s d v) (u++H) (n+4) K) op
 | ⟨d,some (j,true),op⟩::l,s,H,n,K=>onGrd (getS s j) (fun b=>split2 b
   (fun _=>run0Op P ((j,.bool true)::s) H n (fun v u=>run0Ops l (putS ((j,.bool true)::s) d v) (u++H) (n+4) K) op)
   (fun _=>run0Ops l (putS ((j,.bool false)::s) d (.tup [])) H (n+4) K)) (fun _=>run0Ops l (putS s d (.tup [])) H (n+4) K)
 | ⟨d,some (j,false),op⟩::l,s,H,n,K=>onGrd (getS s j) (fun b=>split2 b
   (fun _=>run0Ops l (putS ((j,.bool true)::s) d (.tup [])) H (n+4) K)
   (fun _=>run0Op P ((j,.bool false)::s) H n (fun v u=>run0Ops l (putS ((j,.bool false)::s) d v) (u++H) (n+4) K) op)) (fun _=>run0Ops l (putS s d (.tup [])) H (n+4) K)
def run0:ACode→ST→(AEx→ST→Prop)→Prop
 | .skip,st,Q=>Q .normal st
 | .ops l,st,Q=>run0Ops P l st.slots st.heap st.next (fun s H n=>Q .normal ⟨s,H,n,st.base⟩)
 | .any l,st,Q=>runAny P l [] st.slots st.heap st.next (fun s H n=>Q .normal ⟨s,H,n,st.base⟩)
 | .seq a b,st,Q=>run0 a st (seqK (fun s=>run0 b s Q) Q)
 | .cond x a b,st,Q=>onBool (x.val st.slots) fun c=>split2 c (fun _=>run0 a st Q) (fun _=>run0 b st Q)
 | .block id c,st,Q=>run0 c st (blockK id Q)
 | .loop c,st,Q=>LoopOK (run0 c) st Q
 | .exit i,st,Q=>Q (.exit i) st
 | .ret,st,Q=>Q .ret st
variable {P} {ι:Type}
theorem bindStep_ex {s:Step} {K:PV→Heap→Prop} {K':ι→PV→Heap→Prop} (h:∀ v u,K v u→∃ i,K' i v u) (k:bindStep s K):∃ i,bindStep s (K' i):=by
 unfold bindStep at k
 split at k
 ·obtain ⟨i,hi⟩:=h _ _ k.2
  exact ⟨i,k.1,hi⟩
 ·exact k.elim
theorem CallX_ex {f:Nat} {az:List PV} {H:Heap} {n:Nat} {K:PV→Heap→List Nat→Prop} {K':ι→PV→Heap→List Nat→Prop} (h:∀ v u r,K v u r→∃ i,K' i v u r) (k:CallX P f az H n K):∃ i,CallX P f az H n (K' i):=by
 obtain ⟨L,F,Hs,r,u,h1,h2,h3,h4,h5⟩:=k
 obtain ⟨i,hi⟩:=h _ _ _ h5
 exact ⟨i,L,F,Hs,r,u,h1,h2,h3,h4,hi⟩
theorem onFn_ex {p:PV} {K:Nat→List PV→Prop} {K':ι→Nat→List PV→Prop} (h:∀ f c,K f c→∃ i,K' i f c) (k:onFn p K):∃ i,onFn p (K' i):=by
 unfold onFn at k
 split at k
 ·exact h _ _ k
 ·exact k.elim
theorem onGrd_ex {p:PV} {X Y:Unit→Prop} {X' Y':ι→Unit→Prop} {Z:Unit→Prop} {Z':ι→Unit→Prop} (hx:X ()→∃ i,X' i ()) (hy:Y ()→∃ i,Y' i ()) (hz:Z ()→∃ i,Z' i ()) (k:onGrd p (fun b=>split2 b X Y) Z):∃ i,onGrd p (fun b=>split2 b (X' i) (Y' i)) (Z' i):=by
 unfold onGrd at k
 split at k
 ·rename_i b
  cases b with
  | true=>obtain ⟨i,hi⟩:=hx (k.1 rfl); exact ⟨i,⟨fun _=>hi,fun h=>(by cases h)⟩⟩
  | false=>obtain ⟨i,hi⟩:=hy (k.2 rfl); exact ⟨i,⟨fun h=>(by cases h),fun _=>hi⟩⟩
 ·obtain ⟨i,hi⟩:=hz k; exact ⟨i,hi⟩
 ·exact k.elim
theorem onBool_ex {p:PV} {X Y:Unit→Prop} {X' Y':ι→Unit→Prop} (hx:X ()→∃ i,X' i ()) (hy:Y ()→∃ i,Y' i ()) (k:onBool p (fun b=>split2 b X Y)):∃ i,onBool p (fun b=>split2 b (X' i) (Y' i)):=by
 unfold onBool at k
 split at k
 ·rename_i b
  cases b with
  | true=>obtain ⟨i,hi⟩:=hx (k.1 rfl); exact ⟨i,⟨fun _=>hi,fun h=>(by cases h)⟩⟩
  | false=>obtain ⟨i,hi⟩:=hy (k.2 rfl); exact ⟨i,⟨fun h=>(by cases h),fun _=>hi⟩⟩
 ·exact k.elim
theorem runOp_ex {s:Slots} {H:Heap} {n:Nat} {K:PV→Heap→Prop} {K':ι→PV→Heap→Prop} (h:∀ v u,K v u→∃ i,K' i v u) (op:AOp) (k:run0Op P s H n K op):∃ i,runOp P s H n (K' i) op:=by
 cases op with
 | call f args =>
  simp only [run0Op] at k
  obtain ⟨i,hi⟩:=CallX_ex (K':=fun i v u _=>K' i v u) (fun v u _ hk=>h v u hk) k
  exact ⟨i,CallO.x hi⟩
 | callv x args =>
  simp only [run0Op] at k
  obtain ⟨i,hi⟩:=onFn_ex (K':=fun i f cap=>CallX P f (args.map (AX.val s)++cap) H n (fun v u _=>K' i v u)) (fun f c hk=>CallX_ex (K':=fun i v u _=>K' i v u) (fun v u _ hk=>h v u hk) hk) k
  exact ⟨i,by simp only [runOp]; exact onFn_mono (fun f c hk=>CallO.x hk) hi⟩
 | _ =>
  simp only [run0Op] at k
  obtain ⟨i,hi⟩:=bindStep_ex h k
  exact ⟨i,by simp only [runOp]; exact hi⟩
theorem runOps_ex:∀ (l:List AIn) (s:Slots) (H:Heap) (n:Nat) {K:Slots→Heap→Nat→Prop} {K':ι→Slots→Heap→Nat→Prop},(∀ s H n,K s H n→∃ i,K' i s H n)→run0Ops P l s H n K→∃ i,runOps P l s H n (K' i)
 | [],s,H,n,K,K',h,k=>h _ _ _ k
 | ⟨d,none,op⟩::l,s,H,n,K,K',h,k=>by
  simp only [run0Ops] at k
  simp only [runOps]
  exact runOp_ex (fun v u hk=>runOps_ex l _ _ _ h hk) op k
 | ⟨d,some (j,true),op⟩::l,s,H,n,K,K',h,k=>by
  simp only [run0Ops] at k
  simp only [runOps]
  exact onGrd_ex (fun hk=>runOp_ex (fun v u hk=>runOps_ex l _ _ _ h hk) op hk) (fun hk=>runOps_ex l _ _ _ h hk) (fun hk=>runOps_ex l _ _ _ h hk) k
 | ⟨d,some (j,false),op⟩::l,s,H,n,K,K',h,k=>by
  simp only [run0Ops] at k
  simp only [runOps]
  exact onGrd_ex (fun hk=>runOps_ex l _ _ _ h hk) (fun hk=>runOp_ex (fun v u hk=>runOps_ex l _ _ _ h hk) op hk) (fun hk=>runOps_ex l _ _ _ h hk) k
theorem opX_ex {s:Slots} {H:Heap} {n:Nat} {K:PV→Heap→List Nat→Prop} {K':ι→PV→Heap→List Nat→Prop} (h:∀ v u r,K v u r→∃ i,K' i v u r) (op:AOp) (k:opX P s H n K op):∃ i,opX P s H n (K' i) op:=by
 cases op with
 | call f args =>
  simp only [opX] at k ⊢
  exact CallX_ex (fun v u r hk=>by obtain ⟨i,hi⟩:=h _ _ _ hk.2; exact ⟨i,hk.1,hi⟩) k
 | callv x args =>
  simp only [opX] at k ⊢
  exact onFn_ex (fun f c hk=>CallX_ex (fun v u r hk=>by obtain ⟨i,hi⟩:=h _ _ _ hk.2; exact ⟨i,hk.1,hi⟩) hk) k
 | _=>simp only [opX] at k ⊢; exact bindStep_ex (fun v u hk=>h _ _ _ hk) k
theorem and_ex {a:Prop} {X:Prop} {X':ι→Prop} (h:X→∃ i,X' i) (k:a∧X):∃ i,a∧X' i:=by
 obtain ⟨i,hi⟩:=h k.2; exact ⟨i,k.1,hi⟩
theorem runAny_ex:∀ (l:List (AIn × List Nat)) (recs:List Rec1) (s:Slots) (H:Heap) (n:Nat) {K:Slots→Heap→Nat→Prop} {K':ι→Slots→Heap→Nat→Prop},(∀ s H n,K s H n→∃ i,K' i s H n)→runAny P l recs s H n K→∃ i,runAny P l recs s H n (K' i)
 | [],recs,s,H,n,K,K',h,k=>h _ _ _ k
 | (⟨d,none,op⟩,fr)::l,recs,s,H,n,K,K',h,k=>by
  simp only [runAny] at k ⊢
  exact opX_ex (fun v u r hk=>and_ex (fun hk=>runAny_ex l _ _ _ _ h hk) hk) op k
 | (⟨d,some (j,true),op⟩,fr)::l,recs,s,H,n,K,K',h,k=>by
  simp only [runAny] at k ⊢
  exact onGrd_ex (fun hk=>opX_ex (fun v u r hk=>and_ex (fun hk=>runAny_ex l _ _ _ _ h hk) hk) op hk) (fun hk=>and_ex (fun hk=>runAny_ex l _ _ _ _ h hk) hk) (fun hk=>and_ex (fun hk=>runAny_ex l _ _ _ _ h hk) hk) k
 | (⟨d,some (j,false),op⟩,fr)::l,recs,s,H,n,K,K',h,k=>by
  simp only [runAny] at k ⊢
  exact onGrd_ex (fun hk=>and_ex (fun hk=>runAny_ex l _ _ _ _ h hk) hk) (fun hk=>opX_ex (fun v u r hk=>and_ex (fun hk=>runAny_ex l _ _ _ _ h hk) hk) op hk) (fun hk=>and_ex (fun hk=>runAny_ex l _ _ _ _ h hk) hk) k
def GoodL {κ:Type} (P:Program) (c:ACode) (I:κ→ST) (Q:AEx→ST→Prop):Nat→κ→Prop
 | 0,_=>False
 | m+1,x=>run P c (I x) (loopK (fun s=>∃ y,Cov s (I y)∧GoodL P c I Q m y) Q)
theorem run_ex:∀ (c:ACode) (st:ST) {Q:AEx→ST→Prop} {Q':ι→AEx→ST→Prop},(∀ e s,Q e s→∃ i,Q' i e s)→run0 P c st Q→∃ i,run P c st (Q' i)
 | .skip,st,Q,Q',h,k=>h _ _ k
 | .ops l,st,Q,Q',h,k=>runOps_ex l _ _ _ (fun s H n hk=>h _ _ hk) k
 | .any l,st,Q,Q',h,k=>runAny_ex l _ _ _ _ (fun s H n hk=>h _ _ hk) k
 | .seq a b,st,Q,Q',h,k=>run_ex a st (Q':=fun i=>seqK (fun s=>run P b s (Q' i)) (Q' i)) (fun e s hk=>by
   cases e
   ·exact run_ex b s h hk
   ·exact h _ _ hk
   ·exact h _ _ hk) k
 | .cond x a b,st,Q,Q',h,k=>onBool_ex (fun hk=>run_ex a st h hk) (fun hk=>run_ex b st h hk) k
 | .block id c,st,Q,Q',h,k=>run_ex c st (Q':=fun i=>blockK id (Q' i)) (fun e s hk=>by
   cases e with
   | normal=>exact h _ _ hk
   | ret=>exact h _ _ hk
   | exit i =>
    simp only [blockK] at hk ⊢
    cases hi:(i==id) <;> simp only [hi,cond_true,cond_false] at hk ⊢
    ·exact h _ _ hk
    ·exact h _ _ hk) k
 | .loop c,st,Q,Q',h,k=>by
  obtain ⟨κ,I,μ,x,h1,h2⟩:=k
  have key:∀ (m:Nat) (x:κ),μ x<m→∃ i,GoodL P c I (Q' i) m x:=by
   intro m
   induction m with
   | zero=>intro x hx; exact absurd hx (Nat.not_lt_zero _)
   | succ m ih =>
    intro x hx
    exact run_ex c (I x) (Q':=fun i=>loopK (fun s=>∃ y,Cov s (I y)∧GoodL P c I (Q' i) m y) (Q' i)) (fun e s hk=>by
     cases e with
     | normal =>
      obtain ⟨y,hy,hc⟩:=hk
      obtain ⟨i,hi⟩:=ih y (by omega)
      exact ⟨i,y,hc,hi⟩
     | exit j=>exact h _ _ hk
     | ret=>exact h _ _ hk) (h2 x)
  obtain ⟨i,hi⟩:=key (μ x+1) x (Nat.lt_succ_self _)
  refine ⟨i,{p:Nat × κ // GoodL P c I (Q' i) p.1 p.2},fun p=>I p.1.2,fun p=>p.1.1,⟨(μ x+1,x),hi⟩,h1,fun p=>?_⟩
  obtain ⟨⟨m,y⟩,hp⟩:=p
  cases m with
  | zero=>exact hp.elim
  | succ m =>
   refine run_mono c _ (fun e s hk=>?_) hp
   cases e with
   | normal =>
    obtain ⟨z,hc,hz⟩:=hk
    exact ⟨⟨(m,z),hz⟩,Nat.lt_succ_self _,hc⟩
   | exit j=>exact hk
   | ret=>exact hk
 | .exit i,st,Q,Q',h,k=>h _ _ k
 | .ret,st,Q,Q',h,k=>h _ _ k
end
section
variable (P:Program)
def ROp0 (s:Slots) (H:Heap) (n:Nat) (K:PV→Heap→Prop) (t:Tag K):AOp→Prop
 | .call f args=>CX P f (args.map (AX.val s)) H n (fun v u _=>K v u) .mk
 | .callv x args=>OF (x.val s) (fun f cap=>CX P f (args.map (AX.val s)++cap) H n (fun v u _=>K v u) .mk) .mk
 | op=>BS (step (AX.val s) H n op) K t
theorem ROp0_eq (s:Slots) (H:Heap) (n:Nat) (K:PV→Heap→Prop) (t:Tag K) (op:AOp):ROp0 P s H n K t op=run0Op P s H n K op:=by cases op <;> rfl
def ROps0:List AIn→Slots→Heap→Nat→(K:Slots→Heap→Nat→Prop)→Tag K→Prop
 | [],s,H,n,K,_=>K s H n
 | ⟨d,none,op⟩::l,s,H,n,K,t=>ROp0 P s H n (fun v u=>ROps0 l (putS s d v) (u++H) (n+4) K t) .mk op
 | ⟨d,some (j,true),op⟩::l,s,H,n,K,t=>OG (getS s j) (fun b=>S2 b
   (fun _=>ROp0 P ((j,.bool true)::s) H n (fun v u=>ROps0 l (putS ((j,.bool true)::s) d v) (u++H) (n+4) K t) .mk op)
   (fun _=>ROps0 l (putS ((j,.bool false)::s) d (.tup [])) H (n+4) K t) .mk .mk) (fun _=>ROps0 l (putS s d (.tup [])) H (n+4) K t) .mk .mk
 | ⟨d,some (j,false),op⟩::l,s,H,n,K,t=>OG (getS s j) (fun b=>S2 b
   (fun _=>ROps0 l (putS ((j,.bool true)::s) d (.tup [])) H (n+4) K t)
   (fun _=>ROp0 P ((j,.bool false)::s) H n (fun v u=>ROps0 l (putS ((j,.bool false)::s) d v) (u++H) (n+4) K t) .mk op) .mk .mk) (fun _=>ROps0 l (putS s d (.tup [])) H (n+4) K t) .mk .mk
theorem ROps0_eq:∀ (l:List AIn) (s:Slots) (H:Heap) (n:Nat) (K:Slots→Heap→Nat→Prop) (t:Tag K),ROps0 P l s H n K t=run0Ops P l s H n K
 | [],s,H,n,K,t=>rfl
 | ⟨d,none,op⟩::l,s,H,n,K,t=>by
  simp only [ROps0,run0Ops,ROp0_eq,ROps0_eq l]
 | ⟨d,some (j,true),op⟩::l,s,H,n,K,t=>by
  simp only [ROps0,run0Ops,ROp0_eq,ROps0_eq l,OG,S2]
 | ⟨d,some (j,false),op⟩::l,s,H,n,K,t=>by
  simp only [ROps0,run0Ops,ROp0_eq,ROps0_eq l,OG,S2]
def LP0 (c:ACode) (st:ST) (Q:AEx→ST→Prop) (_:Tag Q):Prop:=LoopOK (run0 P c) st Q
def Run0:ACode→ST→(Q:AEx→ST→Prop)→Tag Q→Prop
 | .skip,st,Q,_=>Q .normal st
 | .ops l,st,Q,_=>ROps0 P l st.slots st.heap st.next (fun s H n=>Q .normal ⟨s,H,n,st.base⟩) .mk
 | .any l,st,Q,_=>RAny P l [] st.slots st.heap st.next (fun s H n=>Q .normal ⟨s,H,n,st.base⟩) .mk
 | .seq a b,st,Q,t=>Run0 a st (seqK (fun s=>Run0 b s Q t) Q) .mk
 | .cond x a b,st,Q,t=>OB (x.val st.slots) (fun c=>S2 c (fun _=>Run0 a st Q t) (fun _=>Run0 b st Q t) .mk .mk) .mk
 | .block id c,st,Q,_=>Run0 c st (blkK id Q) .mk
 | .loop c,st,Q,t=>LP0 P c st Q t
 | .exit i,st,Q,_=>Q (.exit i) st
 | .ret,st,Q,_=>Q .ret st
theorem Run0_eq:∀ (c:ACode) (st:ST) (Q:AEx→ST→Prop) (t:Tag Q),Run0 P c st Q t=run0 P c st Q
 | .skip,st,Q,t=>rfl
 | .ops l,st,Q,t=>by simp only [Run0,run0,ROps0_eq]
 | .any l,st,Q,t=>by simp only [Run0,run0,RAny_eq]
 | .seq a b,st,Q,t=>by simp only [Run0,run0,Run0_eq a,Run0_eq b]
 | .cond x a b,st,Q,t=>by simp only [Run0,run0,Run0_eq a,Run0_eq b,OB,S2]
 | .block id c,st,Q,t=>by simp only [Run0,run0,Run0_eq c,blkK_eq]
 | .loop c,st,Q,t=>by simp only [Run0,run0,LP0]
 | .exit i,st,Q,t=>rfl
 | .ret,st,Q,t=>rfl
end
def EndOK {ι:Type} (Post:ι→Prop) (rs:List ARes) (Hs:Heap) (nid:Nat) (r:ι→PV) (u:ι→Heap) (e:AEx) (s:ST):Prop:=∃ i,Post i∧RetOK rs Hs nid (r i) (u i) e s
theorem EndOK.mk {ι:Type} {Post:ι→Prop} {rs:List ARes} {Hs:Heap} {nid:Nat} {r:ι→PV} {u:ι→Heap} {e:AEx} {s:ST} (i:ι) (h:Post i) (h2:RetOK rs Hs nid (r i) (u i) e s):EndOK Post rs Hs nid r u e s:=⟨i,h,h2⟩
theorem acall_ex {P:Program} {f:Nat} {af:AFn} {args:List PV} {Hs:Heap} {nid:Nat} {ι:Type} {Post:ι→Prop} {r:ι→PV} {u:ι→Heap} (hc:compF P f=some af) (hn:args.length≤af.nt)
  (h:Run0 P af.body ⟨argSlots 0 args,Hs,nid,nid⟩ (EndOK Post af.res Hs nid r u) .mk):∃ i,Post i∧ACall P f args Hs nid (r i) (u i):=by
 rw [Run0_eq] at h
 obtain ⟨⟨i,hi⟩,hr⟩:=run_ex (ι:={i:ι // Post i}) af.body _ (Q':=fun i=>RetOK af.res Hs nid (r i.1) (u i.1)) (fun e s hk=>by
  obtain ⟨i,hi,hk⟩:=hk
  exact ⟨⟨i,hi⟩,hk⟩) h
 exact ⟨i,hi,acall_of_run hc hn hr⟩
theorem LP0.mk {P:Program} {c:ACode} {st:ST} {Q:AEx→ST→Prop} {t:Tag Q} {ι:Type} (I:ι→ST) (μ:ι→Nat) (x:ι) (h1:Cov st (I x)) (h2:∀ x,Run0 P c (I x) (loopK (fun s=>∃ y,μ y<μ x∧Cov s (I y)) Q) .mk):LP0 P c st Q t :=
 LoopOK.mk I μ x h1 fun x=>by rw [← Run0_eq P c _ _ .mk]; exact h2 x
theorem LP0.mkP {P:Program} {c:ACode} {st:ST} {Q:AEx→ST→Prop} {t:Tag Q} {ι:Type} (p:ι→Prop) (I:ι→ST) (μ:ι→Nat) (x:ι) (hx:p x) (h1:Cov st (I x))
  (h2:∀ x,p x→Run0 P c (I x) (loopK (fun s=>∃ y,(p y∧μ y<μ x)∧Cov s (I y)) Q) .mk):LP0 P c st Q t :=
 LP0.mk (ι:={x:ι // p x}) (fun x=>I x.1) (fun x=>μ x.1) ⟨x,hx⟩ h1 fun x=>by
  have e:(fun s=>∃ y:{x:ι // p x},μ y.1<μ x.1∧Cov s (I y.1))=(fun s=>∃ y,(p y∧μ y<μ x.1)∧Cov s (I y)):=by
   funext s
   exact propext ⟨fun ⟨y,h1,h2⟩=>⟨y.1,⟨y.2,h1⟩,h2⟩,fun ⟨y,⟨h1,h2⟩,h3⟩=>⟨⟨y,h1⟩,h2,h3⟩⟩
  rw [e]
  exact h2 x.1 x.2
theorem CallX.onE {P:Program} {f:Nat} {args:List PV} {H:Heap} {nid:Nat} {K:PV→Heap→List Nat→Prop} {Hs:Heap} {ι:Type} {Post:ι→Prop} {r:ι→PV} {u:ι→Heap} (h:∃ i,Post i∧ACall P f args Hs nid (r i) (u i)) (hs:subH Hs H) (hK:∀ i,Post i→K (r i) (u i) (keys Hs)):CallX P f args H nid K:=by
 obtain ⟨i,hi,h⟩:=h
 exact CallX.on h hs (hK i hi)
theorem CallO.onE {P:Program} {f:Nat} {args:List PV} {H:Heap} {nid:Nat} {K:PV→Heap→Prop} {Hs:Heap} {ι:Type} {Post:ι→Prop} {r:ι→PV} {u:ι→Heap} (h:∃ i,Post i∧ACall P f args Hs nid (r i) (u i)) (hs:subH Hs H) (hK:∀ i,Post i→K (r i) (u i)):CallOK P f args H nid K:=by
 obtain ⟨i,hi,h⟩:=h
 exact CallO.on h hs (hK i hi)
theorem CallX.gave1 {P:Program} {f:Nat} {H:Heap} {nid:Nat} {K:PV→Heap→List Nat→Prop} {id n T:Nat} {cols:List Col} {r:PV} {u:Heap} (hid:getH H id=some (.arr T n cols)) (h:∀ nl,ACall P f [.lit nl n cols] [] nid r u) (hu:getH u id=none) (hK:K r (u++[(id,none)]) [id]) (ho:noOs cols=true:=by rfl):CallX P f [.sl id 0 n] H nid K :=
 CallX.gave [id] (fun nl=>by
  have e:lends H [id] nl [.sl id 0 n]=[.lit (nl id) n cols]:=by simp [lends,lend,hid,ho,noOs]
  rw [e]; exact h _) (by simpa using hu) hK
theorem CallO.gave1 {P:Program} {f:Nat} {H:Heap} {nid:Nat} {K:PV→Heap→Prop} {id n T:Nat} {cols:List Col} {r:PV} {u:Heap} (hid:getH H id=some (.arr T n cols)) (h:∀ nl,ACall P f [.lit nl n cols] [] nid r u) (hu:getH u id=none) (hK:K r (u++[(id,none)])) (ho:noOs cols=true:=by rfl):CallOK P f [.sl id 0 n] H nid K :=
 CallO.x (CallX.gave1 hid h hu hK ho)
theorem aqT0:type_of% (And.intro (And.intro (And.intro @Run0.eq_1 (And.intro @Run0.eq_2 @Run0.eq_3)) (And.intro @Run0.eq_4 (And.intro @Run0.eq_5 @Run0.eq_6))) (And.intro (And.intro @Run0.eq_7 (And.intro @Run0.eq_8 @Run0.eq_9)) (And.intro (And.intro @ROps0.eq_1 @ROps0.eq_2) (And.intro @ROps0.eq_3 @ROps0.eq_4)))) :=
 And.intro (And.intro (And.intro @Run0.eq_1 (And.intro @Run0.eq_2 @Run0.eq_3)) (And.intro @Run0.eq_4 (And.intro @Run0.eq_5 @Run0.eq_6))) (And.intro (And.intro @Run0.eq_7 (And.intro @Run0.eq_8 @Run0.eq_9)) (And.intro (And.intro @ROps0.eq_1 @ROps0.eq_2) (And.intro @ROps0.eq_3 @ROps0.eq_4)))
def bitB (n k:Nat):UInt8:=if n.testBit k then 49 else 48
def numV (n d:Nat):List UInt8:=(List.range d).map fun i=>bitB n (d - 1 - i)
theorem numV_len (n d:Nat):(numV n d).length=d:=by simp [numV]
def two64:Nat:=18446744073709551616
theorem u64_in {x:Nat} (h:x<two64):IntKind.u64.wrap (x:Int)=x:=by
 unfold two64 at h
 exact IntWalk.u64_in x ⟨by omega,by omega⟩
theorem bv_nat {x:Nat} (h:x<two64):(BitVec.ofInt IntKind.u64.bits ((x:Nat):Int)).toNat=x:=by
 rw [BitVec.ofInt_natCast,BitVec.toNat_ofNat]
 exact Nat.mod_eq_of_lt h
theorem and_u {a b:Nat} (ha:a<two64) (hb:b<two64):IntKind.u64.wrap ((BitVec.ofInt IntKind.u64.bits ((a:Nat):Int) &&& BitVec.ofInt IntKind.u64.bits ((b:Nat):Int)).toNat:Int)=((a &&& b:Nat):Int)∧a &&& b<two64:=by
 have h:a &&& b<two64:=Nat.lt_of_le_of_lt Nat.and_le_left ha
 rw [BitVec.toNat_and,bv_nat ha,bv_nat hb]
 exact ⟨u64_in h,h⟩
def Small (r:List Nat):Prop:=∀ x∈r,x<two64
theorem Small.at {r:List Nat} (h:Small r) (i:Nat):r.getD i 0<two64:=by
 rw [List.getD_eq_getElem?_getD]
 cases hg:r[i]? with
 | none=>decide
 | some x=>exact h x (List.mem_of_getElem? hg)
open Go.RowKit
section
variable {P:Program} {C:Ctx} {nt:Nat}
theorem Sat.putK {Y Y':Nat→Prop} {m m':Names} {s:Slots} {H H':Heap} {n n' b:Nat} {a:Act} {w w':World} {d:Option Nat} {p:PV} {v:Value} (h:Sat C nt Y m ⟨s,H,n,b⟩ a w) (hd:dstIn nt d=true) (hr:Rep Y' m' w' p v)
  (hH:HS C Y' m' w' H' n') (ev:Ev Y m w Y' m' w'):Sat C nt Y' m' ⟨putS s d p,H',n',b⟩ (a.put d v) w':=by
 refine ⟨?_,?_,?_,hH,h.base⟩
 ·cases d <;> simp [Act.put,h.size]
 ·cases d <;> simp [Act.put,h.defers]
 ·intro i q hq hne
  simp only at hq
  rw [getS_put] at hq
  by_cases e:d=some i
  ·subst e
   simp only [if_true] at hq
   subst hq
   have hi:i<a.tmps.size:=by rw [h.size]; simpa [dstIn] using hd
   exact ⟨v,by simp [Act.put,hi],hr⟩
  ·rw [if_neg e] at hq
   obtain ⟨u,h1,h2⟩:=h.slots i q hq hne
   refine ⟨u,?_,h2.ev ev⟩
   cases d with
   | none=>exact h1
   | some d =>
    have:d≠i:=fun h=>e (by rw [h])
    simp [Act.put,Array.getElem?_setIfInBounds_ne this,h1]
theorem call_okW {k f:Nat} {args:List PV} {H Hs:Heap} {next:Nat} {ι:Type} {Post:ι→Prop} {r:ι→PV} {u:ι→Heap} (hk:0<k) (hsub:subH Hs H) (hcall:ACallIW P k f args Hs next Post r u)
  {Y:Nat→Prop} {m:Names} {w:World} (hH:HS C Y m w H next) {vs:List Value} (hl:vs.length=args.length) (hr:∀ (i:Nat) p v,args[i]?=some p→vs[i]?=some v→Rep Y m w p v) :
  CallSat P f vs.toArray w fun v w'=>∃ i,Post i∧∃ Y' m',Rep Y' m' w' (r i) v∧HS C Y' m' w' (u i++H) (next+k)∧Ev Y m w Y' m' w':=by
 have hup:upto m next=m:=by
  funext id
  unfold upto
  split
  ·rfl
  ·exact (hH.fresh id (by omega)).symm
 have:=call_coreW (kk:=k) (L:=[]) (F:=[]) hsub (fun id h=>by cases h) (.inl rfl) (fun nl=>by rw [lends_nil0]; exact hcall) hH (fun id h _=>h) hk hl (by rw [hup]; exact hr) (by
  intro id b hb
  rw [hup]
  have hb':getH H id=some b:=by
   rcases hb with ⟨hb,_⟩ | hb
   ·cases hb
   ·exact hsub _ _ hb
  obtain ⟨pl,h1,h2,_⟩:=hH.blk id b hb'
  exact ⟨pl,h1,h2⟩)
 refine this.imp ?_
 rintro v w' ⟨i,hi,Y',m',h1,h2,h3⟩
 exact ⟨i,hi,Y',m',h1,by simpa [kill] using h2.mono (fun id (h:next+k≤id)=>(⟨by omega,by omega⟩:FrK k (fun id=>next≤id) next id)),h3⟩
end
section
variable {P:Program}
theorem SRun.callW {k f:Nat} {d:Option Nat} {args:List AX} {l:List AIn} {s:Slots} {H Hs:Heap} {n b:Nat} {Q:AEx→ST→Prop} {ι:Type} {Post:ι→Prop} {r:ι→PV} {u:ι→Heap} (hk:0<k) (hsub:subH Hs H)
  (hcall:ACallIW P k f (args.map (AX.val s)) Hs n Post r u) (hK:∀ i,Post i→run P (.ops l) ⟨putS s d (r i),u i++H,n+k,b⟩ Q):SRun P (.ops (⟨d,none,.call f args⟩::l)) ⟨s,H,n,b⟩ Q:=by
 intro nt c C Y m a w hc hS
 have done:∀ (id:Nat) (ops:Array Oper),compOps P nt ops ops.toList=some (⟨d,none,.call f args⟩::l)→wpList P ops (PostA C nt Q) ops.toList a w:=by
  intro id ops hl
  cases hops:ops.toList with
  | nil=>rw [hops] at hl; simp [compOps] at hl
  | cons o rest =>
   have hl0:=hl
   rw [hops] at hl
   simp only [compOps] at hl
   split at hl
   ·rename_i ao g rr h1 h2 h3
    split at hl
    ·rename_i hd
     simp only [Option.some.injEq,List.cons.injEq,AIn.mk.injEq] at hl
     obtain ⟨⟨e1,e2,e3⟩,e4⟩:=hl
     subst e2; subst e3; subst e4
     refine wpList_step fun K' hK'=>?_
     rw [wanted_none h2,if_pos rfl]
     obtain ⟨cl,az,ho,has,hcase⟩:=compOp_call h1 rfl
     rcases hcase with ⟨f',hf,he⟩ | ⟨t,hf,he⟩
     ·injection he with he1 he2
      subst he1; subst he2
      obtain ⟨hlen,hrep⟩:=compXs_rep hS.operand has
      have:=call_okW hk hsub hcall hS.heap hlen hrep
      refine callSat_wp ?_ this ?_
      ·have e:(cl.args.toList.map a.eval).toArray=cl.args.map a.eval:=Array.toList_inj.1 (by simp)
       rw [e]
       simp [execOp,ho,resolve,hf,Deferred.ofValue,Act.eval,invoke]
      ·rintro v w' ⟨i,hi,Y',m',g1,g2,g3⟩
       refine hK' _ _ (runOps_ok (b:=b) (K:=fun s H n=>Q .normal ⟨s,H,n,b⟩) (fun s H n Y m a w hq hs=>⟨_,Y,m,hq,hs⟩) rest _ _ _ _ Y' m' _ w' h3 (hS.putK hd g1 g2 g3) ?_)
       rw [e1]
       exact hK i hi
     ·cases he
    ·cases hl
   ·cases hl
 cases c with
 | region id ops dd =>
  cases dd
  ·simp only [comp,cond_false] at hc
   obtain ⟨l',hl',e⟩:=map_some hc
   injection e with e
   subst e
   exact wp_region_list (done id ops hl')
  ·simp only [comp,cond_true] at hc
   cases hcl:closedB ops (Region.before ops).toList && P.follows .mixedOrders
   ·simp [hcl] at hc
   ·simp only [hcl,cond_true] at hc
    obtain ⟨l',hl',e⟩:=map_some hc
    cases e
 | skip=>simp [comp] at hc
 | ret=>simp [comp] at hc
 | exit i=>simp [comp] at hc
 | seq x y=>simp only [comp] at hc; split at hc <;> simp at hc
 | cond x y z=>simp only [comp] at hc; split at hc <;> simp at hc
 | block i x=>simp only [comp] at hc; obtain ⟨_,_,e⟩:=map_some hc; cases e
 | loop x=>simp only [comp] at hc; obtain ⟨_,_,e⟩:=map_some hc; cases e
 | _=>simp [comp] at hc
theorem SR.callW {k f:Nat} {d:Option Nat} {args:List AX} {l:List AIn} {s:Slots} {H Hs:Heap} {n b:Nat} {Q:AEx→ST→Prop} {t:Tag Q} {ι:Type} {Post:ι→Prop} {r:ι→PV} {u:ι→Heap} (hk:0<k) (hsub:subH Hs H)
  (hcall:ACallIW P k f (args.map (AX.val s)) Hs n Post r u) (hK:∀ i,Post i→Run P (.ops l) ⟨putS s d (r i),u i++H,n+k,b⟩ Q .mk):SR P (.ops (⟨d,none,.call f args⟩::l)) ⟨s,H,n,b⟩ Q t :=
 SRun.callW hk hsub hcall fun i hi=>by rw [← Run_eq P _ _ _ .mk]; exact hK i hi
theorem acallIW_sr {k f:Nat} {af:AFn} {args:List PV} {Hs:Heap} {nid:Nat} {ι:Type} {Post:ι→Prop} {r:ι→PV} {u:ι→Heap} (hc:compF P f=some af) (hn:args.length≤af.nt)
  (h:SR P af.body ⟨argSlots 0 args,Hs,nid,nid⟩ (fun e s=>∃ i,Post i∧RetOKW k af.res Hs nid (r i) (u i) e s) .mk):ACallIW P k f args Hs nid Post r u:=acallIW_of_srun hc hn h
theorem RetOKW.go {k:Nat} {rs:List ARes} {Hs:Heap} {nid:Nat} {r:PV} {u:Heap} {e:AEx} {st:ST} (ren nils:List (Nat × Nat)) (he:e=.ret∨e=.normal) (h:onAll (readAll st rs) fun ps=>inRange nid (nid+k) ren=true∧inRange nid (nid+k) nils=true ∧
  apart ren nils (liveIds (u++Go.Proofs.YtahjohieahehjaaGreatDoor.over u Hs))=true∧(liveIds (u++Go.Proofs.YtahjohieahehjaaGreatDoor.over u Hs)).all (fun id=>decide (id<nid+k))=true∧HeapCov (nid+k) ren nils st.heap (u++Go.Proofs.YtahjohieahehjaaGreatDoor.over u Hs)∧PVCov (nid+k) ren nils (retPV ps) r):RetOKW k rs Hs nid r u e st:=by
 cases hp:readAll st rs with
 | none=>rw [hp] at h; exact h.elim
 | some ps =>
  rw [hp] at h
  obtain ⟨h2,h3,h4,h5,h6,h7⟩:=h
  have h6':HCov (nid+k) ren nils st.heap (u++Go.Proofs.YtahjohieahehjaaGreatDoor.over u Hs):=fun id b h=>HeapCov.get h6 h
  rcases he with rfl | rfl
  ·show onAll (readAll st rs) _
   rw [hp]
   exact ⟨ren,nils,_,getH_appOver u Hs,h2,h3,h4,h5,h6',h7⟩
  ·show onAll (readAll st rs) _
   rw [hp]
   exact ⟨ren,nils,_,getH_appOver u Hs,h2,h3,h4,h5,h6',h7⟩
def lowHeap (n:Nat) (H:Heap):Prop:=(∀ id∈keys H,id<n)∧∀ id b,getH H id=some b→lowBlk n (some b)=true
theorem ACallI.later {f:Nat} {args:List PV} {Hs:Heap} {n0 n:Nat} {ι:Type} {Post:ι→Prop} {r:ι→PV} {u:ι→Heap} (h:ACallI P f args Hs n0 Post r u) (hn:n0≤n) (ha:lowAll n0 (idsOfs args)=true) (hs:lowHeap n0 Hs)
  (hr:∀ i,Post i→lowAll n0 (idsOf (r i))=true) (hu:∀ i,Post i→lowHeap n0 (u i++Hs)):ACallI P f args Hs n Post r u:=by
 intro C vs hb hl hrep hH
 have hup:∀ id,upto C.m0 n0 id=if id<n0 then C.m0 id else none:=fun id=>rfl
 have ev0:∀ {Y:Nat→Prop} {w:World},Ev Y (upto C.m0 n0) w Y C.m0 w:=⟨Nat.le_refl _,fun _ _ _=>rfl,fun _ h=>.inl h,fun id pl h=>(upto_some h).2⟩
 let C':Ctx:={ C with m0:=upto C.m0 n0,base:=n0 }
 have hnone:∀ id,n0≤id→upto C.m0 n0 id=none:=fun id hid=>by unfold upto; rw [if_neg (by omega)]
 have hHS:HS C' C'.Y0 C'.m0 C'.w0 Hs n0:=by
  refine ⟨fun id b hb=>?_,fun id id' b b' pl pl' g hne h1 h2 h3 h4 h5=>hH.inj id id' b b' pl pl' g hne h1 h2 (upto_some h3).2 (upto_some h4).2 h5,hH.ylt,hH.keep,hH.size,hH.frame,hH.os,hH.tape,hH.output,hH.y0lt,hH.x0,hH.yless,hnone,fun id hid=>hid,fun id pl h=>h,hnone,fun id pl h=>.inl h,⟨hH.gl.le,hH.gl.same,hH.gl.off,hH.gl.ok⟩⟩
  obtain ⟨pl,h1,h2,h3⟩:=hH.blk id b hb
  have hid:id<n0:=hs.1 id (keys_of_getH hb)
  exact ⟨pl,by show upto C.m0 n0 id=some pl; unfold upto; rw [if_pos hid]; exact h1,h2.upto (hs.2 id b hb),h3⟩
 have hc:=h C' vs rfl hl (fun i p v hp hv=>Rep.uptos args vs hrep ha i p v hp hv) hHS
 refine hc.imp ?_
 rintro v w' ⟨i,hi,Y',m1,h1,h2,h3⟩
 have hm1:upto m1 n0=upto C.m0 n0:=by
  funext id
  unfold upto
  split
  ·rename_i hid
   cases e:m1 id with
   | none =>
    cases e2:C.m0 id with
    | none=>rfl
    | some pl =>
     have:=h2.names id pl (by show upto C.m0 n0 id=some pl; unfold upto; rw [if_pos hid]; exact e2)
     rw [e] at this; cases this
   | some pl =>
    rcases h2.known id pl e with hk | hk
    ·exact (upto_some hk).2.symm
    ·exact absurd (show n0≤id from hk) (by omega)
  ·rfl
 refine ⟨i,hi,Y',C.m0,?_,?_,h3.size,h3.keep,h3.less,fun id pl h=>h⟩
 ·have:=Rep.upto _ v h1 (hr i hi)
  rw [hm1] at this
  exact this.ev ev0
 ·have blk1:∀ id b,getH (u i++Hs) id=some b→id<n0∧∀ pl,m1 id=some pl→C.m0 id=some pl:=fun id b hb=>by
   have hid:id<n0:=(hu i hi).1 id (keys_of_getH hb)
   refine ⟨hid,fun pl hp=>?_⟩
   have:upto m1 n0 id=some pl:=by unfold upto; rw [if_pos hid]; exact hp
   rw [hm1] at this
   exact (upto_some this).2
  have back:∀ id b pl,getH (u i++Hs) id=some b→C.m0 id=some pl→m1 id=some pl:=fun id b pl hb hp=>by
   obtain ⟨hid,_⟩:=blk1 id b hb
   have:upto C.m0 n0 id=some pl:=by unfold upto; rw [if_pos hid]; exact hp
   rw [← hm1] at this
   exact (upto_some this).2
  refine ⟨fun id b hb=>?_,fun id id' b b' pl pl' g hne k1 k2 k3 k4 k5=>h2.inj id id' b b' pl pl' g hne k1 k2 (back id b pl k1 k3) (back id' b' pl' k2 k4) k5,h2.ylt,h2.keep,h2.size,h2.frame,h2.os,h2.tape,h2.output,h2.y0lt,h2.x0,h2.yless,hH.own,fun id hid=>by rw [hb]; omega,fun id pl h=>h,fun id hid=>hH.own id (by rw [hb]; omega),fun id pl h=>.inl h,hH.gl⟩
  obtain ⟨pl,k1,k2,k3⟩:=h2.blk id b hb
  have kk:=k2.upto ((hu i hi).2 id b hb)
  rw [hm1] at kk
  exact ⟨pl,(blk1 id b hb).2 pl k1,kk.ev ev0 (fun _ _=>rfl),k3⟩
theorem ACall.later {f:Nat} {args:List PV} {Hs:Heap} {n0 n:Nat} {r:PV} {u:Heap} (h:ACall P f args Hs n0 r u) (hn:n0≤n) (ha:lowAll n0 (idsOfs args)=true) (hs:lowHeap n0 Hs)
  (hr:lowAll n0 (idsOf r)=true) (hu:lowHeap n0 (u++Hs)):ACall P f args Hs n r u:=(h.toI.later hn ha hs (fun _ _=>hr) (fun _ _=>hu)).one
end
theorem inRange_mono {b c n:Nat} (h:b≤c) {l:List (Nat × Nat)} (hl:inRange c n l=true):inRange b n l=true:=by
 unfold inRange at *
 rw [List.all_eq_true] at *
 intro x hx
 have:=hl x hx
 simp only [Bool.and_eq_true,decide_eq_true_eq] at this ⊢
 omega
theorem Cov.goG (c:Nat) {s1 s2:Slots} {n1 n2 b:Nat} (Hs X Y:Heap) (ren nils:List (Nat × Nat)) (hbc:b≤c) (hs:Scoped c Hs) (hX:kOK c Hs X) (hr:ren.all (fun x=>decide (c≤x.2))=true)
  (h:c≤n2∧inRange c n2 ren=true∧inRange c n2 nils=true∧apart ren nils (liveIds Y)=true∧(liveIds Y).all (fun id=>decide (id<n2))=true∧HeapCov n2 ren nils X Y∧SlotsCov n2 ren nils s1 s2):Cov ⟨s1,X++Hs,n1,b⟩ ⟨s2,Y++Hs,n2,b⟩ :=
 Cov.mk ren nils rfl (Nat.le_trans hbc h.1) (inRange_mono hbc h.2.1) (inRange_mono hbc h.2.2.1) (frame_apart Hs Y hs h.2.1 hr h.2.2.2.1) (frame_lt Hs Y hs h.1 h.2.2.2.2.1) (frame_cov (n:=0) Hs X Y hs hX.mem h.2.1 h.2.2.1 h.1 h.2.2.2.2.2.1) h.2.2.2.2.2.2
inductive PreH (Hs:Heap):Heap→Heap→Prop
 | nil:PreH Hs Hs []
 | cons {a:Nat × Option ABlk} {Z X:Heap} (h:PreH Hs Z X):PreH Hs (a::Z) (a::X)
theorem PreH.eq {Hs Z X:Heap} (h:PreH Hs Z X):Z=X++Hs:=by
 induction h with
 | nil=>rfl
 | cons h ih=>rw [ih]; rfl
theorem Cov.goP (c:Nat) {s1 s2:Slots} {n1 n2 b:Nat} (Hs Y:Heap) (ren nils:List (Nat × Nat)) {X Z:Heap} (hZ:PreH Hs Z X) (hbc:b≤c) (hs:Scoped c Hs) (hX:kOK c Hs X) (hr:ren.all (fun x=>decide (c≤x.2))=true)
  (h:c≤n2∧inRange c n2 ren=true∧inRange c n2 nils=true∧apart ren nils (liveIds Y)=true∧(liveIds Y).all (fun id=>decide (id<n2))=true∧HeapCov n2 ren nils X Y∧SlotsCov n2 ren nils s1 s2):Cov ⟨s1,Z,n1,b⟩ ⟨s2,Y++Hs,n2,b⟩:=by
 have e:=hZ.eq
 subst e
 exact Cov.goG c Hs X Y ren nils hbc hs hX hr h
open Go.RowKit
section
variable {P:Program}
def SROps (P:Program) (l:List AIn) (s:Slots) (H:Heap) (n b:Nat) (Q:AEx→ST→Prop):Prop :=
 ∀ (nt:Nat) (ops:Array Oper) (rest:List Oper) (C:Ctx) (Y:Nat→Prop) (m:Names) (a:Act) (w:World),compOps P nt ops rest=some l→Sat C nt Y m ⟨s,H,n,b⟩ a w→wpList P ops (PostA C nt Q) rest a w
theorem SROps.op {d:Option Nat} {ao:AOp} {l:List AIn} {s:Slots} {H:Heap} {n b:Nat} {Q:AEx→ST→Prop} (h:runOp P s H n (fun v u=>SROps P l (putS s d v) (u++H) (n+4) b Q) ao):SROps P (⟨d,none,ao⟩::l) s H n b Q:=by
 intro nt ops rest0 C Y m a w hc hS
 cases rest0 with
 | nil=>simp [compOps] at hc
 | cons o rest =>
  simp only [compOps] at hc
  split at hc
  ·rename_i ao' g r h1 h2 h3
   split at hc
   ·rename_i hd
    simp only [Option.some.injEq,List.cons.injEq,AIn.mk.injEq] at hc
    obtain ⟨⟨e1,e2,e3⟩,e4⟩:=hc
    subst e1; subst e2; subst e3; subst e4
    refine wpList_step fun K' hK'=>?_
    rw [wanted_none h2,if_pos rfl]
    exact runOp_ok h1 hS h (fun v u val Y' m' w' hr h4 h5 h6=>hK' _ _ (hr _ _ _ _ _ _ _ _ h3 (hS.put hd h4 h5 h6)))
   ·cases hc
  ·cases hc
theorem SROps.run {l:List AIn} {s:Slots} {H:Heap} {n b:Nat} {Q:AEx→ST→Prop} (h:runOps P l s H n (fun s H n=>Q .normal ⟨s,H,n,b⟩)):SROps P l s H n b Q:=fun nt ops rest C Y m a w hc hS =>
 runOps_ok (b:=b) (K:=fun s H n=>Q .normal ⟨s,H,n,b⟩) (fun s H n Y m a w hq hs=>⟨_,Y,m,hq,hs⟩) rest _ _ _ _ Y m _ w hc hS h
theorem SROps.callW {k f:Nat} {d:Option Nat} {args:List AX} {l:List AIn} {s:Slots} {H Hs:Heap} {n b:Nat} {Q:AEx→ST→Prop} {ι:Type} {Post:ι→Prop} {r:ι→PV} {u:ι→Heap} (hk:0<k) (hsub:subH Hs H)
  (hcall:ACallIW P k f (args.map (AX.val s)) Hs n Post r u) (hK:∀ i,Post i→SROps P l (putS s d (r i)) (u i++H) (n+k) b Q):SROps P (⟨d,none,.call f args⟩::l) s H n b Q:=by
 intro nt ops rest0 C Y m a w hl hS
 cases rest0 with
 | nil=>simp [compOps] at hl
 | cons o rest =>
  simp only [compOps] at hl
  split at hl
  ·rename_i ao g rr h1 h2 h3
   split at hl
   ·rename_i hd
    simp only [Option.some.injEq,List.cons.injEq,AIn.mk.injEq] at hl
    obtain ⟨⟨e1,e2,e3⟩,e4⟩:=hl
    subst e1; subst e2; subst e3; subst e4
    refine wpList_step fun K' hK'=>?_
    rw [wanted_none h2,if_pos rfl]
    obtain ⟨cl,az,ho,has,hcase⟩:=compOp_call h1 rfl
    rcases hcase with ⟨f',hf,he⟩ | ⟨t,hf,he⟩
    ·injection he with he1 he2
     subst he1; subst he2
     obtain ⟨hlen,hrep⟩:=compXs_rep hS.operand has
     have:=call_okW hk hsub hcall hS.heap hlen hrep
     refine callSat_wp ?_ this ?_
     ·have e:(cl.args.toList.map a.eval).toArray=cl.args.map a.eval:=Array.toList_inj.1 (by simp)
      rw [e]
      simp [execOp,ho,resolve,hf,Deferred.ofValue,Act.eval,invoke]
     ·rintro v w' ⟨i,hi,Y',m',g1,g2,g3⟩
      exact hK' _ _ (hK i hi nt ops rest C Y' m' _ w' h3 (hS.putK hd g1 g2 g3))
    ·cases he
   ·cases hl
  ·cases hl
theorem SRun.ofOps {l:List AIn} {s:Slots} {H:Heap} {n b:Nat} {Q:AEx→ST→Prop} (h:SROps P l s H n b Q) (hne:l≠[]):SRun P (.ops l) ⟨s,H,n,b⟩ Q:=by
 intro nt c C Y m a w hc hS
 have done:∀ (id:Nat) (ops:Array Oper),compOps P nt ops ops.toList=some l→wpList P ops (PostA C nt Q) ops.toList a w:=fun id ops hl=>h _ _ _ _ _ _ _ _ hl hS
 cases c with
 | region id ops dd =>
  cases dd
  ·simp only [comp,cond_false] at hc
   obtain ⟨l',hl',e⟩:=map_some hc
   injection e with e
   subst e
   exact wp_region_list (done id ops hl')
  ·simp only [comp,cond_true] at hc
   cases hcl:closedB ops (Region.before ops).toList && P.follows .mixedOrders
   ·simp [hcl] at hc
   ·simp only [hcl,cond_true] at hc
    obtain ⟨l',hl',e⟩:=map_some hc
    cases e
 | skip=>simp [comp] at hc
 | ret=>simp [comp] at hc
 | exit i=>simp [comp] at hc
 | seq x y=>simp only [comp] at hc; split at hc <;> simp at hc
 | cond x y z=>simp only [comp] at hc; split at hc <;> simp at hc
 | block i x=>simp only [comp] at hc; obtain ⟨_,_,e⟩:=map_some hc; cases e
 | loop x=>simp only [comp] at hc; obtain ⟨_,_,e⟩:=map_some hc; cases e
 | _=>simp [comp] at hc
theorem SROps.mv {d:Option Nat} {x:AX} {l:List AIn} {s:Slots} {H:Heap} {n b:Nat} {Q:AEx→ST→Prop} (h:SROps P l (putS s d (AX.val s x)) H (n+4) b Q):SROps P (⟨d,none,.mv x⟩::l) s H n b Q :=
 SROps.op (by
  simp only [runOp,step,res,bindStep]
  exact ⟨trivial,h⟩)
theorem SR.seqMvCallW {k f:Nat} {d0 d:Option Nat} {x:AX} {args:List AX} {l:List AIn} {y:ACode} {s:Slots} {H Hs:Heap} {n b:Nat} {Q:AEx→ST→Prop} {t:Tag Q} {ι:Type} {Post:ι→Prop} {r:ι→PV} {u:ι→Heap} (hk:0<k) (hsub:subH Hs H)
  (hcall:ACallIW P k f (args.map (AX.val (putS s d0 (AX.val s x)))) Hs (n+4) Post r u)
  (hK:∀ i,Post i→Run P (.ops l) ⟨putS (putS s d0 (AX.val s x)) d (r i),u i++H,n+4+k,b⟩ (seqK (fun s=>SR P y s Q .mk) Q) .mk):SR P (.seq (.ops (⟨d0,none,.mv x⟩::⟨d,none,.call f args⟩::l)) y) ⟨s,H,n,b⟩ Q t :=
 SRun.seq (SRun.ofOps (SROps.mv (SROps.callW hk hsub hcall fun i hi=>SROps.run (by
  have h:=hK i hi
  rw [Run_eq] at h
  exact h))) (by simp))
end
end Go.Proofs.YtahjohieahehjaaGreatDoor
