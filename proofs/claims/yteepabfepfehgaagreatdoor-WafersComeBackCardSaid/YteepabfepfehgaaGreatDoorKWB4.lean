/-
 Contracts that say of a result only that there is one with a property: the run without frozen arrays picks it,the same for all concrete worlds.
-/
import Derived.Test.YteepabfepfehgaaGreatDoorKWB3
import Derived.Shelf.Strings.Builder1
import Derived.Lib.UnsafeStr
set_option linter.unusedVariables false
set_option linter.unusedSimpArgs false
namespace Go.Proofs.YteepabfepfehgaaGreatDoor
open Go.RowKit
section
variable (P:Program)
def run0Op (s:Slots) (H:Heap) (n:Nat) (K:PV→Heap→Prop):AOp→Prop
 | .call f args=>CallX P f (args.map (AX.val s)) H n (fun v u _=>K v u)
 | .callv x args=>onFn (x.val s) fun f cap=>CallX P f (args.map (AX.val s)++cap) H n (fun v u _=>K v u)
 | op=>bindStep (step (AX.val s) H n op) K
def run0Ops:List AIn→Slots→Heap→Nat→(Slots→Heap→Nat→Prop)→Prop
 | [],s,H,n,K=>K s H n
 | ⟨d,none,op⟩::l,s,H,n,K=>run0Op P s H n (fun v u=>run0Ops l (putS s d v) (u++H) (n+4) K) op
 | ⟨d,some (j,true),op⟩::l,s,H,n,K=>onGrd (getS s j) (fun b=>split2 b
   (fun _=>run0Op P ((j,.bool true)::s) H n (fun v u=>run0Ops l (putS ((j,.bool true)::s) d v) (u++H) (n+4) K) op)
   (fun _=>run0Ops l (putS ((j,.bool false)::s) d (.tup [])) H (n+4) K)) (fun _=>run0Ops l (putS s d (.tup [])) H (n+4) K)
 | ⟨d,some (j,false),op⟩::l,s,H,n,K=>onGrd (getS s j) (fun b=>split2 b
   (fun _=>run0Ops l (putS ((j,.bool true)::s) d (.tup [])) H (n+4) K)
   (fun _=>run0Op P ((j,.bool false)::s) H n (fun v u=>run0Ops l (putS ((j,.bool false)::s) d v) (u++H) (n+4) K) op)) (fun _=>run0Ops l (putS s d (.tup [])) H (n+4) K)
def run0:ACode→ST→(AEx→ST→Prop)→Prop
 | .skip,st,Q=>Q .normal st
 | .ops l,st,Q=>run0Ops P l st.slots st.heap st.next (fun s H n=>Q .normal ⟨s,H,n,st.base⟩)
 | .any l,st,Q=>runAny P l [] st.slots st.heap st.next (fun s H n=>Q .normal ⟨s,H,n,st.base⟩)
 | .seq a b,st,Q=>run0 a st (seqK (fun s=>run0 b s Q) Q)
 | .cond x a b,st,Q=>onBool (x.val st.slots) fun c=>split2 c (fun _=>run0 a st Q) (fun _=>run0 b st Q)
 | .block id c,st,Q=>run0 c st (blockK id Q)
 | .loop c,st,Q=>LoopOK (run0 c) st Q
 | .exit i,st,Q=>Q (.exit i) st
 | .ret,st,Q=>Q .ret st
variable {P} {ι:Type}
theorem bindStep_ex {s:Step} {K:PV→Heap→Prop} {K':ι→PV→Heap→Prop} (h:∀ v u,K v u→∃ i,K' i v u) (k:bindStep s K):∃ i,bindStep s (K' i):=by
 unfold bindStep at k
 split at k
 ·obtain ⟨i,hi⟩:=h _ _ k.2
  exact ⟨i,k.1,hi⟩
 ·exact k.elim
theorem CallX_ex {f:Nat} {az:List PV} {H:Heap} {n:Nat} {K:PV→Heap→List Nat→Prop} {K':ι→PV→Heap→List Nat→Prop} (h:∀ v u r,K v u r→∃ i,K' i v u r) (k:CallX P f az H n K):∃ i,CallX P f az H n (K' i):=by
 obtain ⟨L,F,Hs,r,u,h1,h2,h3,h4,h5⟩:=k
 obtain ⟨i,hi⟩:=h _ _ _ h5
 exact ⟨i,L,F,Hs,r,u,h1,h2,h3,h4,hi⟩
theorem onFn_ex {p:PV} {K:Nat→List PV→Prop} {K':ι→Nat→List PV→Prop} (h:∀ f c,K f c→∃ i,K' i f c) (k:onFn p K):∃ i,onFn p (K' i):=by
 unfold onFn at k
 split at k
 ·exact h _ _ k
 ·exact k.elim
theorem onGrd_ex {p:PV} {X Y:Unit→Prop} {X' Y':ι→Unit→Prop} {Z:Unit→Prop} {Z':ι→Unit→Prop} (hx:X ()→∃ i,X' i ()) (hy:Y ()→∃ i,Y' i ()) (hz:Z ()→∃ i,Z' i ()) (k:onGrd p (fun b=>split2 b X Y) Z):∃ i,onGrd p (fun b=>split2 b (X' i) (Y' i)) (Z' i):=by
 unfold onGrd at k
 split at k
 ·rename_i b
  cases b with
  | true=>obtain ⟨i,hi⟩:=hx (k.1 rfl); exact ⟨i,⟨fun _=>hi,fun h=>(by cases h)⟩⟩
  | false=>obtain ⟨i,hi⟩:=hy (k.2 rfl); exact ⟨i,⟨fun h=>(by cases h),fun _=>hi⟩⟩
 ·obtain ⟨i,hi⟩:=hz k; exact ⟨i,hi⟩
 ·exact k.elim
theorem onBool_ex {p:PV} {X Y:Unit→Prop} {X' Y':ι→Unit→Prop} (hx:X ()→∃ i,X' i ()) (hy:Y ()→∃ i,Y' i ()) (k:onBool p (fun b=>split2 b X Y)):∃ i,onBool p (fun b=>split2 b (X' i) (Y' i)):=by
 unfold onBool at k
 split at k
 ·rename_i b
  cases b with
  | true=>obtain ⟨i,hi⟩:=hx (k.1 rfl); exact ⟨i,⟨fun _=>hi,fun h=>(by cases h)⟩⟩
  | false=>obtain ⟨i,hi⟩:=hy (k.2 rfl); exact ⟨i,⟨fun h=>(by cases h),fun _=>hi⟩⟩
 ·exact k.elim
theorem runOp_ex {s:Slots} {H:Heap} {n:Nat} {K:PV→Heap→Prop} {K':ι→PV→Heap→Prop} (h:∀ v u,K v u→∃ i,K' i v u) (op:AOp) (k:run0Op P s H n K op):∃ i,runOp P s H n (K' i) op:=by
 cases op with
 | call f args =>
  simp only [run0Op] at k
  obtain ⟨i,hi⟩:=CallX_ex (K':=fun i v u _=>K' i v u) (fun v u _ hk=>h v u hk) k
  exact ⟨i,CallO.x hi⟩
 | callv x args =>
  simp only [run0Op] at k
  obtain ⟨i,hi⟩:=onFn_ex (K':=fun i f cap=>CallX P f (args.map (AX.val s)++cap) H n (fun v u _=>K' i v u)) (fun f c hk=>CallX_ex (K':=fun i v u _=>K' i v u) (fun v u _ hk=>h v u hk) hk) k
  exact ⟨i,by simp only [runOp]; exact onFn_mono (fun f c hk=>CallO.x hk) hi⟩
 | _ =>
  simp only [run0Op] at k
  obtain ⟨i,hi⟩:=bindStep_ex h k
  exact ⟨i,by simp only [runOp]; exact hi⟩
theorem runOps_ex:∀ (l:List AIn) (s:Slots) (H:Heap) (n:Nat) {K:Slots→Heap→Nat→Prop} {K':ι→Slots→Heap→Nat→Prop},(∀ s H n,K s H n→∃ i,K' i s H n)→run0Ops P l s H n K→∃ i,runOps P l s H n (K' i)
 | [],s,H,n,K,K',h,k=>h _ _ _ k
 | ⟨d,none,op⟩::l,s,H,n,K,K',h,k=>by
  simp only [run0Ops] at k
  simp only [runOps]
  exact runOp_ex (fun v u hk=>runOps_ex l _ _ _ h hk) op k
 | ⟨d,some (j,true),op⟩::l,s,H,n,K,K',h,k=>by
  simp only [run0Ops] at k
  simp only [runOps]
  exact onGrd_ex (fun hk=>runOp_ex (fun v u hk=>runOps_ex l _ _ _ h hk) op hk) (fun hk=>runOps_ex l _ _ _ h hk) (fun hk=>runOps_ex l _ _ _ h hk) k
 | ⟨d,some (j,false),op⟩::l,s,H,n,K,K',h,k=>by
  simp only [run0Ops] at k
  simp only [runOps]
  exact onGrd_ex (fun hk=>runOps_ex l _ _ _ h hk) (fun hk=>runOp_ex (fun v u hk=>runOps_ex l _ _ _ h hk) op hk) (fun hk=>runOps_ex l _ _ _ h hk) k
theorem opX_ex {s:Slots} {H:Heap} {n:Nat} {K:PV→Heap→List Nat→Prop} {K':ι→PV→Heap→List Nat→Prop} (h:∀ v u r,K v u r→∃ i,K' i v u r) (op:AOp) (k:opX P s H n K op):∃ i,opX P s H n (K' i) op:=by
 cases op with
 | call f args =>
  simp only [opX] at k ⊢
  exact CallX_ex (fun v u r hk=>by obtain ⟨i,hi⟩:=h _ _ _ hk.2; exact ⟨i,hk.1,hi⟩) k
 | callv x args =>
  simp only [opX] at k ⊢
  exact onFn_ex (fun f c hk=>CallX_ex (fun v u r hk=>by obtain ⟨i,hi⟩:=h _ _ _ hk.2; exact ⟨i,hk.1,hi⟩) hk) k
 | _=>simp only [opX] at k ⊢; exact bindStep_ex (fun v u hk=>h _ _ _ hk) k
theorem and_ex {a:Prop} {X:Prop} {X':ι→Prop} (h:X→∃ i,X' i) (k:a∧X):∃ i,a∧X' i:=by
 obtain ⟨i,hi⟩:=h k.2; exact ⟨i,k.1,hi⟩
theorem runAny_ex:∀ (l:List (AIn × List Nat)) (recs:List Rec1) (s:Slots) (H:Heap) (n:Nat) {K:Slots→Heap→Nat→Prop} {K':ι→Slots→Heap→Nat→Prop},(∀ s H n,K s H n→∃ i,K' i s H n)→runAny P l recs s H n K→∃ i,runAny P l recs s H n (K' i)
 | [],recs,s,H,n,K,K',h,k=>h _ _ _ k
 | (⟨d,none,op⟩,fr)::l,recs,s,H,n,K,K',h,k=>by
  simp only [runAny] at k ⊢
  exact opX_ex (fun v u r hk=>and_ex (fun hk=>runAny_ex l _ _ _ _ h hk) hk) op k
 | (⟨d,some (j,true),op⟩,fr)::l,recs,s,H,n,K,K',h,k=>by
  simp only [runAny] at k ⊢
  exact onGrd_ex (fun hk=>opX_ex (fun v u r hk=>and_ex (fun hk=>runAny_ex l _ _ _ _ h hk) hk) op hk) (fun hk=>and_ex (fun hk=>runAny_ex l _ _ _ _ h hk) hk) (fun hk=>and_ex (fun hk=>runAny_ex l _ _ _ _ h hk) hk) k
 | (⟨d,some (j,false),op⟩,fr)::l,recs,s,H,n,K,K',h,k=>by
  simp only [runAny] at k ⊢
  exact onGrd_ex (fun hk=>and_ex (fun hk=>runAny_ex l _ _ _ _ h hk) hk) (fun hk=>opX_ex (fun v u r hk=>and_ex (fun hk=>runAny_ex l _ _ _ _ h hk) hk) op hk) (fun hk=>and_ex (fun hk=>runAny_ex l _ _ _ _ h hk) hk) k
def GoodL {κ:Type} (P:Program) (c:ACode) (I:κ→ST) (Q:AEx→ST→Prop):Nat→κ→Prop
 | 0,_=>False
 | m+1,x=>run P c (I x) (loopK (fun s=>∃ y,Cov s (I y)∧GoodL P c I Q m y) Q)
theorem run_ex:∀ (c:ACode) (st:ST) {Q:AEx→ST→Prop} {Q':ι→AEx→ST→Prop},(∀ e s,Q e s→∃ i,Q' i e s)→run0 P c st Q→∃ i,run P c st (Q' i)
 | .skip,st,Q,Q',h,k=>h _ _ k
 | .ops l,st,Q,Q',h,k=>runOps_ex l _ _ _ (fun s H n hk=>h _ _ hk) k
 | .any l,st,Q,Q',h,k=>runAny_ex l _ _ _ _ (fun s H n hk=>h _ _ hk) k
 | .seq a b,st,Q,Q',h,k=>run_ex a st (Q':=fun i=>seqK (fun s=>run P b s (Q' i)) (Q' i)) (fun e s hk=>by
   cases e
   ·exact run_ex b s h hk
   ·exact h _ _ hk
   ·exact h _ _ hk) k
 | .cond x a b,st,Q,Q',h,k=>onBool_ex (fun hk=>run_ex a st h hk) (fun hk=>run_ex b st h hk) k
 | .block id c,st,Q,Q',h,k=>run_ex c st (Q':=fun i=>blockK id (Q' i)) (fun e s hk=>by
   cases e with
   | normal=>exact h _ _ hk
   | ret=>exact h _ _ hk
   | exit i =>
    simp only [blockK] at hk ⊢
    cases hi:(i==id) <;> simp only [hi,cond_true,cond_false] at hk ⊢
    ·exact h _ _ hk
    ·exact h _ _ hk) k
 | .loop c,st,Q,Q',h,k=>by
  obtain ⟨κ,I,μ,x,h1,h2⟩:=k
  have key:∀ (m:Nat) (x:κ),μ x<m→∃ i,GoodL P c I (Q' i) m x:=by
   intro m
   induction m with
   | zero=>intro x hx; exact absurd hx (Nat.not_lt_zero _)
   | succ m ih =>
    intro x hx
    exact run_ex c (I x) (Q':=fun i=>loopK (fun s=>∃ y,Cov s (I y)∧GoodL P c I (Q' i) m y) (Q' i)) (fun e s hk=>by
     cases e with
     | normal =>
      obtain ⟨y,hy,hc⟩:=hk
      obtain ⟨i,hi⟩:=ih y (by omega)
      exact ⟨i,y,hc,hi⟩
     | exit j=>exact h _ _ hk
     | ret=>exact h _ _ hk) (h2 x)
  obtain ⟨i,hi⟩:=key (μ x+1) x (Nat.lt_succ_self _)
  refine ⟨i,{p:Nat × κ // GoodL P c I (Q' i) p.1 p.2},fun p=>I p.1.2,fun p=>p.1.1,⟨(μ x+1,x),hi⟩,h1,fun p=>?_⟩
  obtain ⟨⟨m,y⟩,hp⟩:=p
  cases m with
  | zero=>exact hp.elim
  | succ m =>
   refine run_mono c _ (fun e s hk=>?_) hp
   cases e with
   | normal =>
    obtain ⟨z,hc,hz⟩:=hk
    exact ⟨⟨(m,z),hz⟩,Nat.lt_succ_self _,hc⟩
   | exit j=>exact hk
   | ret=>exact hk
 | .exit i,st,Q,Q',h,k=>h _ _ k
 | .ret,st,Q,Q',h,k=>h _ _ k
end
section
variable (P:Program)
def ROp0 (s:Slots) (H:Heap) (n:Nat) (K:PV→Heap→Prop) (t:Tag K):AOp→Prop
 | .call f args=>CX P f (args.map (AX.val s)) H n (fun v u _=>K v u) .mk
 | .callv x args=>OF (x.val s) (fun f cap=>CX P f (args.map (AX.val s)++cap) H n (fun v u _=>K v u) .mk) .mk
 | op=>BS (step (AX.val s) H n op) K t
theorem ROp0_eq (s:Slots) (H:Heap) (n:Nat) (K:PV→Heap→Prop) (t:Tag K) (op:AOp):ROp0 P s H n K t op=run0Op P s H n K op:=by cases op <;> rfl
def ROps0:List AIn→Slots→Heap→Nat→(K:Slots→Heap→Nat→Prop)→Tag K→Prop
 | [],s,H,n,K,_=>K s H n
 | ⟨d,none,op⟩::l,s,H,n,K,t=>ROp0 P s H n (fun v u=>ROps0 l (putS s d v) (u++H) (n+4) K t) .mk op
 | ⟨d,some (j,true),op⟩::l,s,H,n,K,t=>OG (getS s j) (fun b=>S2 b
   (fun _=>ROp0 P ((j,.bool true)::s) H n (fun v u=>ROps0 l (putS ((j,.bool true)::s) d v) (u++H) (n+4) K t) .mk op)
   (fun _=>ROps0 l (putS ((j,.bool false)::s) d (.tup [])) H (n+4) K t) .mk .mk) (fun _=>ROps0 l (putS s d (.tup [])) H (n+4) K t) .mk .mk
 | ⟨d,some (j,false),op⟩::l,s,H,n,K,t=>OG (getS s j) (fun b=>S2 b
   (fun _=>ROps0 l (putS ((j,.bool true)::s) d (.tup [])) H (n+4) K t)
   (fun _=>ROp0 P ((j,.bool false)::s) H n (fun v u=>ROps0 l (putS ((j,.bool false)::s) d v) (u++H) (n+4) K t) .mk op) .mk .mk) (fun _=>ROps0 l (putS s d (.tup [])) H (n+4) K t) .mk .mk
theorem ROps0_eq:∀ (l:List AIn) (s:Slots) (H:Heap) (n:Nat) (K:Slots→Heap→Nat→Prop) (t:Tag K),ROps0 P l s H n K t=run0Ops P l s H n K
 | [],s,H,n,K,t=>rfl
 | ⟨d,none,op⟩::l,s,H,n,K,t=>by
  simp only [ROps0,run0Ops,ROp0_eq,ROps0_eq l]
 | ⟨d,some (j,true),op⟩::l,s,H,n,K,t=>by
  simp only [ROps0,run0Ops,ROp0_eq,ROps0_eq l,OG,S2]
 | ⟨d,some (j,false),op⟩::l,s,H,n,K,t=>by
  simp only [ROps0,run0Ops,ROp0_eq,ROps0_eq l,OG,S2]
def LP0 (c:ACode) (st:ST) (Q:AEx→ST→Prop) (_:Tag Q):Prop:=LoopOK (run0 P c) st Q
def Run0:ACode→ST→(Q:AEx→ST→Prop)→Tag Q→Prop
 | .skip,st,Q,_=>Q .normal st
 | .ops l,st,Q,_=>ROps0 P l st.slots st.heap st.next (fun s H n=>Q .normal ⟨s,H,n,st.base⟩) .mk
 | .any l,st,Q,_=>RAny P l [] st.slots st.heap st.next (fun s H n=>Q .normal ⟨s,H,n,st.base⟩) .mk
 | .seq a b,st,Q,t=>Run0 a st (seqK (fun s=>Run0 b s Q t) Q) .mk
 | .cond x a b,st,Q,t=>OB (x.val st.slots) (fun c=>S2 c (fun _=>Run0 a st Q t) (fun _=>Run0 b st Q t) .mk .mk) .mk
 | .block id c,st,Q,_=>Run0 c st (blkK id Q) .mk
 | .loop c,st,Q,t=>LP0 P c st Q t
 | .exit i,st,Q,_=>Q (.exit i) st
 | .ret,st,Q,_=>Q .ret st
theorem Run0_eq:∀ (c:ACode) (st:ST) (Q:AEx→ST→Prop) (t:Tag Q),Run0 P c st Q t=run0 P c st Q
 | .skip,st,Q,t=>rfl
 | .ops l,st,Q,t=>by simp only [Run0,run0,ROps0_eq]
 | .any l,st,Q,t=>by simp only [Run0,run0,RAny_eq]
 | .seq a b,st,Q,t=>by simp only [Run0,run0,Run0_eq a,Run0_eq b]
 | .cond x a b,st,Q,t=>by simp only [Run0,run0,Run0_eq a,Run0_eq b,OB,S2]
 | .block id c,st,Q,t=>by simp only [Run0,run0,Run0_eq c,blkK_eq]
 | .loop c,st,Q,t=>by simp only [Run0,run0,LP0]
 | .exit i,st,Q,t=>rfl
 | .ret,st,Q,t=>rfl
end
def EndOK {ι:Type} (Post:ι→Prop) (rs:List ARes) (Hs:Heap) (nid:Nat) (r:ι→PV) (u:ι→Heap) (e:AEx) (s:ST):Prop:=∃ i,Post i∧RetOK rs Hs nid (r i) (u i) e s
theorem EndOK.mk {ι:Type} {Post:ι→Prop} {rs:List ARes} {Hs:Heap} {nid:Nat} {r:ι→PV} {u:ι→Heap} {e:AEx} {s:ST} (i:ι) (h:Post i) (h2:RetOK rs Hs nid (r i) (u i) e s):EndOK Post rs Hs nid r u e s:=⟨i,h,h2⟩
theorem acall_ex {P:Program} {f:Nat} {af:AFn} {args:List PV} {Hs:Heap} {nid:Nat} {ι:Type} {Post:ι→Prop} {r:ι→PV} {u:ι→Heap} (hc:compF P f=some af) (hn:args.length≤af.nt)
  (h:Run0 P af.body ⟨argSlots 0 args,Hs,nid,nid⟩ (EndOK Post af.res Hs nid r u) .mk):∃ i,Post i∧ACall P f args Hs nid (r i) (u i):=by
 rw [Run0_eq] at h
 obtain ⟨⟨i,hi⟩,hr⟩:=run_ex (ι:={i:ι // Post i}) af.body _ (Q':=fun i=>RetOK af.res Hs nid (r i.1) (u i.1)) (fun e s hk=>by
  obtain ⟨i,hi,hk⟩:=hk
  exact ⟨⟨i,hi⟩,hk⟩) h
 exact ⟨i,hi,acall_of_run hc hn hr⟩
theorem LP0.mk {P:Program} {c:ACode} {st:ST} {Q:AEx→ST→Prop} {t:Tag Q} {ι:Type} (I:ι→ST) (μ:ι→Nat) (x:ι) (h1:Cov st (I x)) (h2:∀ x,Run0 P c (I x) (loopK (fun s=>∃ y,μ y<μ x∧Cov s (I y)) Q) .mk):LP0 P c st Q t :=
 LoopOK.mk I μ x h1 fun x=>by rw [← Run0_eq P c _ _ .mk]; exact h2 x
theorem LP0.mkP {P:Program} {c:ACode} {st:ST} {Q:AEx→ST→Prop} {t:Tag Q} {ι:Type} (p:ι→Prop) (I:ι→ST) (μ:ι→Nat) (x:ι) (hx:p x) (h1:Cov st (I x))
  (h2:∀ x,p x→Run0 P c (I x) (loopK (fun s=>∃ y,(p y∧μ y<μ x)∧Cov s (I y)) Q) .mk):LP0 P c st Q t :=
 LP0.mk (ι:={x:ι // p x}) (fun x=>I x.1) (fun x=>μ x.1) ⟨x,hx⟩ h1 fun x=>by
  have e:(fun s=>∃ y:{x:ι // p x},μ y.1<μ x.1∧Cov s (I y.1))=(fun s=>∃ y,(p y∧μ y<μ x.1)∧Cov s (I y)):=by
   funext s
   exact propext ⟨fun ⟨y,h1,h2⟩=>⟨y.1,⟨y.2,h1⟩,h2⟩,fun ⟨y,⟨h1,h2⟩,h3⟩=>⟨⟨y,h1⟩,h2,h3⟩⟩
  rw [e]
  exact h2 x.1 x.2
theorem CallX.onE {P:Program} {f:Nat} {args:List PV} {H:Heap} {nid:Nat} {K:PV→Heap→List Nat→Prop} {Hs:Heap} {ι:Type} {Post:ι→Prop} {r:ι→PV} {u:ι→Heap} (h:∃ i,Post i∧ACall P f args Hs nid (r i) (u i)) (hs:subH Hs H) (hK:∀ i,Post i→K (r i) (u i) (keys Hs)):CallX P f args H nid K:=by
 obtain ⟨i,hi,h⟩:=h
 exact CallX.on h hs (hK i hi)
theorem CallO.onE {P:Program} {f:Nat} {args:List PV} {H:Heap} {nid:Nat} {K:PV→Heap→Prop} {Hs:Heap} {ι:Type} {Post:ι→Prop} {r:ι→PV} {u:ι→Heap} (h:∃ i,Post i∧ACall P f args Hs nid (r i) (u i)) (hs:subH Hs H) (hK:∀ i,Post i→K (r i) (u i)):CallOK P f args H nid K:=by
 obtain ⟨i,hi,h⟩:=h
 exact CallO.on h hs (hK i hi)
theorem aqT0:type_of% (And.intro (And.intro (And.intro @Run0.eq_1 (And.intro @Run0.eq_2 @Run0.eq_3)) (And.intro @Run0.eq_4 (And.intro @Run0.eq_5 @Run0.eq_6))) (And.intro (And.intro @Run0.eq_7 (And.intro @Run0.eq_8 @Run0.eq_9)) (And.intro (And.intro @ROps0.eq_1 @ROps0.eq_2) (And.intro @ROps0.eq_3 @ROps0.eq_4)))) :=
 And.intro (And.intro (And.intro @Run0.eq_1 (And.intro @Run0.eq_2 @Run0.eq_3)) (And.intro @Run0.eq_4 (And.intro @Run0.eq_5 @Run0.eq_6))) (And.intro (And.intro @Run0.eq_7 (And.intro @Run0.eq_8 @Run0.eq_9)) (And.intro (And.intro @ROps0.eq_1 @ROps0.eq_2) (And.intro @ROps0.eq_3 @ROps0.eq_4)))
open Go.RowKit Go.Shelf Go.Lib
theorem liesAt_bytes_at {P:Program} {e:TypeId} (hc:P.cellsOf e=1) (count off n:Nat) (hn:off+n≤count):liesAt P P.depth e count off e n=true:=by
 have hd:P.depth=(2 * (P.types.size+Made.depth)+1)+1:=rfl
 rw [hd]
 simp only [liesAt,Bool.or_eq_true]
 left
 rw [hd]
 simp [Go.rowAt,hc,hn,sameLayout,Nat.mod_one]
theorem run_unsafeString_at {P : Program} (w : World) (pt it ty e : TypeId) (hp : P.underlying pt = some (.pointer e)) (hc : P.cellsOf e = 1) (g oo cells : Nat) (hsh : w.shape? g = some (e, cells)) (l : List UInt8) (h0 : l ≠ []) (hn : oo + l.length ≤ cells) (h63 : l.length ≤ 9223372036854775807)
  (hcell : ∀ j x, l[j]? = some x → w.cell? ((⟨g, oo, none⟩ : Addr).add j) = some (.int .u8 x.toNat)) :
  (Builtin.unsafeString_ #[pt, it] ty #[.pointer (some ⟨g, oo, none⟩), .int .i64 l.length]).run P w = .ok (.string ⟨l.toArray⟩) (w.freeze ⟨g, oo, none⟩ l.length) := by
 have hl : l.length ≠ 0 := by simpa using h0
 have hlb := run_loadBytes (P := P) w l ⟨g, oo, none⟩ .empty hcell
 have hlies := liesAt_bytes_at (P := P) hc (cells / P.cellsOf e) oo l.length (by rw [hc]; simpa using hn)
 have h63' : ¬ (9223372036854775807 : Int) < (l.length : Int) := by omega
 have hdef : Builtin.unsafeString_ #[pt, it] ty #[.pointer (some ⟨g, oo, none⟩), .int .i64 l.length] =
   (do
    let n ← asInt (.int .i64 l.length)
    if n < 0 then runtimePanic (.error "unsafe.String: len out of range")
    if n > IntKind.i64.max then unsupported (.unsafePointer "String: a length above the largest int")
    if n = 0 then pure (.string .empty)
    else if ← variablesAt ⟨g, oo, none⟩ (← elemOf pt) n.toNat then do
     let s ← loadBytes ⟨g, oo, none⟩ .empty n.toNat
     freeze ⟨g, oo, none⟩ n.toNat
     pure (.string s)
    else unsupported (.unsafePointer "String: not so many bytes at ptr")) := rfl
 rw [hdef]
 have hmax : IntKind.i64.max = 9223372036854775807 := rfl
 have hneg : ¬ (l.length : Int) < 0 := by omega
 simp [asInt, asIntOf, hmax, h63', hneg, hl, variablesAt, hsh, elemOf, run_underlying hp, hlies, hlb]
theorem run_appS {P:Program} (w:World) (t u ty e:TypeId) (i:TypeInfo) (ht:P.underlying t=some (.slice e)) (hu:P.underlying u=some .string) (hi:P.info? e=some i) (hz:i.zero=some (.int .u8 0)) (hsize:i.size=1) (hby:i.bytes=1) (hTS:e≠TS)
  (A:Option Addr) (n c oo:Nat) (xs:List Value) (hown:ownsAt w e 1 (.slice A n c) oo n xs) (s:ByteArray) (hb:n+s.size≤140737488355328) :
  ∃ A' c' o' w',(Builtin.append_ #[t,u] ty #[.slice A n c,.string s]).run P w=.ok (.slice A' (n+s.size) c') w'∧ownsAt w' e 1 (.slice A' (n+s.size) c') o' (n+s.size) (xs++strCells s)∧w.grownBy w' (ablk A) ∧
   (ablk A'=ablk A∨∀ g,ablk A'=some g→w.heap.size≤g):=by
 rcases hown.2 with ⟨hv,hn0⟩ | ⟨g,cap,cur,hv,hg,hnc,hcm,hcs,htake⟩
 ·injection hv with hA _ hc
  subst hA; subst hn0; subst hc
  have hx:xs=[]:=List.eq_nil_of_length_eq_zero (by simpa using hown.1)
  subst hx
  obtain ⟨v',w',hr,h2,h3,h4⟩:=run_append_own_string (P:=P) w w.heap.size t u ty e i ht hu hi hz hsize hby (.slice none 0 0) 0 [] (World.ownsRow_nil _ _ _ _) s (by unfold maxLen; omega) (by omega) (Nat.le_refl _)
  have h2':=ownsAt.of h2
  have h22:=h2.2
  obtain ⟨A',c',rfl⟩:∃ A' c',v'=.slice A' (0+s.size) c':=by
   rcases h22 with ⟨h,h0⟩ | ⟨g,cap,cur,h,_⟩
   ·exact ⟨none,0,by rw [h,h0]⟩
   ·exact ⟨_,_,h⟩
  refine ⟨A',c',0,w',hr,h2',h3,.inr fun g hg=>?_⟩
  rcases h22 with ⟨h,h0⟩ | ⟨g',cap,cur,h,hb',_⟩
  ·injection h with h; subst h; cases hg
  ·injection h with h; subst h
   simp [ablk] at hg
   omega
 ·injection hv with hA _ hc
  subst hA; subst hc
  have hg':=hg.exact hTS
  have hcs':cur.size=oo+c:=by simpa using hcs
  by_cases hroom:n+s.size≤c
  ·have hf:=run_firstCells_string (P:=P) w 1 s
   have hst:=run_storeCells_at P g (oo+n) e (strCells s) 0 cur w hg' (by rw [strCells_length]; omega) (strCells_oneCell s)
   simp only [Nat.add_zero,strCells_length] at hst
   refine ⟨some ⟨g,oo,none⟩,c,oo,_,by simp [Builtin.append_,run_underlying ht,run_underlying hu,sizeOf,typeInfo,hi,hsize,Builtin.lenOf,hroom,hf,Addr.add_lit,hst]; rfl,⟨by rw [List.length_append,hown.1,strCells_length]; omega,.inr ⟨g,c,_,rfl,.of (setRow_heap w g cur _ e _ hg'),hroom,hcm,?_,?_⟩⟩,
    ⟨rfl,rfl,rfl,by simp,fun k _ hk=>setRow_other w g k _ (fun e=>hk (by simp [ablk,e]))⟩,.inl rfl⟩
   ·simp only [List.size_toArray,List.length_append,List.length_take,List.length_drop,Array.length_toList,strCells_length]
    omega
   ·have hlt:(cur.toList.take (oo+n)).length=oo+n:=by simp; omega
    have htake':(cur.toList.drop oo).take n=xs:=by simpa using htake
    simp only [List.toList_toArray]
    rw [List.drop_append_of_le_length (by rw [hlt]; omega),← List.append_assoc,← htake',List.drop_take,Nat.add_sub_cancel_left]
    have hlen:((cur.toList.drop oo).take n++strCells s).length=(n+s.size) * 1:=by rw [htake',List.length_append,hown.1,strCells_length]; omega
    rw [← hlen]
    exact List.take_left
  ·have hlo:xs.length=n * i.size:=by rw [hown.1,hsize]
   have holds:∀ j u,xs[j]?=some u→w.cell? ((⟨g,oo,none⟩:Addr).add j)=some u:=fun j u hu=>by rw [addr_add]; exact hown.cells (g:=g) rfl j u hu
   have hr:=run_append_grow_string (P:=P) w t u ty e i (.int .u8 0) ht hu hi hz ⟨g,oo,none⟩ n c xs hlo holds s (by omega) (by omega) (by rw [hby]; exact growslice_fits (by omega) (by omega))
   have hge:=grownCap_ge w (n+s.size) c e
   have hcm':grownCap w (n+s.size) c e≤maxLen:=grownCap_le_maxLen w (n+s.size) c e (by unfold maxLen; omega)
   refine ⟨_,_,0,_,hr,⟨by rw [List.length_append,hown.1,strCells_length]; omega,.inr ⟨w.heap.size,_,_,rfl,.of (heap_alloc_new w.drew _),hge,hcm',?_,?_⟩⟩,⟨rfl,rfl,rfl,by simp,fun k hk _=>by first | exact heap_alloc_old w.drew _ k hk | exact heap_alloc_old w.drew _ hk⟩,.inr fun g hg=>by simp [ablk] at hg; omega⟩
   ·simp only [Array.size_append,List.size_toArray,size_zeroCells,hown.1,strCells_length]
    simp [Value.cells]
    omega
   ·have hlen:(xs++strCells s).length=(n+s.size) * 1:=by rw [List.length_append,hown.1,strCells_length]; omega
    simp only [Array.toList_append,List.append_assoc,List.drop_zero]
    rw [← List.append_assoc,← hlen]
    exact List.take_left
theorem wpList_appS {P:Program} {ops:Array Oper} {rest:List Oper} {o:Oper} {a:Act} {w:World} {Q:Exit→Act→World→Prop} (hgd:o.guard=none) (sl x:Operand) (t u:TypeId)
  (ho:o.op=.call { callee:=.builtin .append,args:=#[sl,x],argTypes:=#[t,u] })
  (e:TypeId) (i:TypeInfo) (ht:P.underlying t=some (.slice e)) (hu:P.underlying u=some .string) (hi:P.info? e=some i) (hz:i.zero=some (.int .u8 0)) (hsize:i.size=1) (hby:i.bytes=1) (hTS:e≠TS)
  (A:Option Addr) (n c oo:Nat) (xs:List Value) (hs:a.eval sl=.slice A n c) (hown:ownsAt w e 1 (.slice A n c) oo n xs) (s:ByteArray) (hx:a.eval x=.string s) (hb:n+s.size≤140737488355328)
  (h:∀ A' c' o' w',ownsAt w' e 1 (.slice A' (n+s.size) c') o' (n+s.size) (xs++strCells s)→w.grownBy w' (ablk A)→(ablk A'=ablk A∨∀ g,ablk A'=some g→w.heap.size≤g)→wpList P ops Q rest (a.put o.dst (.slice A' (n+s.size) c')) w'):wpList P ops Q (o::rest) a w:=by
 refine wpList_plain hgd fun K hK=>?_
 obtain ⟨A',c',o',w',hr,h2,h3,h4⟩:=run_appS (P:=P) w t u o.type e i ht hu hi hz hsize hby hTS A n c oo xs hown s hb
 unfold Oper.wp execOp
 simp only [ho,resolve,invoke,builtin,Sem.run_bind,Sem.run_pure,Result.andThen_ok,List.map_toArray,List.map_cons,List.map_nil,hs,hx,hr]
 exact hK _ _ (h A' c' o' w' h2 h3 h4)
section
variable {P:Program} {ρ:Ren}
set_option maxHeartbeats 4000000 in
set_option maxRecDepth 100000 in
theorem wr_calls (L:Lays.n166 P ρ) (X:Builder.Extra P ρ) (hTS:ρ.t 5≠TS) (b:Nat) (p:Value) (A:Option Addr) (n c oo:Nat) (bs:List Value) (s:ByteArray) (w:World) (hp:p=.pointer none∨p=.pointer (some ⟨b,0,none⟩))
  (hbk:w.heap[b]?=some (.cells #[p,.slice A n c] (ρ.t 72) (0,0))) (hown:ownsAt w (ρ.t 5) 1 (.slice A n c) oo n bs) (hne:ablk A≠some b) (hlen:n+s.size≤140737488355328) :
  Calls P (ρ.f 166) #[.pointer (some ⟨b,0,none⟩),.string s] w fun e w'=>e=.returned (.tuple #[.int .i64 s.size,.nilIface])∧∃ w1 w2 A' c' o',w.grownBy w1 (some b)∧w1.heap[b]?=some (.cells #[.pointer (some ⟨b,0,none⟩),.slice A n c] (ρ.t 72) (0,0)) ∧
   w1.grownBy w2 (ablk A)∧ownsAt w2 (ρ.t 5) 1 (.slice A' (n+s.size) c') o' (n+s.size) (bs++strCells s)∧(ablk A'=ablk A∨∀ g,ablk A'=some g→w1.heap.size≤g)∧w'=w2.setCell ⟨b,1,none⟩ (.slice A' (n+s.size) c'):=by
 obtain ⟨i0,hi,hz0,hz1,hz2⟩:=info_parts X.infoByte
 have hlt:b<w.heap.size:=(Array.getElem?_eq_some_iff.1 hbk).1
 have cc:Calls P (ρ.f 240) #[.pointer (some ⟨b,0,none⟩)] w fun e w1=>e=.returned (.tuple #[])∧w.grownBy w1 (some b)∧w1.heap[b]?=some (.cells #[.pointer (some ⟨b,0,none⟩),.slice A n c] (ρ.t 72) (0,0)):=by
  rcases hp with rfl | rfl
  ·refine (Any.Builder_copyCheck_fresh { L with } X.toX72 b w (by rw [Lib.cell_of_heap hbk]; rfl) (by simp [World.shape?,hbk]) (Lib.frozen_of_heap hbk 0)).mono ?_
   rintro e w1 ⟨rfl,rfl⟩
   exact ⟨rfl,⟨rfl,rfl,rfl,by simp [World.setCell],fun k _ hk=>Below.heap_setCell _ _ _ _ (fun e=>hk (by simp [e]))⟩,by simp [World.setCell,Array.getElem?_modify,hbk]⟩
  ·refine (Any.Builder_copyCheck_used { L with } X.toX72 b w (by rw [Lib.cell_of_heap hbk]; rfl)).mono ?_
   rintro e w1 ⟨rfl,rfl⟩
   exact ⟨rfl,grown_refl _ _,hbk⟩
 have mixed:=L.mixed
 have t72:=L.t72; have a72:=L.a72; have z72:=L.z72; have v72:=L.v72; have u72:=run_underlying L.t72
 have t70:=L.t70; have a70:=L.a70; have z70:=L.z70; have v70:=L.v70; have u70:=run_underlying L.t70
 have t37:=L.t37; have a37:=L.a37; have z37:=L.z37; have v37:=L.v37; have u37:=run_underlying L.t37
 have t3:=L.t3; have a3:=L.a3; have z3:=L.z3; have v3:=L.v3; have u3:=run_underlying L.t3
 have t9:=L.t9; have a9:=L.a9; have z9:=L.z9; have v9:=L.v9; have u9:=run_underlying L.t9
 have t4:=L.t4; have a4:=L.a4; have z4:=L.z4; have v4:=L.v4; have u4:=run_underlying L.t4
 have t164:=L.t164; have a164:=L.a164; have z164:=L.z164; have v164:=L.v164; have u164:=run_underlying L.t164
 have t5:=X.t5; have a5:=X.a5; have z5:=X.z5; have v5:=X.v5; have u5:=run_underlying X.t5
 have e240:∀ args w,(callFunc (ρ.f 240) args).run P w=.ok (.enter (ρ.f 240) args) w:=enters_of L.f240 (by kernel_rfl) rfl
 go_enter L.f166,Body.n166_ntmps ρ
 go_wp2_with (go_at_fn (ρ.f 240); refine cc.mono ?_)
 rintro e w1 ⟨rfl,hg1,hbk1⟩
 have hown1:ownsAt w1 (ρ.t 5) 1 (.slice A n c) oo n bs:=by
  refine ⟨hown.1,?_⟩
  rcases hown.2 with h | ⟨g,cap,cur,h,hr,h1,h2,h3,h4⟩
  ·exact .inl h
  ·refine .inr ⟨g,cap,cur,h,hr.trans (hg1.block g hr.lt (fun e=>?_)),h1,h2,h3,h4⟩
   injection h with h
   subst h
   exact hne e
 have c0:w1.cell? ⟨b,0,none⟩=some (.pointer (some ⟨b,0,none⟩)):=by rw [Lib.cell_of_heap hbk1]; rfl
 have c1:w1.cell? ⟨b,1,none⟩=some (.slice A n c):=by rw [Lib.cell_of_heap hbk1]; rfl
 go_wp2_with (at_builtin; refine wpList_appS rfl _ _ (ρ.t 37) (ρ.t 9) rfl (ρ.t 5) i0 L.t37 L.t9 hi hz0 hz1 hz2 hTS A n c oo bs rfl hown1 s rfl hlen ?_)
 intro A' c' o' w2 hown' hgrow hA
 have hlt1:b<w1.heap.size:=Nat.lt_of_lt_of_le hlt hg1.size
 have hb2:w2.heap[b]?=some (.cells #[.pointer (some ⟨b,0,none⟩),.slice A n c] (ρ.t 72) (0,0)):=by
  rw [hgrow.block b hlt1 (fun e=>hne e.symm)]
  exact hbk1
 have d0:w2.cell? ⟨b,0,none⟩=some (.pointer (some ⟨b,0,none⟩)):=by rw [Lib.cell_of_heap hb2]; rfl
 have d1:w2.cell? ⟨b,1,none⟩=some (.slice A n c):=by rw [Lib.cell_of_heap hb2]; rfl
 have f1:w2.frozen? ⟨b,1,none⟩=false:=Lib.frozen_of_heap hb2 1
 go_wp2
 go_ret2
 exact ⟨rfl,w1,w2,A',c',o',hg1,hbk1,hgrow,hown',hA,rfl⟩
end
open Go.RowKit Go.Shelf Go.Lib
theorem HSF.setBox {C:Ctx} {Y:Nat→Prop} {m:Names} {w w':World} {H:Heap} {Fr:Nat→Prop} (h:HSF C Y m w H Fr) {id:Nat} {pl:Pl} {T:TypeId} {cs:List PV} (cs':List PV) (hm:m id=some pl) (hb:getH H id=some (.box T cs)) (hg:w.grownBy w' (some pl.blk))
  (vs':List Value) (hbk:w'.heap[pl.blk]?=some (.cells vs'.toArray T (0,0))) (hl:vs'.length=cs'.length) (h1:∀ v∈vs',v.oneCell'=true) (hr:∀ (i:Nat) p v,cs'[i]?=some p→vs'[i]?=some v→Rep Y m w p v) :
  HSF C (Yn Y w w') m w' ((id,some (.box T cs'))::H) Fr∧Ev Y m w (Yn Y w w') m w':=by
 obtain ⟨pl',hm',hbs,hlies⟩:=h.blk id _ hb
 rw [hm] at hm'
 injection hm' with hm'
 subst hm'
 have ev:Ev Y m w (Yn Y w w') m w':=Ev.grow hg (fun g e=>by injection e with e; subst e; exact (hlies _ rfl).1) (fun _ _ e=>e)
 refine h.go (fun _ e=>e) hg (fun g e=>by injection e with e; subst e; exact hlies _ rfl) (fun _ _ e=>e) (fun i hi=>h.fresh i hi) (fun _ _ e=>.inl e) id (fun i b hb2=>?_)
 rcases getH_set hb2 with ⟨rfl,rfl⟩ | ⟨hi,hb3⟩
 ·exact .inr ⟨rfl,pl,hm,⟨vs',hbk,hl,h1,fun i p v hp hv=>(hr i p v hp hv).ev ev⟩,fun g hg2=>.inl hg2⟩
 ·exact .inl ⟨hi,hb3,fun pl2 hm2 g hl2 e=>h.inj i id b _ pl2 pl g hi hb3 hb hm2 hm hl2 e⟩
def byteC (l:List UInt8):List Col:=[.i .u8 fun i=>((l.getD i 0).toNat:Nat)]
theorem strCells_get (l:List UInt8) (i:Nat) (h:i<l.length):(byteCells l)[i]?=some (.int .u8 ((l.getD i 0).toNat:Nat)):=by
 unfold byteCells
 rw [List.getElem?_map,List.getD_eq_getElem?_getD,List.getElem?_eq_getElem h]
 rfl
theorem byteCells_one (l:List UInt8):∀ v∈byteCells l,v.oneCell'=true:=by
 intro v hv
 unfold byteCells at hv
 obtain ⟨b,_,rfl⟩:=List.mem_map.1 hv
 rfl
def killO:Option Nat→Heap→Heap
 | none,H=>H
 | some o,H=>(o,none)::H
theorem getH_killO (o:Option Nat) (H:Heap) (i:Nat):getH (killO o H) i=if (o==some i)=true then none else getH H i:=by
 cases o with
 | none=>simp [killO]
 | some o =>
  simp only [killO,getH]
  cases h:(o==i) with
  | true=>simp at h; subst h; simp
  | false=>simp at h; simp [h]
theorem getH_put (k:Nat) (b:Option ABlk) (H:Heap) (i:Nat):getH ((k,b)::H) i=if i=k then b else getH H i:=by
 simp only [getH]
 by_cases e:i=k
 ·subst e; simp
 ·have:(k==i)=false:=by simpa using fun h=>e h.symm
  simp [this,e]
section
variable {P:Program} {ρ:Ren}
theorem wr_core (L:Lays.n166 P ρ) (X:Builder.Extra P ρ) (hTS:ρ.t 5≠TS) {C:Ctx} {Hs:Heap} {nid:Nat} (hs:HS C C.Y0 C.m0 C.w0 Hs nid) {id:Nat} {pl:Pl} {cs:List PV} (hm:C.m0 id=some pl) (hid:id<nid) (hb:getH Hs id=some (.box (ρ.t 72) cs))
  (p:Value) (hp:p=.pointer none∨p=.pointer (some ⟨pl.blk,0,none⟩)) (A:Option Addr) (c oo:Nat) (l s:List UInt8) (hbk:C.w0.heap[pl.blk]?=some (.cells #[p,.slice A l.length c] (ρ.t 72) (0,0)))
  (hown:ownsAt C.w0 (ρ.t 5) 1 (.slice A l.length c) oo l.length (byteCells l)) (hne:ablk A≠some pl.blk) (hlen:l.length+s.length≤140737488355328) (ob:Option Nat) (hDi:(ob==some id)=false) (hDn:∀ i,(ob==some i)=true→i<nid)
  (hrow:∀ g,ablk A=some g→C.Y0 g∧(C.X0 g∨C.w0.heap.size≤g))
  (hD:∀ i b pl2,(ob==some i)=false→i≠id→getH Hs i=some b→C.m0 i=some pl2→∀ g,b.lies pl2=some g→ablk A≠some g) :
  Calls P (ρ.f 166) #[.pointer (some ⟨pl.blk,0,none⟩),.string ⟨s.toArray⟩] C.w0 fun e w'=>∃ v,e=.returned v∧∃ Y' m',Rep Y' m' w' (.tup [.int .i64 s.length,.any]) v∧HS C Y' m' w' ((id,some (.box (ρ.t 72) [.ptr id 0,.sl nid 0 (l++s).length]))::(nid,some (.arr (ρ.t 5) (l++s).length (byteC (l++s))))::killO ob Hs) (nid+4)∧Ev C.Y0 C.m0 C.w0 Y' m' w':=by
 have hsz:(⟨s.toArray⟩:ByteArray).size=s.length:=by simp [ByteArray.size]
 have hlieb:=(hs.blk id _ hb)
 refine (wr_calls L X hTS pl.blk p A l.length c oo (byteCells l) ⟨s.toArray⟩ C.w0 hp hbk hown hne (by rw [hsz]; exact hlen)).mono ?_
 rintro e w' ⟨rfl,w1,w2,A',c',o',hg1,hb1,hg2,hown2,hA,rfl⟩
 rw [hsz] at hown2 ⊢
 refine ⟨_,rfl,?_⟩
 -- the builder's own address
 obtain ⟨h1,ev1⟩:=HSF.setBox hs [.ptr id 0,.any] hm hb hg1 [.pointer (some ⟨pl.blk,0,none⟩),.slice A l.length c] hb1 rfl (by intro v hv; simp at hv; rcases hv with rfl | rfl <;> rfl) (fun i p v hp hv=>by
  match i,hp,hv with
  | 0,hp,hv=>simp at hp hv; subst hp; subst hv; exact .ptr hm
  | 1,hp,hv=>simp at hp hv; subst hp; exact .any)
 have hall:byteCells l++strCells ⟨s.toArray⟩=byteCells (l++s):=by rw [strCells_eq,← byteCells_append]
 rw [hall] at hown2
 have hll:(l++s).length=l.length+s.length:=List.length_append
 obtain ⟨Y2,m2,r2,h2,ev2⟩:=HSF.newArr h1 (next:=nid) (fun i h _=>h) (ρ.t 5) (l++s).length c' (byteC (l++s)) A' o' (byteCells (l++s)) hg2 (fun g hg=>by
   obtain ⟨k1,k2⟩:=hrow g hg
   exact ⟨.inl k1,k2⟩) (by rw [hll]; exact hown2) hA (byteCells_one _) (fun m' ev a b c0 ha hb0=>by
   match b,hb0 with
   | 0,hb0 =>
    simp [byteC] at hb0
    subst hb0
    refine ⟨_,by simpa [byteC] using strCells_get (l++s) a ha,.i⟩) (fun i=>ob==some i) (fun i b pl2 hDi' hgi hmi g hl=>by
   rw [getH_put] at hgi
   by_cases hi:i=id
   ·rw [if_pos hi] at hgi
    injection hgi with hgi
    subst hgi
    subst hi
    rw [hm] at hmi
    injection hmi with hmi
    subst hmi
    intro e
    have hl':some pl.blk=some g:=hl
    exact hne (e.trans hl'.symm)
   ·rw [if_neg hi] at hgi
    exact hD i b pl2 hDi' hi hgi hmi g hl) ((id,some (.box (ρ.t 72) [.ptr id 0,.any]))::(nid,some (.arr (ρ.t 5) (l++s).length (byteC (l++s))))::killO ob Hs) (fun i=>by
   rw [getH_put,getH_put,getH_killO,getH_put]
   have hne2:id≠nid:=by omega
   by_cases e1:i=id
   ·subst e1; simp [hne2,hDi]
   ·simp only [if_neg e1])
 have hm2:m2 id=some pl:=ev2.names _ _ hm
 have hlt:pl.blk<w1.heap.size:=(Array.getElem?_eq_some_iff.1 hb1).1
 have hb2:w2.heap[pl.blk]?=some (.cells #[.pointer (some ⟨pl.blk,0,none⟩),.slice A l.length c] (ρ.t 72) (0,0)):=by
  rw [hg2.block _ hlt (fun e=>hne e.symm)]; exact hb1
 obtain ⟨h3,ev3⟩:=HSF.setBox h2 [.ptr id 0,.sl nid 0 (l++s).length] hm2 (T:=ρ.t 72) (cs:=[.ptr id 0,.any]) (by simp [getH]) (w':=w2.setCell ⟨pl.blk,1,none⟩ (.slice A' (l.length+s.length) c')) ⟨rfl,rfl,rfl,by simp [World.setCell],fun k _ hk=>Below.heap_setCell _ _ _ _ (fun e=>hk (by simp [e]))⟩
  [.pointer (some ⟨pl.blk,0,none⟩),.slice A' (l.length+s.length) c'] (by simp [World.setCell,Array.getElem?_modify,hb2]) rfl (by intro v hv; simp at hv; rcases hv with rfl | rfl <;> rfl) (fun i p v hp hv=>by
   match i,hp,hv with
   | 0,hp,hv=>simp at hp hv; subst hp; subst hv; exact .ptr hm2
   | 1,hp,hv=>rw [hll] at hp r2; simp at hp hv; subst hp; subst hv; exact r2)
 refine ⟨_,m2,.tup rfl (fun i p v hp hv=>?_),(h3.mono (fun i hi=>⟨by show nid≤i; omega,by omega⟩)).same (fun i=>?_),ev1.trans (ev2.trans ev3)⟩
 ·match i,hp,hv with
  | 0,hp,hv=>simp at hp hv; subst hp; subst hv; exact .int
  | 1,hp,hv=>simp at hp hv; subst hp; exact .any
 ·simp only [getH_put]
  split <;> rfl
theorem box_args {C:Ctx} {Hs:Heap} {nid id T:Nat} {cs:List PV} {q:PV} {vs:List Value} (hl:vs.length=2) (hrep:∀ (i:Nat) p v,[PV.ptr id 0,q][i]?=some p→vs[i]?=some v→Rep C.Y0 C.m0 C.w0 p v) (hs:HS C C.Y0 C.m0 C.w0 Hs nid) (hb:getH Hs id=some (.box T cs)) :
  ∃ pl v1,C.m0 id=some pl∧vs=[.pointer (some ⟨pl.blk,0,none⟩),v1]∧Rep C.Y0 C.m0 C.w0 q v1∧∃ us:List Value,C.w0.heap[pl.blk]?=some (.cells us.toArray T (0,0))∧us.length=cs.length∧∀ (i:Nat) p v,cs[i]?=some p→us[i]?=some v→Rep C.Y0 C.m0 C.w0 p v:=by
 obtain ⟨v0,v1,rfl⟩:∃ v0 v1,vs=[v0,v1]:=by
  match vs,hl with
  | [a,b],_=>exact ⟨a,b,rfl⟩
 obtain ⟨pl,hm,rfl⟩:=(hrep 0 _ _ rfl rfl).ptr_inv
 obtain ⟨pl',hm',hbs,_⟩:=hs.blk id _ hb
 rw [hm] at hm'
 injection hm' with hm'
 subst hm'
 obtain ⟨us,h1,h2,_,h3⟩:=hbs
 exact ⟨pl,v1,hm,rfl,hrep 1 _ _ rfl rfl,us,h1,h2,h3⟩
theorem acall_wr0 (L : Lays.n166 P ρ) (X : Builder.Extra P ρ) (hTS : ρ.t 5 ≠ TS) {f T T5 : Nat} (hf : ρ.f 166 = f) (hT : ρ.t 72 = T) (hT5 : ρ.t 5 = T5) {fn : Func} (h0 : P.funcs[f]? = some fn) (h1 : (fn.name == "runtime.NumGoroutine") = false) (h2 : fn.body.isNone = false)
  (id nid : Nat) (hid : id < nid) (s : List UInt8) (hlen : s.length ≤ 140737488355328) :
  ACall P f [.ptr id 0, .str s] [(id, some (.box T [.nilp, .lit true 0 []]))] nid (.tup [.int .i64 s.length, .any]) [(id, some (.box T [.ptr id 0, .sl nid 0 s.length])), (nid, some (.arr T5 s.length (byteC s)))] := by
 subst hf; subst hT; subst hT5
 intro C vs hb hl hrep hs
 obtain ⟨pl, v1, hm, rfl, r1, us, hu, hul, hur⟩ := box_args hl hrep hs (T := ρ.t 72) (cs := [.nilp, .lit true 0 []]) (by simp [getH])
 have := r1.str_inv
 subst this
 obtain ⟨u0, u1, rfl⟩ : ∃ v0 v1, us = [v0, v1] := by
  match us, hul with
  | [a, b], _ => exact ⟨a, b, rfl⟩
 have q0 := hur 0 _ _ rfl rfl
 have q1 := hur 1 _ _ rfl rfl
 cases q0
 obtain ⟨A, cap, u, rfl, e2, e3, _⟩ := q1.lit_inv
 have hA : A = none := by cases A <;> simp at e2; rfl
 subst hA
 obtain ⟨_, rfl⟩ := e3 rfl
 refine .inl ⟨fn, h0, h1, h2, (wr_core L X hTS hs hm hid (cs := [.nilp, .lit true 0 []]) (by simp [getH]) (.pointer none) (.inl rfl) none 0 0 [] s hu ⟨rfl, .inl ⟨rfl, rfl⟩⟩ (by simp [ablk]) (by simpa using hlen) none rfl (fun i h => by cases h) (fun g h => by cases h) (fun i b pl2 _ _ _ _ g _ h => by cases h)).mono fun e w' ⟨v, h1, Y', m', h2, h3, h4⟩ => ⟨v, h1, Y', m', h2, ?_, h4⟩⟩
 simpa [killO] using h3
theorem acall_wr (L : Lays.n166 P ρ) (X : Builder.Extra P ρ) (hTS : ρ.t 5 ≠ TS) {f T T5 : Nat} (hf : ρ.f 166 = f) (hT : ρ.t 72 = T) (hT5 : ρ.t 5 = T5) {fn : Func} (h0 : P.funcs[f]? = some fn) (h1 : (fn.name == "runtime.NumGoroutine") = false) (h2 : fn.body.isNone = false)
  (id ob nid : Nat) (hid : id < nid) (hob : ob < nid) (hne : (id == ob) = false) (l s : List UInt8) (hlen : l.length + s.length ≤ 140737488355328) :
  ACall P f [.ptr id 0, .str s] [(id, some (.box T [.ptr id 0, .sl ob 0 l.length])), (ob, some (.arr T5 l.length (byteC l)))] nid (.tup [.int .i64 s.length, .any]) [(id, some (.box T [.ptr id 0, .sl nid 0 (l ++ s).length])), (nid, some (.arr T5 (l ++ s).length (byteC (l ++ s)))), (ob, none)] := by
 subst hf; subst hT; subst hT5
 intro C vs hb hl hrep hs
 obtain ⟨pl, v1, hm, rfl, r1, us, hu, hul, hur⟩ := box_args hl hrep hs (T := ρ.t 72) (cs := [.ptr id 0, .sl ob 0 l.length]) (by simp [getH])
 have := r1.str_inv
 subst this
 obtain ⟨u0, u1, rfl⟩ : ∃ v0 v1, us = [v0, v1] := by
  match us, hul with
  | [a, b], _ => exact ⟨a, b, rfl⟩
 have q0 := hur 0 _ _ rfl rfl
 have q1 := hur 1 _ _ rfl rfl
 obtain ⟨pl1, hm1, rfl⟩ := q0.ptr_inv
 rw [hm] at hm1
 injection hm1 with hm1
 subst hm1
 obtain ⟨pl2, A, B, c, cap, hm2, rfl, e2, e3, e4, e5, e6, e7, e8⟩ := q1.sl_inv
 obtain ⟨rfl, rfl⟩ := e4 rfl
 have hgob : getH [(id, some (ABlk.box (ρ.t 72) [.ptr id 0, .sl ob 0 l.length])), (ob, some (.arr (ρ.t 5) l.length (byteC l)))] ob = some (.arr (ρ.t 5) l.length (byteC l)) := by simp [getH, hne]
 obtain ⟨pl3, hm3, hbs, hlies⟩ := hs.blk ob _ hgob
 rw [hm2] at hm3
 injection hm3 with hm3
 subst hm3
 obtain ⟨xs, cap2, s1, s2, s3, s4, s5, s6, s7⟩ := hbs
 have hxs : xs = byteCells l := by
  refine List.ext_getElem? fun i => ?_
  by_cases hi : i < l.length
  ·obtain ⟨v, k1, k2⟩ := s7 i 0 _ hi rfl
   simp only [byteC, List.length_cons, List.length_nil, Nat.zero_add, Nat.mul_one, Nat.add_zero] at k1
   rw [k1, strCells_get l i hi]
   cases k2
   rfl
  ·have hx : xs.length = l.length := by rw [s3.1]; simp [byteC]
   rw [List.getElem?_eq_none (by omega), List.getElem?_eq_none (by rw [byteCells_length]; omega)]
 subst hxs
 have hdr : pl2.hdr = .slice B l.length c := by rw [e2, s1]
 have hlie : (ABlk.arr (ρ.t 5) l.length (byteC l)).lies pl2 = ablk B := by show pl2.hdr.ownBlock = _; rw [hdr, ownBlock_ablk]
 have hlieb : (ABlk.box (ρ.t 72) [.ptr id 0, .sl ob 0 l.length]).lies pl = some pl.blk := rfl
 have hne' : id ≠ ob := by simpa using hne
 refine .inl ⟨fn, h0, h1, h2, (wr_core L X hTS hs hm hid (cs := [.ptr id 0, .sl ob 0 l.length]) (by simp [getH]) _ (.inr rfl) B c pl2.o l s hu (by rw [hdr] at s3; simpa [byteC] using s3) (fun e => ?_) hlen (some ob) (by simpa using fun e => hne' e.symm) (fun i h => by simp at h; omega) (fun g h => hlies g (by rw [hlie]; exact h)) (fun i b pl4 hi hid' hgi hmi g hl e => ?_)).mono fun e w' ⟨v, h1, Y', m', h2, h3, h4⟩ => ⟨v, h1, Y', m', h2, ?_, h4⟩⟩
 ·exact hs.inj id ob _ _ pl pl2 pl.blk hne' (by simp [getH]) hgob hm hm2 hlieb (by rw [hlie]; exact e)
 ·have hio : i ≠ ob := by intro e; subst e; simp at hi
  exact hs.inj i ob _ _ pl4 pl2 g hio hgi hgob hmi hm2 hl (by rw [hlie]; exact e)
 ·simpa [killO] using h3
set_option maxHeartbeats 2000000 in
set_option maxRecDepth 100000 in
theorem str_calls (L:Lays.n169 P ρ) (X:Builder.Extra P ρ) (hTS:ρ.t 5≠TS) (b:Nat) (p:Value) (A:Option Addr) (c oo:Nat) (l:List UInt8) (w:World) (h0:l≠[]) (hbk:w.heap[b]?=some (.cells #[p,.slice A l.length c] (ρ.t 72) (0,0)))
  (hown:ownsAt w (ρ.t 5) 1 (.slice A l.length c) oo l.length (byteCells l)) :
  Calls P (ρ.f 169) #[.pointer (some ⟨b,0,none⟩)] w fun e w'=>e=.returned (.string ⟨l.toArray⟩)∧w.grownBy w' (ablk A):=by
 have hl0:l.length≠0:=by simpa using h0
 obtain ⟨g,cur,rfl,hg,hnc,hcm,hcs,htake⟩:∃ g cur,A=some ⟨g,oo,none⟩∧w.heap[g]?=some (.cells cur (ρ.t 5) (0,0))∧l.length≤c∧c≤maxLen∧cur.size=oo+c * 1∧(cur.toList.drop oo).take (l.length * 1)=byteCells l:=by
  rcases hown.2 with ⟨_,hz⟩ | ⟨g,cap,cur,hv,r1,r⟩
  ·exact absurd hz hl0
  ·injection hv with hv _ hv2
   subst hv; subst hv2
   exact ⟨g,cur,rfl,r1.exact hTS,r⟩
 have c1:w.drew.cell? ⟨b,1,none⟩=some (.slice (some ⟨g,oo,none⟩) l.length c):=by
  have:w.drew.heap[b]?=some (.cells #[p,.slice (some ⟨g,oo,none⟩) l.length c] (ρ.t 72) (0,0)):=hbk
  rw [Lib.cell_of_heap this]; rfl
 have hSD:(Builtin.unsafeSliceData_ #[(ρ.t 37)] (ρ.t 127) #[.slice (some ⟨g,oo,none⟩) l.length c]).run P w.drew=.ok (.pointer (some ⟨g,oo,none⟩)) w.drew :=
  Lib.run_unsafeSliceData_row _ _ _ _ _ _ (by omega)
 have hUS:(Builtin.unsafeString_ #[(ρ.t 127),(ρ.t 3)] (ρ.t 9) #[.pointer (some ⟨g,oo,none⟩),.int .i64 l.length]).run P w.drew=.ok (.string ⟨l.toArray⟩) (w.drew.freeze ⟨g,oo,none⟩ l.length):=by
  refine run_unsafeString_at w.drew (ρ.t 127) (ρ.t 3) (ρ.t 9) (ρ.t 5) L.t127 X.cellsByte g oo cur.size (by have hg':w.drew.heap[g]?=some (.cells cur (ρ.t 5) (0,0)):=hg; simp [World.shape?,hg']) l h0 (by omega) (by unfold maxLen at hcm; omega) ?_
  intro j x hx
  have:=hown.cells (g:=g) rfl j (.int .u8 x.toNat) (by simp [Lib.byteCells,hx])
  rw [addr_add]
  exact this
 have mixed:=L.mixed
 have t72:=L.t72; have a72:=L.a72; have z72:=L.z72; have v72:=L.v72; have u72:=run_underlying L.t72
 have t70:=L.t70; have a70:=L.a70; have z70:=L.z70; have v70:=L.v70; have u70:=run_underlying L.t70
 have t37:=L.t37; have a37:=L.a37; have z37:=L.z37; have v37:=L.v37; have u37:=run_underlying L.t37
 have t127:=L.t127; have a127:=L.a127; have z127:=L.z127; have v127:=L.v127; have u127:=run_underlying L.t127
 have t3:=L.t3; have a3:=L.a3; have z3:=L.z3; have v3:=L.v3; have u3:=run_underlying L.t3
 have t9:=L.t9; have a9:=L.a9; have z9:=L.z9; have v9:=L.v9; have u9:=run_underlying L.t9
 have t5:=X.t5; have a5:=X.a5; have z5:=X.z5; have v5:=X.v5; have u5:=run_underlying X.t5
 have hfr:w.grownBy (w.drew.freeze ⟨g,oo,none⟩ l.length) (some g):=by
  unfold World.freeze
  split
  ·exact ⟨rfl,rfl,rfl,Nat.le_refl _,fun _ _ _=>rfl⟩
  ·refine ⟨rfl,rfl,rfl,?_,fun k hk hne=>?_⟩
   ·show _≤(Array.modify _ _ _).size
    rw [Array.size_modify]
    exact Nat.le_refl _
   ·have:g≠k:=fun e=>hne (by rw [e])
    show (Array.modify _ _ _)[k]?=_
    rw [Array.getElem?_modify,if_neg this]
    rfl
 go_enter L.f169,Body.n169_ntmps ρ
 go_wp2
 go_region_o
 all_goals (go_wp2; go_ret; exact ⟨rfl,hfr⟩)
theorem acall_str (L : Lays.n169 P ρ) (X : Builder.Extra P ρ) (hTS : ρ.t 5 ≠ TS) {f T T5 : Nat} (hf : ρ.f 169 = f) (hT : ρ.t 72 = T) (hT5 : ρ.t 5 = T5) {fn : Func} (h0 : P.funcs[f]? = some fn) (h1 : (fn.name == "runtime.NumGoroutine") = false) (h2 : fn.body.isNone = false)
  (id ob nid : Nat) (hne : (id == ob) = false) (l : List UInt8) (hl0 : l ≠ []) :
  ACall P f [.ptr id 0] [(id, some (.box T [.ptr id 0, .sl ob 0 l.length])), (ob, some (.arr T5 l.length (byteC l)))] nid (.str l) [(id, none), (ob, none)] := by
 subst hf; subst hT; subst hT5
 intro C vs hb hl hrep hs
 obtain ⟨v0, rfl⟩ : ∃ v0, vs = [v0] := by
  match vs, hl with
  | [a], _ => exact ⟨a, rfl⟩
 obtain ⟨pl, hm, rfl⟩ := (hrep 0 _ _ rfl rfl).ptr_inv
 obtain ⟨pl', hm', hbs, _⟩ := hs.blk id (.box (ρ.t 72) [.ptr id 0, .sl ob 0 l.length]) (by simp [getH])
 rw [hm] at hm'
 injection hm' with hm'
 subst hm'
 obtain ⟨us, hu, hul, _, hur⟩ := hbs
 obtain ⟨u0, u1, rfl⟩ : ∃ v0 v1, us = [v0, v1] := by
  match us, hul with
  | [a, b], _ => exact ⟨a, b, rfl⟩
 have q1 := hur 1 _ _ rfl rfl
 obtain ⟨pl2, A, B, c, cap, hm2, rfl, e2, e3, e4, e5, e6, e7, e8⟩ := q1.sl_inv
 obtain ⟨rfl, rfl⟩ := e4 rfl
 have hgob : getH [(id, some (ABlk.box (ρ.t 72) [.ptr id 0, .sl ob 0 l.length])), (ob, some (.arr (ρ.t 5) l.length (byteC l)))] ob = some (.arr (ρ.t 5) l.length (byteC l)) := by simp [getH, hne]
 obtain ⟨pl3, hm3, hbs, hlies⟩ := hs.blk ob _ hgob
 rw [hm2] at hm3
 injection hm3 with hm3
 subst hm3
 obtain ⟨xs, cap2, s1, s2, s3, s4, s5, s6, s7⟩ := hbs
 have hxs : xs = byteCells l := by
  refine List.ext_getElem? fun i => ?_
  by_cases hi : i < l.length
  ·obtain ⟨v, k1, k2⟩ := s7 i 0 _ hi rfl
   simp only [byteC, List.length_cons, List.length_nil, Nat.zero_add, Nat.mul_one, Nat.add_zero] at k1
   rw [k1, strCells_get l i hi]
   cases k2
   rfl
  ·have hx : xs.length = l.length := by rw [s3.1]; simp [byteC]
   rw [List.getElem?_eq_none (by omega), List.getElem?_eq_none (by rw [byteCells_length]; omega)]
 subst hxs
 have hdr : pl2.hdr = .slice B l.length c := by rw [e2, s1]
 have hlie : (ABlk.arr (ρ.t 5) l.length (byteC l)).lies pl2 = ablk B := by show pl2.hdr.ownBlock = _; rw [hdr, ownBlock_ablk]
 refine .inl ⟨fn, h0, h1, h2, (str_calls L X hTS pl.blk u0 B c pl2.o l C.w0 hl0 hu (by rw [hdr] at s3; simpa [byteC] using s3)).mono fun e w' ⟨h1, h2⟩ => ⟨_, h1, ?_⟩⟩
 have hnone : ∀ i, getH ([(id, none), (ob, none)] ++ [(id, some (ABlk.box (ρ.t 72) [.ptr id 0, .sl ob 0 l.length])), (ob, some (.arr (ρ.t 5) l.length (byteC l)))]) i = none := fun i => by
  simp only [List.cons_append, List.nil_append, getH]
  cases h5 : (id == i) <;> cases h6 : (ob == i) <;> simp
 obtain ⟨k1, k2⟩ := HSF.go (Fr' := fun i => nid + 4 ≤ i) hs (fun i (hi : nid + 4 ≤ i) => by show nid ≤ i; omega) h2 (fun g hg => hlies g (by rw [hlie]; exact hg)) (m' := C.m0) (fun _ _ e => e) (fun i (hi : nid + 4 ≤ i) => hs.fresh i (by show nid ≤ i; omega)) (fun _ _ e => .inl e) 0
  (H' := [(id, none), (ob, none)] ++ [(id, some (ABlk.box (ρ.t 72) [.ptr id 0, .sl ob 0 l.length])), (ob, some (.arr (ρ.t 5) l.length (byteC l)))]) (fun i b hb => by rw [hnone] at hb; cases hb)
 exact ⟨_, C.m0, .str, k1, k2⟩
end
end Go.Proofs.YteepabfepfehgaaGreatDoor
