/-
 The steps that make arrays: a literal,an append,a make.
-/
import Derived.Test.YteepabfepfehgaaKWS1
import Derived.Laws.IdiomStrings
import Derived.Laws.BytesString
set_option linter.unusedVariables false
set_option linter.unusedSimpArgs false
namespace Go.Proofs.Yteepabfepfehgaa
open Go.RowKit
variable {P:Program} {o:Oper} {ao:AOp}
theorem colInts_get {k:IntKind}:∀ {ps:List PV} {xs:List Int},colInts k ps=some xs→∀ (i:Nat) (p:PV),ps[i]?=some p→p=.int k (xs.getD i 0)
 | [],xs,h,i,p,hp=>by simp at hp
 | q::ps,xs,h,i,p,hp=>by
  cases q <;> simp only [colInts,reduceCtorEq] at h
  split at h
  ·rename_i e
   subst e
   split at h
   ·rename_i ys hys
    simp only [Option.some.injEq] at h
    subst h
    rcases i with _ | i
    ·simp at hp; subst hp; simp
    ·simp only [List.getElem?_cons_succ] at hp
     simpa using colInts_get hys i p hp
   ·cases h
  ·cases h
theorem colBools_get:∀ {ps:List PV} {xs:List Bool},colBools ps=some xs→∀ (i:Nat) (p:PV),ps[i]?=some p→p=.bool (xs.getD i false)
 | [],xs,h,i,p,hp=>by simp at hp
 | q::ps,xs,h,i,p,hp=>by
  cases q <;> simp only [colBools,reduceCtorEq] at h
  split at h
  ·rename_i ys hys
   simp only [Option.some.injEq] at h
   subst h
   rcases i with _ | i
   ·simp at hp; subst hp; simp
   ·simp only [List.getElem?_cons_succ] at hp
    simpa using colBools_get hys i p hp
  ·cases h
theorem colStrs_get:∀ {ps:List PV} {xs:List (List UInt8)},colStrs ps=some xs→∀ (i:Nat) (p:PV),ps[i]?=some p→p=.str (xs.getD i [])
 | [],xs,h,i,p,hp=>by simp at hp
 | q::ps,xs,h,i,p,hp=>by
  cases q <;> simp only [colStrs,reduceCtorEq] at h
  split at h
  ·rename_i ys hys
   simp only [Option.some.injEq] at h
   subst h
   rcases i with _ | i
   ·simp at hp; subst hp; simp
   ·simp only [List.getElem?_cons_succ] at hp
    simpa using colStrs_get hys i p hp
  ·cases h
theorem colLits_get:∀ {ps:List PV} {xs:List (Bool × Nat × List Col)},colLits ps=some xs→∀ (i:Nat) (p:PV),ps[i]?=some p→p=.lit (xs.getD i (true,0,[])).1 (xs.getD i (true,0,[])).2.1 (xs.getD i (true,0,[])).2.2
 | [],xs,h,i,p,hp=>by simp at hp
 | q::ps,xs,h,i,p,hp=>by
  cases q <;> simp only [colLits,reduceCtorEq] at h
  split at h
  ·rename_i ys hys
   simp only [Option.some.injEq] at h
   subst h
   rcases i with _ | i
   ·simp at hp; subst hp; simp
   ·simp only [List.getElem?_cons_succ] at hp
    simpa using colLits_get hys i p hp
  ·cases h
theorem colSls_get:∀ {ps:List PV} {xs:List (Nat × Nat)},colSls ps=some xs→∀ (i:Nat) p,ps[i]?=some p→p=.sl (xs.getD i (0,0)).1 0 (xs.getD i (0,0)).2
 | [],xs,h,i,p,hp=>by simp at hp
 | q::ps,xs,h,i,p,hp=>by
  cases q <;> simp only [colSls,reduceCtorEq] at h
  rename_i id off n
  split at h
  ·rename_i e
   subst e
   split at h
   ·rename_i ys hys
    simp only [Option.some.injEq] at h
    subst h
    rcases i with _ | i
    ·simp at hp; subst hp; simp
    ·simp only [List.getElem?_cons_succ] at hp
     simpa using colSls_get hys i p hp
   ·cases h
  ·cases h
theorem colPtrs_get:∀ {ps:List PV} {xs:List Nat},colPtrs ps=some xs→∀ (i:Nat) p,ps[i]?=some p→p=.ptr (xs.getD i 0) 0
 | [],xs,h,i,p,hp=>by simp at hp
 | q::ps,xs,h,i,p,hp=>by
  cases q <;> simp only [colPtrs,reduceCtorEq] at h
  rename_i id off
  split at h
  ·rename_i e
   subst e
   split at h
   ·rename_i ys hys
    simp only [Option.some.injEq] at h
    subst h
    rcases i with _ | i
    ·simp at hp; subst hp; simp
    ·simp only [List.getElem?_cons_succ] at hp
     simpa using colPtrs_get hys i p hp
   ·cases h
  ·cases h
theorem ACR.shift {Y:Nat→Prop} {m:Names} {w:World} {c:Col} {a j:Nat} {v:Value} (h:ACR Y m w c (a+j) v):ACR Y m w (c.shift a) j v:=by
 cases c with
 | o id len=>exact h
 | q id=>exact h
 | _=>exact (ColRep.shift (ACR.col h rfl)).acr
theorem mkCol_rep {ps:List PV} {c:Col} (h:mkCol ps=some c) {Y:Nat→Prop} {m:Names} {w:World} {i:Nat} {p:PV} {v:Value} (hp:ps[i]?=some p) (hv:Rep Y m w p v):ACR Y m w c i v:=by
 rcases ps with _ | ⟨q,qs⟩
 ·simp at hp
 ·cases q <;> simp only [mkCol,reduceCtorEq] at h
  ·split at h
   ·rename_i xs hxs
    simp only [Option.some.injEq] at h
    subst h
    have:=colInts_get hxs i p hp
    subst this
    rw [hv.int_inv]
    exact ColRep.acr (.i (g:=fun i=>_))
   ·cases h
  ·split at h
   ·rename_i xs hxs
    simp only [Option.some.injEq] at h
    subst h
    have:=colBools_get hxs i p hp
    subst this
    rw [hv.bool_inv]
    exact ColRep.acr (.b (g:=fun i=>_))
   ·cases h
  ·split at h
   ·rename_i xs hxs
    simp only [Option.some.injEq] at h
    subst h
    have:=colStrs_get hxs i p hp
    subst this
    rw [hv.str_inv]
    exact ColRep.acr (.s (g:=fun i=>_))
   ·cases h
  ·split at h
   ·rename_i xs hxs
    simp only [Option.some.injEq] at h
    subst h
    have:=colLits_get hxs i p hp
    subst this
    obtain ⟨A,cap,u,rfl,h1,h2,h3,h4,h5⟩:=hv.lit_inv
    exact ColRep.acr (.l (nl:=fun i=>_) (len:=fun i=>_) (cols:=fun i=>_) u h1 h2 h3 h4 h5)
   ·cases h
  ·split at h
   ·rename_i xs hxs
    simp only [Option.some.injEq] at h
    subst h
    have:=colPtrs_get hxs i p hp
    subst this
    obtain ⟨pl,h1,rfl⟩:=hv.ptr_inv
    exact ⟨pl,h1,rfl⟩
   ·cases h
  ·split at h
   ·rename_i xs hxs
    simp only [Option.some.injEq] at h
    subst h
    have:=colSls_get hxs i p hp
    subst this
    exact hv.sl_inv
   ·cases h
theorem mkCols_spec:∀ {zs:List PV} {rows:List (List PV)} {cols:List Col},mkCols zs rows=some cols→cols.length=zs.length ∧
  ∀ (j:Nat) c,cols[j]?=some c→(rows=[]→∃ z,zs[j]?=some z∧mkCol [z]=some c)∧(rows≠[]→mkCol (rows.map fun r=>(r.drop j).headD .any)=some c)
 | [],rows,cols,h=>by simp only [mkCols,Option.some.injEq] at h; subst h; exact ⟨rfl,fun j c hj=>by simp at hj⟩
 | z::zs,rows,cols,h=>by
  simp only [mkCols] at h
  split at h
  ·rename_i c cs h1 h2
   simp only [Option.some.injEq] at h
   subst h
   obtain ⟨i1,i2⟩:=mkCols_spec h2
   refine ⟨by simp [i1],fun j c' hj=>?_⟩
   rcases j with _ | j
   ·simp only [List.getElem?_cons_zero,Option.some.injEq] at hj
    subst hj
    rcases rows with _ | ⟨r,rs⟩
    ·exact ⟨fun _=>⟨z,rfl,h1⟩,fun hh=>absurd rfl hh⟩
    ·exact ⟨fun hh=>by simp at hh,fun _=>by simpa using h1⟩
   ·simp only [List.getElem?_cons_succ] at hj
    obtain ⟨k1,k2⟩:=i2 j c' hj
    refine ⟨fun hh=>?_,fun hh=>?_⟩
    ·subst hh; obtain ⟨z',e1,e2⟩:=k1 rfl; exact ⟨z',by simpa using e1,e2⟩
    ·have:=k2 (by simpa using hh)
     rw [List.map_map] at this
     rw [← this]
     congr 1
     apply List.map_congr_left
     intro r _
     simp [Function.comp]
  ·cases h
theorem chunk_get (sz:Nat):∀ (n:Nat) (cs:List PV) (i:Nat),(chunk sz n cs)[i]?=if i<n then some ((cs.drop (i * sz)).take sz) else none
 | 0,cs,i=>by simp [chunk]
 | n+1,cs,i=>by
  rcases i with _ | i
  ·simp [chunk]
  ·simp only [chunk,List.getElem?_cons_succ]
   rw [chunk_get sz n]
   by_cases h:i<n
   ·rw [if_pos h,if_pos (by omega),List.drop_drop]
    congr 3
    rw [Nat.add_mul]; omega
   ·rw [if_neg h,if_neg (by omega)]
theorem chunk_len (sz:Nat):∀ (n:Nat) (cs:List PV),(chunk sz n cs).length=n
 | 0,cs=>rfl
 | n+1,cs=>by simp [chunk,chunk_len sz n]
theorem cols_of_cells {z:List PV} {n sz:Nat} {ps:List PV} {cols:List Col} (hz:z.length=sz) (h:mkCols z (chunk sz n ps)=some cols) {Y:Nat→Prop} {m:Names} {w:World} {vs:List Value} (hc:Cells Y m w ps vs) (hl:ps.length=n * sz) :
  cols.length=sz∧∀ (i j:Nat) c,i<n→cols[j]?=some c→∃ v,vs[i * sz+j]?=some v∧ACR Y m w c i v:=by
 obtain ⟨h1,h2⟩:=mkCols_spec h
 refine ⟨by rw [h1,hz],fun i j c hi hj=>?_⟩
 have hjs:j<sz:=by rw [← hz,← h1]; exact (List.getElem?_eq_some_iff.1 hj).1
 have hne:chunk sz n ps≠[]:=by intro e; have:=chunk_len sz n ps; rw [e] at this; simp at this; omega
 have hk:=(h2 j c hj).2 hne
 have hin:i * sz+j<n * sz:=by
  have:i * sz+sz≤n * sz:=by rw [← Nat.succ_mul]; exact Nat.mul_le_mul_right _ (by omega)
  omega
 obtain ⟨v,hv⟩:=get_some vs (k:=i * sz+j) (by rw [hc.len,hl]; exact hin)
 obtain ⟨p,hp⟩:=get_some ps (k:=i * sz+j) (by rw [hl]; exact hin)
 refine ⟨_,hv,mkCol_rep hk (i:=i) (p:=p) ?_ (hc.rep _ _ _ hp hv)⟩
 rw [List.getElem?_map,chunk_get,if_pos hi]
 simp only [Option.map_some,Option.some.injEq]
 rw [List.headD_eq_head?_getD,List.head?_eq_getElem?,List.getElem?_drop,List.getElem?_take,if_pos (by omega),List.getElem?_drop,Nat.add_zero,hp]
 rfl
theorem repl_get {α:Type} (z:List α):∀ (n i:Nat),((List.replicate n z).flatten)[i]?=if i<n * z.length then z[i % z.length]? else none
 | 0,i=>by simp
 | n+1,i=>by
  rw [List.replicate_succ,List.flatten_cons]
  by_cases h:i<z.length
  ·rw [List.getElem?_append_left h,if_pos (by rw [Nat.add_mul]; omega),Nat.mod_eq_of_lt h]
  ·rw [List.getElem?_append_right (by omega),repl_get z n]
   have h1:(i - z.length) % z.length=i % z.length:=(Nat.mod_eq_sub_mod (by omega)).symm
   by_cases h2:i<(n+1) * z.length
   ·rw [if_pos h2,if_pos (by rw [Nat.add_mul] at h2; omega),h1]
   ·rw [if_neg h2,if_neg (by rw [Nat.add_mul] at h2; omega)]
theorem Cells.repl {Y:Nat→Prop} {m:Names} {w:World} {ps:List PV} {vs:List Value} (h:Cells Y m w ps vs) (n:Nat):Cells Y m w (repl n ps) (List.replicate n vs).flatten:=by
 refine ⟨by simp [Go.Proofs.Yteepabfepfehgaa.repl,h.len],?_,?_⟩
 ·intro i p v hp hv
  unfold Go.Proofs.Yteepabfepfehgaa.repl at hp
  rw [repl_get] at hp hv
  rw [h.len] at hv
  split at hp
  ·rename_i hc
   rw [if_pos hc] at hv
   exact h.rep _ p v hp hv
  ·cases hp
 ·intro v hv
  obtain ⟨i,hi⟩:=List.mem_iff_getElem?.1 hv
  rw [repl_get] at hi
  split at hi
  ·exact h.one v (List.mem_of_getElem? hi)
  ·cases hi
theorem row_zero (z:List Value) (n:Nat):(Array.range (n * z.length)).map (fun i=>z.toArray[i % z.toArray.size]!)=((List.replicate n z).flatten).toArray:=by
 apply Array.ext'
 apply List.ext_getElem?
 intro i
 rw [repl_get]
 by_cases h:i<n * z.length
 ·have hz:0<z.length:=Nat.pos_of_ne_zero (fun h0=>by rw [h0] at h; simp at h)
  have hm:i % z.length<z.length:=Nat.mod_lt _ hz
  rw [if_pos h]
  simp [h,hm]
 ·rw [if_neg h]
  simp [h]
theorem HSF.newArr {C:Ctx} {Y:Nat→Prop} {m:Names} {w w':World} {H:Heap} {Fr:Nat→Prop} {next:Nat} (h:HSF C Y m w H Fr) (h4:Has4 Fr next) (T:TypeId) (n cap:Nat) (cols:List Col) (A:Option Addr) (oo:Nat) (xs:List Value) {row:Option Nat} (hg:w.grownBy w' row)
  (hrow:∀ g,row=some g→Y g∧(C.X0 g∨C.w0.heap.size≤g)) (hown:ownsAt w' T cols.length (.slice A n cap) oo n xs) (hA:ablk A=row∨∀ g,ablk A=some g→w.heap.size≤g) (h1:∀ v∈xs,v.oneCell'=true)
  (hc:∀ m',Ev Y m w (Yn Y w w') m' w'→∀ (i j:Nat) c,i<n→cols[j]?=some c→∃ v,xs[i * cols.length+j]?=some v∧ACR (Yn Y w w') m' w' c i v) (D:Nat→Bool)
  (hD:∀ id b pl,D id=false→getH H id=some b→m id=some pl→∀ g,b.lies pl=some g→row≠some g) (H':Heap) (hH':∀ id,getH H' id=if id=next then some (.arr T n cols) else if D id then none else getH H id) :
  ∃ Y' m',Rep Y' m' w' (.sl next 0 n) (.slice A n cap)∧HSF C Y' m' w' H' (Fr4 Fr next)∧Ev Y m w Y' m' w':=by
 let pl:Pl:=⟨(ablk A).getD 0,.slice A n cap,n,cols.length,oo⟩
 obtain ⟨a1,a2,a3,a4⟩:=h.add h4 pl
 have ev:Ev Y m w (Yn Y w w') (addN m next pl) w':=Ev.grow hg (fun g e=>(hrow g e).1) a1
 have hlt:=fun g (e:ablk A=some g)=>hown.lt g (by rw [ownBlock_ablk]; exact e)
 have hnc:=hown.cap.1
 have form:0<cap→A=some ⟨(ablk A).getD 0,oo,none⟩:=by
  intro hn
  rcases hown.2 with ⟨hv,_⟩ | ⟨g,cap',cur,hv,_⟩
  ·injection hv with _ _ hv; omega
  ·injection hv with hv; subst hv; rfl
 obtain ⟨g1,g2⟩:=h.go (fun id h=>h.1) hg hrow a1 a2 a4 next (H':=H') (fun id b hb=>by
  rw [hH'] at hb
  by_cases e:id=next
  ·rw [if_pos e] at hb
   injection hb with hb
   subst hb
   subst e
   refine .inr ⟨rfl,pl,a3,⟨xs,cap,rfl,rfl,hown,fun hn=>?_,h1,⟨A,rfl⟩,hc _ ev⟩,fun g hl=>?_⟩
   ·have:=form (by omega)
    show Value.ownBlock (.slice A n cap)=some ((ablk A).getD 0)
    rw [ownBlock_ablk]
    rw [this]; rfl
   ·have hl':ablk A=some g:=by simpa [ABlk.lies,pl,ownBlock_ablk] using hl
    rcases hA with e | e
    ·exact .inl (e ▸ hl')
    ·exact .inr ⟨e g hl',hlt g hl'⟩
  ·rw [if_neg e] at hb
   split at hb
   ·cases hb
   ·rename_i hd
    exact .inl ⟨e,hb,fun pl hpl g hl=>hD id b pl (by simpa using hd) hb hpl g hl⟩)
 refine ⟨_,_,.sl a3 rfl (by simp [pl]) (fun _=>⟨rfl,rfl⟩) (fun hn=>?_) ?_ ?_ rfl,g1,g2⟩
 ·rw [Nat.zero_mul]; exact form hn
 ·intro e
  subst e
  rcases hown.2 with ⟨hv,_⟩ | ⟨g,cap',cur,hv,_⟩
  ·injection hv
  ·injection hv with hv; cases hv
 ·exact hnc
theorem ok_bslice {t e:TypeId} {n sz:Nat} {z:List PV} {parts:Array (Nat × Operand)} (ho:o.op=.buildSlice t n parts) (h1:P.underlying t=some (.slice e)) (h2:szT P e=some sz) (h3:zeroT P e=some z) (h4:0<sz) (h5:n * sz≤16777216)
  (hc:(compParts (fun i=>some (i * sz,sz)) parts.toList).map (AOp.bslice e sz n z)=some ao):StepOK P o ao:=by
 obtain ⟨ys,hys,rfl⟩:=map_some hc
 intro C Y m w H Fr next ρ ρv vc p u hρ hH h4' hs hvc
 simp only [step] at hs
 split at hs
 ·rename_i ps hps
  split at hs
  ·rename_i cols hcols
   simp only [Option.some.injEq,Prod.mk.injEq] at hs
   obtain ⟨_,rfl,rfl⟩:=hs
   obtain ⟨i,zv,cs,e1,e2,e3,e4,e5⟩:=zeroT_cells (Y:=Y) (m:=m) (w:=w) h3
   have hsz:i.size=sz:=by unfold szT at h2; rw [e1] at h2; simpa using h2
   have hcl:cs.length=sz:=by rw [e5.len,e4,hsz]
   obtain ⟨vs,g1,g2⟩:=fill_rep hρ _ _ _ _ _ _ hys hps (e5.repl n)
   have hpl:ps.length=n * sz:=by
    have:∀ (l:List (Nat × Nat × AX)) (a b:List PV),fillP ρ a l=some b→b.length=a.length:=by
     intro l
     induction l with
     | nil=>intro a b h; simp only [fillP,Option.some.injEq] at h; rw [h]
     | cons x l ih =>
      intro a b h
      obtain ⟨o',n',x'⟩:=x
      simp only [fillP] at h
      split at h
      ·rename_i qs _
       cases hh:(qs.length==n' && decide (o'+n'≤a.length)) <;> simp [hh] at h
       rw [ih _ _ h,splice_len]
      ·cases h
    rw [this _ _ _ hps]
    simp [repl,e4,hsz]
   obtain ⟨k1,k2⟩:=cols_of_cells (by rw [e4,hsz]) hcols g2 hpl
   have hvl:vs.length=n * sz:=by rw [g2.len,hpl]
   have hg:=World.grownBy_alloc w (.cells vs.toArray e) none
   have hown:=World.ownsRow_lit (e:=e) (base:=0) (size:=cols.length) w vs.toArray n (Nat.zero_le _) (by unfold maxLen; have:n≤n * sz:=Nat.le_mul_of_pos_right _ h4; omega) (by rw [k1]; simpa using hvl)
   obtain ⟨Y',m',r1,r2,r3⟩:=hH.newArr h4' e n n cols (some ⟨w.heap.size,0,none⟩) 0 vs hg (by simp) (.of (by simpa using hown)) (.inr (fun g hg=>by simp [ablk] at hg; omega)) g2.one
    (fun m' ev a b c ha hb=>by rw [k1]; obtain ⟨v,f1,f2⟩:=k2 a b c ha hb; exact ⟨v,f1,f2.ev ev⟩) (fun _=>false) (by simp) ((next,some (.arr e n cols))::H) (fun id=>by
     simp only [getH]
     by_cases hid:id=next
     ·subst hid; simp
     ·have:(next==id)=false:=by simpa using fun h=>hid h.symm
      simp [this,hid])
   refine ⟨_,_,Y',m',.inl ?_,r1,r2,r3⟩
   have hz0:=row_zero cs n
   rw [hcl] at hz0
   have hnz:¬ (n * sz > 2 ^ 24):=by omega
   have hparts:(parts.map fun (x:Nat × Operand)=>(x.1,ρv x.2)).toList=parts.toList.map fun (i,x)=>(i,ρv x):=by simp
   by_cases hn0:n * sz=0
   ·have hnz0:n=0:=by
     rcases Nat.eq_zero_or_pos n with h | h
     ·exact h
     ·have:=Nat.mul_pos h h4; omega
    subst hnz0
    have hvs:vs=[]:=List.eq_nil_of_length_eq_zero (by omega)
    subst hvs
    simp only [List.replicate_zero,List.flatten_nil] at g1
    have hr0:∀ f:Nat→Value,(Array.range 0).map f=#[]:=fun f=>Array.eq_empty_of_size_eq_zero (by simp)
    simp [execOp,ho,Instr.buildSlice,run_underlying h1,run_size h2,newRow,hr0,g1]
   ·have hz1:(Array.range (n * sz)).map (fun i=>zv.cells[i % zv.cells.size]!)=((List.replicate n cs).flatten).toArray:=by rw [e3]; exact hz0
    simp only [execOp,ho,Instr.buildSlice,Sem.run_bind,run_underlying h1,Result.andThen_ok,run_size h2,hnz,hn0,if_false,Sem.run_pure,hparts,zeroValue,typeInfo,run_program,e1,e2,hz1,g1,newRow,run_newObj]
    rfl
  ·cases hs
 ·cases hs
theorem colApp_rep {c d e:Col} {n:Nat} (h:c.app n d=some e) {Y:Nat→Prop} {m:Names} {w:World}:(∀ k v,k<n→ACR Y m w c k v→ACR Y m w e k v)∧(∀ k v,ACR Y m w d k v→ACR Y m w e (n+k) v):=by
 have nk:∀ k,¬ n+k<n:=fun k=>by omega
 have sk:∀ k,n+k - n=k:=fun k=>by omega
 suffices hh:(c.noO=true→d.noO=true→(∀ k v,k<n→ColRep Y w c k v→ColRep Y w e k v)∧(∀ k v,ColRep Y w d k v→ColRep Y w e (n+k) v)) by
  by_cases hc:c.noO=true
  ·by_cases hd:d.noO=true
   ·have h2:=hh hc hd
    exact ⟨fun k v hk hv=>(h2.1 k v hk (hv.col hc)).acr,fun k v hv=>(h2.2 k v (hv.col hd)).acr⟩
   ·(cases d <;> simp [Col.noO] at hd) <;> (cases c <;> simp [Col.app,Col.noO] at h hc)
  ·cases c <;> simp [Col.noO] at hc
   ·cases d <;> simp only [Col.app,reduceCtorEq,Option.some.injEq] at h
    subst h
    refine ⟨fun j v hj hv=>?_,fun j v hv=>?_⟩
    ·show SlRep m _ 0 _ v
     simp only [if_pos hj]
     exact hv
    ·show SlRep m _ 0 _ v
     simp only [nk,sk,if_false]
     exact hv
   ·cases d <;> simp only [Col.app,reduceCtorEq,Option.some.injEq] at h
    subst h
    refine ⟨fun j v hj hv=>?_,fun j v hv=>?_⟩
    ·obtain ⟨pl,h1,h2⟩:=hv
     exact ⟨pl,by simp only [if_pos hj]; exact h1,h2⟩
    ·obtain ⟨pl,h1,h2⟩:=hv
     exact ⟨pl,by simp only [nk,sk,if_false]; exact h1,h2⟩
 intro hc0 hd0
 cases c <;> cases d <;> simp only [Col.app,reduceCtorEq] at h <;> try contradiction
 ·split at h
  ·rename_i k g k' g' e'
   subst e'
   simp only [Option.some.injEq] at h
   subst h
   refine ⟨fun j v hj hv=>?_,fun j v hv=>?_⟩
   ·cases hv; have:=ColRep.i (Y:=Y) (w:=w) (k:=k) (g:=fun i=>if i<n then g i else g' (i - n)) (n:=j); simpa [hj] using this
   ·cases hv; have:=ColRep.i (Y:=Y) (w:=w) (k:=k) (g:=fun i=>if i<n then g i else g' (i - n)) (n:=n+j); simpa [nk,sk] using this
  ·cases h
 ·rename_i g g'
  simp only [Option.some.injEq] at h
  subst h
  refine ⟨fun j v hj hv=>?_,fun j v hv=>?_⟩
  ·cases hv; have:=ColRep.b (Y:=Y) (w:=w) (g:=fun i=>if i<n then g i else g' (i - n)) (n:=j); simpa [hj] using this
  ·cases hv; have:=ColRep.b (Y:=Y) (w:=w) (g:=fun i=>if i<n then g i else g' (i - n)) (n:=n+j); simpa [nk,sk] using this
 ·rename_i g g'
  simp only [Option.some.injEq] at h
  subst h
  refine ⟨fun j v hj hv=>?_,fun j v hv=>?_⟩
  ·cases hv; have:=ColRep.s (Y:=Y) (w:=w) (g:=fun i=>if i<n then g i else g' (i - n)) (n:=j); simpa [hj] using this
  ·cases hv; have:=ColRep.s (Y:=Y) (w:=w) (g:=fun i=>if i<n then g i else g' (i - n)) (n:=n+j); simpa [nk,sk] using this
 ·rename_i a g cc a' g' cc'
  simp only [Option.some.injEq] at h
  subst h
  refine ⟨fun j v hj hv=>?_,fun j v hv=>?_⟩
  ·cases hv with
   | l u h1 h2 h3 h4 h5 =>
    have:=ColRep.l (Y:=Y) (w:=w) (nl:=fun i=>if i<n then a i else a' (i - n)) (len:=fun i=>if i<n then g i else g' (i - n)) (cols:=fun i=>if i<n then cc i else cc' (i - n)) (n:=j) u (by simpa [hj] using h1) (by simpa [hj] using h2)
     (by simpa [hj] using h3) (by simpa [hj] using h4) (by simpa [hj] using h5)
    simpa [hj] using this
  ·cases hv with
   | l u h1 h2 h3 h4 h5 =>
    have:=ColRep.l (Y:=Y) (w:=w) (nl:=fun i=>if i<n then a i else a' (i - n)) (len:=fun i=>if i<n then g i else g' (i - n)) (cols:=fun i=>if i<n then cc i else cc' (i - n)) (n:=n+j) u (by simpa [nk,sk] using h1) (by simpa [nk,sk] using h2)
     (by simpa [nk,sk] using h3) (by simpa [nk,sk] using h4) (by simpa [nk,sk] using h5)
    simpa [nk,sk] using this
theorem colsApp_spec {n:Nat}:∀ {cs ds es:List Col},colsApp n cs ds=some es→es.length=cs.length∧es.length=ds.length∧∀ (j:Nat) e,es[j]?=some e→∃ c d,cs[j]?=some c∧ds[j]?=some d∧c.app n d=some e
 | [],[],es,h=>by simp only [colsApp,Option.some.injEq] at h; subst h; simp
 | c::cs,[],es,h=>by simp [colsApp] at h
 | [],d::ds,es,h=>by simp [colsApp] at h
 | c::cs,d::ds,es,h=>by
  simp only [colsApp] at h
  split at h
  ·rename_i e es' h1 h2
   simp only [Option.some.injEq] at h
   subst h
   obtain ⟨i1,i2,i3⟩:=colsApp_spec h2
   refine ⟨by simp [i1],by simp [i2],fun j e' hj=>?_⟩
   rcases j with _ | j
   ·simp only [List.getElem?_cons_zero,Option.some.injEq] at hj; subst hj; exact ⟨c,d,rfl,rfl,h1⟩
   ·simp only [List.getElem?_cons_succ] at hj; simpa using i3 j e' hj
  ·cases h
theorem tail_cells {Y:Nat→Prop} {m:Names} {w:World} {H:Heap} (hH:∀ id b,getH H id=some b→∃ pl,m id=some pl∧BlkSat Y m w pl b) {p:PV} {v:Value} (hr:Rep Y m w p v) {k:Nat} {new:List Col}
  (hp:tailOf H p=some (k,new)) :
  ∃ (B:Option Addr) (d:Nat) (news:List Value),v=.slice B k d∧news.length=k * new.length∧RowV w B news∧(∀ u∈news,u.oneCell'=true)∧∀ (i j:Nat) c,i<k→new[j]?=some c→∃ u,news[i * new.length+j]?=some u∧ACR Y m w c i u:=by
 have build:∀ (B:Option Addr) (u:Nat→Nat→Value),(∀ j i,j<k→i<new.length→∃ b o,B=some ⟨b,o,none⟩∧w.cell? ⟨b,o+(j * new.length+i),none⟩=some (u j i)) →
   (∀ (j i:Nat) c,j<k→new[i]?=some c→ACR Y m w c j (u j i))→∃ news:List Value,news.length=k * new.length∧RowV w B news∧(∀ u∈news,u.oneCell'=true)∧∀ (i j:Nat) c,i<k→new[j]?=some c→∃ u,news[i * new.length+j]?=some u∧ACR Y m w c i u:=by
  intro B u h5 h6
  have dm:∀ x,x<k * new.length→x / new.length<k∧x % new.length<new.length:=fun x hx=>by
   have h0:0<new.length:=Nat.pos_of_ne_zero (fun e=>by rw [e] at hx; simp at hx)
   exact ⟨(Nat.div_lt_iff_lt_mul h0).2 hx,Nat.mod_lt _ h0⟩
  refine ⟨(List.range (k * new.length)).map fun x=>u (x / new.length) (x % new.length),by simp,?_,?_,?_⟩
  ·intro x y hx
   rw [List.getElem?_map] at hx
   obtain ⟨x',hx',rfl⟩:=map_some hx
   have hxl:x<k * new.length:=by have:=(List.getElem?_eq_some_iff.1 hx').1; simpa using this
   rw [List.getElem?_range hxl] at hx'
   injection hx' with hx'
   subst hx'
   obtain ⟨d1,d2⟩:=dm x hxl
   obtain ⟨b,o',e1,e2⟩:=h5 _ _ d1 d2
   refine ⟨b,o',e1,?_⟩
   rw [show x / new.length * new.length+x % new.length=x from by rw [Nat.mul_comm]; exact Nat.div_add_mod x _] at e2
   exact e2
  ·intro y hy
   obtain ⟨x,hx,rfl⟩:=List.mem_map.1 hy
   obtain ⟨d1,d2⟩:=dm x (List.mem_range.1 hx)
   exact (h6 _ _ _ d1 (List.getElem?_eq_getElem d2)).one
  ·intro i j c hi hj
   have hjl:j<new.length:=(List.getElem?_eq_some_iff.1 hj).1
   have hx:i * new.length+j<k * new.length:=by
    have:i * new.length+new.length≤k * new.length:=by rw [← Nat.succ_mul]; exact Nat.mul_le_mul_right _ (by omega)
    omega
   have hdiv:(i * new.length+j) / new.length=i:=by rw [Nat.add_comm,Nat.add_mul_div_right _ _ (by omega),Nat.div_eq_of_lt hjl,Nat.zero_add]
   have hmod:(i * new.length+j) % new.length=j:=by rw [Nat.add_comm,Nat.add_mul_mod_self_right,Nat.mod_eq_of_lt hjl]
   refine ⟨u i j,?_,h6 i j c hi hj⟩
   rw [List.getElem?_map,List.getElem?_range hx]
   simp only [Option.map_some,hdiv,hmod]
 unfold tailOf at hp
 split at hp
 ·simp only [Option.some.injEq,Prod.mk.injEq] at hp
  obtain ⟨rfl,rfl⟩:=hp
  obtain ⟨A,cap,u,e1,e2,e3,e4,e5,e6⟩:=hr.lit_inv
  obtain ⟨news,h⟩:=build A u (fun j i hj hi=>by obtain ⟨b,o',q1,_,q2⟩:=e5 j i hj hi; exact ⟨b,o',q1,q2⟩) (fun j i c hj hi=>(e6 j i c hj hi).acr)
  exact ⟨A,cap,news,e1,h⟩
 ·rename_i id off mm
  split at hp
  ·rename_i T nn cols hb
   simp only [Option.some.injEq,Prod.mk.injEq] at hp
   obtain ⟨rfl,rfl⟩:=hp
   obtain ⟨pl,A,B,c,cap,hm,e1,e2,e3,e4,e5,e6,e7,e8⟩:=hr.sl_inv
   obtain ⟨pl',hm',hbs⟩:=hH id _ hb
   rw [hm] at hm'
   injection hm' with hm'
   subst hm'
   obtain ⟨xs,cap2,s1,s2,s3,s4,s5,s6,s7⟩:=hbs
   have hlen:(bif (off==0) then cols else cols.map (Col.shift off)).length=cols.length:=by cases (off==0) <;> simp
   have hcol:∀ (i:Nat) c,(bif (off==0) then cols else cols.map (Col.shift off))[i]?=some c→∃ c0,cols[i]?=some c0∧∀ j u,ACR Y m w c0 (off+j) u→ACR Y m w c j u:=by
    intro i c hi
    cases h0:off==0
    ·rw [h0] at hi
     simp only [cond_false,List.getElem?_map] at hi
     obtain ⟨c0,h0,rfl⟩:=map_some hi
     exact ⟨c0,h0,fun j u hu=>ACR.shift hu⟩
    ·rw [h0] at hi
     have h00:off=0:=by simpa using h0
     subst h00
     exact ⟨c,by simpa using hi,fun j u hu=>by rwa [Nat.zero_add] at hu⟩
   have hin:∀ j i,j<mm→i<cols.length→(off+j) * cols.length+i<xs.length:=fun j i hj hi=>by
    rw [s3.1]
    have:(off+j) * cols.length+cols.length≤nn * cols.length:=by rw [← Nat.succ_mul]; exact Nat.mul_le_mul_right _ (by omega)
    omega
   obtain ⟨news,h⟩:=build B (fun j i=>xs.getD ((off+j) * cols.length+i) undef) (fun j i hj hi=>by
    rw [hlen] at hi ⊢
    have hx:=hin j i hj hi
    refine ⟨pl.blk,pl.o+off * pl.sz,e5 (by omega),?_⟩
    have:=s3.cells (g:=pl.blk) (s4 (by omega)) ((off+j) * cols.length+i) _ (List.getElem?_eq_getElem hx)
    rw [s2,Nat.add_assoc,← Nat.add_assoc (off * cols.length),← Nat.add_mul,this,List.getD_eq_getElem?_getD,List.getElem?_eq_getElem hx]
    rfl) (fun j i c hj hi=>by
    obtain ⟨c0,h0,hcr⟩:=hcol i c hi
    obtain ⟨u,q1,q2⟩:=s7 (off+j) i c0 (by omega) h0
    simp only [List.getD_eq_getElem?_getD,q1,Option.getD_some]
    exact hcr j u q2)
   exact ⟨B,c,news,e1,h⟩
  ·cases hp
 ·cases hp
theorem run_appAt {P:Program} (w:World) (t ty e:TypeId) (z:Value) (size bytes:Nat) (ht:P.underlying t=some (.slice e))
  (hinfo:(P.info? e).map (fun i=>(i.zero,i.size,i.bytes))=some (some z,size,bytes)) (hzs:z.cells.size=size) (hsz:0<size)
  (A:Option Addr) (n c:Nat) (xs:List Value) (row:Option Nat) (B:Option Addr) (m d:Nat) (news:List Value)
  (hown:(∃ oo,ownsAt w e size (.slice A n c) oo n xs∧ablk A=row)∨(n=0∧c=0∧xs=[]∧0<m))
  (hl:news.length=m * size) (hr:RowV w B news) (h1:∀ u∈news,u.oneCell'=true)
  (h63:n+m≤maxLen) (hbytes:(n+m) * bytes≤140737488355328) (hTS:e≠TS) :
  ∃ A' c' o' w',(Builtin.append_ #[t,t] ty #[.slice A n c,.slice B m d]).run P w=.ok (.slice A' (n+m) c') w'∧ownsAt w' e size (.slice A' (n+m) c') o' (n+m) (xs++news)∧w.grownBy w' row ∧
   (ablk A'=row∨ablk A'=some w.heap.size):=by
 obtain ⟨i,hi,hz,hs,hb⟩:=info_parts hinfo
 subst hs
 subst hb
 have hsmall:n+m≤9223372036854775807:=by simp only [maxLen] at h63; omega
 have grown:∀ (old:Nat),old<n+m→xs.length=n * i.size →
   ownsAt (w.drew.alloc (.cells (xs.toArray++news.toArray++Builtin.zeroCells z.cells (grownCap w (n+m) old e - (n+m))) e)) e i.size
    (.slice (some ⟨w.heap.size,0,none⟩) (n+m) (grownCap w (n+m) old e)) 0 (n+m) (xs++news) ∧
   w.grownBy (w.drew.alloc (.cells (xs.toArray++news.toArray++Builtin.zeroCells z.cells (grownCap w (n+m) old e - (n+m))) e)) row:=by
  intro old ho hxl
  have hge:=grownCap_ge w (n+m) old e
  have hcm:grownCap w (n+m) old e≤maxLen:=grownCap_le_maxLen w (n+m) old e h63
  have hlen:(xs++news).length=(n+m) * i.size:=by rw [List.length_append,hxl,hl,Nat.add_mul]
  refine ⟨⟨hlen,.inr ⟨w.heap.size,_,_,rfl,.of (heap_alloc_new w.drew _),hge,hcm,?_,?_⟩⟩,⟨rfl,rfl,rfl,by simp,fun k hk _=>by first | exact heap_alloc_old w.drew _ k hk | exact heap_alloc_old w.drew _ hk⟩⟩
  ·simp only [Array.size_append,List.size_toArray,size_zeroCells,hzs,hxl,hl,← Nat.add_mul]
   rw [Nat.zero_add]
   congr 1
   omega
  ·simp only [Array.toList_append,List.append_assoc,List.drop_zero]
   rw [← List.append_assoc,← hlen]
   exact List.take_left
 have hcells:∀ b o,B=some ⟨b,o,none⟩→∀ j u,news[j]?=some u→w.cell? ((⟨b,o,none⟩:Addr).add j)=some u:=by
  rintro b o rfl j u hu
  obtain ⟨b',o',he,hc⟩:=hr j u hu
  injection he with he
  injection he with he1 he2
  subst he1; subst he2
  rw [addr_add]
  exact hc
 have hB:0<m→∃ b o,B=some ⟨b,o,none⟩:=fun h0=>by
  have hpos:0<news.length:=by rw [hl]; exact Nat.mul_pos h0 hsz
  obtain ⟨u0,hu0⟩:∃ u,news[0]?=some u:=⟨news[0],List.getElem?_eq_getElem hpos⟩
  obtain ⟨b,o,rfl,_⟩:=hr 0 u0 hu0
  exact ⟨b,o,rfl⟩
 have nilcase:A=none→n=0→c=0→xs=[]→(ablk A=row∨0<m)→∃ A' c' o' w',(Builtin.append_ #[t,t] ty #[.slice A n c,.slice B m d]).run P w=.ok (.slice A' (n+m) c') w'∧ownsAt w' e i.size (.slice A' (n+m) c') o' (n+m) (xs++news)∧w.grownBy w' row ∧
   (ablk A'=row∨ablk A'=some w.heap.size):=by
  rintro rfl rfl rfl rfl hrow
  obtain ⟨A',c',w',q1,q2,q3,q4⟩:=run_app (P:=P) w 0 t ty e z i.size i.bytes ht hinfo hzs hsz none 0 0 [] (Own.nil w 0 e i.size) B m d news hl hr h1 h63 hbytes (Nat.zero_le _)
  refine ⟨A',c',0,w',q1,.of q2,⟨q3.os,q3.tape,q3.output,q3.size,fun k hk hne=>q3.block k hk (by simp [ablk])⟩,?_⟩
  rcases q4 with q4 | q4
  ·rcases hrow with hrow | hrow
   ·exact .inl (q4.trans hrow)
   ·rcases q2.2 with ⟨h1,h2⟩ | ⟨g,cap,cur,h1,_⟩
    ·omega
    ·injection h1 with h1; subst h1; simp [ablk] at q4
  ·exact .inr q4
 rcases hown with ⟨oo,hown,hrow⟩ | ⟨rfl,rfl,rfl,h0⟩
 ·rcases hown.2 with ⟨hv,hn0⟩ | ⟨g,cap,cur,hv,hg,hnc,hcm,hcs,htake⟩
  ·injection hv with hA hn hc
   exact nilcase hA hn0 hc (List.eq_nil_of_length_eq_zero (by rw [hown.1,hn0]; simp)) (.inl hrow)
  ·injection hv with hA _ hc
   subst hA; subst hc
   have hg':=hg.exact hTS
   have hrow':some g=row:=hrow
   rcases Nat.eq_zero_or_pos m with h0 | h0
   ·subst h0
    have hn:news=[]:=List.eq_nil_of_length_eq_zero (by simpa using hl)
    subst hn
    refine ⟨some ⟨g,oo,none⟩,c,oo,w,?_,by simpa using hown,grown_refl w _,.inl hrow⟩
    rcases B with _ | ad
    ·simp [Builtin.append_,run_underlying ht,sizeOf,typeInfo,hi,Builtin.lenOf,Builtin.firstCells,hnc,storeCells]
    ·have hfc:=run_firstCells_some (P:=P) w i.size 0 ad 0 d [] (by simp) (by simp)
     simp [Builtin.append_,run_underlying ht,sizeOf,typeInfo,hi,Builtin.lenOf,hfc,hnc,storeCells]
   ·obtain ⟨b,ob,rfl⟩:=hB h0
    have hc':=hcells b ob rfl
    by_cases hroom:n+m≤c
    ·have hfit:oo+n * i.size+news.length≤cur.size:=by rw [hl,hcs,Nat.add_assoc,← Nat.add_mul]; exact Nat.add_le_add_left (Nat.mul_le_mul_right _ hroom) _
     have hfc:=run_firstCells_some (P:=P) w i.size m ⟨b,ob,none⟩ m d news hl hc'
     have hst:=run_storeCells_at P g (oo+n * i.size) e news 0 cur w hg' (by omega) h1
     refine ⟨some ⟨g,oo,none⟩,c,oo,_,by simp [Builtin.append_,run_underlying ht,sizeOf,typeInfo,hi,Builtin.lenOf,hroom,hfc,addr_add,hst]; rfl,
      ⟨by rw [List.length_append,hown.1,hl,Nat.add_mul],.inr ⟨g,c,_,rfl,.of (setRow_heap w g cur _ e _ hg'),hroom,hcm,?_,?_⟩⟩,⟨rfl,rfl,rfl,by simp,fun k _ hk=>setRow_other w g k _ (fun e=>hk (by rw [← hrow',e]))⟩,.inl hrow⟩
     ·simp only [List.size_toArray,List.length_append,List.length_take,List.length_drop,Array.length_toList,Nat.add_zero]
      omega
     ·simp only [Nat.add_zero]
      have hlt:(cur.toList.take (oo+n * i.size)).length=oo+n * i.size:=by simp; omega
      rw [List.drop_append_of_le_length (by rw [hlt]; omega),← htake,List.drop_take,Nat.add_sub_cancel_left,← List.append_assoc]
      have hlen:((cur.toList.drop oo).take (n * i.size)++news).length=(n+m) * i.size:=by rw [htake,List.length_append,hown.1,hl,Nat.add_mul]
      rw [← hlen]
      exact List.take_left
    ·have holds:∀ j u,xs[j]?=some u→w.cell? ((⟨g,oo,none⟩:Addr).add j)=some u:=fun j u hu=>by rw [addr_add]; exact hown.cells (g:=g) rfl j u hu
     have hr:=run_append_grow (P:=P) w t ty e i z ht hi hz ⟨g,oo,none⟩ n c xs hown.1 holds ⟨b,ob,none⟩ m d news hl hc' (by omega) (by omega) (growslice_fits (by omega) hbytes)
     obtain ⟨g1,g2⟩:=grown c (by omega) hown.1
     exact ⟨_,_,_,_,hr,g1,g2,.inr rfl⟩
 ·rcases A with _ | a
  ·exact nilcase rfl rfl rfl rfl (.inr h0)
  ·obtain ⟨b,ob,rfl⟩:=hB h0
   have hc':=hcells b ob rfl
   have hr:=run_append_grow (P:=P) w t ty e i z ht hi hz a 0 0 [] (by simp) (by simp) ⟨b,ob,none⟩ m d news hl hc' (by omega) (by omega) (growslice_fits (by omega) hbytes)
   obtain ⟨g1,g2⟩:=grown 0 (by omega) (by simp)
   exact ⟨_,_,_,_,hr,g1,g2,.inr rfl⟩
theorem ok_app {t ty e:TypeId} {x y:Operand} {x' y':AX} {i:TypeInfo} {z:List PV} {cl:Call} (ho:o.op=.call cl) (hcl:cl.callee=.builtin .append) (ha:cl.args=#[x,y]) (hat:cl.argTypes=#[t,t])
  (h1:P.underlying t=some (.slice e)) (h2:P.info? e=some i) (h3:zeroT P e=some z) (h4:0<i.size∧e≠TS) (hx:compX x=some x') (hy:compX y=some y'):StepOK P o (.app e i.size i.bytes x' y'):=by
 obtain ⟨h4,hTS⟩:=h4
 intro C Y m w H Fr next ρ ρv vc p u hρ hH h4' hs hvc
 obtain ⟨i',zv,cs,z1,z2,z3,z4,z5⟩:=zeroT_cells (Y:=Y) (m:=m) (w:=w) h3
 rw [h2] at z1; injection z1 with z1; subst z1
 have hzs:zv.cells.size=i.size:=by rw [z3,List.size_toArray,z5.len,z4]
 have hH':∀ id b,getH H id=some b→∃ pl,m id=some pl∧BlkSat Y m w pl b:=fun id b hb=>by obtain ⟨pl,h1,h2,_⟩:=hH.blk id b hb; exact ⟨pl,h1,h2⟩
 have did:∀ {a b v:Value} {w':World},ρv x=a→ρv y=b→(Builtin.append_ #[t,t] o.type #[a,b]).run P w=.ok v w'→Did P o ρv w v w':=by
  intro a b v w' h5 h6 h7
  left
  simp [execOp,ho,resolve,hcl,ha,hat,invoke,builtin,h5,h6,h7]
 simp only [step] at hs
 split at hs
 ·cases hs
 ·rename_i k new hnew
  obtain ⟨B,d,news,v1,v2,v3,v4,v5⟩:=tail_cells hH' (hρ y y' hy) hnew
  cases hsz:new.length==i.size
  ·simp [hsz] at hs
  ·simp only [hsz,cond_true] at hs
   have hnl:new.length=i.size:=by simpa using hsz
   have hr:=hρ x x' hx
   split at hs
   ·rename_i nl n cols hp
    rw [hp] at hr
    cases hn:(nl && (n==0))
    ·simp [hn] at hs
    ·simp only [hn,cond_true,Option.some.injEq,Prod.mk.injEq] at hs
     obtain ⟨rfl,rfl,rfl⟩:=hs
     simp only [Bool.and_eq_true,beq_iff_eq] at hn
     obtain ⟨rfl,rfl⟩:=hn
     obtain ⟨A,cap,uu,e1,e2,e3,_⟩:=hr.lit_inv
     have hA:A=none:=by cases A <;> simp at e2; rfl
     subst hA
     obtain ⟨_,rfl⟩:=e3 rfl
     obtain ⟨A',c',w',hrun,q1,q2,q3⟩:=run_app (P:=P) w 0 t o.type e zv i.size i.bytes h1 (by rw [h2]; simp [z2]) hzs h4 none 0 0 [] (Own.nil w 0 e i.size) B k d news (by rw [v2,hnl]) v3 v4 (by unfold maxLen; omega) (by rw [Nat.zero_add]; omega) (Nat.zero_le _)
     rw [Nat.zero_add] at hrun q1
     rw [List.nil_append] at q1
     have q1':w'.ownsRow 0 e new.length (.slice A' k c') k news:=by rw [hnl]; exact q1
     obtain ⟨Y',m',r1,r2,r3⟩:=hH.newArr h4' e k c' new A' 0 news q2 (by simp [ablk]) (.of q1') (by
      rcases q3 with q3 | q3
      ·exact .inl q3
      ·exact .inr (fun g hg=>by rw [q3] at hg; injection hg with hg; omega)) v4 (fun m' ev a b c ha' hb=>by obtain ⟨u,f1,f2⟩:=v5 a b c ha' hb; exact ⟨u,f1,f2.ev ev⟩)
      (fun _=>false) (by simp [ablk]) ((next,some (.arr e k new))::H) (fun id=>by
       simp only [getH]
       by_cases hid:id=next
       ·subst hid; simp
       ·have:(next==id)=false:=by simpa using fun h=>hid h.symm
        simp [this,hid])
     exact ⟨_,_,Y',m',.inl (by rcases did e1 v1 hrun with h | ⟨h,h'⟩; exact h; cases h'),r1,r2,r3⟩
   ·rename_i id off n hp
    rw [hp] at hr
    split at hs
    ·rename_i T kk cols hb
     obtain ⟨pl,A,B',c,cap,hm,e1,e2,e3,e4,e5,e6,e7,e8⟩:=hr.sl_inv
     obtain ⟨pl',hm',hbs,hlies⟩:=hH.blk id _ hb
     rw [hm] at hm'
     injection hm' with hm'
     subst hm'
     obtain ⟨xs,cap2,s1,s2,s3,s4,s5,s6,s7⟩:=hbs
     have core:∀ (cols1 all:List Col) (ys:List Value),cols1.length=i.size→ys.length=n * i.size→(∀ v∈ys,v.oneCell'=true) →
       ((∃ oo,ownsAt w e i.size (.slice B' n c) oo n ys∧ablk B'=(ABlk.arr T kk cols).lies pl)∨(n=0∧c=0∧ys=[]∧0<k)) →
       (∀ (a b:Nat) c,a<n→cols1[b]?=some c→∃ u,ys[a * i.size+b]?=some u∧ACR Y m w c a u)→colsApp n cols1 new=some all→n+k≤140737488355328→(n+k) * i.bytes≤140737488355328 →
       ∃ v w' Y' m',Did P o ρv w v w'∧Rep Y' m' w' (.sl next 0 (n+k)) v∧HSF C Y' m' w' ([(id,none),(next,some (ABlk.arr e (n+k) all))]++H) (Fr4 Fr next)∧Ev Y m w Y' m' w':=by
      intro cols1 all ys hcl2 hxl hone hown hs7 hall hb1 hb2
      obtain ⟨c1,c2,c3⟩:=colsApp_spec hall
      obtain ⟨A',c',o',w',hrun,q1,q2,q3⟩:=run_appAt (P:=P) w t o.type e zv i.size i.bytes h1 (by rw [h2]; simp [z2]) hzs h4 B' n c ys ((ABlk.arr T kk cols).lies pl) B k d news hown (by rw [v2,hnl]) v3 v4 (by unfold maxLen; omega) (by omega) hTS
      have hall':all.length=i.size:=by rw [c1,hcl2]
      have q1':ownsAt w' e all.length (.slice A' (n+k) c') o' (n+k) (ys++news):=by rw [hall']; exact q1
      have hgetnext:getH ((id,none)::(next,some (ABlk.arr e (n+k) all))::H)=fun i=>if i=next then some (ABlk.arr e (n+k) all) else if (i==id) then none else getH H i:=by
       funext i
       have hid:id≠next:=by rintro rfl; rw [hH.fresh id (h4' id (Nat.le_refl _) (by omega))] at hm; cases hm
       simp only [getH]
       by_cases e3:i=next
       ·subst e3
        have:(id==i)=false:=by simpa using hid
        simp [this]
       ·have h5:(next==i)=false:=by simpa using fun h=>e3 h.symm
        by_cases e4:i=id
        ·subst e4; simp [e3]
        ·have h6:(id==i)=false:=by simpa using fun h=>e4 h.symm
         have h7:(i==id)=false:=by simpa using e4
         simp [h5,h6,h7,e3]
      obtain ⟨Y',m',r1,r2,r3⟩:=hH.newArr h4' e (n+k) c' all A' o' (ys++news) q2 (fun g hg=>hlies g hg) q1' (by
       rcases q3 with q3 | q3
       ·exact .inl q3
       ·exact .inr (fun g hg=>by rw [q3] at hg; injection hg with hg; omega)) (fun v hv=>by
        rcases List.mem_append.1 hv with hv | hv
        ·exact hone v hv
        ·exact v4 v hv) (fun m' ev a b cc ha' hb'=>by
        obtain ⟨ca,cb,f1,f2,f3⟩:=c3 b cc hb'
        rw [hall']
        have hbl:b<i.size:=by rw [← hall']; exact (List.getElem?_eq_some_iff.1 hb').1
        by_cases han:a<n
        ·obtain ⟨u,g1,g2⟩:=hs7 a b ca han f1
         refine ⟨u,?_,((colApp_rep f3).1 a u han g2).ev ev⟩
         rw [List.getElem?_append_left (List.getElem?_eq_some_iff.1 g1).1]
         exact g1
        ·obtain ⟨u,g1,g2⟩:=v5 (a - n) b cb (by omega) f2
         rw [hnl] at g1
         have g2':=(colApp_rep f3).2 (a - n) u g2
         rw [show n+(a - n)=a from by omega] at g2'
         refine ⟨u,?_,g2'.ev ev⟩
         have hge:n * i.size≤a * i.size:=Nat.mul_le_mul_right _ (by omega)
         rw [List.getElem?_append_right (by rw [hxl]; omega),hxl]
         rw [show a * i.size+b - n * i.size=(a - n) * i.size+b from by rw [Nat.sub_mul]; omega]
         exact g1) (fun i=>i==id) (fun i b pl2 hne hb2 hm2 g hl2 e=>by
         have hne':i≠id:=by simpa using hne
         exact hH.inj i id b _ pl2 pl g hne' hb2 hb hm2 hm hl2 e) ((id,none)::(next,some (.arr e (n+k) all))::H) (fun i=>by rw [hgetnext])
      exact ⟨_,_,Y',m',.inl (by rcases did e1 v1 hrun with h | ⟨h,h'⟩; exact h; cases h'),r1,r2,r3⟩
     have hlie:(ABlk.arr T kk cols).lies pl=ablk A:=by show pl.hdr.ownBlock=_; rw [e2,ownBlock_ablk]
     cases h0:(off==0 && T==e)
     ·simp only [h0,cond_false] at hs
      cases hT:T==e
      ·simp [hT] at hs
      ·simp only [hT,cond_true] at hs
       have hTe:T=e:=by simpa using hT
       have hoff:off≠0:=by rintro rfl; simp [hTe] at h0
       split at hs
       ·rename_i all hall
        simp only [Option.some.injEq,Prod.mk.injEq] at hs
        obtain ⟨rfl,rfl,rfl⟩:=hs
        obtain ⟨hk0,rfl,hb1,hb2⟩:=hvc
        have hcl1:cols.length=i.size:=by
         have:=(colsApp_spec hall).2.1
         have h5:=(colsApp_spec hall).1
         rw [← hnl,← this,h5]; simp
        have hxl:xs.length=(off+n) * cols.length:=s3.1
        refine core (cols.map (Col.shift off)) all (xs.drop (off * i.size)) (by simp [hcl1]) (by rw [List.length_drop,hxl,hcl1,Nat.add_mul,Nat.add_sub_cancel_left]) (fun v hv=>s5 v (List.mem_of_mem_drop hv)) ?_ ?_ hall hb1 hb2
        ·rcases Nat.eq_zero_or_pos c with hc0 | hc0
         ·have hn0:n=0:=by omega
          subst hn0
          exact .inr ⟨rfl,hc0,List.eq_nil_of_length_eq_zero (by rw [List.length_drop,hxl,hcl1,Nat.add_zero,Nat.sub_self]),hk0⟩
         ·refine .inl ⟨pl.o+off * i.size,?_,?_⟩
          ·rw [e5 hc0,s2,hcl1]
           rw [e2,s1] at s3
           rcases s3.2 with ⟨hv,h0⟩ | ⟨g,cap',cur,hv,hg,g3,g4,g5,g6⟩
           ·omega
           ·injection hv with hv1 _ hv2
            have hgb:g=pl.blk:=by
             have:=s4 (by omega)
             rw [e2,hv1] at this
             simpa [Value.ownBlock] using this
            subst hgb
            subst hTe
            refine ⟨by rw [List.length_drop,hxl,hcl1,Nat.add_mul,Nat.add_sub_cancel_left],.inr ⟨pl.blk,c,cur,rfl,hg,e7,by omega,?_,?_⟩⟩
            ·rw [g5,← hv2,← e8,hcl1,Nat.add_mul]; omega
            ·rw [← g6,List.drop_take,List.drop_drop,hcl1,Nat.add_mul,Nat.add_sub_cancel_left]
          ·rw [e5 hc0]
           show some pl.blk=pl.hdr.ownBlock
           exact (s4 (by omega)).symm
        ·intro a b cc ha hb'
         rw [List.getElem?_map] at hb'
         obtain ⟨c0,h0,rfl⟩:=map_some hb'
         obtain ⟨u,g1,g2⟩:=s7 (off+a) b c0 (by omega) h0
         refine ⟨u,?_,g2.shift⟩
         rw [List.getElem?_drop,← g1,hcl1,Nat.add_mul,Nat.add_assoc]
       ·cases hs
     ·simp only [h0,cond_true] at hs
      simp only [Bool.and_eq_true,beq_iff_eq] at h0
      obtain ⟨rfl,rfl⟩:=h0
      split at hs
      ·rename_i all hall
       simp only [Option.some.injEq,Prod.mk.injEq] at hs
       obtain ⟨rfl,rfl,rfl⟩:=hs
       obtain ⟨hb1,hb2⟩:=hvc
       have hcl1:cols.length=i.size:=by rw [← hnl,← (colsApp_spec hall).2.1,(colsApp_spec hall).1]
       obtain ⟨rfl,rfl⟩:=e4 rfl
       have hnk:n≤kk:=by omega
       have hxl:xs.length=kk * i.size:=by rw [← hcl1]; exact s3.1
       have hmul:n * i.size≤kk * i.size:=Nat.mul_le_mul_right _ hnk
       refine core cols all (xs.take (n * i.size)) hcl1 (by rw [List.length_take,hxl]; omega) (fun v hv=>s5 v (List.mem_of_mem_take hv)) (.inl ⟨pl.o,?_,hlie.symm⟩) (fun a b cc ha hb'=>by
        obtain ⟨u,g1,g2⟩:=s7 a b cc (by omega) hb'
        have hbl:b<i.size:=by rw [← hcl1]; exact (List.getElem?_eq_some_iff.1 hb').1
        have hlt:a * i.size+b<n * i.size:=by
         have:a * i.size+i.size≤n * i.size:=by rw [← Nat.succ_mul]; exact Nat.mul_le_mul_right _ ha
         omega
        refine ⟨u,?_,g2⟩
        rw [List.getElem?_take,if_pos hlt,← hcl1]
        exact g1) hall hb1 hb2
       rw [e2,s1,hcl1] at s3
       exact s3.less hnk
      ·cases hs
    ·cases hs
   ·cases hs
theorem const_rep0 {c:Col} {Y:Nat→Prop} {w:World} {v:Value} (h:ColRep Y w c 0 v) (k:Nat):ColRep Y w c.const k v:=by
 cases h with
 | i=>exact .i (g:=fun _=>_)
 | b=>exact .b (g:=fun _=>_)
 | s=>exact .s (g:=fun _=>_)
 | l u h1 h2 h3 h4 h5=>exact .l (nl:=fun _=>_) (len:=fun _=>_) (cols:=fun _=>_) u h1 h2 h3 h4 h5
theorem const_rep {c:Col} {Y:Nat→Prop} {m:Names} {w:World} {v:Value} (h:ACR Y m w c 0 v) (k:Nat):ACR Y m w c.const k v:=by
 cases c with
 | o id len=>exact h
 | q id=>exact h
 | _=>exact (const_rep0 (ACR.col h rfl) k).acr
theorem ok_mks {t e:TypeId} {l:Tmp} {i:TypeInfo} {z:List PV} (ho:o.op=.makeSlice t (.tmp l) (.tmp l)) (h1:P.underlying t=some (.slice e)) (h2:P.info? e=some i) (h3:zeroT P e=some z) (h4:0<i.size) :
  StepOK P o (.mks e i.size i.bytes z (.t l)):=by
 intro C Y m w H Fr next ρ ρv vc p u hρ hH h4' hs hvc
 obtain ⟨i',zv,cs,z1,z2,z3,z4,z5⟩:=zeroT_cells (Y:=Y) (m:=m) (w:=w) h3
 rw [h2] at z1; injection z1 with z1; subst z1
 have hr:=hρ (.tmp l) (.t l) rfl
 simp only [step] at hs
 split at hs
 ·rename_i kk k hp
  rw [hp] at hr
  split at hs
  ·rename_i cols hcols
   simp only [Option.some.injEq,Prod.mk.injEq] at hs
   obtain ⟨rfl,rfl,rfl⟩:=hs
   obtain ⟨b0,b1,b2⟩:=hvc
   obtain ⟨n,rfl⟩:=Int.eq_ofNat_of_zero_le b0
   simp only [Int.toNat_natCast]
   obtain ⟨m1,m2⟩:=mkCols_spec hcols
   generalize hcc:cols.map Col.const=cc
   have hcl:cc.length=i.size:=by rw [← hcc,List.length_map,m1,z4]
   have hby:i.bytes * n≤140737488355328:=by
    have:((n * i.bytes:Nat):Int)≤140737488355328:=by rw [Int.natCast_mul]; exact b2
    rw [Nat.mul_comm]; omega
   obtain ⟨w',hrun,q1,q2⟩:=run_make_full (P:=P) w 0 t e i zv i.size h1 h2 z2 rfl kk kk n (by omega) (by unfold maxLen; omega) (Nat.zero_le _)
   have hcsl:cs.length=i.size:=by rw [z5.len,z4]
   have hx:∀ a b,a<n→b<i.size→(madeCells zv.cells (n * i.size)).toList[a * i.size+b]?=cs[b]?:=by
    intro a b ha hb
    have hin:a * i.size+b<n * i.size:=by
     have:a * i.size+i.size≤n * i.size:=by rw [← Nat.succ_mul]; exact Nat.mul_le_mul_right _ (by omega)
     omega
    have hmod:(a * i.size+b) % i.size=b:=by rw [Nat.add_comm,Nat.add_mul_mod_self_right,Nat.mod_eq_of_lt hb]
    simp only [madeCells,z3,Array.getElem?_toList,Array.getElem?_map,List.size_toArray,hcsl]
    rw [Array.getElem?_eq_getElem (by simpa using hin)]
    simp [hmod,hb,hcsl]
   obtain ⟨Y',m',r1,r2,r3⟩:=hH.newArr h4' e n n cc (some ⟨w.heap.size,0,none⟩) 0 (madeCells zv.cells (n * i.size)).toList q2 (by simp) (by rw [hcl]; exact .of q1) (.inr (fun g hg=>by simp [ablk] at hg; omega)) (by
    intro v hv
    simp only [madeCells,z3] at hv
    obtain ⟨k,hk⟩:=List.mem_iff_getElem?.1 hv
    have hkn:k<n * i.size:=by have:=(List.getElem?_eq_some_iff.1 hk).1; simpa using this
    have hmk:k % i.size<cs.length:=by rw [hcsl]; exact Nat.mod_lt _ h4
    rw [Array.getElem?_toList,Array.getElem?_map,Array.getElem?_eq_getElem (by simpa using hkn)] at hk
    simp [hcsl] at hk
    subst hk
    have:k % i.size<cs.length:=hmk
    simp only [List.getElem?_eq_getElem this,Option.getD_some]
    exact z5.one _ (List.getElem_mem _)) (fun m' ev a b c ha hb=>by
    rw [hcl]
    rw [← hcc,List.getElem?_map] at hb
    obtain ⟨c0,hc0,rfl⟩:=map_some hb
    obtain ⟨k1,_⟩:=m2 b c0 hc0
    obtain ⟨zb,hzb,hmk⟩:=k1 rfl
    have hbl:b<i.size:=by rw [← z4]; exact (List.getElem?_eq_some_iff.1 hzb).1
    obtain ⟨v,hv⟩:=get_some cs (k:=b) (by omega)
    refine ⟨v,by rw [hx a b ha hbl,hv],?_⟩
    have:=mkCol_rep (i:=0) hmk (p:=zb) rfl (z5.rep b zb v hzb hv)
    exact (const_rep this a).ev ev) (fun _=>false) (by simp) ((next,some (.arr e n cc))::H) (fun id=>by
     simp only [getH]
     by_cases hid:id=next
     ·subst hid; simp
     ·have:(next==id)=false:=by simpa using fun h=>hid h.symm
      simp [this,hid])
   refine ⟨_,w',Y',m',.inl ?_,r1,r2,r3⟩
   simp [execOp,ho,hr.int_inv,hrun]
  ·cases hs
 ·cases hs
theorem HSF.push {C:Ctx} {Y:Nat→Prop} {m:Names} {w w':World} {H:Heap} {Fr Fr':Nat→Prop} (h:HSF C Y m w H Fr) (hfr:∀ id,Fr' id→Fr id) (hg:w.grownBy w' none):HSF C Y m w' H Fr'∧Ev Y m w Y m w':=by
 have ev:Ev Y m w Y m w':=⟨hg.size,fun b hb _=>hg.block b hb (by simp),fun b h=>.inl h,fun _ _ h=>h⟩
 refine ⟨⟨?_,h.inj,fun b hb=>Nat.lt_of_lt_of_le (h.ylt b hb) hg.size,h.keep,Nat.le_trans h.size hg.size,?_,hg.os.trans h.os,hg.tape.trans h.tape,hg.output.trans h.output,h.y0lt,h.x0,h.yless,h.own,fun id hid=>h.low id (hfr id hid),h.names,fun id hid=>h.fresh id (hfr id hid),h.known,h.gl⟩,ev⟩
 ·intro id b hb
  obtain ⟨pl,h1,h2,h3⟩:=h.blk id b hb
  exact ⟨pl,h1,h2.ev ev (fun g hl=>hg.block g (h.ylt g (h3 g hl).1) (by simp)),h3⟩
 ·intro b hb hx
  rw [hg.block b (Nat.lt_of_lt_of_le hb h.size) (by simp)]
  exact h.frame b hb hx
theorem fillP_len {ρ:AX→PV}:∀ (l:List (Nat × Nat × AX)) (a b:List PV),fillP ρ a l=some b→b.length=a.length:=by
 intro l
 induction l with
 | nil=>intro a b h; simp only [fillP,Option.some.injEq] at h; rw [h]
 | cons x l ih =>
  intro a b h
  obtain ⟨o',n',x'⟩:=x
  simp only [fillP] at h
  split at h
  ·rename_i qs _
   cases hh:(qs.length==n' && decide (o'+n'≤a.length)) <;> simp [hh] at h
   rw [ih _ _ h,splice_len]
  ·cases h
theorem ok_bslit {t e:TypeId} {n sz:Nat} {z:List PV} {parts:Array (Nat × Operand)} (ho:o.op=.buildSlice t n parts) (h1:P.underlying t=some (.slice e)) (h2:szT P e=some sz) (h3:zeroT P e=some z) (h4:0<sz) (h5:n * sz≤16777216)
  (hc:(compParts (fun i=>some (i * sz,sz)) parts.toList).map (AOp.bslit sz n z)=some ao):StepOK P o ao:=by
 obtain ⟨ys,hys,rfl⟩:=map_some hc
 intro C Y m w H Fr next ρ ρv vc p u hρ hH h4' hs hvc
 simp only [step] at hs
 split at hs
 ·rename_i ps hps
  split at hs
  ·rename_i cols hcols
   cases hno:noOs cols
   ·simp [hno] at hs
   simp only [hno,cond_true,res,Option.some.injEq,Prod.mk.injEq] at hs
   obtain ⟨_,rfl,rfl⟩:=hs
   obtain ⟨i,zv,cs,e1,e2,e3,e4,e5⟩:=zeroT_cells (Y:=Y) (m:=m) (w:=w) h3
   have hsz:i.size=sz:=by unfold szT at h2; rw [e1] at h2; simpa using h2
   have hcl:cs.length=sz:=by rw [e5.len,e4,hsz]
   obtain ⟨vs,g1,g2⟩:=fill_rep hρ _ _ _ _ _ _ hys hps (e5.repl n)
   have hpl:ps.length=n * sz:=by
    rw [fillP_len _ _ _ hps]
    simp [repl,e4,hsz]
   obtain ⟨k1,k2⟩:=cols_of_cells (by rw [e4,hsz]) hcols g2 hpl
   have hvl:vs.length=n * sz:=by rw [g2.len,hpl]
   have hg:=World.grownBy_alloc w (.cells vs.toArray e) none
   obtain ⟨q1,q2⟩:=hH.push (Fr':=Fr4 Fr next) (fun id h=>h.1) hg
   have hb:(w.alloc (.cells vs.toArray e)).heap[w.heap.size]?=some (.cells vs.toArray e (0,0)):=heap_alloc_new w _
   have hcell:∀ k:Nat,(w.alloc (.cells vs.toArray e)).cell? ⟨w.heap.size,k,none⟩=vs[k]?:=fun k=>by
    rw [cell_of_row _ _ k _ _ _ hb]; simp
   refine ⟨.slice (some ⟨w.heap.size,0,none⟩) n n,w.alloc (.cells vs.toArray e),Y,m,.inl ?_,?_,q1,q2⟩
   ·have hz0:=row_zero cs n
    rw [hcl] at hz0
    have hnz:¬ (n * sz > 2 ^ 24):=by omega
    have hparts:(parts.map fun (x:Nat × Operand)=>(x.1,ρv x.2)).toList=parts.toList.map fun (i,x)=>(i,ρv x):=by simp
    by_cases hn0:n * sz=0
    ·have hnz0:n=0:=by
      rcases Nat.eq_zero_or_pos n with h | h
      ·exact h
      ·have:=Nat.mul_pos h h4; omega
     subst hnz0
     have hvs:vs=[]:=List.eq_nil_of_length_eq_zero (by omega)
     subst hvs
     simp only [List.replicate_zero,List.flatten_nil] at g1
     have hr0:∀ f:Nat→Value,(Array.range 0).map f=#[]:=fun f=>Array.eq_empty_of_size_eq_zero (by simp)
     simp [execOp,ho,Instr.buildSlice,run_underlying h1,run_size h2,newRow,hr0,g1]
    ·have hz1:(Array.range (n * sz)).map (fun i=>zv.cells[i % zv.cells.size]!)=((List.replicate n cs).flatten).toArray:=by rw [e3]; exact hz0
     simp only [execOp,ho,Instr.buildSlice,Sem.run_bind,run_underlying h1,Result.andThen_ok,run_size h2,hnz,hn0,if_false,Sem.run_pure,hparts,zeroValue,typeInfo,run_program,e1,e2,hz1,g1,newRow,run_newObj]
     rfl
   ·refine Rep.lit_mk (fun j k=>(vs[j * cols.length+k]?).getD undef) rfl (fun e=>by cases e) (Nat.le_refl _) (fun j k hj hk=>?_) (fun j k c hj hk=>?_)
    ·refine ⟨w.heap.size,0,rfl,fun hY=>Nat.lt_irrefl _ (hH.ylt _ hY),?_⟩
     rw [hcell,Nat.zero_add]
     have hin:j * cols.length+k<vs.length:=by
      rw [hvl,← k1]
      have:j * cols.length+cols.length≤n * cols.length:=by rw [← Nat.succ_mul]; exact Nat.mul_le_mul_right _ (by omega)
      omega
     rw [List.getElem?_eq_getElem hin]; rfl
    ·obtain ⟨v,f1,f2⟩:=k2 j k c hj hk
     rw [k1,f1]
     exact (f2.ev q2).col (noOs_get hno hk)
  ·cases hs
 ·cases hs
theorem bytesT_inv {t:TypeId} {n:Nat} (h:bytesT P t=some n):∃ e z,P.underlying t=some (.array n e)∧P.underlying e=some (.int .u8)∧zeroT P t=some z∧szT P e=some 1∧0<n∧n≤1000000∧z.length=n∧z.all isZ8=true:=by
 unfold bytesT at h
 split at h
 ·rename_i k e hu
  split at h
  ·rename_i z h1 h2 h3
   split at h
   ·rename_i hh
    simp only [Option.some.injEq] at h
    subst h
    exact ⟨e,z,hu,h1,h2,h3,hh.1,hh.2.1,hh.2.2.1,hh.2.2.2⟩
   ·cases h
  ·cases h
 ·cases h
theorem ok_allocb {T:TypeId} {n:Nat} (ho:o.op=.alloc T) (hb:bytesT P T=some n):StepOK P o (.allocb T n):=by
 obtain ⟨e,z,hu,hue,hz,hsz,hn0,hn1,hzl,hza⟩:=bytesT_inv hb
 intro C Y m w H Fr next ρ ρv vc p u hρ hH h4' hs hvc
 simp only [step,Option.some.injEq,Prod.mk.injEq] at hs
 obtain ⟨_,rfl,rfl⟩:=hs
 obtain ⟨i,zv,cs,e1,e2,e3,e4,e5⟩:=zeroT_cells (Y:=Y) (m:=m) (w:=w) hz
 have hcl:cs.length=n:=by rw [e5.len,hzl]
 have hcv:∀ j,j<n→cs[j]?=some (.int .u8 0):=fun j hj=>by
  obtain ⟨v,hv⟩:=get_some cs (k:=j) (by omega)
  obtain ⟨p,hp⟩:=get_some z (k:=j) (by omega)
  have hz8:=List.all_eq_true.1 hza p (List.mem_of_getElem? hp)
  have hpe:p=.int .u8 0:=by
   unfold isZ8 at hz8
   split at hz8
   ·rfl
   ·cases hz8
  subst hpe
  rw [hv,(e5.rep j _ v hp hv).int_inv]
 have hg:=World.grownBy_alloc w (.cells cs.toArray T) none
 have hheap:(w.alloc (.cells cs.toArray T)).heap[w.heap.size]?=some (.cells cs.toArray T (0,0)):=heap_alloc_new w _
 have hown:ownsAt (w.alloc (.cells cs.toArray T)) T [Col.i .u8 fun _=>0].length (.slice (some ⟨w.heap.size,0,none⟩) n n) 0 n cs:=by
  refine ⟨by simp [hcl],.inr ⟨w.heap.size,n,cs.toArray,rfl,.of hheap,Nat.le_refl _,by unfold maxLen; omega,by simp [hcl],by simp [← hcl]⟩⟩
 obtain ⟨Y',m',r1,r2,r3⟩:=hH.newArr h4' T n n [.i .u8 fun _=>0] (some ⟨w.heap.size,0,none⟩) 0 cs hg (by simp) hown (.inr (fun g hg=>by simp [ablk] at hg; omega)) e5.one
  (fun m' ev a b c ha hb=>by
   rcases b with _ | b
   ·simp only [List.getElem?_cons_zero,Option.some.injEq] at hb
    subst hb
    refine ⟨.int .u8 0,by simpa using hcv a ha,.i (g:=fun _=>0)⟩
   ·simp at hb) (fun _=>false) (by simp) ((next,some (.arr T n [.i .u8 fun _=>0]))::H) (fun id=>by
   simp only [getH]
   by_cases hid:id=next
   ·subst hid; simp
   ·have:(next==id)=false:=by simpa using fun h=>hid h.symm
    simp [this,hid])
 obtain ⟨pl,A,B,c,cap,s1,s2,s3,s4,s5,s6,s7,s8,s9⟩:=r1.sl_inv
 obtain ⟨pl',p1,p2,p3⟩:=r2.blk next (.arr T n [.i .u8 fun _=>0]) (by simp [getH])
 rw [s1] at p1; injection p1 with p1; subst p1
 obtain ⟨xs,cap2,t1,t2,t3,t4,t5,⟨A2,t6⟩,t7⟩:=p2
 injection s2 with s21 _ s23
 subst s21; subst s23
 obtain ⟨rfl,rfl⟩:=s5 rfl
 have h6:=s6 hn0
 rw [Nat.zero_mul,Nat.add_zero] at h6
 subst t1
 refine ⟨.pointer (some ⟨w.heap.size,0,none⟩),_,Y',m',.inl ?_,?_,r2,r3⟩
 ·simp [execOp,ho,Instr.alloc,zeroValue,typeInfo,e1,e2,newVar,newRow,e3]
 ·have h:=Rep.arv (Y:=Y') (w:=w.alloc (.cells cs.toArray T)) s1 (by rw [s3,← h6]) hn0
  rw [← h6] at h
  exact h
theorem ok_aadrb {t:TypeId} {n:Nat} {x i:Operand} {x' i':AX} (ho:o.op=.indexAddr t x i) (h1:bytesT P t=some n) (hx:compX x=some x') (hi:compX i=some i'):StepOK P o (.aadrb n x' i'):=by
 obtain ⟨e,z,hu,hue,hz,hsz,hn0,hn1,hzl,hza⟩:=bytesT_inv h1
 refine StepOK.quiet fun Y m w H next ρ ρv vc p u hρ hH hs hvc=>?_
 have hr:=hρ x x' hx
 have hq:=hρ i i' hi
 simp only [step] at hs
 split at hs
 ·rename_i id kk k hp hp2
  rw [hp] at hr
  rw [hp2] at hq
  split at hs
  ·rename_i T mm cols hgh
   cases hcnd:((mm==n) && (cols.length==1))
   ·simp [hcnd] at hs
   ·simp only [hcnd,cond_true,Option.some.injEq,Prod.mk.injEq] at hs
    obtain ⟨rfl,rfl,rfl⟩:=hs
    simp only [Bool.and_eq_true,beq_iff_eq] at hcnd
    obtain ⟨rfl,hcl⟩:=hcnd
    obtain ⟨hv0,hv1⟩:=hvc
    obtain ⟨pl,hm,_,hlt,hv⟩:=hr.arv_inv
    obtain ⟨pl',hm',hbs⟩:=hH id _ hgh
    rw [hm] at hm'; injection hm' with hm'; subst hm'
    obtain ⟨xs,cap2,s1,s2,s3,_⟩:=hbs
    have hs1:pl.sz=1:=by rw [s2,hcl]
    have h:=Rep.arp (Y:=Y) (w:=w) (i:=k.toNat) (j:=0) hm (by omega)
    refine ⟨rfl,.pointer (some ⟨pl.blk,pl.o+(k.toNat * pl.sz+0),none⟩),.inl ?_,h⟩
    simp [execOp,ho,hv,hq.int_inv,Instr.indexAt,asIntOf,Instr.sureAddr,run_underlying hu,hv0,hv1,run_size hsz,addr_add,hs1]
  ·cases hs
 ·cases hs
theorem ok_slcb {t:TypeId} {n:Nat} {x:Operand} {lo hi:Option Operand} {x':AX} {lo' hi':Option AX} (ho:o.op=.slice t x lo hi none) (h1:bytesT P t=some n)
  (hx:compX x=some x') (hl:optX lo=some lo') (hh:optX hi=some hi'):StepOK P o (.slcb n x' lo' hi'):=by
 obtain ⟨e,z,hu,hue,hz,hsz,hn0,hn1,hzl,hza⟩:=bytesT_inv h1
 refine StepOK.quiet fun Y m w H next ρ ρv vc p u hρ hH hs hvc=>?_
 have hr:=hρ x x' hx
 simp only [step] at hs
 split at hs
 ·rename_i lo2 hi2 l h q1 q2
  split at hs
  ·rename_i id hp
   rw [hp] at hr
   split at hs
   ·rename_i T mm cols hgh
    cases hcnd:((mm==n) && (cols.length==1))
    ·simp [hcnd] at hs
    ·simp only [hcnd,cond_true] at hs
     simp only [Bool.and_eq_true,beq_iff_eq] at hcnd
     obtain ⟨rfl,hcl⟩:=hcnd
     obtain ⟨pl,hm,hhd,hlt,hv⟩:=hr.arv_inv
     obtain ⟨pl',hm',hbs⟩:=hH id _ hgh
     rw [hm] at hm'; injection hm' with hm'; subst hm'
     obtain ⟨xs,cap2,s1,s2,s3,s4,s5,⟨A2,s6⟩,s7⟩:=hbs
     have hs1:pl.sz=1:=by rw [s2,hcl]
     have run4:∀ (a b:Nat),a≤b→b≤mm→LoIs l a→HiIs mm h b →
       (Instr.sliceBounds false mm mm (lo.map ρv) (hi.map ρv) none).run P w=.ok (a,b,mm) w:=by
      intro a b hab hbn hla hhb
      rcases l with _ | kl <;> rcases h with _ | kh
      ·simp only [LoIs,HiIs] at hla hhb
       subst hla; subst hhb
       rw [optInt_none hρ hl q1,optInt_none hρ hh q2]
       simp [Instr.sliceBounds]
      ·simp only [LoIs,HiIs] at hla hhb
       obtain ⟨c1,rfl⟩:=hhb
       subst hla
       obtain ⟨_,k2⟩:=optInt_int hρ hh q2
       have c2:kh≤(mm:Int):=by omega
       rw [optInt_none hρ hl q1,k2]
       simp [Instr.sliceBounds,Instr.sliceBound,asIntOf,c1,c2]
      ·simp only [LoIs,HiIs] at hla hhb
       obtain ⟨c1,rfl⟩:=hla
       subst hhb
       obtain ⟨_,k1⟩:=optInt_int hρ hl q1
       have c2:kl≤(b:Int):=by omega
       rw [k1,optInt_none hρ hh q2]
       simp [Instr.sliceBounds,Instr.sliceBound,asIntOf,c1,c2]
      ·simp only [LoIs,HiIs] at hla hhb
       obtain ⟨c1,rfl⟩:=hla
       obtain ⟨c3,rfl⟩:=hhb
       obtain ⟨_,k1⟩:=optInt_int hρ hl q1
       obtain ⟨_,k2⟩:=optInt_int hρ hh q2
       have c2:kh≤(mm:Int):=by omega
       have c4:¬ max kh 0<kl:=by omega
       rw [k1,k2]
       simp [Instr.sliceBounds,Instr.sliceBound,asIntOf,c1,c2,c3,c4]
     subst s1
     have go:∀ (a b:Nat),a≤b→b≤pl.n→LoIs l a→HiIs pl.n h b→∃ v,Did P o ρv w v w∧Rep Y m w (.sl id a (b - a)) v:=by
      intro a b hab hbn hla hhb
      refine ⟨.slice (if pl.n=a then some ⟨pl.blk,pl.o,none⟩ else some ⟨pl.blk,pl.o+a * 1,none⟩) (b - a) (pl.n - a),.inl ?_,.sl hm hhd (by omega) ?_ ?_ ?_ (by omega) (by omega)⟩
      ·have:=run4 a b hab hbn hla hhb
       simp [execOp,ho,hv,Instr.sliceAt,run_underlying hu,Instr.sureAddr,this,run_size hsz,addr_add]
       split <;> rfl
      ·rintro rfl
       rw [if_neg (by omega)]
       exact ⟨by simp,by omega⟩
      ·intro hc
       rw [if_neg (by omega),hs1]
      ·intro hn
       split at hn <;> cases hn
     rcases l with _ | kl <;> rcases h with _ | kh <;> simp only at hs
     ·simp only [Option.some.injEq,Prod.mk.injEq] at hs
      obtain ⟨_,rfl,rfl⟩:=hs
      obtain ⟨v,d,r⟩:=go 0 pl.n (Nat.zero_le _) (Nat.le_refl _) rfl rfl
      exact ⟨rfl,v,d,r⟩
     ·simp only [Option.some.injEq,Prod.mk.injEq] at hs
      obtain ⟨rfl,rfl,rfl⟩:=hs
      obtain ⟨v,d,r⟩:=go 0 kh.toNat (Nat.zero_le _) (by omega) rfl ⟨hvc.1,rfl⟩
      exact ⟨rfl,v,d,r⟩
     ·simp only [Option.some.injEq,Prod.mk.injEq] at hs
      obtain ⟨rfl,rfl,rfl⟩:=hs
      obtain ⟨v,d,r⟩:=go kl.toNat pl.n (by omega) (Nat.le_refl _) ⟨hvc.1,rfl⟩ rfl
      exact ⟨rfl,v,d,r⟩
     ·simp only [Option.some.injEq,Prod.mk.injEq] at hs
      obtain ⟨rfl,rfl,rfl⟩:=hs
      obtain ⟨v,d,r⟩:=go kl.toNat kh.toNat (by omega) (by omega) ⟨hvc.1,rfl⟩ ⟨by omega,rfl⟩
      exact ⟨rfl,v,d,r⟩
   ·cases hs
  ·cases hs
 ·cases hs
theorem ok_s2b {s d e:TypeId} {x:Operand} (ho:o.op=.convert s d x) (h1:P.underlying s=some .string) (h2:P.underlying d=some (.slice e)) (h3:P.underlying e=some (.int .u8)) (hc:(compX x).map AOp.s2b=some ao):StepOK P o ao:=by
 obtain ⟨ax,hx,rfl⟩:=map_some hc
 intro C Y m w H Fr next ρ ρv vc p u hρ hH h4 hs hvc
 have hr:=hρ x ax hx
 simp only [step] at hs
 split at hs
 ·rename_i l hp
  simp only [res,Option.some.injEq,Prod.mk.injEq] at hs
  obtain ⟨_,rfl,rfl⟩:=hs
  rw [hp] at hr
  have hv:=hr.str_inv
  have hrun:=run_bytes_of_string (P:=P) w s d e ⟨l.toArray⟩ h1 h2 h3
  generalize hw':w.drew.alloc (.cells (bytesRow ⟨l.toArray⟩ (grownCap w (ByteArray.mk l.toArray).size 0 e)) e ((bytesRow ⟨l.toArray⟩ (grownCap w (ByteArray.mk l.toArray).size 0 e)).size,(bytesRow ⟨l.toArray⟩ (grownCap w (ByteArray.mk l.toArray).size 0 e)).size+1))=w' at hrun
  have hg:w.grownBy w' none:=by
   subst hw'
   exact ⟨rfl,rfl,rfl,by show w.heap.size≤(w.heap.push _).size; rw [Array.size_push]; omega,fun k hk _=>by
    show (w.heap.push _)[k]?=_
    rw [Array.getElem?_push,if_neg (Nat.ne_of_lt hk)]⟩
  obtain ⟨g1,g2⟩:=hH.push (Fr':=Fr4 Fr next) (fun id h=>h.1) hg
  have hcap:l.length≤grownCap w (ByteArray.mk l.toArray).size 0 e:=by
   have:=grownCap_ge w (ByteArray.mk l.toArray).size 0 e
   rw [bsize] at this
   exact this
  have hrun':(convert s d (.string ⟨l.toArray⟩)).run P w=.ok (.slice (some ⟨w.heap.size,0,none⟩) l.length (grownCap w (ByteArray.mk l.toArray).size 0 e)) w':=hrun
  refine ⟨.slice (some ⟨w.heap.size,0,none⟩) l.length (grownCap w (ByteArray.mk l.toArray).size 0 e),w',Y,m,.inl ?_,?_,g1,g2⟩
  ·simp only [execOp,ho,hv]
   simp [hrun']
  ·refine .lit (.l (u:=fun j _=>.int .u8 ((l.getD j 0).toNat:Nat)) rfl (fun e=>by cases e) hcap (fun j k hj hk=>?_) (fun j k c hj hk=>?_))
   ·have hk0:k=0:=by simp at hk; exact hk
    subst hk0
    have hjl:j<l.length:=hj
    refine ⟨w.heap.size,0,rfl,fun hY=>Nat.lt_irrefl _ (hH.ylt _ hY),?_⟩
    subst hw'
    have hb:(w.drew.alloc (.cells (bytesRow ⟨l.toArray⟩ (grownCap w (ByteArray.mk l.toArray).size 0 e)) e ((bytesRow ⟨l.toArray⟩ (grownCap w (ByteArray.mk l.toArray).size 0 e)).size,(bytesRow ⟨l.toArray⟩ (grownCap w (ByteArray.mk l.toArray).size 0 e)).size+1))).heap[w.heap.size]?=some (.cells (bytesRow ⟨l.toArray⟩ (grownCap w (ByteArray.mk l.toArray).size 0 e)) e ((bytesRow ⟨l.toArray⟩ (grownCap w (ByteArray.mk l.toArray).size 0 e)).size,(bytesRow ⟨l.toArray⟩ (grownCap w (ByteArray.mk l.toArray).size 0 e)).size+1)):=by
     show (w.heap.push _)[w.heap.size]?=_
     simp
    have hcell:∀ (k:Nat),(w.drew.alloc (.cells (bytesRow ⟨l.toArray⟩ (grownCap w (ByteArray.mk l.toArray).size 0 e)) e ((bytesRow ⟨l.toArray⟩ (grownCap w (ByteArray.mk l.toArray).size 0 e)).size,(bytesRow ⟨l.toArray⟩ (grownCap w (ByteArray.mk l.toArray).size 0 e)).size+1))).cell? ⟨w.heap.size,k,none⟩=(bytesRow ⟨l.toArray⟩ (grownCap w (ByteArray.mk l.toArray).size 0 e))[k]?:=fun k=>by
     unfold World.cell?
     rw [hb]
     simp
    rw [hcell]
    generalize grownCap w (ByteArray.mk l.toArray).size 0 e=cp
    have hj1:0+(j * [Col.i IntKind.u8 fun i=>((l.getD i 0).toNat:Nat)].length+0)=j:=by simp
    rw [hj1]
    unfold bytesRow
    rw [Array.getElem?_append_left (by simp; exact hjl)]
    simp [hjl]
   ·rcases k with _ | k
    ·simp only [List.getElem?_cons_zero,Option.some.injEq] at hk
     subst hk
     exact .i (g:=fun i=>((l.getD i 0).toNat:Nat))
    ·simp at hk
 ·cases hs
theorem ok_s2bo {s d e:TypeId} {x:Operand} (ho:o.op=.convert s d x) (h1:P.underlying s=some .string) (h2:P.underlying d=some (.slice e)) (h3:P.underlying e=some (.int .u8)) (hc:(compX x).map AOp.s2bo=some ao):StepOK P o ao:=by
 obtain ⟨ax,hx,rfl⟩:=map_some hc
 intro C Y m w H Fr next ρ ρv vc p u hρ hH h4 hs hvc
 have hr:=hρ x ax hx
 simp only [step] at hs
 split at hs
 ·rename_i l hp
  simp only [Option.some.injEq,Prod.mk.injEq] at hs
  obtain ⟨rfl,rfl,rfl⟩:=hs
  have hvc':(l.length:Int)≤140737488355328:=hvc
  rw [hp] at hr
  have hv:=hr.str_inv
  have hrun:=run_bytes_of_string (P:=P) w s d e ⟨l.toArray⟩ h1 h2 h3
  generalize hw':w.drew.alloc (.cells (bytesRow ⟨l.toArray⟩ (grownCap w (ByteArray.mk l.toArray).size 0 e)) e ((bytesRow ⟨l.toArray⟩ (grownCap w (ByteArray.mk l.toArray).size 0 e)).size,(bytesRow ⟨l.toArray⟩ (grownCap w (ByteArray.mk l.toArray).size 0 e)).size+1))=w' at hrun
  have hg:w.grownBy w' none:=by
   subst hw'
   exact ⟨rfl,rfl,rfl,by show w.heap.size≤(w.heap.push _).size; rw [Array.size_push]; omega,fun k hk _=>by
    show (w.heap.push _)[k]?=_
    rw [Array.getElem?_push,if_neg (Nat.ne_of_lt hk)]⟩
  have hcap:l.length≤grownCap w (ByteArray.mk l.toArray).size 0 e:=by
   have:=grownCap_ge w (ByteArray.mk l.toArray).size 0 e
   rw [bsize] at this
   exact this
  have hrun':(convert s d (.string ⟨l.toArray⟩)).run P w=.ok (.slice (some ⟨w.heap.size,0,none⟩) l.length (grownCap w (ByteArray.mk l.toArray).size 0 e)) w':=hrun
  have hcm:grownCap w (ByteArray.mk l.toArray).size 0 e≤maxLen:=grownCap_le_maxLen w _ 0 e (by rw [bsize]; unfold maxLen; omega)
  have hb:w'.heap[w.heap.size]?=some (.cells (bytesRow ⟨l.toArray⟩ (grownCap w (ByteArray.mk l.toArray).size 0 e)) e ((bytesRow ⟨l.toArray⟩ (grownCap w (ByteArray.mk l.toArray).size 0 e)).size,(bytesRow ⟨l.toArray⟩ (grownCap w (ByteArray.mk l.toArray).size 0 e)).size+1)):=by
   subst hw'
   show (w.heap.push _)[w.heap.size]?=_
   simp
  generalize hcp:grownCap w (ByteArray.mk l.toArray).size 0 e=cp at *
  have hbz:(ByteArray.mk l.toArray).size=l.length:=bsize l
  have hbs:(bytesRow ⟨l.toArray⟩ cp).size=cp:=by
   unfold bytesRow
   simp [hbz]
   omega
  have htl:(bytesRow ⟨l.toArray⟩ cp).toList.length=cp:=by
   have:=Array.length_toList (xs:=bytesRow ⟨l.toArray⟩ cp)
   rw [this]; exact hbs
  have hget:∀ j,j<l.length→(bytesRow ⟨l.toArray⟩ cp)[j]?=some (.int .u8 ((l.getD j 0).toNat:Nat)):=fun j hjl=>by
   unfold bytesRow
   rw [Array.getElem?_append_left (by simp; exact hjl)]
   simp [hjl]
  have hown:ownsAt w' TS 1 (.slice (some ⟨w.heap.size,0,none⟩) l.length cp) 0 l.length ((bytesRow ⟨l.toArray⟩ cp).toList.take l.length):=by
   refine ⟨by rw [List.length_take,htl]; omega,.inr ⟨w.heap.size,cp,_,rfl,⟨e,_,hb,.inr ⟨rfl,Nat.le_refl _⟩⟩,hcap,hcm,by rw [hbs]; omega,by simp⟩⟩
  obtain ⟨Y',m',r1,r2,r3⟩:=hH.newArr h4 TS l.length cp [.i .u8 fun i=>((l.getD i 0).toNat:Nat)] (some ⟨w.heap.size,0,none⟩) 0 ((bytesRow ⟨l.toArray⟩ cp).toList.take l.length) hg (by simp) hown (.inr (fun g hg=>by simp [ablk] at hg; omega)) (fun v hv=>by
    obtain ⟨k,hk⟩:=List.mem_iff_getElem?.1 hv
    rw [List.getElem?_take] at hk
    split at hk
    ·rename_i hkl
     rw [Array.getElem?_toList,hget k hkl] at hk
     injection hk with hk
     subst hk
     rfl
    ·cases hk) (fun m' ev a b c ha hb=>by
    rcases b with _ | b
    ·simp only [List.getElem?_cons_zero,Option.some.injEq] at hb
     subst hb
     refine ⟨.int .u8 ((l.getD a 0).toNat:Nat),?_,.i (g:=fun i=>((l.getD i 0).toNat:Nat))⟩
     rw [List.getElem?_take]
     simp only [List.length_cons,List.length_nil,Nat.zero_add,Nat.mul_one,Nat.add_zero]
     rw [if_pos ha,Array.getElem?_toList,hget a ha]
    ·simp at hb) (fun _=>false) (by simp) ((next,some (.arr TS l.length [.i .u8 fun i=>((l.getD i 0).toNat:Nat)]))::H) (fun id=>by
     simp only [getH]
     by_cases hid:id=next
     ·subst hid; simp
     ·have:(next==id)=false:=by simpa using fun h=>hid h.symm
      simp [this,hid])
  refine ⟨_,w',Y',m',.inl ?_,r1,r2,r3⟩
  simp only [execOp,ho,hv]
  simp [hrun']
 ·cases hs
theorem bytes_fold:∀ (ns:List Int) (r:ByteArray),ns.foldl (fun r n=>r.push (UInt8.ofNat n.toNat)) r=⟨r.data++(ns.map fun n=>UInt8.ofNat n.toNat).toArray⟩
 | [],r=>by simp
 | b::l,r=>by
  simp only [List.map_cons,List.foldl_cons]
  rw [bytes_fold l]
  simp [ByteArray.push]
theorem ok_b2s {s d e:TypeId} {x:Operand} (ho:o.op=.convert s d x) (h1:P.underlying s=some (.slice e)) (h2:P.underlying d=some .string) (h3:P.underlying e=some (.int .u8)) (hc:(compX x).map AOp.b2s=some ao):StepOK P o ao:=by
 obtain ⟨ax,hx,rfl⟩:=map_some hc
 refine StepOK.quiet fun Y m w H next ρ ρv vc p u hρ hH hs hvc=>?_
 simp only [step] at hs
 split at hs
 ·rename_i k cs hnew
  split at hs
  ·rename_i g
   simp only [res,Option.some.injEq,Prod.mk.injEq] at hs
   obtain ⟨_,rfl,rfl⟩:=hs
   obtain ⟨B,d',news,v1,v2,v3,v4,v5⟩:=tail_cells hH (hρ x ax hx) hnew
   simp only [List.length_cons,List.length_nil,Nat.zero_add,Nat.mul_one] at v2 v5
   have hnews:news=((List.range k).map g).map (Value.int .u8):=by
    apply List.ext_getElem?
    intro i
    by_cases hi:i<k
    ·obtain ⟨u,f1,f2⟩:=v5 i 0 _ hi rfl
     rw [Nat.add_zero] at f1
     rw [f1]
     cases f2
     simp [hi]
    ·rw [List.getElem?_eq_none (by omega)]
     simp [hi]
   refine ⟨rfl,.string ⟨((List.range k).map fun i=>UInt8.ofNat (g i).toNat).toArray⟩,.inl ?_,.str⟩
   have hcv:=run_convert_bytes_string (P:=P) w s d e B k d' h1 h3 h2
   rcases B with _ | a
   ·have hk0:k=0:=by
     rcases Nat.eq_zero_or_pos k with h | h
     ·exact h
     ·obtain ⟨u,f1,_⟩:=v5 0 0 _ h rfl
      obtain ⟨b,o',e',_⟩:=v3 _ _ f1
      cases e'
    subst hk0
    have:(Conv.bytesToString (.slice none 0 d')).run P w=.ok (.string ByteArray.empty) w:=rfl
    rw [this] at hcv
    simp only [execOp,ho,v1]
    simp [hcv]
    rfl
   ·have hl:=run_loadCells_list (P:=P) (w:=w) a news (fun j u hj=>by
     obtain ⟨b,o',e',hc'⟩:=v3 j u hj
     injection e' with e'
     subst e'
     rw [addr_add]
     exact hc')
    rw [v2] at hl
    rw [hnews] at hl
    rw [run_bytesToString (P:=P) w a k d' _ hl,bytes_fold] at hcv
    simp only [execOp,ho,v1]
    simp [hcv]
  ·cases hs
 ·cases hs
theorem ok_i2s {s d:TypeId} {x:Operand} {k0:IntKind} (ho:o.op=.convert s d x) (h1:P.underlying s=some (.int k0)) (h2:P.underlying d=some .string) (hc:(compX x).map AOp.i2s=some ao):StepOK P o ao:=by
 obtain ⟨ax,hx,rfl⟩:=map_some hc
 refine StepOK.quiet fun Y m w H next ρ ρv vc p u hρ hH hs hvc=>?_
 have hr:=hρ x ax hx
 simp only [step] at hs
 split at hs
 ·rename_i n k1 hp
  simp only [res,Option.some.injEq,Prod.mk.injEq] at hs
  obtain ⟨_,rfl,rfl⟩:=hs
  rw [hp] at hr
  refine ⟨rfl,.string ⟨(Utf8.encode k1).data.toList.toArray⟩,.inl ?_,.str⟩
  simp [execOp,ho,hr.int_inv,convert,run_underlying h1,run_underlying h2,Conv.intToString]
 ·cases hs
theorem ok_aadr {t e:TypeId} {n:Nat} {x i:Operand} {x' i':AX} {sz:Nat} (ho:o.op=.indexAddr t x i) (h1:P.underlying t=some (.array n e)) (h2:szT P e=some sz) (hx:compX x=some x') (hi:compX i=some i') :
  StepOK P o (.aadr n sz x' i'):=by
 refine StepOK.quiet fun Y m w H next ρ ρv vc p u hρ hH hs hvc=>?_
 have hr:=hρ x x' hx
 have hq:=hρ i i' hi
 simp only [step] at hs
 split at hs
 ·rename_i id off kk k hp hp2
  simp only [Option.some.injEq,Prod.mk.injEq] at hs
  obtain ⟨rfl,rfl,rfl⟩:=hs
  obtain ⟨hv0,hv1⟩:=hvc
  rw [hp] at hr
  rw [hp2] at hq
  obtain ⟨pl,hm,hv⟩:=hr.ptr_inv
  refine ⟨rfl,.pointer (some ⟨pl.blk,off+k.toNat * sz,none⟩),.inl ?_,.ptr hm⟩
  simp [execOp,ho,hv,hq.int_inv,Instr.indexAt,asIntOf,Instr.sureAddr,run_underlying h1,hv0,hv1,run_size h2,addr_add]
 ·cases hs
theorem ok_buildA {t:TypeId} {parts:Array (Nat × Operand)} {z:List PV} {n sz:Nat} (ho:o.op=.build t parts) (h1:zeroT P t=some z) (h2:arrT P t=some (n,sz))
  (hc:(compParts (fun i=>some (i * sz,sz)) parts.toList).map (AOp.build z)=some ao):StepOK P o ao:=by
 obtain ⟨ys,hys,rfl⟩:=map_some hc
 refine StepOK.quiet fun Y m w H next ρ ρv vc p u hρ hH hs hvc=>?_
 simp only [step] at hs
 split at hs
 ·rename_i ps hps
  simp only [res,Option.some.injEq,Prod.mk.injEq] at hs
  obtain ⟨_,rfl,rfl⟩:=hs
  obtain ⟨i,zv,cs,e1,e2,e3,e4,e5⟩:=zeroT_cells (Y:=Y) (m:=m) (w:=w) h1
  obtain ⟨cs',g1,g2⟩:=fill_rep hρ _ _ _ _ _ cs hys hps e5
  unfold arrT at h2
  split at h2
  ·rename_i k e hu
   obtain ⟨sz',hsz,he⟩:=map_some h2
   simp only [Prod.mk.injEq] at he
   obtain ⟨rfl,rfl⟩:=he
   refine ⟨rfl,.agg cs'.toArray,.inl ?_,.agg g2.len g2.rep g2.one⟩
   obtain ⟨ie,hie,hie2⟩:=map_some (show (P.info? e).map (·.size)=some sz' from hsz)
   have hb:P.built t (parts.map fun (i,x)=>(i,ρv x)).toList=some cs'.toArray:=by
    unfold Program.built
    simp only [e1,hu,e2,hie,e3]
    rw [← g1]
    congr 1
    ·funext k; simp [hie2]
    ·simp
   have:=run_build (P:=P) w t (parts.map fun (i,x)=>(i,ρv x)) cs'.toArray hb
   simp only [execOp,ho]
   simp [this]
  ·cases h2
 ·cases hs
theorem mkKey_spec {kk:KT} {p:PV} {q:MK} (h:mkKey kk p=some q) (hin:keyIn q) {Y:Nat→Prop} {m:Names} {w:World} {v:Value} (hr:Rep Y m w p v):v=keyV kk q∧keyG kk q=true:=by
 unfold mkKey at h
 split at h
 ·split at h
  ·rename_i e
   subst e
   injection h with h
   subst h
   exact ⟨hr.int_inv,rfl⟩
  ·cases h
 ·injection h with h
  subst h
  exact ⟨hr.str_inv,rfl⟩
 ·injection h with h
  subst h
  obtain ⟨vs,rfl,hl,hi,_⟩:=hr.agg_inv
  rcases vs with _ | ⟨x,_ | ⟨y,_ | ⟨z,r⟩⟩⟩
  ·simp at hl
  ·simp at hl
  ·have h0:=(hi 0 _ x rfl rfl).int_inv
   have h1:=(hi 1 _ y rfl rfl).int_inv
   subst h0; subst h1
   exact ⟨rfl,by simpa [keyG,keyIn] using hin⟩
  ·simp at hl
 ·injection h with h
  subst h
  obtain ⟨vs,rfl,hl,hi,_⟩:=hr.agg_inv
  rcases vs with _ | ⟨x,_ | ⟨y,_ | ⟨z,r⟩⟩⟩
  ·simp at hl
  ·simp at hl
  ·have h0:=(hi 0 _ x rfl rfl).str_inv
   have h1:=(hi 1 _ y rfl rfl).str_inv
   subst h0; subst h1
   exact ⟨rfl,by simpa [keyG,keyIn] using hin⟩
  ·simp at hl
 ·cases h
theorem keyV_inj {kk:KT} {q q':MK} (h:keyG kk q=true) (h':keyG kk q'=true) (e:keyV kk q=keyV kk q'):q=q':=by
 cases kk <;> cases q <;> cases q' <;> simp_all [keyG,keyV]
structure KL (P:Program) (kt:TypeId) (kk:KT):Prop where
 check:∀ (w:World) (em:Bool) q,keyG kk q=true→(Instr.checkKey em 10000 kt (keyV kk q)).run P w=.ok () w
 find:∀ (w:World) q,keyG kk q=true→∀ es:List MapEntry,(∀ e∈es,∃ q',keyG kk q'=true∧e.key=keyV kk q') →
  ((Instr.findKey kt (keyV kk q) es).run P w=.ok none w∧∀ e∈es,e.key≠keyV kk q)∨∃ j e,(Instr.findKey kt (keyV kk q) es).run P w=.ok (some (j,e.val)) w∧es[j]?=some e∧e.key=keyV kk q
 stays:∀ (w:World) q,keyG kk q=true→(Instr.keyThatStays (keyV kk q) (keyV kk q)).run P w=.ok (keyV kk q) w
theorem KL.scalar {kt:TypeId} {kk:KT} {d:TypeDesc} (hu:P.underlying kt=some d) (hk:∀ q,keyG kk q=true→MapKept.IsKey d (keyV kk q)):KL P kt kk where
 check:=fun w em q hq=>MapKept.run_checkKey hu (hk q hq) em 9999
 find:=fun w q hq es hes=>by
  have hall:∀ x∈es,MapKept.IsKey d x.key:=fun x hx=>by obtain ⟨q',h1,h2⟩:=hes x hx; rw [h2]; exact hk q' h1
  rcases MapKept.findNow_spec (hk q hq) es 0 hall with ⟨f1,f2⟩ | ⟨j,e,f1,f2,f3⟩
  ·exact .inl ⟨MapKept.run_findKey hu f1,f2⟩
  ·rw [Nat.zero_add] at f1
   exact .inr ⟨j,e,MapKept.run_findKey hu f1,f2,f3⟩
 stays:=fun w q hq=>MapKept.run_keyThatStays (hk q hq)
theorem i64_wf {n:Int} (h:inI64 n):(Lit.int .i64 n).wf=true:=by
 unfold inI64 at h
 have h1:IntKind.i64.min = -9223372036854775808:=rfl
 have h2:IntKind.i64.max=9223372036854775807:=rfl
 simp [Lit.wf,h1,h2,h]
theorem keyLits_i64 {t:TypeId} (h:isI64 P t=true) {n:Int} (hn:inI64 n) (d:Nat):P.keyLits (d+1) t [.int .i64 n]=some [.int .i64 n]:=by
 unfold isI64 at h
 simp only [Bool.and_eq_true] at h
 obtain ⟨h1,_⟩:=h
 split at h1
 ·rename_i hu
  simp [Program.keyLits,hu,i64_wf hn]
 ·cases h1
theorem keyOf_pair {t : TypeId} (h : pairT P t = true) {a b : Int} (ha : inI64 a) (hb : inI64 b) : ∃ l, keyOf P t (.agg #[.int .i64 a, .int .i64 b]) = some l := by
 unfold pairT at h
 simp only [Bool.and_eq_true, beq_iff_eq, decide_eq_true_eq] at h
 obtain ⟨h0, ⟨⟨⟨hc, hs⟩, hk⟩, _⟩, _⟩ := h
 obtain ⟨d, hd⟩ : ∃ d, P.types.size = d + 1 := ⟨P.types.size - 1, by omega⟩
 have cells : ∀ {t : TypeId}, isI64 P t = true → P.cellsOf t = 1 := fun h => by
  unfold isI64 at h
  simp only [Bool.and_eq_true, beq_iff_eq] at h
  exact h.2
 have und : ∀ {t : TypeId}, isI64 P t = true → P.underlying t = some (.int .i64) := fun h => by
  unfold isI64 at h
  simp only [Bool.and_eq_true] at h
  obtain ⟨h1, _⟩ := h
  split at h1
  ·assumption
  ·cases h1
 have la := fun {t : TypeId} (ht : isI64 P t = true) => keyLits_i64 ht ha d
 have lb := fun {t : TypeId} (ht : isI64 P t = true) => keyLits_i64 ht hb d
 split at h0
 ·rename_i fs hu
  split at h0
  ·rename_i f g hfs
   simp only [Bool.and_eq_true, beq_iff_eq, bne_iff_ne, ne_eq] at h0
   obtain ⟨⟨⟨⟨⟨n1, n2⟩, i1⟩, i2⟩, o1⟩, o2⟩ := h0
   have hall : fs.all (fun x => x.name != "_") = true := by
    rw [← Array.all_toList, hfs]
    simp [n1, n2]
   refine ⟨.string (keyBytes [.int .i64 a, .int .i64 b]), ?_⟩
   unfold keyOf
   simp only [hu]
   have hform : (Value.agg #[.int .i64 a, .int .i64 b]).formed P t = true := by simp [Value.formed, hu, hc]
   rw [hk, hform, hd]
   simp only [Bool.and_self, if_true, Value.cells, Program.keyLits, hu]
   rw [if_pos ⟨by simp [hc], hall⟩, hfs]
   simp [o1, o2, cells i1, cells i2, und i1, und i2, i64_wf ha, i64_wf hb]
  ·cases h0
 ·rename_i n e hu
  simp only [Bool.and_eq_true, beq_iff_eq] at h0
  obtain ⟨rfl, i1⟩ := h0
  refine ⟨.string (keyBytes [.int .i64 a, .int .i64 b]), ?_⟩
  unfold keyOf
  simp only [hu]
  have hform : (Value.agg #[.int .i64 a, .int .i64 b]).formed P t = true := by simp [Value.formed, hu, hc]
  rw [hk, hform, hd]
  simp only [Bool.and_self, if_true, Value.cells, Program.keyLits, hu]
  rw [if_pos (by simp [hc])]
  simp [cells i1, und i1, i64_wf ha, i64_wf hb, List.range_succ]
 ·cases h0
theorem keyOf_strs {t:TypeId} (h:pairS P t=true) {a b:ByteArray} (ha:a.size≤maxLen) (hb:b.size≤maxLen):∃ l,keyOf P t (.agg #[.string a,.string b])=some l:=by
 unfold pairS at h
 simp only [Bool.and_eq_true,beq_iff_eq,decide_eq_true_eq] at h
 obtain ⟨h0,⟨⟨⟨hc,hs⟩,hk⟩,_⟩,_⟩:=h
 obtain ⟨d,hd⟩:∃ d,P.types.size=d+1:=⟨P.types.size - 1,by omega⟩
 split at h0
 ·rename_i n e hu
  simp only [Bool.and_eq_true,beq_iff_eq] at h0
  obtain ⟨rfl,i1⟩:=h0
  unfold isStr at i1
  simp only [Bool.and_eq_true,beq_iff_eq] at i1
  obtain ⟨i1,i2⟩:=i1
  have und:P.underlying e=some .string:=by
   split at i1
   ·assumption
   ·cases i1
  refine ⟨.string (keyBytes [.string a.data.toList,.string b.data.toList]),?_⟩
  unfold keyOf
  simp only [hu]
  have hform:(Value.agg #[.string a,.string b]).formed P t=true:=by simp [Value.formed,hu,hc]
  rw [hk,hform,hd]
  simp only [Bool.and_self,if_true,Value.cells,Program.keyLits,hu]
  rw [if_pos (by simp [hc])]
  simp [i2,und,List.range_succ,ha,hb]
 ·cases h0
theorem KL.of {kt:TypeId} {kk:KT} (h:keyT P kt=some kk):KL P kt kk:=by
 unfold keyT at h
 split at h
 ·rename_i k hk
  injection h with h
  subst h
  exact .scalar hk (fun q hq=>by cases q <;> simp_all [keyG,keyV,MapKept.IsKey])
 ·rename_i hk
  injection h with h
  subst h
  exact .scalar hk (fun q hq=>by cases q <;> simp_all [keyG,keyV,MapKept.IsKey])
 ·split at h
  ·rename_i hp
   injection h with h
   subst h
   have hp':=hp
   unfold pairT at hp'
   simp only [Bool.and_eq_true,beq_iff_eq,decide_eq_true_eq] at hp'
   obtain ⟨h0,⟨_,hkt⟩,htl⟩:=hp'
   have hwide:(match P.underlying kt with | some (.array _ _) | some (.struct _)=>true | _=>false)=true:=by
    split at h0
    ·rename_i hu; rw [hu]
    ·rename_i hu; rw [hu]
    ·cases h0
   have K:=deep_law (m:=3) (by omega) hkt htl hwide
   have hof:∀ q,keyG .p q=true→∃ l,keyOf P kt (keyV .p q)=some l:=fun q hq=>by
    cases q with
    | p a b =>
     simp only [keyG,decide_eq_true_eq] at hq
     exact keyOf_pair hp hq.1 hq.2
    | i n=>cases hq
    | s b=>cases hq
    | q a b=>cases hq
   exact ⟨fun w em q hq=>by obtain ⟨l,hl⟩:=hof q hq; exact K.check w em hl,fun w q hq es hes=>by
    obtain ⟨l,hl⟩:=hof q hq
    exact K.find w hl es (fun e he=>by obtain ⟨q',h1,h2⟩:=hes e he; rw [h2]; exact hof q' h1),fun w q hq=>by obtain ⟨l,hl⟩:=hof q hq; exact K.stays w hl⟩
  ·split at h
   ·rename_i hp
    injection h with h
    subst h
    have hp':=hp
    unfold pairS at hp'
    simp only [Bool.and_eq_true,beq_iff_eq,decide_eq_true_eq] at hp'
    obtain ⟨h0,⟨_,hkt⟩,htl⟩:=hp'
    have hwide:(match P.underlying kt with | some (.array _ _) | some (.struct _)=>true | _=>false)=true:=by
     split at h0
     ·rename_i hu; rw [hu]
     ·cases h0
    have K:=deep_law (m:=3) (by omega) hkt htl hwide
    have hof:∀ q,keyG .q q=true→∃ l,keyOf P kt (keyV .q q)=some l:=fun q hq=>by
     cases q with
     | q a b =>
      simp only [keyG,decide_eq_true_eq] at hq
      exact keyOf_strs hp (Nat.le_trans (show a.toArray.size≤140737488355328 by simpa using hq.1) (by decide)) (Nat.le_trans (show b.toArray.size≤140737488355328 by simpa using hq.2) (by decide))
     | i n=>cases hq
     | s b=>cases hq
     | p a b=>cases hq
    exact ⟨fun w em q hq=>by obtain ⟨l,hl⟩:=hof q hq; exact K.check w em hl,fun w q hq es hes=>by
     obtain ⟨l,hl⟩:=hof q hq
     exact K.find w hl es (fun e he=>by obtain ⟨q',h1,h2⟩:=hes e he; rw [h2]; exact hof q' h1),fun w q hq=>by obtain ⟨l,hl⟩:=hof q hq; exact K.stays w hl⟩
   ·cases h
theorem nodup_key {es:List MapEntry} (h:(es.map (·.key)).Nodup):∀ {x y:MapEntry},x∈es→y∈es→x.key=y.key→x=y:=by
 induction es with
 | nil=>intro x y hx; cases hx
 | cons e es ih =>
  intro x y hx hy hk
  rw [List.map_cons,List.nodup_cons] at h
  rcases List.mem_cons.1 hx with ex | hx
  ·rcases List.mem_cons.1 hy with ey | hy
   ·rw [ex,ey]
   ·exact absurd (List.mem_map.2 ⟨y,hy,by rw [← hk,ex]⟩) h.1
  ·rcases List.mem_cons.1 hy with ey | hy
   ·exact absurd (List.mem_map.2 ⟨x,hx,by rw [hk,ey]⟩) h.1
   ·exact ih h.2 hx hy hk
theorem ok_mmk {t:TypeId} {kk:KT} {z:PV} (ho:o.op=.makeMap t none):StepOK P o (.mmk kk z):=by
 intro C Y m w H Fr next ρ ρv vc p u hρ hH h4 hs hvc
 simp only [step] at hs
 split at hs
 ·rename_i c hc
  simp only [Option.some.injEq,Prod.mk.injEq] at hs
  obtain ⟨_,rfl,rfl⟩:=hs
  let pl:Pl:=⟨w.heap.size,.slice none 0 0,0,0,0⟩
  obtain ⟨a1,a2,a3,a4⟩:=hH.add h4 pl
  have hg:=World.grownBy_alloc w (.map #[] 0) none
  obtain ⟨g1,g2⟩:=hH.go (fun id h=>h.1) hg (by simp) a1 a2 a4 next (H':=(next,some (.map kk (fun _=>false) c))::H) (fun id b hb=>by
   rcases getH_new hb with ⟨rfl,rfl⟩ | ⟨hne,hb⟩
   ·refine .inr ⟨rfl,pl,a3,⟨#[],0,heap_alloc_new w _,⟨by simp,by simp,by simp [Born],by simp⟩,fun q hq=>⟨fun h=>(by cases h),fun _=>by simp⟩⟩,fun g hl=>.inr ?_⟩
    simp only [ABlk.lies,Option.some.injEq] at hl
    subst hl
    exact ⟨Nat.le_refl _,by simp [pl]⟩
   ·exact .inl ⟨hne,hb,by simp⟩)
  refine ⟨_,_,_,_,.inl ?_,.mp a3,g1,g2⟩
  simp [execOp,ho,Instr.makeMap,newVar,newRow,Result.andThen]
  rfl
 ·cases hs
theorem zeroS_spec {t:TypeId} {z:PV} (h:zeroS P t=some z) (w:World):∃ v,(zeroValue t).run P w=.ok v w∧(z=.any∨(∃ k n,z=.int k n∧v=.int k n)∨(∃ b,z=.bool b∧v=.bool b)∨(∃ s,z=.str s∧v=.string ⟨s.toArray⟩)∨(z=.lit true 0 []∧v=.slice none 0 0)):=by
 unfold zeroS at h
 split at h
 ·rename_i i hi
  split at h
  ·rename_i k n hz
   injection h with h
   subst h
   exact ⟨_,by simp [zeroValue,typeInfo,hi,hz],.inr (.inl ⟨_,_,rfl,rfl⟩)⟩
  ·rename_i b hz
   injection h with h
   subst h
   exact ⟨_,by simp [zeroValue,typeInfo,hi,hz],.inr (.inr (.inl ⟨_,rfl,rfl⟩))⟩
  ·rename_i s hz
   injection h with h
   subst h
   exact ⟨.string s,by simp [zeroValue,typeInfo,hi,hz],.inr (.inr (.inr (.inl ⟨_,rfl,rfl⟩)))⟩
  ·rename_i hz
   injection h with h
   subst h
   exact ⟨.slice none 0 0,by simp [zeroValue,typeInfo,hi,hz],.inr (.inr (.inr (.inr ⟨rfl,rfl⟩)))⟩
  ·cases h
 ·cases h
theorem mGet_rep {Y:Nat→Prop} {m:Names} {w:World} {t:Bool} {q:MK} {c:MCol} {z v:PV} {zv mv:Value} (h:mGet t q c z=some v) (hz:z=.any∨(∃ k n,z=.int k n∧zv=.int k n)∨(∃ b,z=.bool b∧zv=.bool b)∨(∃ s,z=.str s∧zv=.string ⟨s.toArray⟩)∨(z=.lit true 0 []∧zv=.slice none 0 0)) (hm:t=true→MR Y w c q mv) :
  Rep Y m w v (bif t then mv else zv):=by
 unfold mGet at h
 split at h
 ·split at h
  ·rename_i e
   subst e
   injection h with h
   subst h
   obtain h | ⟨k',n,h,rfl⟩ | ⟨b,h,_⟩ | ⟨b,h,_⟩ | ⟨h,_⟩:=hz <;> cases h
   cases t
   ·exact .int
   ·rw [show mv=_ from hm rfl]; exact .int
  ·cases h
 ·injection h with h
  subst h
  simp at hz
  subst hz
  cases t
  ·exact .bool
  ·rw [show mv=_ from hm rfl]; exact .bool
 ·injection h with h
  subst h
  simp at hz
  subst hz
  cases t
  ·exact .str
  ·rw [show mv=_ from hm rfl]; exact .str
 ·injection h with h
  subst h
  simp at hz
  obtain ⟨_,rfl⟩:=hz
  cases t
  ·exact .lit (.l (fun _ _=>.nilIface) rfl (fun _=>⟨rfl,rfl⟩) (Nat.le_refl _) (fun j m hj=>absurd hj (Nat.not_lt_zero _)) (fun j m c hj=>absurd hj (Nat.not_lt_zero _)))
  ·exact .lit (hm rfl)
 ·cases h
theorem born_push {es:Array MapEntry} {clk:Nat} (h:Born es clk) (k v:Value):Born (es.push { key:=k,val:=v,born:=clk }) (clk+1):=by
 obtain ⟨h1,h2⟩:=h
 refine ⟨?_,fun x hx=>?_⟩
 ·rw [Array.toList_push,List.map_append,List.nodup_append]
  refine ⟨h1,by simp,fun a ha b hb=>?_⟩
  simp only [List.map_cons,List.map_nil,List.mem_singleton] at hb
  obtain ⟨x,hx,rfl⟩:=List.mem_map.1 ha
  have:=h2 x hx
  omega
 ·rw [Array.toList_push,List.mem_append,List.mem_singleton] at hx
  rcases hx with hx | rfl
  ·have:=h2 x hx; omega
  ·simp
theorem born_mod {es:Array MapEntry} {clk j:Nat} (h:Born es clk) (f:MapEntry→MapEntry) (hf:∀ e,(f e).born=e.born):Born (es.modify j f) clk:=by
 have hm:(es.modify j f).toList.map (·.born)=es.toList.map (·.born):=by
  apply List.ext_getElem?
  intro i
  simp only [List.getElem?_map,Array.toList_modify,List.getElem?_modify]
  by_cases hij:j=i
  ·subst hij
   cases es.toList[j]? <;> simp [hf]
  ·simp [hij]
 refine ⟨by rw [hm]; exact h.1,fun x hx=>?_⟩
 have:x.born∈(es.modify j f).toList.map (·.born):=List.mem_map.2 ⟨x,hx,rfl⟩
 rw [hm] at this
 obtain ⟨y,hy,e⟩:=List.mem_map.1 this
 rw [← e]
 exact h.2 y hy
theorem mGet_zero {t:Bool} {q:MK} {c:MCol} {z v:PV} {zv:Value} (h:mGet t q c z=some v) (h0:z0 z=true) (hz:(z=.any∨(∃ k n,z=.int k n∧zv=.int k n)∨(∃ b,z=.bool b∧zv=.bool b)∨(∃ s,z=.str s∧zv=.string ⟨s.toArray⟩)∨(z=.lit true 0 []∧zv=.slice none 0 0))):zv=mZero c:=by
 unfold mGet at h
 split at h
 ·split at h
  ·rename_i e
   subst e
   obtain h2 | ⟨k',n,h2,rfl⟩ | ⟨b,h2,_⟩ | ⟨b,h2,_⟩ | ⟨h2,_⟩:=hz <;> cases h2
   simp only [z0,beq_iff_eq] at h0
   rw [h0]; rfl
  ·cases h
 ·obtain h2 | ⟨k',n,h2,_⟩ | ⟨b,h2,rfl⟩ | ⟨b,h2,_⟩ | ⟨h2,_⟩:=hz <;> cases h2
  simp only [z0,Bool.not_eq_true'] at h0
  rw [h0]; rfl
 ·obtain h2 | ⟨k',n,h2,_⟩ | ⟨b,h2,_⟩ | ⟨b,h2,rfl⟩ | ⟨h2,_⟩:=hz <;> cases h2
  simp only [z0,List.isEmpty_iff] at h0
  rw [h0]; rfl
 ·simp [z0] at h0
 ·cases h
theorem MR_of {Y:Nat→Prop} {w:World} {c:MCol} {q:MK} {v:Value} (hc:c.noL=true) (h:v=mVal c q):MR Y w c q v:=by
 cases c <;> first | exact h | cases hc
theorem ok_mlk {t kt et:TypeId} {x k:Operand} {x' k':AX} {kk:KT} {z:PV} {ok:Bool} (ho:o.op=.lookup t x k ok) (h1:P.underlying t=some (.map kt et)) (h2:keyT P kt=some kk) (h3:zeroS P et=some z)
  (hx:compX x=some x') (hk:compX k=some k'):StepOK P o (.mlk ok kk z x' k'):=by
 refine StepOK.quiet fun Y m w H next ρ ρv vc p u hρ hH hs hvc=>?_
 have hr:=hρ x x' hx
 have hq:=hρ k k' hk
 simp only [step] at hs
 split at hs
 ·rename_i id hp
  rw [hp] at hr
  split at hs
  ·rename_i kk' dom c hb
   obtain ⟨pl,hm,es,clk,b1,b2,b3⟩:=hH _ _ hb
   split at hs
   ·rename_i q hmk
    split at hs
    ·rename_i v hv
     cases hkk:decide (kk=kk')
     ·simp [hkk] at hs
     ·simp only [hkk,cond_true] at hs
      have:=of_decide_eq_true hkk
      subst this
      simp only [Option.some.injEq,Prod.mk.injEq] at hs
      obtain ⟨rfl,rfl,rfl⟩:=hs
      obtain ⟨e1,e2⟩:=mkKey_spec hmk hvc hq
      obtain ⟨zv,z1,z2⟩:=zeroS_spec h3 w
      have hxv:ρv x=.map (some pl.blk):=by
       obtain ⟨pl2,q1,q2⟩:=hr.mp_inv
       rw [hm] at q1; injection q1 with q1; subst q1; exact q2
      obtain ⟨f1,f2⟩:=b3 q e2
      have K:=KL.of h2
      have hck:=fun em=>K.check w em q e2
      have hrun:∃ mv,(dom q=true→MR Y w c q mv)∧(Instr.lookup t (ρv x) (ρv k) ok).run P w=.ok (if ok then .tuple #[bif dom q then mv else zv,.bool (dom q)] else (bif dom q then mv else zv)) w:=by
       rw [hxv,e1]
       rcases K.find w q e2 es.toList b2.1 with ⟨hf,hno⟩ | ⟨j,e,hf,hj,hke⟩
       ·have hd:dom q=false:=by
         cases hd:dom q with
         | false=>rfl
         | true=>obtain ⟨x,hx,hxk,_⟩:=f1 hd; exact absurd hxk (hno x hx)
        exact ⟨zv,fun h=>(by rw [hd] at h; cases h),by simp [Instr.lookup,run_underlying h1,MapKept.run_getObj_map b1,hck,hf,z1,hd,Result.andThen]⟩
       ·have hem:=List.mem_of_getElem? hj
        have hd:dom q=true:=by
         cases hd:dom q with
         | true=>rfl
         | false=>exact absurd hke (f2 hd e hem)
        obtain ⟨x,hx,hxk,hxv⟩:=f1 hd
        have:=nodup_key b2.2.1 hx hem (hxk.trans hke.symm)
        subst this
        exact ⟨x.val,fun _=>hxv,by simp [Instr.lookup,run_underlying h1,MapKept.run_getObj_map b1,hck,hf,hd,Result.andThen]⟩
      obtain ⟨mv,hmv,hrun⟩:=hrun
      have hrep:=mGet_rep (Y:=Y) (m:=m) (w:=w) hv z2 hmv
      cases ok
      ·exact ⟨rfl,(bif dom q then mv else zv),.inl (by simp [execOp,ho,hrun]),by simpa using hrep⟩
      ·refine ⟨rfl,.tuple #[bif dom q then mv else zv,.bool (dom q)],.inl (by simp [execOp,ho,hrun]),?_⟩
       refine .tup (vs:=[_,_]) rfl (fun i p u hp hu=>?_)
       rcases i with _ | _ | i
       ·simp at hp hu; subst hp hu; exact hrep
       ·simp at hp hu; subst hp hu; exact .bool
       ·simp at hp
    ·cases hs
   ·cases hs
  ·rename_i kk' dom c q' sid hb
   obtain ⟨pl,hm,hnl,hk0,es,clk,b1,b2,b3,pls,s1,y0,s2,s3,s4,s5,s6⟩:=hH _ _ hb
   split at hs
   ·rename_i q hmk
    split at hs
    ·rename_i v hv
     cases hkk:(decide (kk=kk') && (!ok && (decide (q=q') && z0 z)))
     ·simp [hkk] at hs
     ·simp only [hkk,cond_true] at hs
      simp only [Bool.and_eq_true,decide_eq_true_eq,Bool.not_eq_true'] at hkk
      obtain ⟨rfl,rfl,rfl,hz0⟩:=hkk
      simp only [Option.some.injEq,Prod.mk.injEq] at hs
      obtain ⟨rfl,rfl,rfl⟩:=hs
      obtain ⟨e1,e2⟩:=mkKey_spec hmk hvc hq
      obtain ⟨zv,z1,z2⟩:=zeroS_spec h3 w
      have hxv:ρv x=.map (some pl.blk):=by
       obtain ⟨pl2,q1,q2⟩:=hr.mp_inv
       rw [hm] at q1; injection q1 with q1; subst q1; exact q2
      have K:=KL.of h2
      have hck:=fun em=>K.check w em q e2
      have hrun:(Instr.lookup t (ρv x) (ρv k) false).run P w=.ok y0.val w:=by
       rw [hxv,e1]
       rcases K.find w q e2 es.toList b2.1 with ⟨hf,hno⟩ | ⟨j,e,hf,hj,hke⟩
       ·exact absurd s3 (hno y0 s2)
       ·have hem:=List.mem_of_getElem? hj
        have:=nodup_key b2.2.1 s2 hem (s3.trans hke.symm)
        subst this
        simp [Instr.lookup,run_underlying h1,MapKept.run_getObj_map b1,hck,hf,Result.andThen]
      have hrep:=mGet_rep (Y:=Y) (m:=m) (w:=w) (mv:=y0.val) hv z2 (fun h=>MR_of hnl (s5 h))
      have hval:(bif dom q then y0.val else zv)=y0.val:=by
       cases hd:dom q
       ·rw [s6 hd]; exact mGet_zero hv hz0 z2
       ·rfl
      rw [hval] at hrep
      exact ⟨rfl,y0.val,.inl (by simp [execOp,ho,hrun]),hrep⟩
    ·cases hs
   ·cases hs
  ·cases hs
 ·cases hs
theorem mPut_spec {q:MK} {c c':MCol} {p:PV} (h:mPut q c p=some c'):(c.noL=true∧c'.noL=true)∧(∀ q',q'≠q→mVal c' q'=mVal c q')∧∀ (Y:Nat→Prop) (m:Names) (w:World) v,Rep Y m w p v→v=mVal c' q:=by
 unfold mPut at h
 split at h
 ·split at h
  ·rename_i e
   subst e
   injection h with h
   subst h
   exact ⟨⟨rfl,rfl⟩,fun q' hq=>by simp [mVal,hq],fun Y m w v hv=>by simp [mVal,hv.int_inv]⟩
  ·cases h
 ·injection h with h
  subst h
  exact ⟨⟨rfl,rfl⟩,fun q' hq=>by simp [mVal,hq],fun Y m w v hv=>by simp [mVal,hv.bool_inv]⟩
 ·injection h with h
  subst h
  exact ⟨⟨rfl,rfl⟩,fun q' hq=>by simp [mVal,hq],fun Y m w v hv=>by simp [mVal,hv.str_inv]⟩
 ·cases h
theorem MR_val {Y:Nat→Prop} {w:World} {c:MCol} {q:MK} {v:Value} (hc:c.noL=true):MR Y w c q v↔v=mVal c q:=by
 cases c <;> first | exact Iff.rfl | cases hc
theorem grown_setObj (w:World) (g:Nat) (o':Obj):w.grownBy { w with heap:=w.heap.setIfInBounds g o' } (some g) :=
 ⟨rfl,rfl,rfl,by simp,fun k _ hk=>by
  have:g≠k:=fun e=>hk (by simp [e])
  simp [this]⟩
theorem ok_mlen {x:Operand} {t kt et:TypeId} {c:Call} (ho:o.op=.call c) (h1:c.callee=.builtin .len) (h2:c.args.toList=[x]) (h3:c.argTypes.toList=[t])
  (ht:P.underlying t=some (.map kt et)) (hc:(compX x).map AOp.mlen=some ao):StepOK P o ao:=by
 obtain ⟨ax,hx,rfl⟩:=map_some hc
 have e2:=arr1 h2
 have e3:=arr1 h3
 refine StepOK.quiet fun Y m w H next ρ ρv vc p u hρ hH hs hvc=>?_
 have hr:=hρ x ax hx
 simp only [step] at hs
 split at hs
 ·rename_i id hp
  rw [hp] at hr
  split at hs
  ·rename_i kk dom cc hb
   simp only [res,Option.some.injEq,Prod.mk.injEq] at hs
   obtain ⟨_,rfl,rfl⟩:=hs
   obtain ⟨pl,hm,es,clk,b1,b2,b3⟩:=hH _ _ hb
   have hxv:ρv x=.map (some pl.blk):=by
    obtain ⟨pl2,q1,q2⟩:=hr.mp_inv
    rw [hm] at q1; injection q1 with q1; subst q1; exact q2
   have hL:∀ l:List MapEntry,(∀ x∈l,∃ q,keyG kk q=true∧x.key=keyV kk q)→(l.map (·.key)).Nodup→∃ L:List MK,L.Nodup∧L.length=l.length∧∀ q,q∈L↔(keyG kk q=true∧∃ x∈l,x.key=keyV kk q):=by
    intro l
    induction l with
    | nil=>intro _ _; exact ⟨[],by simp,rfl,fun q=>by simp⟩
    | cons a l ih =>
     intro h1 h2
     rw [List.map_cons,List.nodup_cons] at h2
     obtain ⟨L,c1,c2,c3⟩:=ih (fun x hx=>h1 x (List.mem_cons_of_mem _ hx)) h2.2
     obtain ⟨q,d1,d2⟩:=h1 a (List.mem_cons_self ..)
     refine ⟨q::L,List.nodup_cons.2 ⟨fun hq=>?_,c1⟩,by simp [c2],fun q'=>?_⟩
     ·obtain ⟨_,x,hx,hxk⟩:=(c3 q).1 hq
      exact h2.1 (List.mem_map.2 ⟨x,hx,hxk.trans d2.symm⟩)
     ·rw [List.mem_cons,c3]
      constructor
      ·rintro (rfl | ⟨f1,x,f2,f3⟩)
       ·exact ⟨d1,a,List.mem_cons_self ..,d2⟩
       ·exact ⟨f1,x,List.mem_cons_of_mem _ f2,f3⟩
      ·rintro ⟨f1,x,f2,f3⟩
       rcases List.mem_cons.1 f2 with rfl | f2
       ·exact .inl (keyV_inj f1 d1 (f3.symm.trans d2))
       ·exact .inr ⟨f1,x,f2,f3⟩
   obtain ⟨L,c1,c2,c3⟩:=hL es.toList b2.1 b2.2.1
   have hcard:cardD kk dom=es.size:=by
    rw [cardD_of (L:=L) ⟨c1,fun q=>?_⟩,c2,Array.length_toList]
    rw [c3]
    refine ⟨fun ⟨f1,x,f2,f3⟩=>⟨f1,?_⟩,fun ⟨f1,f2⟩=>⟨f1,?_⟩⟩
    ·cases hd:dom q with
     | true=>rfl
     | false=>exact absurd f3 ((b3 q f1).2 hd x f2)
    ·obtain ⟨x,g1,g2,_⟩:=(b3 q f1).1 f2
     exact ⟨x,g1,g2⟩
   refine ⟨rfl,_,.inl ?_,.int⟩
   simp [execOp,ho,resolve,h1,e2,e3,invoke,builtin,Builtin.len_,run_underlying ht,hxv,goInt,MapKept.run_getObj_map b1,hcard]
  ·cases hs
 ·cases hs
theorem ok_mup {t kt et:TypeId} {x k v:Operand} {x' k' v':AX} {kk:KT} (ho:o.op=.mapUpdate t x k v∨o.op=.insert t x k v) (h1:P.underlying t=some (.map kt et)) (h2:keyT P kt=some kk)
  (hx:compX x=some x') (hk:compX k=some k') (hv:compX v=some v'):StepOK P o (.mup kk x' k' v'):=by
 intro C Y m w H Fr next ρ ρv vc p u hρ hH h4 hs hvc
 have hr:=hρ x x' hx
 have hq:=hρ k k' hk
 have hvr:=hρ v v' hv
 simp only [step] at hs
 split at hs
 ·rename_i id hp
  rw [hp] at hr
  split at hs
  ·rename_i kk' dom c hb
   obtain ⟨pl,hm,hbs,hlies⟩:=hH.blk id _ hb
   obtain ⟨es,clk,b1,b2,b3⟩:=hbs
   split at hs
   ·rename_i q hmk
    split at hs
    ·rename_i c' hput
     cases hkk:decide (kk=kk')
     ·simp [hkk] at hs
     ·simp only [hkk,cond_true] at hs
      have:=of_decide_eq_true hkk
      subst this
      simp only [Option.some.injEq,Prod.mk.injEq] at hs
      obtain ⟨rfl,rfl,rfl⟩:=hs
      obtain ⟨e1,e2⟩:=mkKey_spec hmk hvc hq
      obtain ⟨⟨p01,p02⟩,p1,p2⟩:=mPut_spec hput
      have b3:∀ q,keyG kk q=true→(dom q=true→∃ x∈es.toList,x.key=keyV kk q∧x.val=mVal c q)∧(dom q=false→∀ x∈es.toList,x.key≠keyV kk q):=fun q hq=>⟨fun hd=>let ⟨x,a,b,d⟩:=(b3 q hq).1 hd; ⟨x,a,b,(MR_val p01).1 d⟩,(b3 q hq).2⟩
      have hxv:ρv x=.map (some pl.blk):=by
       obtain ⟨pl2,q1,q2⟩:=hr.mp_inv
       rw [hm] at q1; injection q1 with q1; subst q1; exact q2
      have K:=KL.of h2
      have hck:=fun em=>K.check w em q e2
      have hst:=K.stays w q e2
      have hval:=p2 Y m w _ hvr
      have hbl:=hlies pl.blk rfl
      have hrow:∀ g,some pl.blk=some g→Y g∧(C.X0 g∨C.w0.heap.size≤g):=fun g e=>by injection e with e; subst e; exact hbl
      have fin:∀ (es':Array MapEntry) (clk':Nat),(Instr.mapUpdate t (ρv x) (ρv k) (ρv v)).run P w=.ok () { w with heap:=w.heap.setIfInBounds pl.blk (.map es' clk') } →
        ((∀ y∈es'.toList,∃ q,keyG kk q=true∧y.key=keyV kk q)∧(es'.toList.map (·.key)).Nodup∧Born es' clk') →
        (∀ q',keyG kk q'=true→((if q'=q then true else dom q')=true→∃ y∈es'.toList,y.key=keyV kk q'∧y.val=mVal c' q')∧((if q'=q then true else dom q')=false→∀ y∈es'.toList,y.key≠keyV kk q')) →
        ∃ v w' Y' m',Did P o ρv w v w'∧Rep Y' m' w' .any v∧HSF C Y' m' w' ([(id,some (ABlk.map kk (fun p=>if p=q then true else dom p) c'))]++H) (Fr4 Fr next)∧Ev Y m w Y' m' w':=by
       intro es' clk' hrun hks hall
       have hgr:=grown_setObj w pl.blk (.map es' clk')
       obtain ⟨g1,g2⟩:=hH.go (Fr':=Fr4 Fr next) (fun id h=>h.1) hgr hrow (fun _ _ h=>h) (fun i hi=>hH.fresh i hi.1) (fun _ _ h=>.inl h) id (H':=(id,some (.map kk (fun p=>if p=q then true else dom p) c'))::H) (fun i b hb'=>by
        rcases getH_set hb' with ⟨rfl,rfl⟩ | ⟨hne,hb'⟩
        ·refine .inr ⟨rfl,pl,hm,⟨es',clk',(MapKept.heap_set b1).1,hks,fun q hq=>⟨fun hd=>let ⟨x,a,b,d⟩:=(hall q hq).1 hd; ⟨x,a,b,(MR_val p02).2 d⟩,(hall q hq).2⟩⟩,fun g hl=>.inl ?_⟩
         simpa [ABlk.lies] using hl
        ·refine .inl ⟨hne,hb',fun pl2 hp2 g hl2 e=>?_⟩
         injection e with e
         subst e
         exact hH.inj i id b _ pl2 pl pl.blk hne hb' hb hp2 hm hl2 rfl)
       refine ⟨undef,_,_,_,.inr ⟨?_,rfl⟩,.any,g1,g2⟩
       rcases ho with ho | ho <;> simp [execOp,ho,hrun]
      rcases K.find w q e2 es.toList b2.1 with ⟨hf,hno⟩ | ⟨j,e,hf,hj,hke⟩
      ·refine fin (es.push { key:=keyV kk q,val:=ρv v,born:=clk }) (clk+1) ?_ ⟨?_,?_,born_push b2.2.2 _ _⟩ ?_
       ·rw [hxv,e1]
        simp [Instr.mapUpdate,run_underlying h1,MapKept.run_getObj_map b1,hck,hf,MapKept.run_setObj_map _ b1,Result.andThen]
       ·intro y hy
        simp only [Array.toList_push,List.mem_append,List.mem_singleton] at hy
        rcases hy with hy | rfl
        ·exact b2.1 y hy
        ·exact ⟨q,e2,rfl⟩
       ·rw [Array.toList_push,List.map_append,List.nodup_append]
        refine ⟨b2.2.1,by simp,fun a ha b hb=>?_⟩
        simp only [List.map_cons,List.map_nil,List.mem_singleton] at hb
        subst hb
        obtain ⟨x,hx,rfl⟩:=List.mem_map.1 ha
        exact hno x hx
       ·intro q' hq'
        obtain ⟨k1,k2⟩:=b3 q' hq'
        rw [Array.toList_push]
        by_cases hqq:q'=q
        ·subst hqq
         simp only [if_true]
         exact ⟨fun _=>⟨_,List.mem_append_right _ (List.mem_singleton.2 rfl),rfl,hval⟩,fun h=>by cases h⟩
        ·simp only [if_neg hqq]
         refine ⟨fun hd=>?_,fun hd y hy=>?_⟩
         ·obtain ⟨x,hx,hxk,hxv⟩:=k1 hd
          exact ⟨x,List.mem_append_left _ hx,hxk,by rw [p1 q' hqq]; exact hxv⟩
         ·rcases List.mem_append.1 hy with hy | hy
          ·exact k2 hd y hy
          ·rw [List.mem_singleton] at hy
           subst hy
           exact fun e=>hqq (keyV_inj hq' e2 e.symm)
      ·have hj':es[j]?=some e:=by simpa using hj
       have hkeys:(es.modify j fun e=>{ e with key:=keyV kk q,val:=ρv v }).toList.map (·.key)=es.toList.map (·.key):=by
        apply List.ext_getElem?
        intro i
        simp only [List.getElem?_map,Array.toList_modify,List.getElem?_modify]
        by_cases hij:j=i
        ·subst hij
         rw [hj]
         simp [hke]
        ·simp [hij]
       have hmem:∀ y∈(es.modify j fun e=>{ e with key:=keyV kk q,val:=ρv v }).toList,(y.key=keyV kk q∧y.val=ρv v)∨(y∈es.toList∧y.key≠keyV kk q):=by
        intro y hy
        obtain ⟨i,hi⟩:=List.mem_iff_getElem?.1 hy
        rw [Array.toList_modify,List.getElem?_modify] at hi
        by_cases hij:j=i
        ·subst hij
         rw [hj] at hi
         simp at hi
         subst hi
         exact .inl ⟨rfl,rfl⟩
        ·simp [hij] at hi
         have hyes:y∈es.toList:=List.mem_of_getElem? (l:=es.toList) (i:=i) (by simpa using hi)
         refine .inr ⟨hyes,fun hk=>hij ?_⟩
         have:=nodup_key b2.2.1 hyes (List.mem_of_getElem? hj) (hk.trans hke.symm)
         subst this
         have hnd:=b2.2.1
         unfold List.Nodup at hnd
         rw [List.pairwise_iff_getElem] at hnd
         have hlj:j<(es.toList.map (·.key)).length:=by simpa using (Array.getElem?_eq_some_iff.1 hj').1
         have hli:i<(es.toList.map (·.key)).length:=by simpa using (Array.getElem?_eq_some_iff.1 hi).1
         have gj:(es.toList.map (·.key))[j]?=some y.key:=by simp [hj']
         have gi:(es.toList.map (·.key))[i]?=some y.key:=by simp [hi]
         rw [List.getElem?_eq_getElem hlj,Option.some.injEq] at gj
         rw [List.getElem?_eq_getElem hli,Option.some.injEq] at gi
         rcases Nat.lt_trichotomy j i with hl | hl | hl
         ·exact absurd (gj.trans gi.symm) (hnd j i hlj hli hl)
         ·exact hl
         ·exact absurd (gi.trans gj.symm) (hnd i j hli hlj hl)
       refine fin (es.modify j fun e=>{ e with key:=keyV kk q,val:=ρv v }) clk ?_ ⟨?_,?_,born_mod b2.2.2 _ fun _=>rfl⟩ ?_
       ·rw [hxv,e1]
        simp [Instr.mapUpdate,run_underlying h1,MapKept.run_getObj_map b1,hck,hf,hj',hke,hst,MapKept.run_setObj_map _ b1,Result.andThen]
       ·intro y hy
        rcases hmem y hy with ⟨h,_⟩ | ⟨h,_⟩
        ·exact ⟨q,e2,h⟩
        ·exact b2.1 y h
       ·rw [hkeys]; exact b2.2.1
       ·intro q' hq'
        obtain ⟨k1,k2⟩:=b3 q' hq'
        have hnew:∃ y∈(es.modify j fun e=>{ e with key:=keyV kk q,val:=ρv v }).toList,y.key=keyV kk q∧y.val=ρv v:=by
         refine ⟨{ e with key:=keyV kk q,val:=ρv v },List.mem_of_getElem? (i:=j) ?_,rfl,rfl⟩
         rw [Array.toList_modify,List.getElem?_modify,hj]
         simp
        have hold:∀ y∈es.toList,y.key≠keyV kk q→y∈(es.modify j fun e=>{ e with key:=keyV kk q,val:=ρv v }).toList:=by
         intro y hy hne
         obtain ⟨i,hi⟩:=List.mem_iff_getElem?.1 hy
         refine List.mem_of_getElem? (i:=i) ?_
         rw [Array.toList_modify,List.getElem?_modify]
         have hij:j≠i:=by
          rintro rfl
          rw [hj] at hi
          injection hi with hi
          subst hi
          exact hne hke
         simp [hij]
         simpa using hi
        by_cases hqq:q'=q
        ·subst hqq
         simp only [if_true]
         refine ⟨fun _=>?_,fun h=>by cases h⟩
         obtain ⟨y,h1,h2,h3⟩:=hnew
         exact ⟨y,h1,h2,by rw [h3]; exact hval⟩
        ·simp only [if_neg hqq]
         refine ⟨fun hd=>?_,fun hd y hy=>?_⟩
         ·obtain ⟨x,hx,hxk,hxv⟩:=k1 hd
          exact ⟨x,hold x hx (fun e=>hqq (keyV_inj hq' e2 (hxk.symm.trans e))),hxk,by rw [p1 q' hqq]; exact hxv⟩
         ·rcases hmem y hy with ⟨h,_⟩ | ⟨h,_⟩
          ·exact fun e=>hqq (keyV_inj hq' e2 (e.symm.trans h))
          ·exact k2 hd y h
    ·cases hs
   ·cases hs
  ·cases hs
 ·cases hs
theorem findIdx_bornM {l:List MapEntry} (hn:(l.map (·.born)).Nodup) {j:Nat} {e0:MapEntry} (h:l[j]?=some e0):l.findIdx? (fun e=>((e.born:Nat):Int)==((e0.born:Nat):Int))=some j:=by
 induction l generalizing j with
 | nil=>simp at h
 | cons a r ih =>
  simp only [List.map_cons,List.nodup_cons] at hn
  cases j with
  | zero =>
   simp only [List.getElem?_cons_zero,Option.some.injEq] at h
   subst h
   simp [List.findIdx?_cons]
  | succ j =>
   simp only [List.getElem?_cons_succ] at h
   have hne:a.born≠e0.born:=fun e1=>hn.1 (List.mem_map.2 ⟨e0,List.mem_of_getElem? h,e1.symm⟩)
   have hb:(((a.born:Nat):Int)==((e0.born:Nat):Int))=false:=by
    simp only [beq_eq_false_iff_ne,ne_eq,Int.natCast_inj]
    exact hne
   rw [List.findIdx?_cons,hb]
   simp [ih hn.2 h]
theorem modify_same {es:Array MapEntry} {j:Nat} {e:MapEntry} (h:es[j]?=some e) (f:MapEntry→MapEntry) (hf:f e=e):es.modify j f=es:=by
 apply Array.ext'
 apply List.ext_getElem?
 intro i
 rw [Array.toList_modify,List.getElem?_modify]
 by_cases hij:j=i
 ·subst hij
  simp [h,hf]
 ·simp [hij]
theorem ok_ment {t kt et:TypeId} {x k:Operand} {x' k':AX} {kk:KT} {z:PV} (ho:o.op=.mapEntry t x k) (h1:P.underlying t=some (.map kt et)) (h2:keyT P kt=some kk) (h3:zeroS P et=some z)
  (hx:compX x=some x') (hk:compX k=some k'):StepOK P o (.ment kk z x' k'):=by
 intro C Y m w H Fr next ρ ρv vc p u hρ hH h4 hs hvc
 have hr:=hρ x x' hx
 have hq:=hρ k k' hk
 simp only [step] at hs
 split at hs
 ·rename_i id hp
  rw [hp] at hr
  split at hs
  ·rename_i kk' dom c hb
   obtain ⟨pl,hm,hbs,hlies⟩:=hH.blk id _ hb
   obtain ⟨es,clk,b1,b2,b3⟩:=hbs
   split at hs
   ·rename_i q hmk
    split at hs
    ·rename_i v hv
     cases hkk:(decide (kk=kk') && (c.noL && z0 z))
     ·simp [hkk] at hs
     ·simp only [hkk,cond_true] at hs
      simp only [Bool.and_eq_true,decide_eq_true_eq] at hkk
      obtain ⟨rfl,hnl,hz0⟩:=hkk
      simp only [Option.some.injEq,Prod.mk.injEq] at hs
      obtain ⟨rfl,rfl,rfl⟩:=hs
      obtain ⟨e1,e2⟩:=mkKey_spec hmk hvc hq
      have b3:∀ q,keyG kk q=true→(dom q=true→∃ x∈es.toList,x.key=keyV kk q∧x.val=mVal c q)∧(dom q=false→∀ x∈es.toList,x.key≠keyV kk q):=fun q hq=>⟨fun hd=>let ⟨x,a,b,d⟩:=(b3 q hq).1 hd; ⟨x,a,b,(MR_val hnl).1 d⟩,(b3 q hq).2⟩
      have hxv:ρv x=.map (some pl.blk):=by
       obtain ⟨pl2,q1,q2⟩:=hr.mp_inv
       rw [hm] at q1; injection q1 with q1; subst q1; exact q2
      have K:=KL.of h2
      have hck:=fun em=>K.check w em q e2
      have hst:=K.stays w q e2
      obtain ⟨zv,z1,z2⟩:=zeroS_spec h3 w
      have hbl:=hlies pl.blk rfl
      have hrow:∀ g,some pl.blk=some g→Y g∧(C.X0 g∨C.w0.heap.size≤g):=fun g e=>by injection e with e; subst e; exact hbl
      obtain ⟨f1,f2⟩:=b3 q e2
      have fin:∀ (es':Array MapEntry) (clk' st:Nat) (mv:Value),(Instr.mapEntry t (ρv x) (ρv k)).run P w=.ok (.tuple #[mv,goInt st]) { w with heap:=w.heap.setIfInBounds pl.blk (.map es' clk') } →
        Rep Y m w v mv→((∀ y∈es'.toList,∃ q,keyG kk q=true∧y.key=keyV kk q)∧(es'.toList.map (·.key)).Nodup∧Born es' clk') →
        (∀ q',keyG kk q'=true→q'≠q→(dom q'=true→∃ y∈es'.toList,y.key=keyV kk q'∧y.val=mVal c q')∧(dom q'=false→∀ y∈es'.toList,y.key≠keyV kk q')) →
        (∃ y∈es'.toList,y.key=keyV kk q∧y.born=st∧(dom q=true→y.val=mVal c q)∧(dom q=false→y.val=mZero c)) →
        ∃ v' w' Y' m',Did P o ρv w v' w'∧Rep Y' m' w' (.tup [v,.stp next]) v'∧HSF C Y' m' w' ([(id,some (ABlk.mape kk dom c q next))]++H) (Fr4 Fr next)∧Ev Y m w Y' m' w':=by
       intro es' clk' st mv hrun hmv hks hall hent
       let pls:Pl:=⟨0,.nilIface,st,0,0⟩
       obtain ⟨a1,a2,a3,a4⟩:=hH.add h4 pls
       have hgr:=grown_setObj w pl.blk (.map es' clk')
       obtain ⟨g1,g2⟩:=hH.go (Fr':=Fr4 Fr next) (fun id h=>h.1) hgr hrow a1 a2 a4 id (H':=(id,some (.mape kk dom c q next))::H) (fun i b hb'=>by
        rcases getH_set hb' with ⟨rfl,rfl⟩ | ⟨hne,hb'⟩
        ·refine .inr ⟨rfl,pl,a1 _ _ hm,⟨hnl,e2,es',clk',(MapKept.heap_set b1).1,hks,hall,pls,a3,hent⟩,fun g hl=>.inl ?_⟩
         simpa [ABlk.lies] using hl
        ·refine .inl ⟨hne,hb',fun pl2 hp2 g hl2 e=>?_⟩
         injection e with e
         subst e
         exact hH.inj i id b _ pl2 pl pl.blk hne hb' hb hp2 hm hl2 rfl)
       refine ⟨.tuple #[mv,goInt st],_,_,_,.inl (by simp [execOp,ho,hrun]),?_,g1,g2⟩
       refine .tup (vs:=[mv,goInt st]) rfl (fun i p u hp hu=>?_)
       rcases i with _ | _ | i
       ·simp at hp hu; subst hp hu; exact hmv.ev g2
       ·simp at hp hu; subst hp hu; exact .stp a3
       ·simp at hp
      rcases K.find w q e2 es.toList b2.1 with ⟨hf,hno⟩ | ⟨j,e,hf,hj,hke⟩
      ·have hd:dom q=false:=by
        cases hd:dom q with
        | false=>rfl
        | true=>obtain ⟨x,hx,hxk,_⟩:=f1 hd; exact absurd hxk (hno x hx)
       have hrep:=mGet_rep (Y:=Y) (m:=m) (w:=w) (mv:=zv) hv z2 (fun h=>by rw [hd] at h; cases h)
       rw [hd] at hrep
       refine fin (es.push { key:=keyV kk q,val:=zv,born:=clk }) (clk+1) clk zv ?_ hrep ⟨?_,?_,born_push b2.2.2 _ _⟩ ?_ ?_
       ·rw [hxv,e1]
        simp [Instr.mapEntry,run_underlying h1,MapKept.run_getObj_map b1,hck,hf,z1,MapKept.run_setObj_map _ b1,Result.andThen]
       ·intro y hy
        simp only [Array.toList_push,List.mem_append,List.mem_singleton] at hy
        rcases hy with hy | rfl
        ·exact b2.1 y hy
        ·exact ⟨q,e2,rfl⟩
       ·rw [Array.toList_push,List.map_append,List.nodup_append]
        refine ⟨b2.2.1,by simp,fun a ha b hb=>?_⟩
        simp only [List.map_cons,List.map_nil,List.mem_singleton] at hb
        subst hb
        obtain ⟨x,hx,rfl⟩:=List.mem_map.1 ha
        exact hno x hx
       ·intro q' hq' hqq
        obtain ⟨k1,k2⟩:=b3 q' hq'
        rw [Array.toList_push]
        refine ⟨fun hd=>?_,fun hd y hy=>?_⟩
        ·obtain ⟨x,hx,hxk,hxv⟩:=k1 hd
         exact ⟨x,List.mem_append_left _ hx,hxk,hxv⟩
        ·rcases List.mem_append.1 hy with hy | hy
         ·exact k2 hd y hy
         ·rw [List.mem_singleton] at hy
          subst hy
          exact fun e=>hqq (keyV_inj hq' e2 e.symm)
       ·exact ⟨_,by rw [Array.toList_push]; exact List.mem_append_right _ (List.mem_singleton.2 rfl),rfl,rfl,fun h=>(by rw [hd] at h; cases h),fun _=>mGet_zero hv hz0 z2⟩
      ·have hem:=List.mem_of_getElem? hj
       have hj':es[j]?=some e:=by simpa using hj
       have hd:dom q=true:=by
        cases hd:dom q with
        | true=>rfl
        | false=>exact absurd hke (f2 hd e hem)
       obtain ⟨x0,hx0,hxk,hxv0⟩:=f1 hd
       have:=nodup_key b2.2.1 hx0 hem (hxk.trans hke.symm)
       subst this
       have hrep:=mGet_rep (Y:=Y) (m:=m) (w:=w) (mv:=x0.val) hv z2 (fun _=>(MR_val hnl).2 hxv0)
       rw [hd] at hrep
       have hsame:es.modify j (fun e=>{ e with key:=keyV kk q })=es:=modify_same hj' _ (by rw [← hke])
       refine fin es clk x0.born x0.val ?_ hrep b2 (fun q' hq' _=>b3 q' hq') ⟨x0,hem,hke,rfl,fun _=>hxv0,fun h=>(by rw [hd] at h; cases h)⟩
       rw [hxv,e1]
       simp [Instr.mapEntry,run_underlying h1,MapKept.run_getObj_map b1,hck,hf,hj',hke,hst,hsame,MapKept.run_setObj_map _ b1,Result.andThen]
    ·cases hs
   ·cases hs
  ·cases hs
 ·cases hs
theorem ok_srg {t:TypeId} {x:Operand} {x':AX} (ho:o.op=.range t x) (h1:P.underlying t=some .string) (hx:compX x=some x'):StepOK P o (.srg x'):=by
 intro C Y m w H Fr next ρ ρv vc p u hρ hH h4 hs hvc
 have hr:=hρ x x' hx
 simp only [step] at hs
 split at hs
 ·rename_i s hp
  rw [hp] at hr
  simp only [Option.some.injEq,Prod.mk.injEq] at hs
  obtain ⟨_,rfl,rfl⟩:=hs
  have hxv:ρv x=.string ⟨s.toArray⟩:=hr.str_inv
  let pl:Pl:=⟨w.heap.size,.nilIface,0,0,0⟩
  obtain ⟨a1,a2,a3,a4⟩:=hH.add h4 pl
  have hg:=World.grownBy_alloc w (.stringIter ⟨s.toArray⟩ 0) none
  obtain ⟨g1,g2⟩:=hH.go (fun id h=>h.1) hg (by simp) a1 a2 a4 next (H':=(next,some (.sit s 0))::H) (fun id b hb=>by
   rcases getH_new hb with ⟨rfl,rfl⟩ | ⟨hne,hb⟩
   ·refine .inr ⟨rfl,pl,a3,heap_alloc_new w _,fun g hl=>.inr ?_⟩
    simp only [ABlk.lies,Option.some.injEq] at hl
    subst hl
    exact ⟨Nat.le_refl _,by simp [pl]⟩
   ·exact .inl ⟨hne,hb,by simp⟩)
  refine ⟨_,_,_,_,.inl ?_,.ptr a3,g1,g2⟩
  simp [execOp,ho,hxv,Instr.range,run_underlying h1,Result.andThen]
  rfl
 ·cases hs
theorem run_next_at {w:World} {b pos c:Nat} {s:ByteArray} {ty:TypeId} (hb:w.heap[b]?=some (.stringIter s pos)) (h:pos<s.size) (hd:Utf8.decode s pos=(c,1)) :
  (Instr.next (.pointer (some ⟨b,0,none⟩)) true ty).run P w=.ok (.tuple #[.bool true,goInt pos,.int .i32 c]) { w with heap:=w.heap.setIfInBounds b (.stringIter s (pos+1)) }:=by
 simp only [Instr.next,getObj,setObj,Sem.run_bind,Sem.run,hb,Result.andThen,h,if_true,hd]
 simp [Sem.run,hb]
theorem ok_snx {x:Operand} {x':AX} (ho:o.op=.next x true) (hx:compX x=some x'):StepOK P o (.snx x'):=by
 intro C Y m w H Fr next ρ ρv vc p u hρ hH h4 hs hvc
 have hr:=hρ x x' hx
 simp only [step] at hs
 split at hs
 ·rename_i id hp
  rw [hp] at hr
  split at hs
  ·rename_i s pos hb
   obtain ⟨pl,hm,hbs,hlies⟩:=hH.blk id _ hb
   have hbs:w.heap[pl.blk]?=some (.stringIter ⟨s.toArray⟩ pos):=hbs
   have hxv:ρv x=.pointer (some ⟨pl.blk,0,none⟩):=by
    obtain ⟨pl2,q1,q2⟩:=hr.ptr_inv
    rw [hm] at q1; injection q1 with q1; subst q1; exact q2
   have hsz:(ByteArray.mk s.toArray).size=s.length:=by simp [ByteArray.size]
   have hlt:pl.blk<w.heap.size:=(Array.getElem?_eq_some_iff.1 hbs).1
   cases hd:decide (pos<s.length)
   ·simp only [hd,cond_false,Option.some.injEq,Prod.mk.injEq] at hs
    obtain ⟨_,rfl,rfl⟩:=hs
    have hnl:¬ pos<(ByteArray.mk s.toArray).size:=by rw [hsz]; simpa using hd
    refine ⟨.tuple #[.bool false],w,Y,m,.inl ?_,?_,hH.mono (fun id h=>h.1),Ev.refl _ _ _⟩
    ·simp [execOp,ho,hxv,Instr.next,getObj,Sem.run,hbs,hnl]
    ·exact .tup (vs:=[.bool false]) rfl (fun i p u hp hu=>by
      rcases i with _ | i
      ·simp at hp hu; subst hp hu; exact .bool
      ·simp at hp)
   ·simp only [hd,cond_true,Option.some.injEq,Prod.mk.injEq] at hs
    obtain ⟨rfl,rfl,rfl⟩:=hs
    have hps:pos<s.length:=by simpa using hd
    have hl:pos<(ByteArray.mk s.toArray).size:=by rw [hsz]; exact hps
    have hge:(ByteArray.mk s.toArray)[pos]'hl=s.getD pos 0:=by
     rw [List.getD_eq_getElem?_getD,List.getElem?_eq_getElem hps]
     rfl
    have hdec:Utf8.decode (ByteArray.mk s.toArray) pos=((s.getD pos 0).toNat,1):=by
     have h:=decode_ascii (ByteArray.mk s.toArray) pos hl (by rw [hge]; exact hvc)
     rw [hge] at h
     exact h
    have hbl:=hlies pl.blk rfl
    have hrow:∀ g,some pl.blk=some g→Y g∧(C.X0 g∨C.w0.heap.size≤g):=fun g e=>by injection e with e; subst e; exact hbl
    have hgr:=grown_setObj w pl.blk (.stringIter ⟨s.toArray⟩ (pos+1))
    obtain ⟨g1,g2⟩:=hH.go (Fr':=Fr4 Fr next) (fun id h=>h.1) hgr hrow (fun _ _ h=>h) (fun i hi=>hH.fresh i hi.1) (fun _ _ h=>.inl h) id (H':=(id,some (.sit s (pos+1)))::H) (fun i b hb'=>by
     rcases getH_set hb' with ⟨rfl,rfl⟩ | ⟨hne,hb'⟩
     ·refine .inr ⟨rfl,pl,hm,?_,fun g hl=>.inl ?_⟩
      ·show (w.heap.setIfInBounds pl.blk _)[pl.blk]?=_
       simp [hlt]
      ·simpa [ABlk.lies] using hl
     ·refine .inl ⟨hne,hb',fun pl2 hp2 g hl2 e=>?_⟩
      injection e with e
      subst e
      exact hH.inj i id b _ pl2 pl pl.blk hne hb' hb hp2 hm hl2 rfl)
    refine ⟨.tuple #[.bool true,goInt pos,.int .i32 (s.getD pos 0).toNat],_,_,_,.inl ?_,?_,g1,g2⟩
    ·simp [execOp,ho,hxv,run_next_at hbs hl hdec,Result.andThen]
    ·exact .tup (vs:=[.bool true,goInt pos,.int .i32 (s.getD pos 0).toNat]) rfl (fun i p u hp hu=>by
      rcases i with _ | _ | _ | i
      ·simp at hp hu; subst hp hu; exact .bool
      ·simp at hp hu; subst hp hu; exact .int
      ·simp at hp hu; subst hp hu; exact .int
      ·simp at hp)
  ·cases hs
 ·cases hs
theorem ok_mest {t:TypeId} {x s v:Operand} {x' s' v':AX} (ho:o.op=.entryStore t x s v) (hx:compX x=some x') (hsx:compX s=some s') (hv:compX v=some v'):StepOK P o (.mest x' s' v'):=by
 intro C Y m w H Fr next ρ ρv vc p u hρ hH h4 hs hvc
 have hr:=hρ x x' hx
 have hsr:=hρ s s' hsx
 have hvr:=hρ v v' hv
 simp only [step] at hs
 split at hs
 ·rename_i id sid hp hp2
  rw [hp] at hr
  rw [hp2] at hsr
  split at hs
  ·rename_i kk dom c q sid' hb
   obtain ⟨pl,hm,hbs,hlies⟩:=hH.blk id _ hb
   obtain ⟨hnl,e2,es,clk,b1,b2,b3,pls,s1,y0,s2,s3,s4,_⟩:=hbs
   split at hs
   ·rename_i c' hput
    cases hss:(sid==sid')
    ·simp [hss] at hs
    ·simp only [hss,cond_true] at hs
     have hss':=eq_of_beq hss
     subst hss'
     simp only [Option.some.injEq,Prod.mk.injEq] at hs
     obtain ⟨rfl,rfl,rfl⟩:=hs
     obtain ⟨⟨p01,p02⟩,p1,p2⟩:=mPut_spec hput
     have hval:=p2 Y m w _ hvr
     have hxv:ρv x=.map (some pl.blk):=by
      obtain ⟨pl2,q1,q2⟩:=hr.mp_inv
      rw [hm] at q1; injection q1 with q1; subst q1; exact q2
     have hsv:ρv s=.int .i64 (pls.n:Nat):=by
      obtain ⟨pl2,q1,q2⟩:=hsr.stp_inv
      rw [s1] at q1; injection q1 with q1; subst q1; exact q2
     have hbl:=hlies pl.blk rfl
     have hrow:∀ g,some pl.blk=some g→Y g∧(C.X0 g∨C.w0.heap.size≤g):=fun g e=>by injection e with e; subst e; exact hbl
     obtain ⟨j,hj⟩:=List.mem_iff_getElem?.1 s2
     have hj':es[j]?=some y0:=by simpa using hj
     have hidx:es.findIdx? (fun e=>((e.born:Nat):Int)==((pls.n:Nat):Int))=some j:=by
      have h:=findIdx_bornM b2.2.2.1 hj
      rw [s4] at h
      have e:es.findIdx? (fun e=>((e.born:Nat):Int)==((pls.n:Nat):Int))=es.toList.findIdx? (fun e=>((e.born:Nat):Int)==((pls.n:Nat):Int)):=by cases es; simp
      rw [e]
      exact h
     have hrun:(Instr.entryStore t (ρv x) (ρv s) (ρv v)).run P w=.ok () { w with heap:=w.heap.setIfInBounds pl.blk (.map (es.modify j fun e=>{ e with val:=ρv v }) clk) }:=by
      rw [hxv,hsv]
      simp [Instr.entryStore,MapKept.run_getObj_map b1,asInt,asIntOf,hidx,MapKept.run_setObj_map _ b1,Result.andThen]
     have hgr:=grown_setObj w pl.blk (.map (es.modify j fun e=>{ e with val:=ρv v }) clk)
     have hkeys:(es.modify j fun e=>{ e with val:=ρv v }).toList.map (·.key)=es.toList.map (·.key):=by
      apply List.ext_getElem?
      intro i
      simp only [List.getElem?_map,Array.toList_modify,List.getElem?_modify]
      by_cases hij:j=i
      ·subst hij
       rw [hj]
       simp
      ·simp [hij]
     have hmem:∀ y∈(es.modify j fun e=>{ e with val:=ρv v }).toList,(y.key=keyV kk q∧y.val=ρv v)∨y∈es.toList:=by
      intro y hy
      obtain ⟨i,hi⟩:=List.mem_iff_getElem?.1 hy
      rw [Array.toList_modify,List.getElem?_modify] at hi
      by_cases hij:j=i
      ·subst hij
       rw [hj] at hi
       simp at hi
       subst hi
       exact .inl ⟨s3,rfl⟩
      ·simp [hij] at hi
       exact .inr (List.mem_of_getElem? (l:=es.toList) (i:=i) (by simpa using hi))
     have hnew:∃ y∈(es.modify j fun e=>{ e with val:=ρv v }).toList,y.key=keyV kk q∧y.val=ρv v:=by
      refine ⟨{ y0 with val:=ρv v },List.mem_of_getElem? (i:=j) ?_,s3,rfl⟩
      rw [Array.toList_modify,List.getElem?_modify,hj]
      simp
     have hold:∀ y∈es.toList,y.key≠keyV kk q→y∈(es.modify j fun e=>{ e with val:=ρv v }).toList:=by
      intro y hy hne
      obtain ⟨i,hi⟩:=List.mem_iff_getElem?.1 hy
      refine List.mem_of_getElem? (i:=i) ?_
      rw [Array.toList_modify,List.getElem?_modify]
      have hij:j≠i:=by
       rintro rfl
       rw [hj] at hi
       injection hi with hi
       subst hi
       exact hne s3
      simp [hij]
      simpa using hi
     obtain ⟨g1,g2⟩:=hH.go (Fr':=Fr4 Fr next) (fun id h=>h.1) hgr hrow (fun _ _ h=>h) (fun i hi=>hH.fresh i hi.1) (fun _ _ h=>.inl h) id (H':=(id,some (.map kk (fun p=>if p=q then true else dom p) c'))::H) (fun i b hb'=>by
      rcases getH_set hb' with ⟨rfl,rfl⟩ | ⟨hne,hb'⟩
      ·refine .inr ⟨rfl,pl,hm,⟨_,clk,(MapKept.heap_set b1).1,⟨fun y hy=>?_,by rw [hkeys]; exact b2.2.1,born_mod b2.2.2 _ fun _=>rfl⟩,fun q' hq'=>?_⟩,fun g hl=>.inl ?_⟩
       ·rcases hmem y hy with ⟨h,_⟩ | h
        ·exact ⟨q,e2,h⟩
        ·exact b2.1 y h
       ·by_cases hqq:q'=q
        ·subst hqq
         simp only [if_true]
         refine ⟨fun _=>?_,fun h=>by cases h⟩
         obtain ⟨y,h1,h2,h3⟩:=hnew
         exact ⟨y,h1,h2,(MR_val p02).2 (by rw [h3]; exact hval)⟩
        ·simp only [if_neg hqq]
         obtain ⟨k1,k2⟩:=b3 q' hq' hqq
         refine ⟨fun hd=>?_,fun hd y hy=>?_⟩
         ·obtain ⟨x,hx,hxk,hxv⟩:=k1 hd
          exact ⟨x,hold x hx (fun e=>hqq (keyV_inj hq' e2 (hxk.symm.trans e))),hxk,(MR_val p02).2 (by rw [p1 q' hqq]; exact hxv)⟩
         ·rcases hmem y hy with ⟨h,_⟩ | h
          ·exact fun e=>hqq (keyV_inj hq' e2 (e.symm.trans h))
          ·exact k2 hd y h
       ·simpa [ABlk.lies] using hl
      ·refine .inl ⟨hne,hb',fun pl2 hp2 g hl2 e=>?_⟩
       injection e with e
       subst e
       exact hH.inj i id b _ pl2 pl pl.blk hne hb' hb hp2 hm hl2 rfl)
     exact ⟨undef,_,_,_,.inr ⟨by simp [execOp,ho,hrun],rfl⟩,.any,g1,g2⟩
   ·cases hs
  ·cases hs
 ·cases hs
theorem colPaste_rep {c d e:Col} {q n:Nat} (h:c.paste q n d=some e) {Y:Nat→Prop} {m:Names} {w:World}:(∀ k v,¬ (q≤k∧k<q+n)→ACR Y m w c k v→ACR Y m w e k v)∧(∀ k v,k<n→ACR Y m w d k v→ACR Y m w e (q+k) v):=by
 have nk:∀ k,k<n→(q≤q+k∧q+k<q+n)=True:=fun k hk=>by simp [hk]
 have sk:∀ k,q+k - q=k:=fun k=>by omega
 suffices hh:(c.noO=true→d.noO=true→(∀ k v,¬ (q≤k∧k<q+n)→ColRep Y w c k v→ColRep Y w e k v)∧(∀ k v,k<n→ColRep Y w d k v→ColRep Y w e (q+k) v)) by
  by_cases hc:c.noO=true
  ·by_cases hd:d.noO=true
   ·have h2:=hh hc hd
    exact ⟨fun k v hk hv=>(h2.1 k v hk (hv.col hc)).acr,fun k v hk hv=>(h2.2 k v hk (hv.col hd)).acr⟩
   ·(cases d <;> simp [Col.noO] at hd) <;> (cases c <;> simp [Col.paste,Col.noO] at h hc)
  ·cases c <;> simp [Col.noO] at hc
   ·cases d <;> simp only [Col.paste,reduceCtorEq,Option.some.injEq] at h
    subst h
    refine ⟨fun j v hj hv=>?_,fun j v hj hv=>?_⟩
    ·show SlRep m _ 0 _ v
     simp only [if_neg hj]
     exact hv
    ·show SlRep m _ 0 _ v
     simp only [nk j hj,sk,if_true]
     exact hv
   ·cases d <;> simp only [Col.paste,reduceCtorEq,Option.some.injEq] at h
    subst h
    refine ⟨fun j v hj hv=>?_,fun j v hj hv=>?_⟩
    ·obtain ⟨pl,h1,h2⟩:=hv
     exact ⟨pl,by simp only [if_neg hj]; exact h1,h2⟩
    ·obtain ⟨pl,h1,h2⟩:=hv
     exact ⟨pl,by simp only [nk j hj,sk,if_true]; exact h1,h2⟩
 intro hc0 hd0
 cases c <;> cases d <;> simp only [Col.paste,reduceCtorEq] at h <;> try contradiction
 ·split at h
  ·rename_i k g k' g' e'
   subst e'
   simp only [Option.some.injEq] at h
   subst h
   refine ⟨fun j v hj hv=>?_,fun j v hj hv=>?_⟩
   ·cases hv; have:=ColRep.i (Y:=Y) (w:=w) (k:=k) (g:=fun i=>if q≤i∧i<q+n then g' (i - q) else g i) (n:=j); simpa [hj] using this
   ·cases hv; have:=ColRep.i (Y:=Y) (w:=w) (k:=k) (g:=fun i=>if q≤i∧i<q+n then g' (i - q) else g i) (n:=q+j); simpa [nk j hj,sk,-Nat.le_add_right,-Nat.add_lt_add_iff_left] using this
  ·cases h
 ·rename_i g g'
  simp only [Option.some.injEq] at h
  subst h
  refine ⟨fun j v hj hv=>?_,fun j v hj hv=>?_⟩
  ·cases hv; have:=ColRep.b (Y:=Y) (w:=w) (g:=fun i=>if q≤i∧i<q+n then g' (i - q) else g i) (n:=j); simpa [hj] using this
  ·cases hv; have:=ColRep.b (Y:=Y) (w:=w) (g:=fun i=>if q≤i∧i<q+n then g' (i - q) else g i) (n:=q+j); simpa [nk j hj,sk,-Nat.le_add_right,-Nat.add_lt_add_iff_left] using this
 ·rename_i g g'
  simp only [Option.some.injEq] at h
  subst h
  refine ⟨fun j v hj hv=>?_,fun j v hj hv=>?_⟩
  ·cases hv; have:=ColRep.s (Y:=Y) (w:=w) (g:=fun i=>if q≤i∧i<q+n then g' (i - q) else g i) (n:=j); simpa [hj] using this
  ·cases hv; have:=ColRep.s (Y:=Y) (w:=w) (g:=fun i=>if q≤i∧i<q+n then g' (i - q) else g i) (n:=q+j); simpa [nk j hj,sk,-Nat.le_add_right,-Nat.add_lt_add_iff_left] using this
 ·rename_i a g cc a' g' cc'
  simp only [Option.some.injEq] at h
  subst h
  refine ⟨fun j v hj hv=>?_,fun j v hj hv=>?_⟩
  ·cases hv with
   | l u h1 h2 h3 h4 h5 =>
    have:=ColRep.l (Y:=Y) (w:=w) (nl:=fun i=>if q≤i∧i<q+n then a' (i - q) else a i) (len:=fun i=>if q≤i∧i<q+n then g' (i - q) else g i) (cols:=fun i=>if q≤i∧i<q+n then cc' (i - q) else cc i) (n:=j) u (by simpa [hj] using h1) (by simpa [hj] using h2)
     (by simpa [hj] using h3) (by simpa [hj] using h4) (by simpa [hj] using h5)
    simpa [hj] using this
  ·cases hv with
   | l u h1 h2 h3 h4 h5 =>
    have:=ColRep.l (Y:=Y) (w:=w) (nl:=fun i=>if q≤i∧i<q+n then a' (i - q) else a i) (len:=fun i=>if q≤i∧i<q+n then g' (i - q) else g i) (cols:=fun i=>if q≤i∧i<q+n then cc' (i - q) else cc i) (n:=q+j) u (by simpa [nk j hj,sk,-Nat.le_add_right,-Nat.add_lt_add_iff_left] using h1) (by simpa [nk j hj,sk,-Nat.le_add_right,-Nat.add_lt_add_iff_left] using h2)
     (by simpa [nk j hj,sk,-Nat.le_add_right,-Nat.add_lt_add_iff_left] using h3) (by simpa [nk j hj,sk,-Nat.le_add_right,-Nat.add_lt_add_iff_left] using h4) (by simpa [nk j hj,sk,-Nat.le_add_right,-Nat.add_lt_add_iff_left] using h5)
    simpa [nk j hj,sk,-Nat.le_add_right,-Nat.add_lt_add_iff_left] using this
theorem colsPaste_spec {q n:Nat}:∀ {cs ds es:List Col},colsPaste q n cs ds=some es→es.length=cs.length∧es.length=ds.length∧∀ (j:Nat) e,es[j]?=some e→∃ c d,cs[j]?=some c∧ds[j]?=some d∧c.paste q n d=some e
 | [],[],es,h=>by simp only [colsPaste,Option.some.injEq] at h; subst h; simp
 | c::cs,[],es,h=>by simp [colsPaste] at h
 | [],d::ds,es,h=>by simp [colsPaste] at h
 | c::cs,d::ds,es,h=>by
  simp only [colsPaste] at h
  split at h
  ·rename_i e es' h1 h2
   simp only [Option.some.injEq] at h
   subst h
   obtain ⟨i1,i2,i3⟩:=colsPaste_spec h2
   refine ⟨by simp [i1],by simp [i2],fun j e' hj=>?_⟩
   rcases j with _ | j
   ·simp only [List.getElem?_cons_zero,Option.some.injEq] at hj; subst hj; exact ⟨c,d,rfl,rfl,h1⟩
   ·simp only [List.getElem?_cons_succ] at hj; simpa using i3 j e' hj
  ·cases h
theorem cellRow {A B c a b:Nat} (hb:b<c):(A * c≤a * c+b∧a * c+b<A * c+B * c)↔(A≤a∧a<A+B):=by
 constructor
 ·rintro ⟨h1,h2⟩
  constructor
  ·rcases Nat.lt_or_ge a A with h | h
   ·have:a * c+c≤A * c:=by rw [← Nat.succ_mul]; exact Nat.mul_le_mul_right _ h
    omega
   ·exact h
  ·rcases Nat.lt_or_ge a (A+B) with h | h
   ·exact h
   ·have:(A+B) * c≤a * c:=Nat.mul_le_mul_right _ h
    rw [Nat.add_mul] at this
    omega
 ·rintro ⟨h1,h2⟩
  have g1:A * c≤a * c:=Nat.mul_le_mul_right _ h1
  have g2:a * c+c≤(A+B) * c:=by rw [← Nat.succ_mul]; exact Nat.mul_le_mul_right _ h2
  rw [Nat.add_mul A] at g2
  omega
theorem ok_appin {t ty e:TypeId} {x y:Operand} {x' y':AX} {i:TypeInfo} {cl:Call} (ho:o.op=.call cl) (hcl:cl.callee=.builtin .append) (ha:cl.args=#[x,y]) (hat:cl.argTypes=#[t,t])
  (h1:P.underlying t=some (.slice e)) (h2:P.info? e=some i) (h4:0<i.size∧e≠TS) (hx:compX x=some x') (hy:compX y=some y'):StepOK P o (.appin i.size x' y'):=by
 replace h4:=h4.1
 intro C Y m w H Fr next ρ ρv vc p u hρ hH h4' hs hvc
 have hH':∀ id b,getH H id=some b→∃ pl,m id=some pl∧BlkSat Y m w pl b:=fun id b hb=>by obtain ⟨pl,h1,h2,_⟩:=hH.blk id b hb; exact ⟨pl,h1,h2⟩
 have did:∀ {a b v:Value} {w':World},ρv x=a→ρv y=b→(Builtin.append_ #[t,t] o.type #[a,b]).run P w=.ok v w'→Did P o ρv w v w':=by
  intro a b v w' h5 h6 h7
  left
  simp [execOp,ho,resolve,hcl,ha,hat,invoke,builtin,h5,h6,h7]
 simp only [step] at hs
 split at hs
 ·cases hs
 rename_i k new hnew
 obtain ⟨B,d,news,v1,v2,v3,v4,v5⟩:=tail_cells hH' (hρ y y' hy) hnew
 cases hsz:new.length==i.size
 ·simp [hsz] at hs
 simp only [hsz,cond_true] at hs
 have hnl:new.length=i.size:=by simpa using hsz
 have hr:=hρ x x' hx
 split at hs
 ·rename_i id off n hp
  rw [hp] at hr
  split at hs
  ·rename_i T kk cols hb
   obtain ⟨pl,A,B',c,cap,hm,e1,e2,e3,e4,e5,e6,e7,e8⟩:=hr.sl_inv
   split at hs
   ·rename_i all hall
    simp only [Option.some.injEq,Prod.mk.injEq] at hs
    obtain ⟨rfl,rfl,rfl⟩:=hs
    obtain ⟨hk,hle⟩:=hvc
    obtain ⟨c1,c2,c3⟩:=colsPaste_spec hall
    have hcl1:cols.length=i.size:=by rw [← hnl,← c2,c1]
    obtain ⟨pl',hm',hbs,hlies⟩:=hH.blk id _ hb
    rw [hm] at hm'
    injection hm' with hm'
    subst hm'
    obtain ⟨xs,cap2,s1,s2,s3,s4,s5,s6,s7⟩:=hbs
    have hcap:kk≤cap:=by rw [e2,s1] at s3; exact s3.cap.1
    have hmul:(off+n) * cols.length+k * cols.length≤kk * cols.length:=by rw [← Nat.add_mul]; exact Nat.mul_le_mul_right _ hle
    obtain ⟨cur,g1,g2,Y',g3,g4⟩:=hH.setArr (cols':=all) next hm hb (by omega) ((off+n) * cols.length) news v4 (by rw [v2,hnl,← hcl1]; exact hmul) c1 (fun a b c' ha' hb' hlo hhi=>by
      have hbl:b<cols.length:=by rw [← c1]; exact (List.getElem?_eq_some_iff.1 hb').1
      rw [v2,hnl,← hcl1] at hhi
      obtain ⟨f1,f2⟩:=(cellRow hbl).1 ⟨hlo,hhi⟩
      obtain ⟨ca,cb,r1,r2,r3⟩:=c3 b c' hb'
      obtain ⟨u,q1,q2⟩:=v5 (a - (off+n)) b cb (by omega) r2
      rw [hnl,← hcl1] at q1
      refine ⟨u,?_,?_⟩
      ·rw [← q1,Nat.sub_mul]
       congr 1
       have:(off+n) * cols.length≤a * cols.length:=Nat.mul_le_mul_right _ f1
       omega
      ·have:=(colPaste_rep r3).2 (a - (off+n)) u (by omega) q2
       rwa [show off+n+(a - (off+n))=a from by omega] at this) (fun a b c' ha' hb' hno=>by
      have hbl:b<cols.length:=by rw [← c1]; exact (List.getElem?_eq_some_iff.1 hb').1
      obtain ⟨ca,cb,r1,r2,r3⟩:=c3 b c' hb'
      rw [v2,hnl,← hcl1,cellRow hbl] at hno
      exact ⟨ca,r1,fun v hv=>(colPaste_rep r3).1 a v hno hv⟩)
    have hc0:0<c:=by omega
    have hB:=e5 hc0
    rw [s2] at hB
    have hst:=rowAt.stores (P:=P) (o:=pl.o+(off+n) * cols.length) news 0 cur w g1 (by omega) v4
    simp only [Nat.add_zero] at hst
    rw [← splice_eq cur.toList news (pl.o+(off+n) * cols.length) (by simpa using g2)] at hst
    have hadd:(⟨pl.blk,pl.o+off * cols.length,none⟩:Addr).add (n * i.size)=⟨pl.blk,pl.o+(off+n) * cols.length,none⟩:=by
     rw [Addr.add_lit,Nat.add_mul,← hcl1,Nat.add_assoc]
    have hnz:((P.underlying t).map fun d=>d matches .int _)=some false:=by rw [h1]; rfl
    have hrun:(Builtin.append_ #[t,t] o.type #[.slice B' n c,.slice B k d]).run P w=.ok (.slice B' (n+k) c) (w.setRow pl.blk (splice cur.toList (pl.o+(off+n) * cols.length) news).toArray):=by
     have hroom:n+k≤c:=by omega
     rw [hB]
     cases B with
     | none =>
      have hn0:news=[]:=by
       cases hnews:news with
       | nil=>rfl
       | cons u r=>obtain ⟨b,o,h,_⟩:=v3 0 u (by rw [hnews]; rfl); cases h
      subst hn0
      have hfc:=run_firstCells_none (P:=P) (w:=w) i.size k k d
      simp [Builtin.append_,run_underlying h1,sizeOf,typeInfo,h2,Builtin.lenOf,hroom,hfc,hadd,hst]
     | some a =>
      have hfc:=run_firstCells_some (P:=P) w i.size k a k d news (by rw [v2,hnl]) (fun j u hj=>by
       obtain ⟨b,o,h,hc⟩:=v3 j u hj
       injection h with h
       subst h
       rw [Addr.add_lit]
       exact hc)
      simp [Builtin.append_,run_underlying h1,sizeOf,typeInfo,h2,Builtin.lenOf,hroom,hfc,hadd,hst]
    refine ⟨_,_,Y',m,did e1 v1 hrun,?_,g3,g4⟩
    exact .sl hm e2 (by omega) e4 (by rw [s2] at *; intro h; rw [hB]) e6 (by omega) e8
   ·cases hs
  ·cases hs
 ·cases hs
theorem ok_cpy {t e:TypeId} {x y:Operand} {x' y':AX} {sz:Nat} {cl:Call} (ho:o.op=.call cl) (hcl:cl.callee=.builtin .copy) (ha:cl.args=#[x,y]) (hat:cl.argTypes=#[t,t])
  (h1:P.underlying t=some (.slice e)) (h2:szT P e=some sz) (h4:0<sz) (hx:compX x=some x') (hy:compX y=some y'):StepOK P o (.cpy sz x' y'):=by
 intro C Y m w H Fr next ρ ρv vc p u hρ hH h4' hs hvc
 have hH':∀ id b,getH H id=some b→∃ pl,m id=some pl∧BlkSat Y m w pl b:=fun id b hb=>by obtain ⟨pl,h1,h2,_⟩:=hH.blk id b hb; exact ⟨pl,h1,h2⟩
 have did:∀ {a b v:Value} {w':World},ρv x=a→ρv y=b→(Builtin.copy_ #[t,t] o.type #[a,b]).run P w=.ok v w'→Did P o ρv w v w':=by
  intro a b v w' h5 h6 h7
  left
  simp [execOp,ho,resolve,hcl,ha,hat,invoke,builtin,h5,h6,h7]
 simp only [step] at hs
 split at hs
 ·cases hs
 rename_i k new hnew
 obtain ⟨B,d,news,v1,v2,v3,v4,v5⟩:=tail_cells hH' (hρ y y' hy) hnew
 cases hsz:new.length==sz
 ·simp [hsz] at hs
 simp only [hsz,cond_true] at hs
 have hnl:new.length=sz:=by simpa using hsz
 have hr:=hρ x x' hx
 split at hs
 ·rename_i id off n hp
  rw [hp] at hr
  split at hs
  ·rename_i T kk cols hb
   obtain ⟨pl,A,B',c,cap,hm,e1,e2,e3,e4,e5,e6,e7,e8⟩:=hr.sl_inv
   split at hs
   ·rename_i all hall
    simp only [Option.some.injEq,Prod.mk.injEq] at hs
    obtain ⟨rfl,rfl,rfl⟩:=hs
    have hk:off<kk:=hvc
    obtain ⟨c1,c2,c3⟩:=colsPaste_spec hall
    have hcl1:cols.length=sz:=by rw [← hnl,← c2,c1]
    obtain ⟨pl',hm',hbs,hlies⟩:=hH.blk id _ hb
    rw [hm] at hm'
    injection hm' with hm'
    subst hm'
    obtain ⟨xs,cap2,s1,s2,s3,s4,s5,s6,s7⟩:=hbs
    have hcap:kk≤cap:=by rw [e2,s1] at s3; exact s3.cap.1
    obtain ⟨mm,hmm⟩:∃ mm,mm=min k n:=⟨_,rfl⟩
    rw [← hmm] at hall c3 ⊢
    have hmul:off * cols.length+mm * cols.length≤kk * cols.length:=by rw [← Nat.add_mul]; exact Nat.mul_le_mul_right _ (by omega)
    have hmk:mm * sz≤k * sz:=Nat.mul_le_mul_right _ (by omega)
    obtain ⟨nw,hnw⟩:∃ nw,nw=news.take (mm * sz):=⟨_,rfl⟩
    have hnwl:nw.length=mm * sz:=by rw [hnw,List.length_take,v2,hnl]; omega
    have hone:∀ u∈nw,u.oneCell'=true:=fun u hu=>v4 u (by rw [hnw] at hu; exact List.mem_of_mem_take hu)
    obtain ⟨cur,g1,g2,Y',g3,g4⟩:=hH.setArr (cols':=all) next hm hb (by omega) (off * cols.length) nw hone (by rw [hnwl,← hcl1]; exact hmul) c1 (fun a b c' ha' hb' hlo hhi=>by
      have hbl:b<cols.length:=by rw [← c1]; exact (List.getElem?_eq_some_iff.1 hb').1
      rw [hnwl,← hcl1] at hhi
      obtain ⟨f1,f2⟩:=(cellRow hbl).1 ⟨hlo,hhi⟩
      obtain ⟨ca,cb,r1,r2,r3⟩:=c3 b c' hb'
      obtain ⟨u,q1,q2⟩:=v5 (a - off) b cb (by omega) r2
      rw [hnl,← hcl1] at q1
      have hlt:a * cols.length+b - off * cols.length<mm * sz:=by rw [← hcl1]; omega
      refine ⟨u,?_,?_⟩
      ·rw [hnw,List.getElem?_take,if_pos hlt,← q1,Nat.sub_mul]
       congr 1
       have:off * cols.length≤a * cols.length:=Nat.mul_le_mul_right _ f1
       omega
      ·have:=(colPaste_rep r3).2 (a - off) u (by omega) q2
       rwa [show off+(a - off)=a from by omega] at this) (fun a b c' ha' hb' hno=>by
      have hbl:b<cols.length:=by rw [← c1]; exact (List.getElem?_eq_some_iff.1 hb').1
      obtain ⟨ca,cb,r1,r2,r3⟩:=c3 b c' hb'
      rw [hnwl,← hcl1,cellRow hbl] at hno
      exact ⟨ca,r1,fun v hv=>(colPaste_rep r3).1 a v hno hv⟩)
    have hc0:0<c:=by omega
    have hB:=e5 hc0
    rw [s2] at hB
    have hst:=rowAt.stores (P:=P) (o:=pl.o+off * cols.length) nw 0 cur w g1 (by omega) hone
    simp only [Nat.add_zero] at hst
    rw [← splice_eq cur.toList nw (pl.o+off * cols.length) (by simpa using g2)] at hst
    have hmin:Nat.min k n=mm:=hmm.symm
    have hrun:(Builtin.copy_ #[t,t] o.type #[.slice B' n c,.slice B k d]).run P w=.ok (.int .i64 (mm:Nat)) (w.setRow pl.blk (splice cur.toList (pl.o+off * cols.length) nw).toArray):=by
     rw [hB]
     cases B with
     | none =>
      have hn0:nw=[]:=by
       have:news=[]:=by
        cases hnews:news with
        | nil=>rfl
        | cons u r=>obtain ⟨b,o,h,_⟩:=v3 0 u (by rw [hnews]; rfl); cases h
       rw [hnw,this]; simp
      subst hn0
      have hfc:=run_firstCells_none (P:=P) (w:=w) sz mm k d
      simp [Builtin.copy_,run_underlying h1,run_size h2,Builtin.lenOf,hmin,hfc,hst,goInt]
     | some a =>
      have hfc:=run_firstCells_some (P:=P) w sz mm a k d nw hnwl (fun j u hj=>by
       have hj':news[j]?=some u:=by
        rw [hnw,List.getElem?_take] at hj
        split at hj
        ·exact hj
        ·cases hj
       obtain ⟨b,o,h,hc⟩:=v3 j u hj'
       injection h with h
       subst h
       rw [Addr.add_lit]
       exact hc)
      simp [Builtin.copy_,run_underlying h1,run_size h2,Builtin.lenOf,hmin,hfc,hst,goInt]
    exact ⟨_,_,Y',m,did e1 v1 hrun,.int,g3,g4⟩
   ·cases hs
  ·cases hs
 ·cases hs
theorem ok_clr {t e:TypeId} {x:Operand} {x':AX} {sz:Nat} {z:List PV} {cl:Call} (ho:o.op=.call cl) (hcl:cl.callee=.builtin .clear) (ha:cl.args.toList=[x]) (hat:cl.argTypes.toList=[t])
  (h1:P.underlying t=some (.slice e)) (h2:szT P e=some sz) (h3:zeroT P e=some z) (h4:0<sz) (hx:compX x=some x'):StepOK P o (.clr z x'):=by
 intro C Y m w H Fr next ρ ρv vc p u hρ hH h4' hs hvc
 obtain ⟨i,zv,zs,z1,z2,z3,z4,z5⟩:=zeroT_cells (Y:=Y) (m:=m) (w:=w) h3
 have hr:=hρ x x' hx
 simp only [step] at hs
 split at hs
 ·rename_i id off n hp
  rw [hp] at hr
  split at hs
  ·rename_i T kk cols hb
   obtain ⟨pl,A,B',c,cap,hm,e1,e2,e3,e4,e5,e6,e7,e8⟩:=hr.sl_inv
   split at hs
   ·rename_i zc hzc
    split at hs
    ·rename_i all hall
     simp only [Option.some.injEq,Prod.mk.injEq] at hs
     obtain ⟨rfl,rfl,rfl⟩:=hs
     have hn:0<n:=hvc
     obtain ⟨c1,c2,c3⟩:=colsPaste_spec hall
     obtain ⟨m1,m2⟩:=mkCols_spec hzc
     have hcl1:cols.length=zs.length:=by rw [z5.len,← m1,← c1,c2,List.length_map]
     obtain ⟨pl',hm',hbs,hlies⟩:=hH.blk id _ hb
     rw [hm] at hm'
     injection hm' with hm'
     subst hm'
     obtain ⟨xs,cap2,s1,s2,s3,s4,s5,s6,s7⟩:=hbs
     have hcap:kk≤cap:=by rw [e2,s1] at s3; exact s3.cap.1
     have hmul:off * cols.length+n * cols.length≤kk * cols.length:=by rw [← Nat.add_mul]; exact Nat.mul_le_mul_right _ (by omega)
     obtain ⟨news,hnews⟩:∃ news,news=(List.replicate n zs).flatten:=⟨_,rfl⟩
     have hnl:news.length=n * cols.length:=by rw [hnews,hcl1]; simp
     have hget:∀ a b,b<cols.length→a<n→news[a * cols.length+b]?=zs[b]?:=fun a b hb ha=>by
      have hlt:a * cols.length+b<n * cols.length:=by
       have:a * cols.length+cols.length≤n * cols.length:=by rw [← Nat.succ_mul]; exact Nat.mul_le_mul_right _ ha
       omega
      rw [hnews,repl_get,← hcl1,if_pos hlt,Nat.add_comm,Nat.add_mul_mod_self_right,Nat.mod_eq_of_lt hb]
     have hone:∀ v∈news,v.oneCell'=true:=fun v hv=>by
      rw [hnews] at hv
      obtain ⟨l,hl,hv⟩:=List.mem_flatten.1 hv
      rw [List.eq_of_mem_replicate hl] at hv
      exact z5.one v hv
     obtain ⟨cur,g1,g2,Y',g3,g4⟩:=hH.setArr (cols':=all) next hm hb (by omega) (off * cols.length) news hone (by rw [hnl]; exact hmul) c1 (fun a b c' ha' hb' hlo hhi=>by
       have hbl:b<cols.length:=by rw [← c1]; exact (List.getElem?_eq_some_iff.1 hb').1
       rw [hnl] at hhi
       obtain ⟨f1,f2⟩:=(cellRow hbl).1 ⟨hlo,hhi⟩
       obtain ⟨ca,cb,r1,r2,r3⟩:=c3 b c' hb'
       rw [List.getElem?_map] at r2
       obtain ⟨c0,h0,rfl⟩:=map_some r2
       obtain ⟨k1,_⟩:=m2 b c0 h0
       obtain ⟨zb,hzb,hmk⟩:=k1 rfl
       obtain ⟨v,hv⟩:=get_some zs (k:=b) (by omega)
       have hq:a * cols.length+b - off * cols.length=(a - off) * cols.length+b:=by
        have:off * cols.length≤a * cols.length:=Nat.mul_le_mul_right _ f1
        rw [Nat.sub_mul]; omega
       refine ⟨v,by rw [hq,hget _ _ hbl (by omega),hv],?_⟩
       have h2:=const_rep (mkCol_rep (i:=0) hmk (p:=zb) rfl (z5.rep b zb v hzb hv)) (a - off)
       have:=(colPaste_rep r3).2 (a - off) v (by omega) h2
       rwa [show off+(a - off)=a from by omega] at this) (fun a b c' ha' hb' hno=>by
       have hbl:b<cols.length:=by rw [← c1]; exact (List.getElem?_eq_some_iff.1 hb').1
       obtain ⟨ca,cb,r1,r2,r3⟩:=c3 b c' hb'
       rw [hnl,cellRow hbl] at hno
       exact ⟨ca,r1,fun v hv=>(colPaste_rep r3).1 a v hno hv⟩)
     have hB:=e5 (by omega)
     rw [s2] at hB
     have hst:=rowAt.stores (P:=P) (o:=pl.o+off * cols.length) news 0 cur w g1 (by omega) hone
     simp only [Nat.add_zero] at hst
     rw [← splice_eq cur.toList news (pl.o+off * cols.length) (by simpa using g2)] at hst
     have hz:(Builtin.zeroCells zv.cells n).toList=news:=by
      rw [hnews,z3]
      have:=row_zero zs n
      unfold Builtin.zeroCells
      rw [show zs.toArray.size=zs.length from rfl] at *
      rw [this]
     refine ⟨.tuple #[],_,Y',m,.inl ?_,.any,g3,g4⟩
     have ha2:cl.args=#[x]:=Array.toList_inj.1 ha
     have hat2:cl.argTypes=#[t]:=Array.toList_inj.1 hat
     obtain ⟨n',rfl⟩:∃ n',n=n'+1:=⟨n - 1,by omega⟩
     have hzero:(zeroValue e).run P w=.ok zv w:=by simp [zeroValue,typeInfo,z1,z2]
     rw [hB] at e1
     simp [execOp,ho,resolve,hcl,ha2,hat2,invoke,builtin,Builtin.clear_,run_underlying h1,e1,hzero,hz,hst]
    ·cases hs
   ·cases hs
  ·cases hs
 ·cases hs
theorem HSF.add1 {C:Ctx} {Y:Nat→Prop} {m:Names} {w:World} {H:Heap} {Fr:Nat→Prop} {next:Nat} (h:HSF C Y m w H Fr) (h4:Fr next) (pl:Pl) :
  (∀ id q,m id=some q→addN m next pl id=some q)∧(∀ id,Fr4 Fr next id→addN m next pl id=none)∧addN m next pl next=some pl∧(∀ id q,addN m next pl id=some q→m id=some q∨C.base≤id):=by
 refine ⟨fun id q hq=>?_,fun id hid=>?_,by simp [addN],fun id q hq=>?_⟩
 ·unfold addN
  rw [if_neg]
  ·exact hq
  ·rintro rfl
   rw [h.fresh id (h4)] at hq
   cases hq
 ·unfold addN
  rw [if_neg (by rintro rfl; exact hid.2 ⟨Nat.le_refl _,by omega⟩)]
  exact h.fresh id hid.1
 ·unfold addN at hq
  by_cases e:id=next
  ·subst e; exact .inr (h.low id (h4))
  ·rw [if_neg e] at hq; exact .inl hq
theorem HSF.newArr1 {C:Ctx} {Y:Nat→Prop} {m:Names} {w w':World} {H:Heap} {Fr:Nat→Prop} {next:Nat} (h:HSF C Y m w H Fr) (h4:Fr next) (T:TypeId) (n cap:Nat) (cols:List Col) (A:Option Addr) (oo:Nat) (xs:List Value) {row:Option Nat} (hg:w.grownBy w' row)
  (hrow:∀ g,row=some g→Y g∧(C.X0 g∨C.w0.heap.size≤g)) (hown:ownsAt w' T cols.length (.slice A n cap) oo n xs) (hA:ablk A=row∨∀ g,ablk A=some g→w.heap.size≤g) (h1:∀ v∈xs,v.oneCell'=true)
  (hc:∀ m',Ev Y m w (Yn Y w w') m' w'→∀ (i j:Nat) c,i<n→cols[j]?=some c→∃ v,xs[i * cols.length+j]?=some v∧ACR (Yn Y w w') m' w' c i v) (D:Nat→Bool)
  (hD:∀ id b pl,D id=false→getH H id=some b→m id=some pl→∀ g,b.lies pl=some g→row≠some g) (H':Heap) (hH':∀ id,getH H' id=if id=next then some (.arr T n cols) else if D id then none else getH H id) :
  ∃ Y' m',Rep Y' m' w' (.sl next 0 n) (.slice A n cap)∧HSF C Y' m' w' H' (Fr4 Fr next)∧Ev Y m w Y' m' w':=by
 let pl:Pl:=⟨(ablk A).getD 0,.slice A n cap,n,cols.length,oo⟩
 obtain ⟨a1,a2,a3,a4⟩:=h.add1 h4 pl
 have ev:Ev Y m w (Yn Y w w') (addN m next pl) w':=Ev.grow hg (fun g e=>(hrow g e).1) a1
 have hlt:=fun g (e:ablk A=some g)=>hown.lt g (by rw [ownBlock_ablk]; exact e)
 have hnc:=hown.cap.1
 have form:0<cap→A=some ⟨(ablk A).getD 0,oo,none⟩:=by
  intro hn
  rcases hown.2 with ⟨hv,_⟩ | ⟨g,cap',cur,hv,_⟩
  ·injection hv with _ _ hv; omega
  ·injection hv with hv; subst hv; rfl
 obtain ⟨g1,g2⟩:=h.go (fun id h=>h.1) hg hrow a1 a2 a4 next (H':=H') (fun id b hb=>by
  rw [hH'] at hb
  by_cases e:id=next
  ·rw [if_pos e] at hb
   injection hb with hb
   subst hb
   subst e
   refine .inr ⟨rfl,pl,a3,⟨xs,cap,rfl,rfl,hown,fun hn=>?_,h1,⟨A,rfl⟩,hc _ ev⟩,fun g hl=>?_⟩
   ·have:=form (by omega)
    show Value.ownBlock (.slice A n cap)=some ((ablk A).getD 0)
    rw [ownBlock_ablk]
    rw [this]; rfl
   ·have hl':ablk A=some g:=by simpa [ABlk.lies,pl,ownBlock_ablk] using hl
    rcases hA with e | e
    ·exact .inl (e ▸ hl')
    ·exact .inr ⟨e g hl',hlt g hl'⟩
  ·rw [if_neg e] at hb
   split at hb
   ·cases hb
   ·rename_i hd
    exact .inl ⟨e,hb,fun pl hpl g hl=>hD id b pl (by simpa using hd) hb hpl g hl⟩)
 refine ⟨_,_,.sl a3 rfl (by simp [pl]) (fun _=>⟨rfl,rfl⟩) (fun hn=>?_) ?_ ?_ rfl,g1,g2⟩
 ·rw [Nat.zero_mul]; exact form hn
 ·intro e
  subst e
  rcases hown.2 with ⟨hv,_⟩ | ⟨g,cap',cur,hv,_⟩
  ·injection hv
  ·injection hv with hv; cases hv
 ·exact hnc
theorem HSF.nilBlk {C:Ctx} {Y:Nat→Prop} {m:Names} {w:World} {H:Heap} {Fr:Nat→Prop} (h:HSF C Y m w H Fr) {k:Nat} (hk:Fr k) (T:TypeId) (cols:List Col) :
  addN m k ⟨0,.slice none 0 0,0,cols.length,0⟩ k=some ⟨0,.slice none 0 0,0,cols.length,0⟩∧HSF C (Yn Y w w) (addN m k ⟨0,.slice none 0 0,0,cols.length,0⟩) w ((k,some (.arr T 0 cols))::H) (fun id=>Fr id∧id≠k)∧Ev Y m w (Yn Y w w) (addN m k ⟨0,.slice none 0 0,0,cols.length,0⟩) w:=by
 have hup:∀ id q,m id=some q→addN m k ⟨0,.slice none 0 0,0,cols.length,0⟩ id=some q:=fun id q hq=>by
  unfold addN
  rw [if_neg]
  ·exact hq
  ·rintro rfl
   rw [h.fresh id hk] at hq
   cases hq
 have hat:addN m k ⟨0,.slice none 0 0,0,cols.length,0⟩ k=some ⟨0,.slice none 0 0,0,cols.length,0⟩:=by simp [addN]
 refine ⟨hat,h.go (fun id h=>h.1) (row:=none) ⟨rfl,rfl,rfl,Nat.le_refl _,fun _ _ _=>rfl⟩ (by simp) hup (fun id hid=>?_) (fun id q hq=>?_) k (H':=(k,some (.arr T 0 cols))::H) (fun id b hb=>?_)⟩
 ·unfold addN
  rw [if_neg hid.2]
  exact h.fresh id hid.1
 ·unfold addN at hq
  by_cases e:id=k
  ·subst e; exact .inr (h.low id hk)
  ·rw [if_neg e] at hq; exact .inl hq
 ·rcases getH_new hb with ⟨rfl,rfl⟩ | ⟨hne,hb⟩
  ·refine .inr ⟨rfl,_,hat,⟨[],0,rfl,rfl,⟨by simp,.inl ⟨rfl,rfl⟩⟩,fun h=>absurd h (by omega),by simp,⟨none,rfl⟩,fun i j c hi=>absurd hi (by omega)⟩,fun g hl=>?_⟩
   simp [ABlk.lies,Value.ownBlock] at hl
  ·exact .inl ⟨hne,hb,by simp⟩
theorem Ev.trans {Y Y' Y2:Nat→Prop} {m m' m2:Names} {w w' w2:World} (h:Ev Y m w Y' m' w') (k:Ev Y' m' w' Y2 m2 w2):Ev Y m w Y2 m2 w2 :=
 ⟨Nat.le_trans h.size k.size,fun b hb hY=>(k.keep b (Nat.lt_of_lt_of_le hb h.size) (fun hY'=>by
  rcases h.less b hY' with h1 | h1
  ·exact hY h1
  ·omega)).trans (h.keep b hb hY),fun b hb=>by
  rcases k.less b hb with h1 | h1
  ·exact h.less b h1
  ·exact .inr (Nat.le_trans h.size h1),fun id pl h1=>k.names _ _ (h.names _ _ h1)⟩
theorem HSF.fr {C : Ctx} {Y : Nat → Prop} {m : Names} {w : World} {H : Heap} {Fr Fr' : Nat → Prop} (h : HSF C Y m w H Fr) (hf : ∀ id,Fr' id → Fr id) : HSF C Y m w H Fr' :=
  { h with low := fun id hid => h.low id (hf id hid),fresh := fun id hid => h.fresh id (hf id hid) }
theorem ok_bnil {t e ein:TypeId} {n sz:Nat} {z zin:List PV} {parts:Array (Nat × Operand)} (ho:o.op=.buildSlice t n parts) (h1:P.underlying t=some (.slice e)) (h2:szT P e=some sz) (h3:zeroT P e=some z) (h4:0<sz) (h5:n * sz≤16777216)
  (hc:(compParts (fun i=>some (i * sz,sz)) parts.toList).map (AOp.bnil e ein sz n z zin)=some ao):StepOK P o ao:=by
 obtain ⟨ys,hys,rfl⟩:=map_some hc
 intro C Y m w H Fr next ρ ρv vc p u hρ hH h4' hs hvc
 simp only [step] at hs
 split at hs
 rotate_left
 ·cases hs
 rename_i lcs hps
 split at hs
 rotate_left
 ·cases hs
 rename_i cols hcols
 cases hno:(n==1 && noOs cols)
 ·simp [hno] at hs
 simp only [hno,cond_true,Option.some.injEq,Prod.mk.injEq] at hs
 obtain ⟨_,rfl,rfl⟩:=hs
 simp only [Bool.and_eq_true,beq_iff_eq] at hno
 obtain ⟨rfl,hno⟩:=hno
 obtain ⟨i,zv,cs,e1,e2,e3,e4,e5⟩:=zeroT_cells (Y:=Y) (m:=m) (w:=w) h3
 have hsz:i.size=sz:=by unfold szT at h2; rw [e1] at h2; simpa using h2
 have hcl:cs.length=sz:=by rw [e5.len,e4,hsz]
 obtain ⟨vs,g1,g2⟩:=fill_rep hρ _ _ _ _ _ _ hys hps (e5.repl 1)
 have hpl:([.lit true 0 lcs]:List PV).length=1 * sz:=by
  rw [fillP_len _ _ _ hps]
  simp [repl,e4,hsz]
 have hsz1:sz=1:=by simpa using hpl.symm
 have hvl:vs.length=1:=g2.len
 obtain ⟨v,rfl⟩:∃ v,vs=[v]:=List.length_eq_one_iff.1 hvl
 have hv:v=.slice none 0 0:=by
  have hr:=g2.rep 0 _ v rfl rfl
  cases hr with
  | lit hr =>
   cases hr with
   | l u a1 a2 a3 a4 a5 =>
    rename_i A cap
    cases A with
    | some a=>cases a1
    | none=>rw [(a2 rfl).2]
 subst hv
 obtain ⟨q0,q1,q2⟩:=hH.nilBlk (h4' (next+1) (by omega) (by omega)) ein cols
 have hg:=World.grownBy_alloc w (.cells ([Value.slice none 0 0]).toArray e) none
 have hown:=World.ownsRow_lit (e:=e) (base:=0) (size:=1) w ([Value.slice none 0 0]).toArray 1 (Nat.zero_le _) (by unfold maxLen; omega) (by simp)
 obtain ⟨Y',m',r1,r2,r3⟩:=q1.newArr1 (next:=next) ⟨h4' next (Nat.le_refl _) (by omega),by omega⟩ e 1 1 [.o (fun _=>next+1) (fun _=>0)] (some ⟨w.heap.size,0,none⟩) 0 [.slice none 0 0] hg (by simp) (.of (by simpa using hown)) (.inr (fun g hg=>by simp [ablk] at hg; omega)) g2.one
  (fun m' ev a b c ha hb=>by
   have ha0:a=0:=by omega
   have hb0:b=0:=by
    cases b with
    | zero=>rfl
    | succ b=>simp at hb
   subst ha0; subst hb0
   simp only [List.getElem?_cons_zero,Option.some.injEq] at hb
   subst hb
   exact ⟨_,rfl,_,none,none,0,0,ev.names _ _ q0,rfl,rfl,by simp,fun _=>⟨rfl,rfl⟩,fun h=>absurd h (by omega),fun _=>rfl,Nat.le_refl _,rfl⟩) (fun _=>false) (by simp) ((next,some (.arr e 1 [.o (fun _=>next+1) (fun _=>0)]))::(next+1,some (.arr ein 0 cols))::H) (fun id=>by
   simp only [getH]
   by_cases hid:id=next
   ·subst hid; simp
   ·have:(next==id)=false:=by simpa using fun h=>hid h.symm
    simp [this,hid])
 refine ⟨_,_,Y',m',.inl ?_,r1,r2.fr (fun id hid=>⟨⟨hid.1,fun e=>hid.2 (by omega)⟩,hid.2⟩),q2.trans r3⟩
 have hz0:=row_zero cs 1
 rw [hcl] at hz0
 have hnz:¬ (1 * sz > 2 ^ 24):=by omega
 have hn0:¬ (1 * sz=0):=by omega
 have hparts:(parts.map fun (x:Nat × Operand)=>(x.1,ρv x.2)).toList=parts.toList.map fun (i,x)=>(i,ρv x):=by simp
 have hz1:(Array.range (1 * sz)).map (fun i=>zv.cells[i % zv.cells.size]!)=((List.replicate 1 cs).flatten).toArray:=by rw [e3]; exact hz0
 simp only [execOp,ho,Instr.buildSlice,Sem.run_bind,run_underlying h1,Result.andThen_ok,run_size h2,hnz,hn0,if_false,Sem.run_pure,hparts,zeroValue,typeInfo,run_program,e1,e2,hz1,g1,newRow,run_newObj]
 rfl
def AOp.still:AOp→Bool
 | .call _ _=>false
 | .callv _ _=>false
 | .callx _ _=>false
 | _=>true
theorem step_ok (hc:compOp P o=some ao) (hstill:ao.still=true):StepOK P o ao:=by
 have ho:o.op=o.op:=rfl
 unfold compOp at hc
 split at hc
 ·exact ok_mv (.inl (by assumption)) hc
 ·split at hc
  ·rename_i y hy
   exact ok_mv (.inr (by assumption)) (by rw [hy]; exact hc)
  ·split at hc
   ·injection hc with hc
    subst hc
    exact ok_unk (by assumption)
   ·cases hc
 ·split at hc
  ·injection hc with hc; subst hc; exact ok_pick (by assumption) (by assumption) (by assumption) (by assumption)
  ·cases hc
 ·split at hc
  ·injection hc with hc; subst hc; exact ok_allocb (by assumption) (by assumption)
  ·exact ok_alloc (by assumption) hc
 ·exact ok_box (by assumption) hc
 ·split at hc
  ·exact ok_build (by assumption) (by assumption) (by assumption) hc
  ·split at hc
   ·exact ok_buildA (by assumption) (by assumption) (by assumption) hc
   ·cases hc
  ·cases hc
 ·split at hc
  ·split at hc
   ·split at hc
    ·rename_i hh
     split at hc
     ·split at hc
      ·split at hc
       ·exact ok_bnil (by assumption) (by assumption) (by assumption) (by assumption) hh.1 hh.2 hc
       ·cases hc
      ·cases hc
     split at hc
     ·exact ok_bslit (by assumption) (by assumption) (by assumption) (by assumption) hh.1 hh.2 hc
     ·exact ok_bslice (by assumption) (by assumption) (by assumption) (by assumption) hh.1 hh.2 hc
    ·cases hc
   ·cases hc
  ·cases hc
 ·split at hc
  ·injection hc with hc; subst hc; exact ok_load (by assumption) (by assumption) (by assumption)
  ·cases hc
 ·split at hc
  ·split at hc
   ·injection hc with hc; subst hc; exact ok_store (by assumption) (by assumption) (by assumption) (by assumption) (by assumption)
   ·cases hc
  ·cases hc
 ·split at hc
  ·split at hc
   ·split at hc
    ·injection hc with hc; subst hc; exact ok_fadr (by assumption) (by assumption) (by assumption) (by assumption) (by assumption)
    ·cases hc
   ·cases hc
  ·cases hc
 ·split at hc
  ·split at hc
   ·split at hc
    ·injection hc with hc; subst hc; exact ok_fld (by assumption) (by assumption) (by assumption) (by assumption) (by assumption)
    ·cases hc
   ·cases hc
  ·cases hc
 ·split at hc
  ·split at hc
   ·split at hc
    ·injection hc with hc; subst hc; exact ok_iadr (by assumption) (by assumption) (by assumption) (by assumption) (by assumption) (by assumption)
    ·cases hc
   ·cases hc
  ·split at hc
   ·injection hc with hc; subst hc; exact ok_aadrb (by assumption) (by assumption) (by assumption) (by assumption)
   ·injection hc with hc; subst hc; exact ok_aadr (by assumption) (by assumption) (by assumption) (by assumption) (by assumption)
   ·cases hc
  ·cases hc
 ·split at hc
  ·split at hc
   ·injection hc with hc; subst hc; exact ok_idxs (by assumption) (by assumption) (by assumption) (by assumption)
   ·cases hc
  ·split at hc
   ·injection hc with hc; subst hc; exact ok_aidx (by assumption) (by assumption) (by assumption) (by assumption) (by assumption) (by assumption)
   ·cases hc
  ·cases hc
 ·split at hc
  ·split at hc
   ·injection hc with hc; subst hc; exact ok_bin (by assumption) (by assumption) (by assumption) (by simp) (by simp) (by simp) (by simp)
   ·injection hc with hc; subst hc; exact ok_bin (by assumption) (by assumption) (by assumption) (by simp) (by simp) (by simp) (by simp)
   ·injection hc with hc; subst hc; exact ok_bin (by assumption) (by assumption) (by assumption) (fun _=>by assumption) (by simp) (by simp) (by simp)
   ·injection hc with hc; subst hc; exact ok_bin (by assumption) (by assumption) (by assumption) (by simp) (fun _=>⟨_,by assumption⟩) (by simp) (by simp)
   ·injection hc with hc; subst hc; exact ok_bin (by assumption) (by assumption) (by assumption) (by simp) (by simp) (fun _=>⟨_,by assumption⟩) (by simp)
   ·split at hc
    ·injection hc with hc; subst hc; exact ok_bin (by assumption) (by assumption) (by assumption) (by simp) (by simp) (by simp) (fun _=>⟨⟨_,by assumption⟩,by assumption⟩)
    ·cases hc
   ·split at hc
    ·split at hc
     ·split at hc
      ·injection hc with hc; subst hc; exact ok_eqs (by assumption) rfl (by assumption) (by assumption) (by assumption) (by assumption) (by assumption)
      ·injection hc with hc; subst hc; exact ok_eqs (by assumption) rfl (by assumption) (by assumption) (by assumption) (by assumption) (by assumption)
      ·cases hc
     ·cases hc
    ·cases hc
   ·split at hc
    ·rename_i hpp
     split at hc
     ·injection hc with hc; subst hc; exact ok_eqsA (by assumption) rfl (by assumption) hpp (by assumption) (by assumption)
     ·injection hc with hc; subst hc; exact ok_eqsA (by assumption) rfl (by assumption) hpp (by assumption) (by assumption)
     ·cases hc
    ·cases hc
   ·cases hc
  ·cases hc
 ·exact ok_un (by assumption) hc
 ·split at hc
  ·exact ok_conv (by assumption) (by assumption) (by assumption) hc
  ·exact ok_i2s (by assumption) (by assumption) (by assumption) hc
  ·split at hc
   ·split at hc
    ·exact ok_s2bo (by assumption) (by assumption) (by assumption) (by assumption) hc
    ·exact ok_s2b (by assumption) (by assumption) (by assumption) (by assumption) hc
   ·cases hc
  ·split at hc
   ·exact ok_b2s (by assumption) (by assumption) (by assumption) (by assumption) hc
   ·cases hc
  ·cases hc
 ·split at hc
  ·split at hc
   ·injection hc with hc; subst hc; exact ok_mmk (by assumption)
   ·cases hc
  ·cases hc
 ·split at hc
  ·split at hc
   ·injection hc with hc; subst hc; exact ok_mlk (by assumption) (by assumption) (by assumption) (by assumption) (by assumption) (by assumption)
   ·cases hc
  ·cases hc
 ·split at hc
  ·split at hc
   ·injection hc with hc; subst hc; exact ok_mup (.inl (by assumption)) (by assumption) (by assumption) (by assumption) (by assumption) (by assumption)
   ·cases hc
  ·cases hc
 ·split at hc
  ·split at hc
   ·injection hc with hc; subst hc; exact ok_ment (by assumption) (by assumption) (by assumption) (by assumption) (by assumption) (by assumption)
   ·cases hc
  ·cases hc
 ·split at hc
  ·injection hc with hc; subst hc; exact ok_mest (by assumption) (by assumption) (by assumption) (by assumption)
  ·cases hc
 ·split at hc
  ·obtain ⟨y,hy,rfl⟩:=Option.map_eq_some_iff.1 hc; exact ok_srg (by assumption) (by assumption) hy
  ·cases hc
 ·split at hc
  ·obtain ⟨y,hy,rfl⟩:=Option.map_eq_some_iff.1 hc; exact ok_snx (by assumption) hy
  ·cases hc
 ·split at hc
  ·split at hc
   ·injection hc with hc; subst hc; exact ok_mup (.inr (by assumption)) (by assumption) (by assumption) (by assumption) (by assumption) (by assumption)
   ·cases hc
  ·cases hc
 ·split at hc
  ·split at hc
   ·rename_i e
    subst e
    split at hc
    ·split at hc
     ·split at hc
      ·injection hc with hc; subst hc; exact ok_mks (by assumption) (by assumption) (by assumption) (by assumption) (by assumption)
      ·cases hc
     ·cases hc
    ·cases hc
   ·cases hc
  ·cases hc
 ·split at hc
  ·split at hc
   ·injection hc with hc; subst hc; exact ok_sls (by assumption) (by assumption) (by assumption) (by assumption) (by assumption)
   ·obtain ⟨sz,hsz,rfl⟩:=map_some hc; exact ok_slc (by assumption) (by assumption) hsz (by assumption) (by assumption) (by assumption)
   ·obtain ⟨sz,hsz,rfl⟩:=map_some hc; exact ok_slcb (by assumption) hsz (by assumption) (by assumption) (by assumption)
   ·cases hc
  ·split at hc
   ·obtain ⟨sz,hsz,rfl⟩:=map_some hc; exact ok_slc3 (by assumption) (by assumption) hsz (by assumption) (by assumption) (by assumption) (by assumption)
   ·cases hc
 ·exact ok_nilchk (by assumption) hc
 ·injection hc with hc; subst hc; exact fun C Y m w H Fr next ρ ρv vc p u hρ hH h4' hs hvc=>by cases hs
 ·injection hc with hc; subst hc; exact fun C Y m w H Fr next ρ ρv vc p u hρ hH h4' hs hvc=>by cases hs
 ·exact ok_ext (by assumption) hc
 ·split at hc
  ·split at hc
   ·exact ok_mkfn (by assumption) (by assumption) hc
   ·cases hc
  ·cases hc
 ·split at hc
  ·split at hc
   ·split at hc
    ·exact ok_len (by assumption) (by assumption) (by assumption) (by assumption) (.inl ⟨rfl,by assumption⟩) hc
    ·exact ok_len (by assumption) (by assumption) (by assumption) (by assumption) (.inr ⟨rfl,_,by assumption⟩) hc
    ·exact ok_mlen (by assumption) (by assumption) (by assumption) (by assumption) (by assumption) hc
    ·cases hc
   ·cases hc
  ·split at hc
   ·split at hc
    ·injection hc with hc; subst hc; exact ok_mm (mx:=true) (by assumption) (by assumption) (by assumption) (by assumption) (by assumption)
    ·cases hc
   ·cases hc
  ·split at hc
   ·split at hc
    ·injection hc with hc; subst hc; exact ok_mm (mx:=false) (by assumption) (by assumption) (by assumption) (by assumption) (by assumption)
    ·cases hc
   ·cases hc
  ·split at hc
   ·rename_i e2 e3
    split at hc
    ·rename_i e
     subst e
     split at hc
     ·split at hc
      ·split at hc
       ·split at hc
        ·injection hc with hc; subst hc; exact ok_appin (ty:=o.type) (by assumption) (by assumption) (arr2 e2) (arr2 e3) (by assumption) (by assumption) (by assumption) (by assumption) (by assumption)
        ·injection hc with hc; subst hc; exact ok_app (ty:=o.type) (by assumption) (by assumption) (arr2 e2) (arr2 e3) (by assumption) (by assumption) (by assumption) (by assumption) (by assumption) (by assumption)
       ·cases hc
      ·cases hc
     ·cases hc
    ·cases hc
   ·cases hc
  ·split at hc
   ·rename_i e2 e3
    split at hc
    ·rename_i e
     subst e
     split at hc
     ·split at hc
      ·split at hc
       ·injection hc with hc; subst hc; exact ok_cpy (by assumption) (by assumption) (arr2 e2) (arr2 e3) (by assumption) (by assumption) (by assumption) (by assumption) (by assumption)
       ·cases hc
      ·cases hc
     ·cases hc
    ·cases hc
   ·cases hc
  ·split at hc
   ·split at hc
    ·split at hc
     ·split at hc
      ·injection hc with hc; subst hc; exact ok_clr (by assumption) (by assumption) (by assumption) (by assumption) (by assumption) (by assumption) (by assumption) (by assumption) (by assumption)
      ·cases hc
     ·cases hc
    ·cases hc
   ·cases hc
  ·obtain ⟨_,_,rfl⟩:=map_some hc; simp [AOp.still] at hstill
  ·obtain ⟨_,_,rfl⟩:=map_some hc; simp [AOp.still] at hstill
  ·cases hc
 ·cases hc
open Go.RowKit
variable {P:Program}
def hasH:Heap→Nat→Bool
 | [],_=>false
 | (i,_)::H,j=>(i==j) || hasH H j
theorem getH_app (A B:Heap) (id:Nat):getH (A++B) id=if hasH A id then getH A id else getH B id:=by
 induction A with
 | nil=>simp [hasH]
 | cons x A ih =>
  obtain ⟨i,b⟩:=x
  simp only [List.cons_append,getH,hasH]
  by_cases h:(i==id)=true
  ·simp [h]
  ·simp only [Bool.not_eq_true] at h
   simp [h,ih]
theorem getH_kill (F:List Nat) (id:Nat):getH (kill F) id=none:=by
 induction F with
 | nil=>rfl
 | cons x F ih =>
  show (bif x==id then none else getH (kill F) id)=none
  rw [ih]; cases x==id <;> rfl
theorem hasH_kill {F:List Nat} {id:Nat}:hasH (kill F) id=true↔id∈F:=by
 induction F with
 | nil=>simp [kill,hasH]
 | cons x F ih =>
  show (x==id || hasH (kill F) id)=true↔_
  rw [Bool.or_eq_true,ih]
  simp only [beq_iff_eq,List.mem_cons]
  constructor
  ·rintro (h | h)
   ·exact .inl h.symm
   ·exact .inr h
  ·rintro (h | h)
   ·exact .inl h.symm
   ·exact .inr h
mutual
theorem Rep.plain {Y Y':Nat→Prop} {m:Names} {w:World}:∀ {p:PV} {v:Value},Rep Y m w p v→p.plain=true→Rep Y' m w p v
 | .int _ _,v,h,_=>by rw [h.int_inv]; exact .int
 | .bool _,v,h,_=>by rw [h.bool_inv]; exact .bool
 | .str _,v,h,_=>by rw [h.str_inv]; exact .str
 | .lit _ _ _,v,h,hp=>by simp [PV.plain] at hp
 | .ptr _ _,v,h,_=>by obtain ⟨pl,h1,rfl⟩:=h.ptr_inv; exact .ptr h1
 | .nilp,v,h,_=>by cases h; exact .nilp
 | .nili,v,h,_=>by cases h; exact .nili
 | .elp _ _,v,h,hp=>by simp [PV.plain] at hp
 | .arp _ _ _,v,h,_=>by obtain ⟨pl,h1,h2,rfl⟩:=h.arp_inv; exact .arp h1 h2
 | .arv _,v,h,_=>by obtain ⟨pl,h1,h2,h3,rfl⟩:=h.arv_inv; exact .arv h1 h2 h3
 | .sl _ _ _,v,h,_=>by obtain ⟨pl,A,B,c,cap,h1,rfl,h3,h4,h5,h6,h7,h8,h9⟩:=h.sl_inv; exact .sl h1 h3 h4 h5 h6 h7 h8 h9
 | .agg ps,v,h,hp=>by
  obtain ⟨vs,rfl,h1,h2,h3⟩:=h.agg_inv
  simp only [PV.plain] at hp
  exact .agg h1 (Rep.plains ps vs h2 hp) h3
 | .tup ps,v,h,hp=>by
  obtain ⟨vs,rfl,h1,h2⟩:=h.tup_inv
  simp only [PV.plain] at hp
  exact .tup h1 (Rep.plains ps vs h2 hp)
 | .fn _ _,v,h,hp=>by simp [PV.plain] at hp
 | .mp _,v,h,_=>by obtain ⟨pl,h1,rfl⟩:=h.mp_inv; exact .mp h1
 | .stp _,v,h,hp=>by simp [PV.plain] at hp
 | .any,v,h,_=>.any
theorem Rep.plains {Y Y':Nat→Prop} {m:Names} {w:World}:∀ (ps:List PV) (vs:List Value),(∀ (i:Nat) p v,ps[i]?=some p→vs[i]?=some v→Rep Y m w p v)→PV.plains ps=true →
  ∀ (i:Nat) p v,ps[i]?=some p→vs[i]?=some v→Rep Y' m w p v
 | [],vs,h,hp,i,p,v,hi,hv=>by simp at hi
 | q::ps,[],h,hp,i,p,v,hi,hv=>by simp at hv
 | q::ps,u::vs,h,hp,i,p,v,hi,hv=>by
  simp only [PV.plains,Bool.and_eq_true] at hp
  rcases i with _ | i
  ·simp only [List.getElem?_cons_zero,Option.some.injEq] at hi hv
   subst hi; subst hv
   exact Rep.plain (h 0 q u rfl rfl) hp.1
  ·simp only [List.getElem?_cons_succ] at hi hv
   exact Rep.plains ps vs (fun j p v h1 h2=>h (j+1) p v (by simpa using h1) (by simpa using h2)) hp.2 i p v hi hv
end
theorem ColRep.plain {Y Y':Nat→Prop} {w:World} {c:Col} {k:Nat} {v:Value} (h:ColRep Y w c k v) (hp:c.plain=true):ColRep Y' w c k v:=by
 cases h with
 | i=>exact .i
 | b=>exact .b
 | s=>exact .s
 | l=>simp [Col.plain] at hp
theorem ACR.plain {Y Y':Nat→Prop} {m:Names} {w:World} {c:Col} {k:Nat} {v:Value} (h:ACR Y m w c k v) (hp:c.plain=true):ACR Y' m w c k v:=by
 cases c with
 | o id len=>exact h
 | q id=>exact h
 | _=>exact (ColRep.plain (Y':=Y') (ACR.col h rfl) hp).acr
theorem BlkSat.plain {Y Y':Nat→Prop} {m:Names} {w:World} {pl:Pl} {b:ABlk} (h:BlkSat Y m w pl b) (hp:b.plain=true):BlkSat Y' m w pl b:=by
 cases b with
 | box T cs =>
  obtain ⟨vs,h1,h2,h3,h4⟩:=h
  exact ⟨vs,h1,h2,h3,Rep.plains cs vs h4 (by simpa [ABlk.plain] using hp)⟩
 | arr T n cols =>
  obtain ⟨xs,cap,s1,s2,s3,s4,s5,s6,s7⟩:=h
  refine ⟨xs,cap,s1,s2,s3,s4,s5,s6,fun i j c hi hj=>?_⟩
  obtain ⟨v,h1,h2⟩:=s7 i j c hi hj
  refine ⟨v,h1,ACR.plain h2 ?_⟩
  simp only [ABlk.plain,List.all_eq_true] at hp
  exact hp c (List.mem_of_getElem? hj)
 | map kk dom c =>
  obtain ⟨es,clk,h1,h2,h3⟩:=h
  exact ⟨es,clk,h1,h2,fun q hq=>⟨fun hd=>let ⟨x,a,b,d⟩:=(h3 q hq).1 hd; ⟨x,a,b,d.plain hp⟩,(h3 q hq).2⟩⟩
 | mape kk dom c q sid=>simp [ABlk.plain] at hp
 | sit s p=>exact h
theorem plainH_get:∀ {H:Heap} {id:Nat} {b:ABlk},plainH H=true→getH H id=some b→b.plain=true
 | [],id,b,_,h=>by simp [getH] at h
 | (i,c)::H,id,b,hp,h=>by
  simp only [getH] at h
  cases c with
  | none =>
   simp only [plainH] at hp
   cases hi:i==id
   ·simp only [hi,cond_false] at h; exact plainH_get hp h
   ·simp [hi] at h
  | some c =>
   simp only [plainH,Bool.and_eq_true] at hp
   cases hi:i==id
   ·simp only [hi,cond_false] at h; exact plainH_get hp.2 h
   ·simp only [hi,cond_true,Option.some.injEq] at h; subst h; exact hp.1
theorem plainH_app {A B:Heap}:plainH A=true→plainH B=true→plainH (A++B)=true:=by
 intro h1 h2
 induction A with
 | nil=>exact h2
 | cons x A ih =>
  obtain ⟨i,c⟩:=x
  cases c with
  | none=>simp only [List.cons_append,plainH] at h1 ⊢; exact ih h1
  | some c=>simp only [List.cons_append,plainH,Bool.and_eq_true] at h1 ⊢; exact ⟨h1.1,ih h1.2⟩
def lieSet (m:Names) (H:Heap) (S:Nat→Prop) (g:Nat):Prop:=∃ id b pl,S id∧getH H id=some b∧m id=some pl∧b.lies pl=some g
def nlOf (m:Names) (id:Nat):Bool:=match m id with
 | some pl=>match pl.hdr with
  | .slice none _ _=>true
  | _=>false
 | none=>false
mutual
theorem lend_rep {Y Y':Nat→Prop} {m:Names} {w:World} {H:Heap} {L:List Nat} (hH:∀ id b,id∈L→getH H id=some b→∃ pl,m id=some pl∧BlkSat Y m w pl b) (hY:∀ g,Y' g→Y g) (hL:∀ g,lieSet m H (·∈L) g→¬ Y' g) :
  ∀ (p:PV) (v:Value),Rep Y m w p v→Rep Y' m w (lend H L (nlOf m) p) v
 | .sl id off n,v,h=>by
  have ev:Ev Y m w Y' m w:=⟨Nat.le_refl _,fun _ _ _=>rfl,fun b hb=>.inl (hY b hb),fun _ _ h=>h⟩
  simp only [lend]
  cases hc:L.contains id && (off==0)
  ·exact h.ev ev
  ·simp only [cond_true]
   simp only [Bool.and_eq_true,List.contains_iff_mem,beq_iff_eq] at hc
   obtain ⟨hmem,rfl⟩:=hc
   split
   ·rename_i T nn cols hb
    cases hno:noOs cols
    ·exact h.ev ev
    simp only [cond_true]
    obtain ⟨pl,A,B,c,cap,h1,rfl,h3,h4,h5,h6,h7,h8,h9⟩:=h.sl_inv
    obtain ⟨pl',hm',hbs⟩:=hH id _ hmem hb
    rw [h1] at hm'
    injection hm' with hm'
    subst hm'
    obtain ⟨rfl,rfl⟩:=h5 rfl
    have hbs':=hbs
    obtain ⟨xs,cap2,s1,s2,s3,s4,s5,s6,s7⟩:=hbs
    have hnl:nlOf m id=B.isNone:=by
     simp only [nlOf,h1,h3]
     cases B <;> rfl
    rw [hnl]
    have hx:∀ j k,j<n→k<cols.length→j * cols.length+k<xs.length:=fun j k hj hk=>by
     rw [s3.1]
     have:j * cols.length+cols.length≤nn * cols.length:=by rw [← Nat.succ_mul]; exact Nat.mul_le_mul_right _ (by omega)
     omega
    refine Rep.lit_mk (fun j k=>xs.getD (j * cols.length+k) undef) rfl (fun hB=>?_) h8 (fun j k hj hk=>?_) (fun j k c hj hk=>?_)
    ·have:=h7 hB; omega
    ·have hB:=h6 (by omega)
     rw [Nat.zero_mul,Nat.add_zero] at hB
     have hbl:=s4 (by omega)
     refine ⟨pl.blk,pl.o,hB,hL _ ⟨id,_,pl,hmem,hb,h1,hbl⟩,?_⟩
     have:=s3.cells (g:=pl.blk) hbl (j * cols.length+k) _ (List.getElem?_eq_getElem (hx j k hj hk))
     rw [this,List.getD_eq_getElem?_getD,List.getElem?_eq_getElem (hx j k hj hk)]
     rfl
    ·obtain ⟨u,q1,q2⟩:=s7 j k c (by omega) hk
     simp only [List.getD_eq_getElem?_getD,q1,Option.getD_some]
     exact (ACR.col q2 (noOs_get hno hk)).ev ev
   ·exact h.ev ev
 | .agg ps,v,h=>by
  obtain ⟨vs,rfl,h1,h2,h3⟩:=h.agg_inv
  simp only [lend]
  have hl:=lends_rep hH hY hL ps vs h1 h2
  exact .agg hl.1 hl.2 h3
 | .int _ _,v,h=>by simp only [lend]; exact h.ev ⟨Nat.le_refl _,fun _ _ _=>rfl,fun b hb=>.inl (hY b hb),fun _ _ h=>h⟩
 | .bool _,v,h=>by simp only [lend]; exact h.ev ⟨Nat.le_refl _,fun _ _ _=>rfl,fun b hb=>.inl (hY b hb),fun _ _ h=>h⟩
 | .str _,v,h=>by simp only [lend]; exact h.ev ⟨Nat.le_refl _,fun _ _ _=>rfl,fun b hb=>.inl (hY b hb),fun _ _ h=>h⟩
 | .lit _ _ _,v,h=>by simp only [lend]; exact h.ev ⟨Nat.le_refl _,fun _ _ _=>rfl,fun b hb=>.inl (hY b hb),fun _ _ h=>h⟩
 | .ptr _ _,v,h=>by simp only [lend]; exact h.ev ⟨Nat.le_refl _,fun _ _ _=>rfl,fun b hb=>.inl (hY b hb),fun _ _ h=>h⟩
 | .nilp,v,h=>by simp only [lend]; exact h.ev ⟨Nat.le_refl _,fun _ _ _=>rfl,fun b hb=>.inl (hY b hb),fun _ _ h=>h⟩
 | .nili,v,h=>by simp only [lend]; exact h.ev ⟨Nat.le_refl _,fun _ _ _=>rfl,fun b hb=>.inl (hY b hb),fun _ _ h=>h⟩
 | .elp _ _,v,h=>by simp only [lend]; exact h.ev ⟨Nat.le_refl _,fun _ _ _=>rfl,fun b hb=>.inl (hY b hb),fun _ _ h=>h⟩
 | .arp _ _ _,v,h=>by simp only [lend]; exact h.ev ⟨Nat.le_refl _,fun _ _ _=>rfl,fun b hb=>.inl (hY b hb),fun _ _ h=>h⟩
 | .arv _,v,h=>by simp only [lend]; exact h.ev ⟨Nat.le_refl _,fun _ _ _=>rfl,fun b hb=>.inl (hY b hb),fun _ _ h=>h⟩
 | .tup _,v,h=>by simp only [lend]; exact h.ev ⟨Nat.le_refl _,fun _ _ _=>rfl,fun b hb=>.inl (hY b hb),fun _ _ h=>h⟩
 | .fn _ _,v,h=>by simp only [lend]; exact h.ev ⟨Nat.le_refl _,fun _ _ _=>rfl,fun b hb=>.inl (hY b hb),fun _ _ h=>h⟩
 | .stp _,v,h=>by simp only [lend]; exact h.ev ⟨Nat.le_refl _,fun _ _ _=>rfl,fun b hb=>.inl (hY b hb),fun _ _ h=>h⟩
 | .mp _,v,h=>by simp only [lend]; exact h.ev ⟨Nat.le_refl _,fun _ _ _=>rfl,fun b hb=>.inl (hY b hb),fun _ _ h=>h⟩
 | .any,v,h=>by simp only [lend]; exact .any
theorem lends_rep {Y Y':Nat→Prop} {m:Names} {w:World} {H:Heap} {L:List Nat} (hH:∀ id b,id∈L→getH H id=some b→∃ pl,m id=some pl∧BlkSat Y m w pl b) (hY:∀ g,Y' g→Y g) (hL:∀ g,lieSet m H (·∈L) g→¬ Y' g) :
  ∀ (ps:List PV) (vs:List Value),vs.length=ps.length→(∀ (i:Nat) p v,ps[i]?=some p→vs[i]?=some v→Rep Y m w p v) →
   vs.length=(lends H L (nlOf m) ps).length∧∀ (i:Nat) p v,(lends H L (nlOf m) ps)[i]?=some p→vs[i]?=some v→Rep Y' m w p v
 | [],vs,hl,h=>⟨by simpa [lends] using hl,fun i p v hp hv=>by simp [lends] at hp⟩
 | q::ps,[],hl,h=>by simp at hl
 | q::ps,u::vs,hl,h=>by
  have ih:=lends_rep hH hY hL ps vs (by simpa using hl) (fun i p v h1 h2=>h (i+1) p v (by simpa using h1) (by simpa using h2))
  refine ⟨by simp only [lends,List.length_cons,ih.1],fun i p v hp hv=>?_⟩
  rcases i with _ | i
  ·simp only [lends,List.getElem?_cons_zero,Option.some.injEq] at hp hv
   subst hp; subst hv
   exact lend_rep hH hY hL q u (h 0 q u rfl rfl)
  ·simp only [lends,List.getElem?_cons_succ] at hp hv
   exact ih.2 i p v hp hv
end
def upto (m:Names) (n:Nat):Names:=fun id=>if id<n then m id else none
theorem upto_some {m:Names} {n id:Nat} {pl:Pl} (h:upto m n id=some pl):id<n∧m id=some pl:=by
 unfold upto at h
 split at h
 ·exact ⟨by assumption,h⟩
 ·cases h
def HasK (k:Nat) (Fr:Nat→Prop) (n:Nat):Prop:=∀ id,n≤id→id<n+k→Fr id
def FrK (k:Nat) (Fr:Nat→Prop) (n:Nat) (id:Nat):Prop:=Fr id∧¬ (n≤id∧id<n+k)
theorem call_coreW {kk:Nat} {f:Nat} {args:List PV} {H:Heap} {next:Nat} {L F:List Nat} {Hs:Heap} {ι:Type} {Post:ι→Prop} {rr:ι→PV} {uu:ι→Heap} (hsub:subH Hs H) (hLF0:∀ id∈L++F,getH Hs id=none∧∀ i,getH (uu i) id=none)
  (hplain0:L=[]∨∀ i,((rr i).plain=true∧plainH (uu i)=true∧plainH Hs=true)) (hcall:∀ nl:Nat→Bool,ACallIW P kk f (lends H (L++F) nl args) Hs next Post rr uu)
  {C:Ctx} {Y:Nat→Prop} {m:Names} {w:World} {Fr:Nat→Prop} (hH:HSF C Y m w H Fr) (h4:HasK kk Fr next) (hk1:0<kk) {vs:List Value} (hl:vs.length=args.length)
  (hr:∀ (i:Nat) p v,args[i]?=some p→vs[i]?=some v→Rep Y (upto m next) w p v) (hlow:∀ id b,(id∈L++F∧getH H id=some b)∨getH Hs id=some b→∃ pl,upto m next id=some pl∧BlkSat Y (upto m next) w pl b) :
  CallSat P f vs.toArray w fun v w'=>∃ i,Post i∧∃ Y' m',Rep Y' m' w' (rr i) v∧HSF C Y' m' w' ((uu i++kill F)++H) (FrK kk Fr next)∧Ev Y m w Y' m' w':=by
 -- the blocks of the callee,and those that it is lent
 let X0:Nat→Prop:=lieSet m Hs (fun _=>True)
 let lent:Nat→Prop:=lieSet m H (·∈L++F)
 let Y0:Nat→Prop:=fun g=>Y g∧¬ lent g
 let C':Ctx:=⟨w,X0,Y0,upto m next,next,C.z,C.lowb⟩
 have hHb:∀ id b,getH H id=some b→∃ pl,m id=some pl∧BlkSat Y m w pl b:=fun id b hb=>by obtain ⟨pl,h1,h2,_⟩:=hH.blk id b hb; exact ⟨pl,h1,h2⟩
 have uniq:∀ id id' b b' pl pl' g,getH H id=some b→getH H id'=some b'→m id=some pl→m id'=some pl'→b.lies pl=some g→b'.lies pl'=some g→id=id':=fun id id' b b' pl pl' g h1 h2 h3 h4 h5 h6 =>
  Classical.byContradiction fun hne=>hH.inj id id' b b' pl pl' g hne h1 h2 h3 h4 h5 h6
 have hX0:∀ g,X0 g→Y g∧(C.X0 g∨C.w0.heap.size≤g)∧¬ lent g:=by
  rintro g ⟨id,b,pl,_,hb,hm,hlg⟩
  obtain ⟨pl',hm',_,h3⟩:=hH.blk id b (hsub id b hb)
  rw [hm] at hm'; injection hm' with hm'; subst hm'
  refine ⟨(h3 g hlg).1,(h3 g hlg).2,?_⟩
  rintro ⟨id',b',pl',hmem,hb',hm',hlg'⟩
  have:=uniq id id' b b' pl pl' g (hsub id b hb) hb' hm hm' hlg hlg'
  subst this
  rw [(hLF0 id hmem).1] at hb
  cases hb
 have ev0:Ev Y (upto m next) w Y0 (upto m next) w:=⟨Nat.le_refl _,fun _ _ _=>rfl,fun b hb=>.inl hb.1,fun _ _ h=>h⟩
 have hHS:HS C' Y0 (upto m next) w Hs next:=by
  have hnone:∀ id,next≤id→upto m next id=none:=fun id hid=>by unfold upto; rw [if_neg (by omega)]
  refine ⟨fun id b hb=>?_,fun id id' b b' pl pl' g hne h1 h2 h3 h4 h5=>hH.inj id id' b b' pl pl' g hne (hsub _ _ h1) (hsub _ _ h2) (upto_some h3).2 (upto_some h4).2 h5,fun b hb=>hH.ylt b hb.1,fun b hb _=>hb,Nat.le_refl _,fun b _ _=>rfl,rfl,rfl,rfl,fun b hb=>hH.ylt b hb.1,fun b hb=>⟨(hX0 b hb).1,(hX0 b hb).2.2⟩,fun b hb=>.inl hb,
   hnone,fun id hid=>hid,fun id pl h=>h,hnone,fun id pl h=>.inl h,⟨Nat.le_trans hH.gl.le hH.size,fun b hb=>(hH.frame b (Nat.lt_of_lt_of_le hb hH.gl.le) (fun hx=>absurd hb (Nat.not_lt.2 (hH.gl.off b hx)))).trans (hH.gl.same b hb),fun g hg=>by
    obtain ⟨id,b,pl,_,hb,hm,hlg⟩:=hg
    obtain ⟨pl',g1,_,g3⟩:=hH.blk id b (hsub _ _ hb)
    rw [hm] at g1; injection g1 with g1; subst g1
    rcases (g3 g hlg).2 with h | h
    ·exact hH.gl.off g h
    ·exact Nat.le_trans hH.gl.le h,hH.gl.ok⟩⟩
  obtain ⟨pl,h1,h2⟩:=hlow id b (.inr hb)
  have hx:∀ g,b.lies pl=some g→X0 g:=fun g hlg=>⟨id,b,pl,trivial,hb,(upto_some h1).2,hlg⟩
  exact ⟨pl,h1,h2.ev ev0 (fun _ _=>rfl),fun g hlg=>⟨⟨(hX0 g (hx g hlg)).1,(hX0 g (hx g hlg)).2.2⟩,.inl (hx g hlg)⟩⟩
 have hargs:=lends_rep (L:=L++F) (Y':=Y0) (m:=upto m next) (fun id b hmem hb=>hlow id b (.inl ⟨hmem,hb⟩)) (fun g hg=>hg.1) (fun g hg hY=>hY.2 (by
  obtain ⟨id,b,pl,h1,h2,h3,h4⟩:=hg
  exact ⟨id,b,pl,h1,h2,(upto_some h3).2,h4⟩)) args vs hl hr
 have hc:=hcall (nlOf (upto m next)) C' vs rfl hargs.1 hargs.2 hHS
 have post:∀ (r:PV) (u:Heap),(∀ id∈L++F,getH Hs id=none∧getH u id=none)→(L=[]∨(r.plain=true∧plainH u=true∧plainH Hs=true))→∀ v w',(∃ Y1 m1,Rep Y1 m1 w' r v∧HS C' Y1 m1 w' (u++Hs) (next+kk)∧Ev Y0 (upto m next) w Y1 m1 w')→∃ Y' m',Rep Y' m' w' r v∧HSF C Y' m' w' ((u++kill F)++H) (FrK kk Fr next)∧Ev Y m w Y' m' w':=by
  intro r u hLF hplain
  rintro v w' ⟨Y1,m1,hrep,h1,hev⟩
  let m2:Names:=fun id=>if next≤id∧id<next+kk then m1 id else m id
  have m12:∀ id pl,m1 id=some pl→m2 id=some pl:=by
   intro id pl h
   show (if next≤id∧id<next+kk then m1 id else m id)=some pl
   by_cases e:next≤id∧id<next+kk
   ·rw [if_pos e]; exact h
   ·rw [if_neg e]
    rcases h1.known id pl h with h' | h'
    ·exact (upto_some h').2
    ·have:next+kk≤id:=by
      have:next≤id:=h'
      omega
     rw [h1.fresh id this] at h
     cases h
  have mm2:∀ id pl,m id=some pl→m2 id=some pl:=by
   intro id pl h
   show (if next≤id∧id<next+kk then m1 id else m id)=some pl
   rw [if_neg (fun e=>by rw [hH.fresh id (h4 id e.1 e.2)] at h; cases h)]
   exact h
  have up12:Ev Y1 m1 w' Y1 m2 w':=⟨Nat.le_refl _,fun _ _ _=>rfl,fun _ h=>.inl h,m12⟩
  let lentL:Nat→Prop:=lieSet m H (·∈L)
  let Y2:Nat→Prop:=fun g=>Y1 g∨lentL g
  have hLY:∀ g,lentL g→Y g:=by
   rintro g ⟨id,b,pl,_,hb,hm,hlg⟩
   obtain ⟨pl',hm',_,h3⟩:=hH.blk id b hb
   rw [hm] at hm'; injection hm' with hm'; subst hm'
   exact (h3 g hlg).1
  have ev2:Ev Y m w Y2 m2 w':=by
   refine ⟨hev.size,fun b hb hY=>hev.keep b hb (fun h=>hY h.1),fun b hb=>?_,mm2⟩
   rcases hb with hb | hb
   ·rcases hev.less b hb with h | h
    ·exact .inl h.1
    ·exact .inr h
   ·exact .inl (hLY b hb)
  have hemp:L=[]→∀ g,Y2 g→Y1 g:=by
   rintro rfl g (h | ⟨id,b,pl,hmem,_⟩)
   ·exact h
   ·cases hmem
  have evL:L=[]→Ev Y1 m1 w' Y2 m2 w':=fun hL=>⟨Nat.le_refl _,fun _ _ _=>rfl,fun b hb=>.inl (hemp hL b hb),m12⟩
  refine ⟨Y2,m2,?_,?_,ev2⟩
  ·rcases hplain with hL | ⟨hp,_⟩
   ·exact hrep.ev (evL hL)
   ·exact (hrep.ev up12).plain hp
  ·-- what a name stands for behind the call
   have get2:∀ id b,getH ((u++kill F)++H) id=some b→(getH (u++Hs) id=some b∧(hasH u id=true∨getH Hs id=some b))∨(getH H id=some b∧getH Hs id=none∧hasH u id=false∧id ∉ F):=by
    intro id b hb
    rw [List.append_assoc,getH_app] at hb
    cases hu:hasH u id
    ·simp only [hu,Bool.false_eq_true,if_false] at hb
     rw [getH_app] at hb
     cases hF:hasH (kill F) id
     ·simp only [hF,Bool.false_eq_true,if_false] at hb
      cases hs:getH Hs id with
      | none=>exact .inr ⟨hb,rfl,rfl,fun h=>by rw [hasH_kill.2 h] at hF; cases hF⟩
      | some b' =>
       have:=hsub id b' hs
       rw [hb] at this
       injection this with this
       subst this
       exact .inl ⟨by rw [getH_app,hu]; simpa using hs,.inr rfl⟩
     ·simp [hF,getH_kill] at hb
    ·simp only [hu,if_true] at hb
     exact .inl ⟨by rw [getH_app,hu]; simpa using hb,.inl rfl⟩
   have farX:∀ id b pl g,getH H id=some b→getH Hs id=none→m id=some pl→b.lies pl=some g→¬ X0 g:=by
    rintro id b pl g hb hs hm hlg ⟨id',b',pl',_,hb',hm',hlg'⟩
    have:=uniq id id' b b' pl pl' g hb (hsub _ _ hb') hm hm' hlg hlg'
    subst this
    rw [hs] at hb'
    cases hb'
   refine ⟨?_,?_,?_,?_,Nat.le_trans hH.size hev.size,?_,h1.os.trans hH.os,h1.tape.trans hH.tape,h1.output.trans hH.output,hH.y0lt,hH.x0,fun b hb=>by
    rcases ev2.less b hb with h | h
    ·exact hH.yless b h
    ·exact .inr (Nat.le_trans hH.size h),hH.own,fun id hid=>hH.low id hid.1,fun id pl h=>mm2 _ _ (hH.names _ _ h),fun id hid=>by
     show (if next≤id∧id<next+kk then m1 id else m id)=none
     rw [if_neg hid.2]; exact hH.fresh id hid.1,fun id pl hid=>by
     have hid':(if next≤id∧id<next+kk then m1 id else m id)=some pl:=hid
     by_cases e:next≤id∧id<next+kk
     ·exact .inr (Nat.le_trans (hH.low next (h4 next (Nat.le_refl _) (by omega))) e.1)
     ·rw [if_neg e] at hid'; exact hH.known id pl hid',hH.gl⟩
   ·intro id b hb
    rcases get2 id b hb with ⟨hb,hwhere⟩ | ⟨hb,hs,hu,hF⟩
    ·obtain ⟨pl,g1,g2,g3⟩:=h1.blk id b hb
     refine ⟨pl,m12 _ _ g1,?_,fun g hlg=>⟨.inl (g3 g hlg).1,?_⟩⟩
     ·rcases hplain with hL | ⟨_,hp2,hp3⟩
      ·exact g2.ev (evL hL) (fun _ _=>rfl)
      ·exact (g2.ev up12 (fun _ _=>rfl)).plain (plainH_get (plainH_app hp2 hp3) hb)
     ·rcases (g3 g hlg).2 with h | h
      ·exact (hX0 g h).2.1
      ·exact .inr (Nat.le_trans hH.size h)
    ·obtain ⟨pl,g1,g2,g3⟩:=hH.blk id b hb
     have hk:∀ g,b.lies pl=some g→w'.heap[g]?=w.heap[g]?:=fun g hlg=>h1.frame g (hH.ylt g (g3 g hlg).1) (farX id b pl g hb hs g1 hlg)
     refine ⟨pl,mm2 _ _ g1,g2.ev ev2 hk,fun g hlg=>⟨?_,(g3 g hlg).2⟩⟩
     by_cases hlen:lent g
     ·obtain ⟨id',b',pl',hmem,hb',hm',hlg'⟩:=hlen
      have:=uniq id id' b b' pl pl' g hb hb' g1 hm' hlg hlg'
      subst this
      rcases List.mem_append.1 hmem with hmem | hmem
      ·exact .inr ⟨id,b',pl',hmem,hb',hm',hlg'⟩
      ·exact absurd hmem hF
     ·exact .inl (h1.keep g ⟨(g3 g hlg).1,hlen⟩ (farX id b pl g hb hs g1 hlg))
   ·intro id id' b b' pl pl' g hne hb hb' hm1 hm1' hlg hlg'
    have side:∀ id b pl g,getH (u++Hs) id=some b→m2 id=some pl→b.lies pl=some g→X0 g∨w.heap.size≤g:=by
     intro id b pl g hb hm hlg
     obtain ⟨pl',g1,_,g3⟩:=h1.blk id b hb
     have g1:=m12 _ _ g1
     rw [hm] at g1; injection g1 with g1; subst g1
     exact (g3 g hlg).2
    rcases get2 id b hb with ⟨hb,_⟩ | ⟨hb,hs,_,_⟩ <;> rcases get2 id' b' hb' with ⟨hb',_⟩ | ⟨hb',hs',_,_⟩
    ·obtain ⟨q,g1,_,_⟩:=h1.blk id b hb
     obtain ⟨q',g1',_,_⟩:=h1.blk id' b' hb'
     have e:=m12 _ _ g1; rw [hm1] at e; injection e with e; subst e
     have e:=m12 _ _ g1'; rw [hm1'] at e; injection e with e; subst e
     exact h1.inj id id' b b' pl pl' g hne hb hb' g1 g1' hlg hlg'
    ·obtain ⟨q,g1,_,g3⟩:=hH.blk id' b' hb'
     have e:=mm2 _ _ g1; rw [hm1'] at e; injection e with e; subst e
     rcases side id b pl g hb hm1 hlg with h | h
     ·exact farX id' b' pl' g hb' hs' g1 hlg' h
     ·have:=hH.ylt g (g3 g hlg').1; omega
    ·obtain ⟨q,g1,_,g3⟩:=hH.blk id b hb
     have e:=mm2 _ _ g1; rw [hm1] at e; injection e with e; subst e
     rcases side id' b' pl' g hb' hm1' hlg' with h | h
     ·exact farX id b pl g hb hs g1 hlg h
     ·have:=hH.ylt g (g3 g hlg).1; omega
    ·obtain ⟨q,g1,_,_⟩:=hH.blk id b hb
     have e:=mm2 _ _ g1; rw [hm1] at e; injection e with e; subst e
     obtain ⟨q',g1',_,_⟩:=hH.blk id' b' hb'
     have e:=mm2 _ _ g1'; rw [hm1'] at e; injection e with e; subst e
     exact hH.inj id id' b b' pl pl' g hne hb hb' g1 g1' hlg hlg'
   ·rintro b (hb | hb)
    ·exact h1.ylt b hb
    ·exact Nat.lt_of_lt_of_le (hH.ylt b (hLY b hb)) hev.size
   ·intro b hb hx
    have hYb:=hH.keep b hb hx
    have hb0:=hH.y0lt b hb
    have nX:¬ X0 b:=fun h=>by
     rcases (hX0 b h).2.1 with h | h
     ·exact hx h
     ·omega
    have nlent:¬ lent b:=by
     rintro ⟨id,b',pl,_,hb',hm',hlg'⟩
     obtain ⟨pl',g1,_,g3⟩:=hH.blk id b' hb'
     rw [hm'] at g1; injection g1 with g1; subst g1
     rcases (g3 b hlg').2 with h | h
     ·exact hx h
     ·omega
    exact .inl (h1.keep b ⟨hYb,nlent⟩ nX)
   ·intro b hb hx
    rw [h1.frame b (Nat.lt_of_lt_of_le hb hH.size) (fun h=>by
     rcases (hX0 b h).2.1 with h | h
     ·exact hx h
     ·omega)]
    exact hH.frame b hb hx
 rcases hc with ⟨fn,c1,c2,c3,c4⟩ | ⟨v,w',c1,c2⟩
 ·refine .inl ⟨fn,c1,c2,c3,c4.mono ?_⟩
  rintro e w' ⟨v,rfl,i,hi,h⟩
  exact ⟨v,rfl,i,hi,post _ _ (fun id hid=>⟨(hLF0 id hid).1,(hLF0 id hid).2 i⟩) (hplain0.imp id fun hh=>hh i) v w' h⟩
 ·obtain ⟨i,hi,h⟩:=c2
  exact .inr ⟨v,w',c1,i,hi,post _ _ (fun id hid=>⟨(hLF0 id hid).1,(hLF0 id hid).2 i⟩) (hplain0.imp id fun hh=>hh i) v w' h⟩
theorem call_coreI {f:Nat} {args:List PV} {H:Heap} {next:Nat} {L F:List Nat} {Hs:Heap} {ι:Type} {Post:ι→Prop} {rr:ι→PV} {uu:ι→Heap} (hsub:subH Hs H) (hLF0:∀ id∈L++F,getH Hs id=none∧∀ i,getH (uu i) id=none)
  (hplain0:L=[]∨∀ i,((rr i).plain=true∧plainH (uu i)=true∧plainH Hs=true)) (hcall:∀ nl:Nat→Bool,ACallI P f (lends H (L++F) nl args) Hs next Post rr uu)
  {C:Ctx} {Y:Nat→Prop} {m:Names} {w:World} {Fr:Nat→Prop} (hH:HSF C Y m w H Fr) (h4:Has4 Fr next) {vs:List Value} (hl:vs.length=args.length)
  (hr:∀ (i:Nat) p v,args[i]?=some p→vs[i]?=some v→Rep Y (upto m next) w p v) (hlow:∀ id b,(id∈L++F∧getH H id=some b)∨getH Hs id=some b→∃ pl,upto m next id=some pl∧BlkSat Y (upto m next) w pl b) :
  CallSat P f vs.toArray w fun v w'=>∃ i,Post i∧∃ Y' m',Rep Y' m' w' (rr i) v∧HSF C Y' m' w' ((uu i++kill F)++H) (Fr4 Fr next)∧Ev Y m w Y' m' w' :=
 call_coreW (kk:=4) hsub hLF0 hplain0 hcall hH h4 (by omega) hl hr hlow
theorem CallSat.imp {f:Nat} {vs:Array Value} {w:World} {R R':Value→World→Prop} (h:CallSat P f vs w R) (k:∀ v w',R v w'→R' v w'):CallSat P f vs w R':=by
 rcases h with ⟨fn,c1,c2,c3,c4⟩ | ⟨v,w',c1,c2⟩
 ·refine .inl ⟨fn,c1,c2,c3,c4.mono ?_⟩
  rintro e w' ⟨v,rfl,h⟩
  exact ⟨v,rfl,k v w' h⟩
 ·exact .inr ⟨v,w',c1,k v w' c2⟩
theorem ACall.toI {f:Nat} {args:List PV} {Hs:Heap} {nid:Nat} {r:PV} {u:Heap} (h:ACall P f args Hs nid r u):ACallI P f args Hs nid (fun _:Unit=>True) (fun _=>r) (fun _=>u):=fun C vs h1 h2 h3 h4=>(h C vs h1 h2 h3 h4).imp fun v w' h=>⟨(),trivial,h⟩
theorem ACallI.one {f:Nat} {args:List PV} {Hs:Heap} {nid:Nat} {r:PV} {u:Heap} (h:ACallI P f args Hs nid (fun _:Unit=>True) (fun _=>r) (fun _=>u)):ACall P f args Hs nid r u:=fun C vs h1 h2 h3 h4=>(h C vs h1 h2 h3 h4).imp fun v w' ⟨_,_,h⟩=>h
theorem call_core {f:Nat} {args:List PV} {H:Heap} {next:Nat} {L F:List Nat} {Hs:Heap} {r:PV} {u:Heap} (hsub:subH Hs H) (hLF:∀ id∈L++F,getH Hs id=none∧getH u id=none)
  (hplain:L=[]∨(r.plain=true∧plainH u=true∧plainH Hs=true)) (hcall:∀ nl:Nat→Bool,ACall P f (lends H (L++F) nl args) Hs next r u)
  {C:Ctx} {Y:Nat→Prop} {m:Names} {w:World} {Fr:Nat→Prop} (hH:HSF C Y m w H Fr) (h4:Has4 Fr next) {vs:List Value} (hl:vs.length=args.length)
  (hr:∀ (i:Nat) p v,args[i]?=some p→vs[i]?=some v→Rep Y (upto m next) w p v) (hlow:∀ id b,(id∈L++F∧getH H id=some b)∨getH Hs id=some b→∃ pl,upto m next id=some pl∧BlkSat Y (upto m next) w pl b) :
  CallSat P f vs.toArray w fun v w'=>∃ Y' m',Rep Y' m' w' r v∧HSF C Y' m' w' ((u++kill F)++H) (Fr4 Fr next)∧Ev Y m w Y' m' w' :=
 (call_coreI (ι:=Unit) hsub (fun id hid=>⟨(hLF id hid).1,fun _=>(hLF id hid).2⟩) (hplain.imp id fun h _=>h) (fun nl=>(hcall nl).toI) hH h4 hl hr hlow).imp fun v w' ⟨_,_,h⟩=>h
theorem freeze_core {C:Ctx} {Y:Nat→Prop} {m:Names} {w:World} {H:Heap} {n:Nat} (hH:HS C Y m w H n) (G:List Nat) :
  ∃ Y',(∀ r v,Rep Y m w r v→Rep Y' m w (lend H G (nlOf m) r) v)∧HS C Y' m w (kill G++H) n∧Ev Y m w Y' m w:=by
 let Y':Nat→Prop:=fun g=>Y g∧¬ lieSet m H (·∈G) g
 have ev:Ev Y m w Y' m w:=⟨Nat.le_refl _,fun _ _ _=>rfl,fun b hb=>.inl hb.1,fun _ _ h=>h⟩
 have hb:∀ id b,getH H id=some b→∃ pl,m id=some pl∧BlkSat Y m w pl b:=fun id b hb=>by obtain ⟨pl,h1,h2,_⟩:=hH.blk id b hb; exact ⟨pl,h1,h2⟩
 have get:∀ id b,getH (kill G++H) id=some b→getH H id=some b∧id ∉ G:=by
  intro id b h
  rw [getH_app] at h
  cases hk:hasH (kill G) id
  ·simp only [hk,Bool.false_eq_true,if_false] at h
   exact ⟨h,fun hm=>by rw [hasH_kill.2 hm] at hk; cases hk⟩
  ·simp [hk,getH_kill] at h
 refine ⟨Y',fun r v hr=>lend_rep (fun id b _ h=>hb id b h) (fun g h=>h.1) (fun g h hY=>hY.2 h) r v hr,⟨?_,?_,fun b h=>hH.ylt b h.1,?_,hH.size,hH.frame,hH.os,hH.tape,hH.output,hH.y0lt,hH.x0,fun b h=>hH.yless b h.1,hH.own,hH.low,hH.names,hH.fresh,hH.known,hH.gl⟩,ev⟩
 ·intro id b h
  obtain ⟨h1,h2⟩:=get id b h
  obtain ⟨pl,g1,g2,g3⟩:=hH.blk id b h1
  refine ⟨pl,g1,g2.ev ev (fun _ _=>rfl),fun g hl=>⟨⟨(g3 g hl).1,?_⟩,(g3 g hl).2⟩⟩
  rintro ⟨id',b',pl',hm,hb',hp',hl'⟩
  exact hH.inj id id' b b' pl pl' g (fun e=>h2 (by rw [e]; exact hm)) h1 hb' g1 hp' hl hl'
 ·intro id id' b b' pl pl' g hne h1 h2
  exact hH.inj id id' b b' pl pl' g hne (get id b h1).1 (get id' b' h2).1
 ·intro b h1 h2
  refine ⟨hH.keep b h1 h2,?_⟩
  rintro ⟨id,b',pl,_,hb',hp,hl⟩
  obtain ⟨pl',g1,_,g3⟩:=hH.blk id b' hb'
  rw [hp] at g1; injection g1 with g1; subst g1
  rcases (g3 b hl).2 with h | h
  ·exact h2 h
  ·have:=hH.y0lt b h1; omega
mutual
theorem lend_nil0 (H:Heap) (nl:Nat→Bool):∀ p,lend H ([]++[]) nl p=p
 | .agg ps=>by simp only [lend]; rw [lends_nil0 H nl ps]
 | .sl _ _ _=>by simp [lend]
 | .int _ _=>by simp [lend]
 | .bool _=>by simp [lend]
 | .str _=>by simp [lend]
 | .lit _ _ _=>by simp [lend]
 | .ptr _ _=>by simp [lend]
 | .nilp=>by simp [lend]
 | .nili=>by simp [lend]
 | .elp _ _=>by simp [lend]
 | .arp _ _ _=>by simp [lend]
 | .arv _=>by simp [lend]
 | .tup _=>by simp [lend]
 | .fn _ _=>by simp [lend]
 | .mp _=>by simp [lend]
 | .stp _=>by simp [lend]
 | .any=>by simp [lend]
theorem lends_nil0 (H:Heap) (nl:Nat→Bool):∀ ps,lends H ([]++[]) nl ps=ps
 | []=>by simp [lends]
 | p::ps=>by simp only [lends]; rw [lend_nil0 H nl p,lends_nil0 H nl ps]
end
theorem call_ok {f:Nat} {args:List PV} {H:Heap} {next:Nat} {K:PV→Heap→Prop} (h:CallOK P f args H next K) {C:Ctx} {Y:Nat→Prop} {m:Names} {w:World} (hH:HS C Y m w H next) {vs:List Value} (hl:vs.length=args.length)
  (hr:∀ (i:Nat) p v,args[i]?=some p→vs[i]?=some v→Rep Y m w p v) :
  CallSat P f vs.toArray w fun v w'=>∃ r u Y' m',K r u∧Rep Y' m' w' r v∧HS C Y' m' w' (u++H) (next+4)∧Ev Y m w Y' m' w':=by
 have hup:upto m next=m:=by
  funext id
  unfold upto
  split
  ·rfl
  ·exact (hH.fresh id (by omega)).symm
 rcases h with ⟨G,L,F,Hs,r,u,hsub,hLF,hplain,hcall,hK⟩ | ⟨ι,Post,r,u,Hs,hsub,hcall,hK⟩
 rotate_left
 ·have:=call_coreI (L:=[]) (F:=[]) hsub (fun id h=>by cases h) (.inl rfl) (fun nl=>by rw [lends_nil0]; exact hcall) hH (has4_next next) hl (by rw [hup]; exact hr) (by
   intro id b hb
   rw [hup]
   have hb':getH H id=some b:=by
    rcases hb with ⟨hb,_⟩ | hb
    ·cases hb
    ·exact hsub _ _ hb
   obtain ⟨pl,h1,h2,_⟩:=hH.blk id b hb'
   exact ⟨pl,h1,h2⟩)
  refine this.imp ?_
  rintro v w' ⟨i,hi,Y',m',h1,h2,h3⟩
  exact ⟨_,_,Y',m',hK i hi,h1,by simpa [kill] using h2.mono (fun id=>fr4_next),h3⟩
 have:=call_core hsub hLF hplain hcall hH (has4_next next) hl (by rw [hup]; exact hr) (by
  intro id b hb
  rw [hup]
  have hb':getH H id=some b:=by
   rcases hb with ⟨_,hb⟩ | hb
   ·exact hb
   ·exact hsub _ _ hb
  obtain ⟨pl,h1,h2,_⟩:=hH.blk id b hb'
  exact ⟨pl,h1,h2⟩)
 have fin:∀ v w',(∃ Y' m',Rep Y' m' w' r v∧HSF C Y' m' w' ((u++kill F)++H) (Fr4 (fun id=>next≤id) next)∧Ev Y m w Y' m' w')→∃ r u Y' m',K r u∧Rep Y' m' w' r v∧HS C Y' m' w' (u++H) (next+4)∧Ev Y m w Y' m' w':=by
  rintro v w' ⟨Y',m',h1,h2,h3⟩
  obtain ⟨Y2,k1,k2,k3⟩:=freeze_core (h2.mono (fun id=>fr4_next)) G
  exact ⟨_,_,Y2,m',hK (nlOf m'),k1 _ _ h1,by rw [List.append_assoc]; exact k2,h3.trans k3⟩
 rcases this with ⟨fn,c1,c2,c3,c4⟩ | ⟨v,w',c1,c2⟩
 ·refine .inl ⟨fn,c1,c2,c3,c4.mono ?_⟩
  rintro e w' ⟨v,rfl,h⟩
  exact ⟨v,rfl,fin v w' h⟩
 ·exact .inr ⟨v,w',c1,fin v w' c2⟩
open Go.RowKit
variable {P:Program} {C:Ctx} {nt:Nat}
theorem Sat.operand {Y:Nat→Prop} {m:Names} {st:ST} {a:Act} {w:World} (h:Sat C nt Y m st a w):∀ x ax,compX x=some ax→Rep Y m w (ax.val st.slots) (a.eval x):=by
 intro x ax hx
 cases x with
 | tmp t =>
  simp only [compX,Option.some.injEq] at hx
  subst hx
  simp only [AX.val,Act.eval]
  by_cases hany:getS st.slots t=.any
  ·rw [hany]; exact .any
  ·obtain ⟨v,h1,h2⟩:=h.slots t _ rfl hany
   rw [Array.getD_eq_getD_getElem?,h1]
   exact h2
 | const v =>
  simp only [compX] at hx
  obtain ⟨p,hp,rfl⟩:=map_some hx
  exact rep_cv hp
 | global g=>simp [compX] at hx
 | func f =>
  simp only [compX,Option.some.injEq] at hx
  subst hx
  exact .fn (vs:=[]) rfl (fun i p v hp hv=>by simp at hp)
theorem getS_put (s:Slots) (d:Option Nat) (v:PV) (i:Nat):getS (putS s d v) i=if d=some i then v else getS s i:=by
 cases d with
 | none=>simp [putS]
 | some d =>
  simp only [putS,getS]
  by_cases h:d=i
  ·subst h; simp
  ·have:(d==i)=false:=by simpa using h
   simp [this,h]
theorem Sat.put {Y Y':Nat→Prop} {m m':Names} {s:Slots} {H H':Heap} {n b:Nat} {a:Act} {w w':World} {d:Option Nat} {p:PV} {v:Value} (h:Sat C nt Y m ⟨s,H,n,b⟩ a w) (hd:dstIn nt d=true) (hr:Rep Y' m' w' p v)
  (hH:HS C Y' m' w' H' (n+4)) (ev:Ev Y m w Y' m' w'):Sat C nt Y' m' ⟨putS s d p,H',n+4,b⟩ (a.put d v) w':=by
 refine ⟨?_,?_,?_,hH,h.base⟩
 ·cases d <;> simp [Act.put,h.size]
 ·cases d <;> simp [Act.put,h.defers]
 ·intro i q hq hne
  simp only at hq
  rw [getS_put] at hq
  by_cases e:d=some i
  ·subst e
   simp only [if_true] at hq
   subst hq
   have hi:i<a.tmps.size:=by rw [h.size]; simpa [dstIn] using hd
   exact ⟨v,by simp [Act.put,hi],hr⟩
  ·rw [if_neg e] at hq
   obtain ⟨u,h1,h2⟩:=h.slots i q hq hne
   refine ⟨u,?_,h2.ev ev⟩
   cases d with
   | none=>exact h1
   | some d =>
    have:d≠i:=fun h=>e (by rw [h])
    simp [Act.put,Array.getElem?_setIfInBounds_ne this,h1]
theorem Sat.same {Y:Nat→Prop} {m:Names} {s s':Slots} {H:Heap} {n b:Nat} {a:Act} {w:World} (h:Sat C nt Y m ⟨s,H,n,b⟩ a w) (hs:∀ i,getS s' i=getS s i):Sat C nt Y m ⟨s',H,n,b⟩ a w :=
 ⟨h.size,h.defers,fun i p hp hne=>h.slots i p (by simpa [hs] using hp) hne,h.heap,h.base⟩
theorem getS_self {s:Slots} {j:Nat} {p:PV} (h:getS s j=p) (i:Nat):getS ((j,p)::s) i=getS s i:=by
 simp only [getS]
 by_cases e:(j==i)=true
 ·have:j=i:=by simpa using e
  subst this
  simp [h]
 ·simp only [Bool.not_eq_true] at e
  simp [e]
theorem callSat_wp {o:Oper} {a:Act} {w:World} {K':Act→World→Prop} {Q:Exit→Act→World→Prop} {f:FuncId} {vs:Array Value} {R:Value→World→Prop} (hrun:(execOp a.eval o).run P w=(callFunc f vs).run P w)
  (h:CallSat P f vs w R) (hK:∀ v w',R v w'→K' (a.put o.dst v) w'):o.wp P a w K' Q:=by
 unfold Oper.wp
 rw [hrun]
 rcases h with ⟨fn,h1,h2,h3,h4⟩ | ⟨v,w',h1,h2⟩
 ·have:(callFunc f vs).run P w=.ok (.enter f vs) w:=by
   unfold callFunc
   simp only [Sem.run_bind,run_program,Result.andThen_ok,h1,h2,h3,Bool.false_eq_true,if_false]
   rfl
  rw [this]
  refine Calls.mono h4 ?_
  rintro e w' ⟨v,rfl,hR⟩
  exact hK v w' hR
 ·rw [h1]
  exact hK v w' h2
theorem compOp_call {o:Oper} {ao:AOp} (hc:compOp P o=some ao) (hs:ao.still=false):∃ c az,o.op=.call c∧compXs c.args.toList=some az∧((∃ f,c.callee=.value (.func f)∧ao=.call f az)∨∃ t,c.callee=.value (.tmp t)∧ao=.callv (.t t) az):=by
 obtain ⟨dst,op,ty,pos,aft,g⟩:=o
 cases op
 case call c =>
  obtain ⟨cal,ar,at'⟩:=c
  simp only [compOp] at hc
  refine ⟨⟨cal,ar,at'⟩,?_⟩
  split at hc
  ·exfalso
   split at hc
   ·split at hc
    ·obtain ⟨_,_,rfl⟩:=map_some hc; cases hs
    ·obtain ⟨_,_,rfl⟩:=map_some hc; cases hs
    ·obtain ⟨_,_,rfl⟩:=map_some hc; cases hs
    ·cases hc
   ·cases hc
  ·exfalso
   split at hc
   ·split at hc
    ·injection hc with hc; subst hc; cases hs
    ·cases hc
   ·cases hc
  ·exfalso
   split at hc
   ·split at hc
    ·injection hc with hc; subst hc; cases hs
    ·cases hc
   ·cases hc
  ·exfalso
   split at hc
   ·split at hc
    ·split at hc
     ·split at hc
      ·split at hc
       ·split at hc
        ·injection hc with hc; subst hc; cases hs
        ·injection hc with hc; subst hc; cases hs
       ·cases hc
      ·cases hc
     ·cases hc
    ·cases hc
   ·cases hc
  ·exfalso
   split at hc
   ·split at hc
    ·split at hc
     ·split at hc
      ·split at hc
       ·injection hc with hc; subst hc; cases hs
       ·cases hc
      ·cases hc
     ·cases hc
    ·cases hc
   ·cases hc
  ·exfalso
   split at hc
   ·split at hc
    ·split at hc
     ·split at hc
      ·injection hc with hc; subst hc; cases hs
      ·cases hc
     ·cases hc
    ·cases hc
   ·cases hc
  ·obtain ⟨az,has,rfl⟩:=map_some hc
   exact ⟨az,rfl,has,.inl ⟨_,rfl,rfl⟩⟩
  ·obtain ⟨az,has,rfl⟩:=map_some hc
   exact ⟨az,rfl,has,.inr ⟨_,rfl,rfl⟩⟩
  ·cases hc
 all_goals
  exfalso
  simp only [compOp] at hc
  repeat' split at hc
  all_goals first
   | cases hc; done
   | (obtain ⟨_,_,rfl⟩:=map_some hc; cases hs; done)
   | (injection hc with hc; subst hc; cases hs; done)
theorem runOp_ok {o:Oper} {ao:AOp} (hc:compOp P o=some ao) {Y:Nat→Prop} {m:Names} {s:Slots} {H:Heap} {n b:Nat} {a:Act} {w:World} (hS:Sat C nt Y m ⟨s,H,n,b⟩ a w) {K:PV→Heap→Prop} (h:runOp P s H n K ao)
  {K':Act→World→Prop} {Q:Exit→Act→World→Prop} (hK:∀ v u val Y' m' w',K v u→Rep Y' m' w' v val→HS C Y' m' w' (u++H) (n+4)→Ev Y m w Y' m' w'→K' (a.put o.dst val) w'):o.wp P a w K' Q:=by
 have still:ao.still=true→bindStep (step (AX.val s) H n ao) K→o.wp P a w K' Q:=by
  intro hst hb
  unfold bindStep at hb
  split at hb
  ·rename_i vc v u hstep
   obtain ⟨val,w',Y',m',hd,h1,h2,h3⟩:=step_ok hc hst C Y m w H _ n (AX.val s) a.eval vc v u hS.operand hS.heap (has4_next n) hstep hb.1
   have:=hK v u val Y' m' w' hb.2 h1 (h2.mono fun id=>fr4_next) h3
   unfold Oper.wp
   rcases hd with hd | ⟨hd,rfl⟩
   ·rw [hd]; exact this
   ·rw [hd]; exact this
  ·exact hb.elim
 have args:∀ {xs:List Operand} {az:List AX},compXs xs=some az→(xs.map a.eval).length=(az.map (AX.val s)).length∧∀ (i:Nat) p v,(az.map (AX.val s))[i]?=some p→(xs.map a.eval)[i]?=some v→Rep Y m w p v :=
  fun hx=>compXs_rep hS.operand hx
 cases hst:ao.still
 ·obtain ⟨c,az,ho,has,hcase⟩:=compOp_call hc hst
  obtain ⟨hl,hr⟩:=args has
  rcases hcase with ⟨f,hf,rfl⟩ | ⟨t,hf,rfl⟩
  ·have:=call_ok h hS.heap hl hr
   refine callSat_wp ?_ this ?_
   ·have e:(c.args.toList.map a.eval).toArray=c.args.map a.eval:=Array.toList_inj.1 (by simp)
    rw [e]
    simp [execOp,ho,resolve,hf,Deferred.ofValue,Act.eval,invoke]
   ·rintro v w' ⟨r,u,Y',m',h1,h2,h3,h4⟩
    exact hK r u v Y' m' w' h1 h2 h3 h4
  ·have h':onFn (getS s t) fun f cap=>CallOK P f (az.map (AX.val s)++cap) H n K:=h
   unfold onFn at h'
   split at h'
   ·rename_i f cap hp
    have hv:=hS.operand (.tmp t) (.t t) rfl
    have hv':Rep Y m w (.fn f cap) (a.eval (.tmp t)):=by rw [← hp]; exact hv
    obtain ⟨vs,e1,e2,e3⟩:=hv'.fn_inv
    have:=call_ok (vs:=c.args.toList.map a.eval++vs) h' hS.heap (by simp only [List.length_append,hl,e2]) (by
     intro i p v hp hv
     by_cases hi:i<(az.map (AX.val s)).length
     ·rw [List.getElem?_append_left hi] at hp
      rw [List.getElem?_append_left (by rw [hl]; exact hi)] at hv
      exact hr i p v hp hv
     ·rw [List.getElem?_append_right (by omega)] at hp
      rw [List.getElem?_append_right (by rw [hl]; omega),hl] at hv
      exact e3 _ p v hp hv)
    refine callSat_wp ?_ this ?_
    ·have e:(c.args.toList.map a.eval++vs).toArray=c.args.map a.eval++vs.toArray:=Array.toList_inj.1 (by simp)
     rw [e]
     simp [execOp,ho,resolve,hf,Deferred.ofValue,e1,invoke]
    ·rintro v w' ⟨r,u,Y',m',h1,h2,h3,h4⟩
     exact hK r u v Y' m' w' h1 h2 h3 h4
   ·exact h'.elim
 ·refine still hst ?_
  cases ao <;> first | exact h | (simp [AOp.still] at hst)
theorem Sat.reguard {Y:Nat→Prop} {m:Names} {s:Slots} {H:Heap} {n b:Nat} {a:Act} {w:World} (h:Sat C nt Y m ⟨s,H,n,b⟩ a w) {j:Nat} {t:Bool} (hj:getS s j=.bool t):Sat C nt Y m ⟨(j,.bool t)::s,H,n,b⟩ a w :=
 h.same fun i=>getS_self hj i
theorem wanted_of {ops:Array Oper} {o:Oper} {Y:Nat→Prop} {m:Names} {st:ST} {a:Act} {w:World} (h:Sat C nt Y m st a w) {d:Nat} {want:Bool} {t:Option Bool} (hg:dstG ops o.guard=some (some (d,want))) (ht:getS st.slots d=gPV t) :
  Region.wanted o (yielded ops a.tmps)=(t==some want):=by
 unfold dstG at hg
 split at hg
 ·cases hg
 ·rename_i g j b' hgd
  split at hg
  ·rename_i d' hd
   simp only [Option.some.injEq,Prod.mk.injEq] at hg
   obtain ⟨rfl,rfl⟩:=hg
   obtain ⟨v,h1,h2⟩:=h.slots d' _ ht (by cases t <;> simp [gPV])
   have hy:yielded ops a.tmps j=t:=by
    cases t with
    | some t=>rw [show v=.bool t from Rep.bool_inv h2] at h1; unfold yielded; rw [hd]; simp [h1]
    | none =>
     obtain ⟨vs,e1,e2,_⟩:=Rep.tup_inv (ps:=[]) h2
     rw [e1] at h1; unfold yielded; rw [hd]; simp [h1]
   unfold Region.wanted
   rw [hgd]
   simp only [hy]
  ·cases hg
theorem wanted_none {ops:Array Oper} {o:Oper} {tm:Array Value} (hg:dstG ops o.guard=some none):Region.wanted o (yielded ops tm)=true:=by
 unfold dstG at hg
 split at hg
 ·rename_i h; unfold Region.wanted; rw [h]
 ·split at hg <;> cases hg
theorem runOps_ok {ops:Array Oper} {Q:Exit→Act→World→Prop} {b:Nat} {K:Slots→Heap→Nat→Prop} (hK:∀ s H n Y m a w,K s H n→Sat C nt Y m ⟨s,H,n,b⟩ a w→Q .normal a w) :
  ∀ (rest:List Oper) (l:List AIn) (s:Slots) (H:Heap) (n:Nat) (Y:Nat→Prop) (m:Names) (a:Act) (w:World),compOps P nt ops rest=some l→Sat C nt Y m ⟨s,H,n,b⟩ a w→runOps P l s H n K→wpList P ops Q rest a w
 | [],l,s,H,n,Y,m,a,w,hc,hS,h=>by
  simp only [compOps,Option.some.injEq] at hc
  subst hc
  exact hK s H n Y m a w h hS
 | o::rest,l,s,H,n,Y,m,a,w,hc,hS,h=>by
  simp only [compOps] at hc
  split at hc
  ·rename_i ao g r h1 h2 h3
   split at hc
   ·rename_i hd
    simp only [Option.some.injEq] at hc
    subst hc
    have go:∀ (s:Slots) (hS:Sat C nt Y m ⟨s,H,n,b⟩ a w),runOp P s H n (fun v u=>runOps P r (putS s o.dst v) (u++H) (n+4) K) ao→∀ K':Act→World→Prop,(∀ a w,wpList P ops Q rest a w→K' a w)→o.wp P a w K' Q:=by
     intro s hS h K' hK'
     exact runOp_ok h1 hS h (fun v u val Y' m' w' hr h4 h5 h6=>hK' _ _ (runOps_ok hK rest r _ _ _ Y' m' _ w' h3 (hS.put hd h4 h5 h6) hr))
    have skip:∀ (s:Slots) (hS:Sat C nt Y m ⟨s,H,n,b⟩ a w),runOps P r (putS s o.dst (.tup [])) H (n+4) K→∀ K':Act→World→Prop,(∀ a w,wpList P ops Q rest a w→K' a w)→K' (a.put o.dst undef) w:=by
     intro s hS h K' hK'
     exact hK' _ _ (runOps_ok hK rest r _ _ _ Y m _ w h3 (hS.put hd (.tup (ps:=[]) (vs:=[]) rfl (by simp)) (hS.heap.next (Nat.le_add_right _ _)) (Ev.refl _ _ _)) h)
    refine wpList_step fun K' hK'=>?_
    rcases g with _ | ⟨j,want⟩
    ·rw [wanted_none h2,if_pos rfl]
     exact go s hS h K' hK'
    ·cases want
     ·have h':onGrd (getS s j) (fun b=>split2 b (fun _=>runOps P r (putS ((j,.bool true)::s) o.dst (.tup [])) H (n+4) K)
       (fun _=>runOp P ((j,.bool false)::s) H n (fun v u=>runOps P r (putS ((j,.bool false)::s) o.dst v) (u++H) (n+4) K) ao)) (fun _=>runOps P r (putS s o.dst (.tup [])) H (n+4) K):=h
      unfold onGrd at h'
      split at h'
      ·rename_i t ht
       rw [wanted_of (t:=some t) hS h2 ht]
       cases t
       ·exact go _ (hS.reguard ht) (h'.2 rfl) K' hK'
       ·exact skip _ (hS.reguard ht) (h'.1 rfl) K' hK'
      ·rename_i ht
       rw [wanted_of (t:=none) hS h2 ht]
       exact skip _ hS h' K' hK'
      ·exact h'.elim
     ·have h':onGrd (getS s j) (fun b=>split2 b (fun _=>runOp P ((j,.bool true)::s) H n (fun v u=>runOps P r (putS ((j,.bool true)::s) o.dst v) (u++H) (n+4) K) ao)
       (fun _=>runOps P r (putS ((j,.bool false)::s) o.dst (.tup [])) H (n+4) K)) (fun _=>runOps P r (putS s o.dst (.tup [])) H (n+4) K):=h
      unfold onGrd at h'
      split at h'
      ·rename_i t ht
       rw [wanted_of (t:=some t) hS h2 ht]
       cases t
       ·exact skip _ (hS.reguard ht) (h'.2 rfl) K' hK'
       ·exact go _ (hS.reguard ht) (h'.1 rfl) K' hK'
      ·rename_i ht
       rw [wanted_of (t:=none) hS h2 ht]
       exact skip _ hS h' K' hK'
      ·exact h'.elim
   ·cases hc
  ·cases hc
end Go.Proofs.Yteepabfepfehgaa
