/-
 Words for memory that the texts of this claim share: a row of cells that a slice value leads to,a block that is known whole,frames. No program stands in this text.
-/
import Derived.WalkKit
import Derived.WalkSpells
import Derived.WalkLawsBesides
import Derived.Laws.OwnMore
import Derived.Deep.Draws
import Derived.Deep.AppendLies
import Derived.Maps.AppendAt
import Derived.RegionTactic
import Derived.Lib.Hide
import Derived.Lib.SlTrimSet
import Derived.Lib.SplitLaws
import Derived.Lib.IndexLaws
import Derived.Calls
import Derived.Orders
import Derived.RowKit
import Derived.KernelRfl
import Derived.IntWalk
import Derived.MapKept
import Derived.DeepKeys3
import GoSem.ClaimKeys
import Derived.Lib.Strings
set_option linter.unusedVariables false
set_option linter.unusedSimpArgs false
namespace Go.Proofs.Yteepabfepfehgaa
open Go.RowKit
def RowV (w:World) (A:Option Addr) (cs:List Value):Prop :=
 ∀ k u,cs[k]?=some u→∃ b o,A=some ⟨b,o,none⟩∧w.cell? ⟨b,o+k,none⟩=some u
def ints (l:List Int):List Value:=l.map (Value.int .i64)
def Off (A:Option Addr) (s:Nat):Prop:=∀ a,A=some a→a.block≠s
def Blk (w:World) (g:Nat) (t:TypeId) (cs:Array Value):Prop:=w.heap[g]?=some (.cells cs t (0,0))
section rows
variable {w w':World} {A:Option Addr} {cs:List Value}
theorem RowV.nil:RowV w A []:=fun k u h=>by simp at h
theorem RowV.grown (h:RowV w A cs) {row:Option Nat} (hg:w.grownBy w' row) (ho:∀ s,row=some s→Off A s):RowV w' A cs:=fun k u hu=>by
 obtain ⟨b,o,rfl,hc⟩:=h k u hu
 refine ⟨b,o,rfl,?_⟩
 refine hg.cell hc (fun e=>?_)
 exact ho b e.symm _ rfl rfl
theorem RowV.below (h:RowV w A cs) {B:Nat} (hb:Below B w w') (hB:∀ a,A=some a→a.block<B):RowV w' A cs:=fun k u hu=>by
 obtain ⟨b,o,rfl,hc⟩:=h k u hu
 exact ⟨b,o,rfl,(hb.cell (p:=⟨b,o+k,none⟩) (hB ⟨b,o,none⟩ rfl)).trans hc⟩
theorem RowV.alloc (h:RowV w A cs) (o:Obj):RowV (w.alloc o) A cs:=h.grown (World.grownBy_alloc w o none) (fun s e=>by cases e)
theorem RowV.drew (h:RowV w A cs):RowV w.drew A cs:=h
theorem RowV.drewN (h:RowV w A cs) (n:Nat):RowV (w.drewN n) A cs:=h
theorem RowV.int {l:List Int} (h:RowV w A (ints l)) {k:Nat} {x:Int} (hk:l[k]?=some x):∃ b o,A=some ⟨b,o,none⟩∧w.cell? ⟨b,o+k,none⟩=some (.int .i64 x) :=
 h k _ (by simp [ints,hk])
theorem RowV.ofOwn {base:Nat} {e:TypeId} {sz n c:Nat} (h:w.ownsRow base e sz (.slice A n c) n cs):RowV w A cs:=fun k u hu=>by
 have hn:0<n:=by
  rcases Nat.eq_zero_or_pos n with h0 | h0
  ·have:=h.1; subst h0; simp at this; subst this; simp at hu
  ·exact h0
 obtain ⟨g,cap,hv,_,hlt⟩:=h.form hn
 injection hv with hA
 subst hA
 refine ⟨g,0,rfl,?_⟩
 have:=h.cells (g:=g) rfl k u hu
 unfold Addr.add at this
 split at this
 ·rename_i h0; subst h0; simpa using this
 ·simpa using this
theorem RowV.new (w:World) (t:TypeId) (cs:Array Value):RowV (w.alloc (.cells cs t)) (some ⟨w.heap.size,0,none⟩) cs.toList:=fun k u hu=>by
 refine ⟨_,_,rfl,?_⟩
 rw [Nat.zero_add,cell_of_row _ w.heap.size k cs t (0,0) (heap_alloc_new w _)]
 simpa using hu
theorem Off.new {w:World} {s:Nat} (h:s<w.heap.size):Off (some ⟨w.heap.size,0,none⟩) s:=fun a e=>by
 injection e with e
 subst e
 show w.heap.size≠s
 omega
end rows
section blocks
variable {w w':World} {g:Nat} {t:TypeId} {cs:Array Value}
theorem Blk.lt (h:Blk w g t cs):g<w.heap.size:=by
 rcases Nat.lt_or_ge g w.heap.size with hlt | hge
 ·exact hlt
 ·unfold Blk at h; rw [Array.getElem?_eq_none hge] at h; cases h
theorem Blk.cell (h:Blk w g t cs) (i:Nat) {u:Value} (hu:cs[i]?=some u):w.cell? ⟨g,i,none⟩=some u:=(cell_of_row w g i cs t (0,0) h).trans hu
theorem Blk.frozen (h:Blk w g t cs) (i:Nat):w.frozen? ⟨g,i,none⟩=false:=by
 unfold Blk at h
 simp [World.frozen?,h]
theorem Blk.new (w:World) (t:TypeId) (cs:Array Value):Blk (w.alloc (.cells cs t)) w.heap.size t cs:=heap_alloc_new w _
theorem Blk.drew (h:Blk w g t cs):Blk w.drew g t cs:=h
theorem Blk.drewN (h:Blk w g t cs) (n:Nat):Blk (w.drewN n) g t cs:=h
theorem Blk.alloc (h:Blk w g t cs) (o:Obj):Blk (w.alloc o) g t cs:=(Below.heap_alloc w o g h.lt).trans h
theorem Blk.set (h:Blk w g t cs) (i:Nat) (u:Value):Blk (w.setCell ⟨g,i,none⟩ u) g t (cs.setIfInBounds i u):=by
 unfold Blk at h ⊢
 simp [World.setCell,Array.getElem?_modify,h]
theorem Blk.far (h:Blk w g t cs) {p:Addr} (hp:g≠p.block) (u:Value):Blk (w.setCell p u) g t cs:=(Below.heap_setCell w p u g hp).trans h
theorem Blk.grown {row:Option Nat} (h:Blk w g t cs) (hb:w.grownBy w' row) (hg:some g≠row):Blk w' g t cs:=(hb.block g h.lt hg).trans h
end blocks
section frames
theorem grown_refl (w:World) (row:Option Nat):w.grownBy w row:=⟨rfl,rfl,rfl,Nat.le_refl _,fun _ _ _=>rfl⟩
theorem grown_drew {a w:World} {row:Option Nat} (h:a.grownBy w row):a.grownBy w.drew row:=⟨h.os,h.tape,h.output,h.size,h.block⟩
end frames
def Own (w:World) (base:Nat) (e:TypeId) (sz:Nat) (A:Option Addr) (n c:Nat) (xs:List Value):Prop:=w.ownsRow base e sz (.slice A n c) n xs
def ablk (A:Option Addr):Option Nat:=A.map (·.block)
section owned
variable {w w':World} {base:Nat} {e:TypeId} {sz n c:Nat} {A:Option Addr} {xs:List Value}
theorem ownBlock_ablk (A:Option Addr) (n c:Nat):Value.ownBlock (.slice A n c)=ablk A:=by cases A <;> rfl
theorem own_shape {v:Value} (h:w.ownsRow base e sz v n xs):∃ A c,v=.slice A n c:=by
 rcases h.2 with ⟨rfl,rfl⟩ | ⟨g,cap,cur,rfl,_⟩
 ·exact ⟨_,_,rfl⟩
 ·exact ⟨_,_,rfl⟩
theorem Own.nil (w:World) (base:Nat) (e:TypeId) (sz:Nat):Own w base e sz none 0 0 []:=World.ownsRow_nil w base e sz
theorem Own.row (h:Own w base e sz A n c xs):RowV w A xs:=RowV.ofOwn h
theorem Own.len (h:Own w base e sz A n c xs):xs.length=n * sz:=h.1
theorem Own.low (h:Own w base e sz A n c xs):∀ g,ablk A=some g→base≤g∧g<w.heap.size:=fun g hg=>World.ownsRow.lt h g (by rw [ownBlock_ablk]; exact hg)
theorem Own.off (h:Own w base e sz A n c xs) {s:Nat} (hs:s<base):Off A s:=fun a ha=>by
 have:=h.low a.block (by rw [ha]; rfl)
 omega
theorem Own.cap (h:Own w base e sz A n c xs):n≤c∧c≤maxLen:=by
 rcases h.2 with ⟨h1,rfl⟩ | ⟨g,cap,cur,h1,_,_,h2,h3,_⟩
 ·injection h1 with _ _ h2
  subst h2
  exact ⟨Nat.le_refl _,Nat.zero_le _⟩
 ·injection h1 with _ _ h4
  subst h4
  exact ⟨h2,h3⟩
theorem Own.alloc (h:Own w base e sz A n c xs) (o:Obj):Own (w.alloc o) base e sz A n c xs:=World.ownsRow.alloc h o
theorem Own.drew (h:Own w base e sz A n c xs):Own w.drew base e sz A n c xs:=h
theorem Own.drewN (h:Own w base e sz A n c xs) (k:Nat):Own (w.drewN k) base e sz A n c xs:=h
theorem Own.mono {b:Nat} (h:Own w base e sz A n c xs) (hb:b≤base):Own w b e sz A n c xs:=by
 refine ⟨h.1,?_⟩
 rcases h.2 with h1 | ⟨g,cap,cur,h1,h2,r⟩
 ·exact .inl h1
 ·exact .inr ⟨g,cap,cur,h1,Nat.le_trans hb h2,r⟩
theorem Own.frozen {g o:Nat} (h:Own w base e sz (some ⟨g,o,none⟩) n c xs) (i:Nat):w.frozen? ⟨g,i,none⟩=false:=by
 rcases h.2 with ⟨h1,_⟩ | ⟨g',cap,cur,h1,_,hh,_⟩
 ·injection h1 with h1
  cases h1
 ·injection h1 with h1
  injection h1 with h1
  injection h1 with h1 h2
  subst h1
  simp [World.frozen?,hh]
theorem Own.cell {g o:Nat} (h:Own w base e sz (some ⟨g,o,none⟩) n c xs) {i:Nat} {u:Value} (hu:xs[i]?=some u):w.cell? ⟨g,o+i,none⟩=some u:=by
 obtain ⟨b',o',he,hc⟩:=h.row i u hu
 injection he with he
 injection he with he1 he2
 subst he1; subst he2
 exact hc
theorem Own.zero {g o:Nat} (h:Own w base e sz (some ⟨g,o,none⟩) n c xs):o=0:=by
 rcases h.2 with ⟨h1,_⟩ | ⟨g',cap,cur,h1,_,hh,_⟩
 ·injection h1 with h1
  cases h1
 ·injection h1 with h1
  injection h1 with h1
  injection h1
theorem Own.set {g o:Nat} (h:Own w base e sz (some ⟨g,o,none⟩) n c xs) (i:Nat) (u:Value):Own (w.setCell ⟨g,o+i,none⟩ u) base e sz (some ⟨g,o,none⟩) n c (xs.set i u):=by
 have ho:=h.zero
 subst ho
 refine ⟨by rw [List.length_set]; exact h.1,?_⟩
 rcases h.2 with ⟨h1,_⟩ | ⟨g',cap,cur,h1,hb,hh,hn,hm,hs,ht⟩
 ·injection h1 with h1
  cases h1
 ·injection h1 with h1 _ h4
  injection h1 with h1
  injection h1 with h1 h2
  subst h1; subst h4
  refine .inr ⟨g,c,cur.setIfInBounds i u,rfl,hb,?_,hn,hm,by simpa using hs,?_⟩
  ·rw [Nat.zero_add]
   simp [World.setCell,Array.getElem?_modify,hh]
  ·rw [Array.toList_setIfInBounds,List.take_set,ht]
theorem Own.cell0 {g:Nat} (h:Own w base e sz (some ⟨g,0,none⟩) n c xs) {i:Nat} {u:Value} (hu:xs[i]?=some u):w.cell? ⟨g,i,none⟩=some u:=by
 have:=h.cell hu
 rwa [Nat.zero_add] at this
end owned
def valAt (w:World) (a:Addr):Value:=(w.cell? a).getD undef
theorem valAt_of {w:World} {a:Addr} {v:Value} (h:w.cell? a=some v):valAt w a=v:=by simp [valAt,h]
theorem valAt_some {w:World} {a:Addr} {v:Value} (h:w.cell? a=some v):w.cell? a=some (valAt w a):=by rw [valAt_of h]; exact h
theorem Own.there {w:World} {base:Nat} {e:TypeId} {sz n c g:Nat} {xs:List Value} (h:Own w base e sz (some ⟨g,0,none⟩) n c xs) {i:Nat} (hi:i<xs.length):w.cell? ⟨g,i,none⟩=some (valAt w ⟨g,i,none⟩):=by
 have:=h.cell (i:=i) (u:=xs[i]) (List.getElem?_eq_getElem hi)
 rw [Nat.zero_add] at this
 exact valAt_some this
section append
variable {P:Program} (w:World)
theorem run_app_nil (base:Nat) (t ty e:TypeId) (i:TypeInfo) (size:Nat) (ht:P.underlying t=some (.slice e)) (hi:P.info? e=some i)
  (v:Value) (n:Nat) (xs:List Value) (hown:w.ownsRow base e size v n xs) (c:Nat):(Builtin.append_ #[t,t] ty #[v,.slice none 0 c]).run P w=.ok v w:=by
 rcases hown.2 with ⟨rfl,rfl⟩ | ⟨g,cap,cur,rfl,_,_,hnc,_⟩
 ·simp [Builtin.append_,run_underlying ht,sizeOf,typeInfo,hi,Builtin.lenOf,Builtin.firstCells]
 ·simp [Builtin.append_,run_underlying ht,sizeOf,typeInfo,hi,Builtin.lenOf,Builtin.firstCells,hnc,storeCells]
theorem run_app (base:Nat) (t ty e:TypeId) (z:Value) (size bytes:Nat) (ht:P.underlying t=some (.slice e))
  (hinfo:(P.info? e).map (fun i=>(i.zero,i.size,i.bytes))=some (some z,size,bytes)) (hzs:z.cells.size=size) (hsz:0<size)
  (A:Option Addr) (n c:Nat) (xs:List Value) (hown:Own w base e size A n c xs)
  (B:Option Addr) (m d:Nat) (news:List Value) (hl:news.length=m * size) (hr:RowV w B news) (h1:∀ u∈news,u.oneCell'=true)
  (h63:n+m≤maxLen) (hbytes:(n+m) * bytes≤140737488355328) (hbase:base≤w.heap.size) :
  ∃ A' c' w',(Builtin.append_ #[t,t] ty #[.slice A n c,.slice B m d]).run P w=.ok (.slice A' (n+m) c') w'∧Own w' base e size A' (n+m) c' (xs++news)∧w.grownBy w' (ablk A) ∧
   (ablk A'=ablk A∨ablk A'=some w.heap.size):=by
 obtain ⟨i,hi,hz,hs,hb⟩:=info_parts hinfo
 rcases Nat.eq_zero_or_pos m with h0 | h0
 ·subst h0
  have hn:news=[]:=List.eq_nil_of_length_eq_zero (by simpa using hl)
  subst hn
  rcases B with _ | ad
  ·exact ⟨A,c,w,run_app_nil w base t ty e i size ht hi _ n xs hown d,by simpa using hown,grown_refl w _,.inl rfl⟩
  ·obtain ⟨v',w',hrun,h2,h3,_,h5⟩:=run_append_own_at (P:=P) w base t ty e i z size bytes ht hi hz hs hb hzs hsz _ n xs hown ad 0 d [] (by simp) (by simp) (by simp) h63 hbytes hbase
   obtain ⟨A',c',rfl⟩:=own_shape h2
   rw [ownBlock_ablk] at h3 h5
   rw [ownBlock_ablk] at h5
   exact ⟨A',c',w',hrun,h2,h3,h5⟩
 ·have hpos:0<news.length:=by rw [hl]; exact Nat.mul_pos h0 hsz
  obtain ⟨u0,hu0⟩:∃ u,news[0]?=some u:=⟨news[0],List.getElem?_eq_getElem hpos⟩
  obtain ⟨b,o,rfl,_⟩:=hr 0 u0 hu0
  have hcells:∀ j u,news[j]?=some u→w.cell? ((⟨b,o,none⟩:Addr).add j)=some u:=by
   intro j u hu
   obtain ⟨b',o',he,hc⟩:=hr j u hu
   injection he with he
   injection he with he1 he2
   subst he1; subst he2
   unfold Addr.add
   split
   ·rename_i hj; subst hj; simpa using hc
   ·simpa using hc
  obtain ⟨v',w',hrun,h2,h3,_,h5⟩:=run_append_own_at (P:=P) w base t ty e i z size bytes ht hi hz hs hb hzs hsz _ n xs hown ⟨b,o,none⟩ m d news hl hcells h1 h63 hbytes hbase
  obtain ⟨A',c',rfl⟩:=own_shape h2
  rw [ownBlock_ablk] at h3 h5
  rw [ownBlock_ablk] at h5
  exact ⟨A',c',w',hrun,h2,h3,h5⟩
end append
theorem get_some {α:Type} (l:List α) {k:Nat} (h:k<l.length):∃ x,l[k]?=some x:=⟨l[k],List.getElem?_eq_getElem h⟩
theorem take_snoc {α:Type} {l:List α} {k:Nat} {x:α} (h:l[k]?=some x):l.take (k+1)=l.take k++[x]:=by
 rw [List.take_add_one,h]; rfl
theorem mem_of_get {α:Type} {l:List α} {k:Nat} {x:α} (h:l[k]?=some x):x∈l:=List.mem_of_getElem? h
def Within (lo hi:Int) (l:List Int):Prop:=∀ x∈l,lo≤x∧x≤hi
theorem Within.take {lo hi:Int} {l:List Int} (h:Within lo hi l) (k:Nat):Within lo hi (l.take k):=fun x hx=>h x (List.mem_of_mem_take hx)
theorem Within.get {lo hi:Int} {l:List Int} (h:Within lo hi l) {k:Nat} {x:Int} (hk:l[k]?=some x):lo≤x∧x≤hi:=h x (mem_of_get hk)
def outB (x lo hi:Int):Bool:=decide (x<lo∨hi<x)
def firstBad {α:Type} (f:α→Int):List α→Int
 | []=>0
 | x::l=>if f x=0 then firstBad f l else f x
theorem firstBad_append {α:Type} (f:α→Int) (l m:List α) (h:firstBad f l=0):firstBad f (l++m)=firstBad f m:=by
 induction l with
 | nil=>rfl
 | cons a l ih =>
  simp only [firstBad] at h
  split at h
  ·rename_i h0
   simp only [List.cons_append,firstBad,h0,if_true]
   exact ih h
  ·contradiction
theorem firstBad_hit {α:Type} {f:α→Int} {l:List α} {k:Nat} {x:α} (hx:l[k]?=some x) (h:firstBad f (l.take k)=0) (hf:f x≠0):firstBad f l=f x:=by
 have hk:k<l.length:=(List.getElem?_eq_some_iff.1 hx).1
 have e:l=l.take k++x::l.drop (k+1):=by
  rw [(List.getElem?_eq_some_iff.1 hx).2.symm,← List.drop_eq_getElem_cons hk,List.take_append_drop]
 rw [e,firstBad_append f _ _ h]
 simp [firstBad,hf]
theorem firstBad_step {α:Type} {f:α→Int} {l:List α} {k:Nat} {x:α} (hx:l[k]?=some x) (h:firstBad f (l.take k)=0) (hf:f x=0):firstBad f (l.take (k+1))=0:=by
 rw [take_snoc hx,firstBad_append f _ _ h]
 simp [firstBad,hf]
theorem firstBad_all {α:Type} {f:α→Int} {l:List α} (h:firstBad f l=0):∀ x∈l,f x=0:=by
 induction l with
 | nil=>intro x hx; cases hx
 | cons a l ih =>
  simp only [firstBad] at h
  split at h
  ·rename_i h0
   intro x hx
   rcases List.mem_cons.1 hx with rfl | hx
   ·exact h0
   ·exact ih h x hx
  ·contradiction
theorem getRangeD (n k:Nat) (h:k<n):(List.range n)[k]?=some k:=by rw [List.getElem?_range h]
theorem beq_nil {α:Type} [BEq α] [LawfulBEq α] (r:List α):(r==[])=decide (r=[]):=by cases r <;> simp
theorem rangeFB {f:Nat→Int} {n k:Nat} (hk:k<n) (h:firstBad f ((List.range n).take k)=0):(f k≠0→firstBad f (List.range n)=f k)∧(f k=0→firstBad f ((List.range n).take (k+1))=0) :=
 ⟨fun h2=>firstBad_hit (getRangeD n k hk) h h2,fun h2=>firstBad_step (getRangeD n k hk) h h2⟩
theorem rowsFB {α:Type} {d:α} {f:α→Int} {l:List α} {k:Nat} (hk:k<l.length) (h:firstBad f (l.take k)=0):(f (l.getD k d)≠0→firstBad f l=f (l.getD k d))∧(f (l.getD k d)=0→firstBad f (l.take (k+1))=0):=by
 have hx:l[k]?=some (l.getD k d):=by rw [List.getD_eq_getElem?_getD,List.getElem?_eq_getElem hk]; rfl
 exact ⟨fun h2=>firstBad_hit hx h h2,fun h2=>firstBad_step hx h h2⟩
theorem getD_appU (l:List UInt8) (c:UInt8) {n:Nat} (hn:l.length=n):(fun i=>if i<n then (((l.getD i 0).toNat:Nat):Int) else [((c.toNat:Nat):Int)].getD (i - n) 0)=fun i=>((((l++[c]).getD i 0).toNat:Nat):Int):=by
 subst hn
 funext i
 simp only [List.getD_eq_getElem?_getD,List.getElem?_append]
 split
 ·rfl
 ·rename_i h
  cases hk:i - l.length with
  | zero=>rfl
  | succ k=>rfl
theorem bytes_list {l:List UInt8} {n:Nat} (h:l.length=n):(List.range n).map (fun i=>UInt8.ofNat (l.getD i 0).toNat)=l:=by
 subst h
 apply List.ext_getElem
 ·simp
 ·intro i h1 h2
  simp [List.getElem?_eq_getElem h2]
inductive Col where
 | i (k:IntKind) (g:Nat→Int)
 | b (g:Nat→Bool)
 | s (g:Nat→List UInt8)
 | l (nl:Nat→Bool) (len:Nat→Nat) (cols:Nat→List Col)
 | o (id len:Nat→Nat)
 | q (id:Nat→Nat)
def Col.noO:Col→Bool
 | .o _ _=>false
 | .q _=>false
 | _=>true
def noOs:List Col→Bool
 | []=>true
 | .i _ _::cs=>noOs cs
 | .b _::cs=>noOs cs
 | .s _::cs=>noOs cs
 | .l _ _ _::cs=>noOs cs
 | .o _ _::_=>false
 | .q _::_=>false
inductive MK where
 | i (n:Int)
 | s (b:List UInt8)
 | p (a b:Int)
 | q (a b:List UInt8)
deriving DecidableEq
inductive KT where
 | i (k:IntKind)
 | s
 | p
 | q
deriving DecidableEq
inductive MCol where
 | i (k:IntKind) (g:MK→Int)
 | b (g:MK→Bool)
 | s (g:MK→List UInt8)
 | l (nl:MK→Bool) (len:MK→Nat) (cols:MK→List Col)
def MCol.noL:MCol→Bool
 | .l _ _ _=>false
 | _=>true
inductive PV where
 | int (k:IntKind) (n:Int)
 | bool (b:Bool)
 | str (s:List UInt8)
 | lit (nl:Bool) (n:Nat) (cols:List Col)
 | ptr (id off:Nat)
 | nilp
 | nili
 | elp (cols:List Col) (i:Nat)
 | arp (id i j:Nat)
 | arv (id:Nat)
 | sl (id off len:Nat)
 | agg (ps:List PV)
 | tup (ps:List PV)
 | fn (f:Nat) (cap:List PV)
 | mp (id:Nat)
 | stp (sid:Nat)
 | any
inductive ABlk where
 | box (T:Nat) (cs:List PV)
 | arr (T:Nat) (n:Nat) (cols:List Col)
 | map (kk:KT) (dom:MK→Bool) (c:MCol)
 | mape (kk:KT) (dom:MK→Bool) (c:MCol) (q:MK) (sid:Nat)
 | sit (s:List UInt8) (pos:Nat)
abbrev Heap:=List (Nat × Option ABlk)
def getH:Heap→Nat→Option ABlk
 | [],_=>none
 | (i,b)::H,j=>bif (i==j) then b else getH H j
abbrev Slots:=List (Nat × PV)
def getS:Slots→Nat→PV
 | [],_=>.any
 | (i,p)::s,j=>bif (i==j) then p else getS s j
inductive AX where
 | t (n:Nat)
 | c (p:PV)
def AX.val (s:Slots):AX→PV
 | .t n=>getS s n
 | .c p=>p
def colPV:Col→Nat→PV
 | .i k g,i=>.int k (g i)
 | .b g,i=>.bool (g i)
 | .s g,i=>.str (g i)
 | .l nl len cols,i=>.lit (nl i) (len i) (cols i)
 | .o id len,i=>.sl (id i) 0 (len i)
 | .q id,i=>.ptr (id i) 0
def Col.shift (o:Nat):Col→Col
 | .i k g=>.i k (fun i=>g (o+i))
 | .b g=>.b (fun i=>g (o+i))
 | .s g=>.s (fun i=>g (o+i))
 | .l nl len cols=>.l (fun i=>nl (o+i)) (fun i=>len (o+i)) (fun i=>cols (o+i))
 | .o id len=>.o (fun i=>id (o+i)) (fun i=>len (o+i))
 | .q id=>.q (fun i=>id (o+i))
def Col.const:Col→Col
 | .i k g=>.i k (fun _=>g 0)
 | .b g=>.b (fun _=>g 0)
 | .s g=>.s (fun _=>g 0)
 | .l a g c=>.l (fun _=>a 0) (fun _=>g 0) (fun _=>c 0)
 | .o id len=>.o (fun _=>id 0) (fun _=>len 0)
 | .q id=>.q (fun _=>id 0)
def Col.app (n:Nat):Col→Col→Option Col
 | .i k g,.i k' h=>if k=k' then some (.i k (fun i=>if i<n then g i else h (i - n))) else none
 | .b g,.b h=>some (.b (fun i=>if i<n then g i else h (i - n)))
 | .s g,.s h=>some (.s (fun i=>if i<n then g i else h (i - n)))
 | .l a g c,.l a' g' c'=>some (.l (fun i=>if i<n then a i else a' (i - n)) (fun i=>if i<n then g i else g' (i - n)) (fun i=>if i<n then c i else c' (i - n)))
 | .o a g,.o a' g'=>some (.o (fun i=>if i<n then a i else a' (i - n)) (fun i=>if i<n then g i else g' (i - n)))
 | .q a,.q a'=>some (.q (fun i=>if i<n then a i else a' (i - n)))
 | _,_=>none
def colsApp (n:Nat):List Col→List Col→Option (List Col)
 | [],[]=>some []
 | c::cs,d::ds=>match c.app n d,colsApp n cs ds with
  | some e,some es=>some (e::es)
  | _,_=>none
 | _,_=>none
def Col.put (i:Nat):Col→PV→Option Col
 | .i k g,.int k' x=>if k=k' then some (.i k (fun j=>if j=i then x else g j)) else none
 | .b g,.bool x=>some (.b (fun j=>if j=i then x else g j))
 | .s g,.str x=>some (.s (fun j=>if j=i then x else g j))
 | .l a g c,.lit nl n cs=>some (.l (fun j=>if j=i then nl else a j) (fun j=>if j=i then n else g j) (fun j=>if j=i then cs else c j))
 | .o a g,.sl id off n=>if off=0 then some (.o (fun j=>if j=i then id else a j) (fun j=>if j=i then n else g j)) else none
 | .q a,.ptr id off=>if off=0 then some (.q (fun j=>if j=i then id else a j)) else none
 | _,_=>none
def colsPut (i:Nat):List Col→Nat→List PV→Option (List Col)
 | cs,_,[]=>some cs
 | c::cs,0,p::ps=>match c.put i p,colsPut i cs 0 ps with
  | some d,some ds=>some (d::ds)
  | _,_=>none
 | c::cs,j+1,ps=>match colsPut i cs j ps with
  | some ds=>some (c::ds)
  | none=>none
 | [],_,_::_=>none
def colInts (k:IntKind):List PV→Option (List Int)
 | []=>some []
 | .int k' x::ps=>if k'=k then (match colInts k ps with | some xs=>some (x::xs) | none=>none) else none
 | _=>none
def colBools:List PV→Option (List Bool)
 | []=>some []
 | .bool x::ps=>(match colBools ps with | some xs=>some (x::xs) | none=>none)
 | _=>none
def colStrs:List PV→Option (List (List UInt8))
 | []=>some []
 | .str x::ps=>(match colStrs ps with | some xs=>some (x::xs) | none=>none)
 | _=>none
def colLits:List PV→Option (List (Bool × Nat × List Col))
 | []=>some []
 | .lit nl n cs::ps=>(match colLits ps with | some xs=>some ((nl,n,cs)::xs) | none=>none)
 | _=>none
def colSls:List PV→Option (List (Nat × Nat))
 | []=>some []
 | .sl id off n::ps=>if off=0 then (match colSls ps with | some xs=>some ((id,n)::xs) | none=>none) else none
 | _=>none
def colPtrs:List PV→Option (List Nat)
 | []=>some []
 | .ptr id off::ps=>if off=0 then (match colPtrs ps with | some xs=>some (id::xs) | none=>none) else none
 | _=>none
def mkCol:List PV→Option Col
 | .int k x::ps=>(match colInts k (.int k x::ps) with | some xs=>some (.i k (fun i=>xs.getD i 0)) | none=>none)
 | .bool x::ps=>(match colBools (.bool x::ps) with | some xs=>some (.b (fun i=>xs.getD i false)) | none=>none)
 | .str x::ps=>(match colStrs (.str x::ps) with | some xs=>some (.s (fun i=>xs.getD i [])) | none=>none)
 | .lit nl n cs::ps=>(match colLits (.lit nl n cs::ps) with
  | some xs=>some (.l (fun i=>(xs.getD i (true,0,[])).1) (fun i=>(xs.getD i (true,0,[])).2.1) (fun i=>(xs.getD i (true,0,[])).2.2))
  | none=>none)
 | .sl id off n::ps=>(match colSls (.sl id off n::ps) with
  | some xs=>some (.o (fun i=>(xs.getD i (0,0)).1) (fun i=>(xs.getD i (0,0)).2))
  | none=>none)
 | .ptr id off::ps=>(match colPtrs (.ptr id off::ps) with
  | some xs=>some (.q (fun i=>xs.getD i 0))
  | none=>none)
 | _=>none
def mkCols:List PV→List (List PV)→Option (List Col)
 | [],_=>some []
 | z::zs,rows =>
  match (match rows with
   | []=>mkCol [z]
   | _=>mkCol (rows.map fun r=>r.headD .any)),mkCols zs (rows.map fun r=>r.tail) with
  | some c,some cs=>some (c::cs)
  | _,_=>none
def Col.paste (o m:Nat):Col→Col→Option Col
 | .i k g,.i k' h=>if k=k' then some (.i k (fun j=>if o≤j∧j<o+m then h (j - o) else g j)) else none
 | .b g,.b h=>some (.b (fun j=>if o≤j∧j<o+m then h (j - o) else g j))
 | .s g,.s h=>some (.s (fun j=>if o≤j∧j<o+m then h (j - o) else g j))
 | .l a g c,.l a' g' c'=>some (.l (fun j=>if o≤j∧j<o+m then a' (j - o) else a j) (fun j=>if o≤j∧j<o+m then g' (j - o) else g j) (fun j=>if o≤j∧j<o+m then c' (j - o) else c j))
 | .o a g,.o a' g'=>some (.o (fun j=>if o≤j∧j<o+m then a' (j - o) else a j) (fun j=>if o≤j∧j<o+m then g' (j - o) else g j))
 | .q a,.q a'=>some (.q (fun j=>if o≤j∧j<o+m then a' (j - o) else a j))
 | _,_=>none
def colsPaste (o m:Nat):List Col→List Col→Option (List Col)
 | [],[]=>some []
 | c::cs,d::ds=>match c.paste o m d,colsPaste o m cs ds with
  | some e,some es=>some (e::es)
  | _,_=>none
 | _,_=>none
inductive AOp where
 | mv (x:AX)
 | pick (c a b:AX)
 | box (T:Nat) (x:AX)
 | alloc (T:Nat) (zero:List PV)
 | build (zero:List PV) (parts:List (Nat × Nat × AX))
 | bslice (T sz n:Nat) (zero:List PV) (parts:List (Nat × Nat × AX))
 | bslit (sz n:Nat) (zero:List PV) (parts:List (Nat × Nat × AX))
 | bnil (T Tin sz n:Nat) (zero zin:List PV) (parts:List (Nat × Nat × AX))
 | allocb (T n:Nat)
 | aadrb (n:Nat) (x i:AX)
 | slcb (n:Nat) (x:AX) (lo hi:Option AX)
 | load (s:Option Nat) (x:AX)
 | store (s:Nat) (x v:AX)
 | fadr (off:Nat) (x:AX)
 | fld (off:Nat) (s:Option Nat) (x:AX)
 | iadr (sz:Nat) (x i:AX)
 | idxs (x i:AX)
 | bin (ty:Nat) (op:BinOp) (x y:AX)
 | un (op:UnOp) (x:AX)
 | len (str:Bool) (x:AX)
 | app (T sz bytes:Nat) (x y:AX)
 | appin (sz:Nat) (x y:AX)
 | clr (z:List PV) (x:AX)
 | cpy (sz:Nat) (x y:AX)
 | bad
 | ext (x:AX) (i:Nat)
 | slc (sz:Nat) (x:AX) (lo hi:Option AX)
 | slc3 (sz:Nat) (x:AX) (lo hi:Option AX) (mx:AX)
 | sls (x:AX) (lo hi:Option AX)
 | conv (k:IntKind) (x:AX)
 | nilchk (x:AX)
 | mks (T sz bytes:Nat) (zero:List PV) (n:AX)
 | mkfn (f:Nat) (caps:List AX)
 | mm (mx:Bool) (x:AX) (ys:List AX)
 | eqs (neg:Bool) (ks:List Nat) (x y:AX)
 | mmk (kk:KT) (z:PV)
 | mlk (ok:Bool) (kk:KT) (z:PV) (x k:AX)
 | mup (kk:KT) (x k v:AX)
 | mlen (x:AX)
 | s2b (x:AX)
 | s2bo (x:AX)
 | b2s (x:AX)
 | i2s (x:AX)
 | aadr (n sz:Nat) (x i:AX)
 | aidx (n sz:Nat) (s:Option Nat) (x i:AX)
 | call (f:Nat) (args:List AX)
 | callv (x:AX) (args:List AX)
 | callx (name:Nat) (args:List AX)
 | unk
 | ment (kk:KT) (z:PV) (x k:AX)
 | mest (x s v:AX)
 | srg (x:AX)
 | snx (x:AX)
structure AIn where
 dst:Option Nat
 guard:Option (Nat × Bool)
 op:AOp
inductive ACode where
 | skip
 | ops (l:List AIn)
 | any (l:List (AIn × List Nat))
 | seq (a b:ACode)
 | cond (x:AX) (a b:ACode)
 | block (id:Nat) (c:ACode)
 | loop (c:ACode)
 | exit (id:Nat)
 | ret
structure ST where
 slots:Slots
 heap:Heap
 next:Nat
 base:Nat
def PV.cells:PV→Option (List PV)
 | .agg ps=>some ps
 | .tup _=>none
 | .any=>none
 | p=>some [p]
def splice {α:Type} (cs:List α):Nat→List α→List α
 | _,[]=>cs
 | o,p::ps=>splice (cs.set o p) (o+1) ps
def fillP (ρ:AX→PV) (cs:List PV):List (Nat × Nat × AX)→Option (List PV)
 | []=>some cs
 | (o,n,x)::r=>match (ρ x).cells with
  | some ps=>bif (ps.length==n) && decide ((o+n)≤cs.length) then fillP ρ (splice cs o ps) r else none
  | none=>none
def chunk (sz:Nat):Nat→List PV→List (List PV)
 | 0,_=>[]
 | n+1,cs=>cs.take sz::chunk sz n (cs.drop sz)
def repl (n:Nat) (z:List PV):List PV:=(List.replicate n z).flatten
def inI64 (n:Int):Prop := -9223372036854775808≤n∧n≤9223372036854775807
def mix (b:Bool):PV→PV→PV
 | .bool x,.bool y=>.bool (bif b then x else y)
 | .int k x,.int k' y=>if k=k' then .int k (bif b then x else y) else (bif b then .int k x else .int k' y)
 | .str x,.str y=>.str (bif b then x else y)
 | p,q=>bif b then p else q
abbrev Step:=Option (Prop × PV × Heap)
def res (p:PV):Step:=some (True,p,[])
def eqB (op:BinOp) (b:Bool):Step:=match op with
 | .eql=>res (.bool b)
 | .neq=>res (.bool (!b))
 | _=>none
def stepBin (ty:Nat) (op:BinOp) (p q:PV):Step :=
 match p,q with
 | .int k a,.int k' b =>
  match op with
  | .shl=>some (0≤b,.int k (k.wrap (a * 2 ^ (min b.toNat k.bits))),[])
  | .shr=>some (0≤b,.int k (a.fdiv (2 ^ (min b.toNat k.bits))),[])
  | _=>if k≠k' then none else
   match op with
   | .add=>if k=.i64 then some (inI64 (a+b),.int .i64 (a+b),[]) else res (.int k (k.wrap (a+b)))
   | .sub=>if k=.i64 then some (inI64 (a - b),.int .i64 (a - b),[]) else res (.int k (k.wrap (a - b)))
   | .mul=>if k=.i64 then some (inI64 (a * b),.int .i64 (a * b),[]) else res (.int k (k.wrap (a * b)))
   | .quo=>some (b≠0,.int k (k.wrap (a.tdiv b)),[])
   | .rem=>some (b≠0,.int k (a.tmod b),[])
   | .and=>res (.int k (k.wrap (BitVec.ofInt k.bits a &&& BitVec.ofInt k.bits b).toNat))
   | .or=>res (.int k (k.wrap (BitVec.ofInt k.bits a ||| BitVec.ofInt k.bits b).toNat))
   | .xor=>res (.int k (k.wrap (BitVec.ofInt k.bits a ^^^ BitVec.ofInt k.bits b).toNat))
   | .andNot=>res (.int k (k.wrap (BitVec.ofInt k.bits a &&& ~~~ BitVec.ofInt k.bits b).toNat))
   | .eql=>res (.bool (a==b))
   | .neq=>res (.bool (a != b))
   | .lss=>res (.bool (decide (a<b)))
   | .leq=>res (.bool (decide (a≤b)))
   | .gtr=>res (.bool (decide (b<a)))
   | .geq=>res (.bool (decide (b≤a)))
   | _=>none
 | .str a,.str b =>
  match op with
  | .add=>some (((a.length+b.length:Nat):Int)≤9223372036854775807,.str (a++b),[])
  | .eql=>res (.bool (a==b))
  | .neq=>res (.bool (!(a==b)))
  | .lss=>res (.bool (Op.bytesLess a b))
  | .leq=>res (.bool (Op.bytesLess a b || a==b))
  | .gtr=>res (.bool (!(Op.bytesLess a b || a==b)))
  | .geq=>res (.bool (!(Op.bytesLess a b)))
  | _=>none
 | .bool a,.bool b =>
  bif ty==2 then (match op with
  | .eql=>res (.bool (a==b))
  | .neq=>res (.bool (!(a==b)))
  | _=>none) else none
 | .lit nl n _,.lit nl' n' _=>bif ty==3 then bif (n'==0) && nl' then (match op with
  | .eql=>res (.bool nl)
  | .neq=>res (.bool (!nl))
  | _=>none) else bif (n==0) && nl then (match op with
  | .eql=>res (.bool nl')
  | .neq=>res (.bool (!nl'))
  | _=>none) else none else none
 | .sl _ _ n,.lit nl' n' _=>bif (ty==3) && ((n'==0) && nl') then (match op with
  | .eql=>some (0<n,.bool false,[])
  | .neq=>some (0<n,.bool true,[])
  | _=>none) else none
 | .nilp,.nilp=>bif ty==4 then eqB op true else none
 | .ptr _ _,.nilp=>bif ty==4 then eqB op false else none
 | .arp _ _ _,.nilp=>bif ty==4 then eqB op false else none
 | .nili,.nili=>bif ty==5 then eqB op true else none
 | _,_=>none
def stepIdx (n:Nat) (i:Int):Prop:=0≤i∧i<n
def optInt (ρ:AX→PV):Option AX→Option (Option Int)
 | none=>some none
 | some x=>match ρ x with
  | .int _ n=>some (some n)
  | _=>none
def mmFold (mx:Bool) (k:IntKind):Int→List PV→Option Int
 | n,[]=>some n
 | n,.int k' y::r=>if k=k' then mmFold mx k (bif mx then max n y else min n y) r else none
 | _,_=>none
def eqK:List Nat→List PV→List PV→Option Bool
 | [],[],[]=>some true
 | 0::ks,.int k a::ps,.int k' b::qs=>if k=k' then (match eqK ks ps qs with
  | some r=>some ((a==b) && r)
  | none=>none) else none
 | 1::ks,.str a::ps,.str b::qs=>(match eqK ks ps qs with
  | some r=>some ((a==b) && r)
  | none=>none)
 | 2::ks,.bool a::ps,.bool b::qs=>(match eqK ks ps qs with
  | some r=>some ((a==b) && r)
  | none=>none)
 | _,_,_=>none
def tailOf (H:Heap):PV→Option (Nat × List Col)
 | .lit _ m cols=>some (m,cols)
 | .sl id off m=>match getH H id with
  | some (.arr _ _ cols)=>some (m,bif (off==0) then cols else cols.map (Col.shift off))
  | _=>none
 | _=>none
def keyIn:MK→Prop
 | .i _=>True
 | .s _=>True
 | .p a b=>inI64 a∧inI64 b
 | .q a b=>a.length≤140737488355328∧b.length≤140737488355328
instance (n:Int):Decidable (inI64 n):=inferInstanceAs (Decidable (_∧_))
def keyG:KT→MK→Bool
 | .i _,.i _=>true
 | .s,.s _=>true
 | .p,.p a b=>decide (inI64 a∧inI64 b)
 | .q,.q a b=>decide (a.length≤140737488355328∧b.length≤140737488355328)
 | _,_=>false
def Listed (kk:KT) (dom:MK→Bool) (L:List MK):Prop:=L.Nodup∧∀ q,q∈L↔(keyG kk q=true∧dom q=true)
noncomputable def cardD (kk:KT) (dom:MK→Bool):Nat:=by
 classical
 exact if h:∃ L,Listed kk dom L then h.choose.length else 0
theorem cardD_of {kk:KT} {dom:MK→Bool} {L:List MK} (h:Listed kk dom L):cardD kk dom=L.length:=by
 unfold cardD
 have hex:∃ L,Listed kk dom L:=⟨L,h⟩
 rw [dif_pos hex]
 have h2:=hex.choose_spec
 exact (((List.perm_ext_iff_of_nodup h2.1 h.1).2 fun q=>(h2.2 q).trans (h.2 q).symm)).length_eq
def mkKey:KT→PV→Option MK
 | .i k,.int k' n=>if k=k' then some (.i n) else none
 | .s,.str s=>some (.s s)
 | .p,.agg [.int .i64 a,.int .i64 b]=>some (.p a b)
 | .q,.agg [.str a,.str b]=>some (.q a b)
 | _,_=>none
def mNew:PV→Option MCol
 | .int k n=>some (.i k fun _=>n)
 | .bool b=>some (.b fun _=>b)
 | .str s=>some (.s fun _=>s)
 | _=>none
def mGet (t:Bool) (q:MK):MCol→PV→Option PV
 | .i k g,.int k' z=>if k=k' then some (.int k (bif t then g q else z)) else none
 | .b g,.bool z=>some (.bool (bif t then g q else z))
 | .s g,.str z=>some (.str (bif t then g q else z))
 | .l nl len cols,.lit true 0 _=>some (.lit (bif t then nl q else true) (bif t then len q else 0) (cols q))
 | _,_=>none
def z0:PV→Bool
 | .int _ n=>n==0
 | .bool b=>!b
 | .str s=>s.isEmpty
 | _=>false
def mPut (q:MK):MCol→PV→Option MCol
 | .i k g,.int k' x=>if k=k' then some (.i k fun p=>if p=q then x else g p) else none
 | .b g,.bool x=>some (.b fun p=>if p=q then x else g p)
 | .s g,.str x=>some (.s fun p=>if p=q then x else g p)
 | _,_=>none
noncomputable def step (ρ:AX→PV) (H:Heap) (nid:Nat):AOp→Step
 | .mv x=>res (ρ x)
 | .pick c a b=>match ρ c with
  | .bool t=>res (mix t (ρ a) (ρ b))
  | _=>none
 | .box T x=>match (ρ x).cells with
  | some cs=>some (True,.ptr nid 0,[(nid,some (.box T cs))])
  | none=>none
 | .alloc T zero=>some (True,.ptr nid 0,[(nid,some (.box T zero))])
 | .build zero parts=>match fillP ρ zero parts with
  | some cs=>res (.agg cs)
  | none=>none
 | .bslice T sz n zero parts=>match fillP ρ (repl n zero) parts with
  | some cs=>match mkCols zero (chunk sz n cs) with
   | some cols=>some (True,.sl nid 0 n,[(nid,some (.arr T n cols))])
   | none=>none
  | none=>none
 | .bslit sz n zero parts=>match fillP ρ (repl n zero) parts with
  | some cs=>match mkCols zero (chunk sz n cs) with
   | some cols=>bif noOs cols then res (.lit false n cols) else none
   | none=>none
  | none=>none
 | .bnil T Tin _ n zero zin parts=>match fillP ρ (repl n zero) parts with
  | some [.lit true 0 _]=>match mkCols zin [] with
   | some cols=>bif (n==1) && noOs cols then some (True,.sl nid 0 1,[(nid,some (.arr T 1 [.o (fun _=>nid+1) (fun _=>0)])),(nid+1,some (.arr Tin 0 cols))]) else none
   | none=>none
  | _=>none
 | .allocb T n=>some (True,.arv nid,[(nid,some (.arr T n [.i .u8 fun _=>0]))])
 | .aadrb n x i=>match ρ x,ρ i with
  | .arv id,.int _ k=>match getH H id with
   | some (.arr _ m cols)=>bif (m==n) && (cols.length==1) then some (0≤k∧k<n,.arp id k.toNat 0,[]) else none
   | _=>none
  | _,_=>none
 | .slcb n x lo hi=>match optInt ρ lo,optInt ρ hi with
  | some lo,some hi=>match ρ x with
   | .arv id=>match getH H id with
    | some (.arr _ m cols)=>bif (m==n) && (cols.length==1) then (match lo,hi with
     | none,none=>some (0<n,.sl id 0 n,[])
     | none,some h=>some (0≤h∧h≤n,.sl id 0 h.toNat,[])
     | some l,none=>some (0≤l∧l≤n,.sl id l.toNat (n - l.toNat),[])
     | some l,some h=>some (0≤l∧l≤h∧h≤n,.sl id l.toNat (h.toNat - l.toNat),[])) else none
    | _=>none
   | _=>none
  | _,_=>none
 | .load s x=>match ρ x with
  | .ptr id off=>match getH H id with
   | some (.box _ cs)=>match s with
    | none=>match cs.drop off with
     | p::_=>res p
     | []=>none
    | some s=>bif decide ((off+s)≤cs.length) then res (.agg ((cs.drop off).take s)) else none
   | _=>none
  | .elp cols i=>match s with
   | none=>match cols with
    | c::_=>res (colPV c i)
    | []=>none
   | some s=>bif decide (s≤cols.length) then res (.agg ((cols.take s).map (colPV · i))) else none
  | .arp id i j=>match getH H id with
   | some (.arr _ _ cols)=>match s with
    | none=>match cols.drop j with
     | c::_=>res (colPV c i)
     | []=>none
    | some s=>bif decide ((j+s)≤cols.length) then res (.agg (((cols.drop j).take s).map (colPV · i))) else none
   | _=>none
  | _=>none
 | .store s x v=>match (ρ v).cells with
  | some ps=>bif (ps.length==s) then (match ρ x with
   | .ptr id off=>match getH H id with
    | some (.box T cs)=>bif decide ((off+s)≤cs.length) then some (True,.any,[(id,some (.box T (splice cs off ps)))]) else none
    | _=>none
   | .arp id i j=>match getH H id with
    | some (.arr T n cols)=>match colsPut i cols j ps with
     | some cols'=>some (True,.any,[(id,some (.arr T n cols'))])
     | none=>none
    | _=>none
   | _=>none) else none
  | none=>none
 | .fadr o x=>match ρ x with
  | .ptr id off=>res (.ptr id (off+o))
  | .elp cols i=>res (.elp (cols.drop o) i)
  | .arp id i j=>res (.arp id i (j+o))
  | _=>none
 | .fld o s x=>match ρ x with
  | .agg ps=>match s with
   | none=>match ps.drop o with
    | p::_=>res p
    | []=>none
   | some s=>bif decide ((o+s)≤ps.length) then res (.agg ((ps.drop o).take s)) else none
  | _=>none
 | .iadr sz x i=>match ρ x,ρ i with
  | .lit _ n cols,.int _ k=>bif (cols.length==sz) then some (stepIdx n k,.elp cols k.toNat,[]) else none
  | .sl id off n,.int _ k=>match getH H id with
   | some (.arr _ _ cols)=>bif (cols.length==sz) then some (stepIdx n k,.arp id (off+k.toNat) 0,[]) else none
   | _=>none
  | _,_=>none
 | .idxs x i=>match ρ x,ρ i with
  | .str s,.int _ k=>some (stepIdx s.length k,.int .u8 ((s.getD k.toNat 0).toNat:Nat),[])
  | _,_=>none
 | .bin ty op x y=>stepBin ty op (ρ x) (ρ y)
 | .un op x=>match op,ρ x with
  | .not,.bool b=>res (.bool (!b))
  | .neg,.int k n=>if k=.i64 then some (inI64 (0 - n),.int .i64 (0 - n),[]) else res (.int k (k.wrap (0 - n)))
  | _,_=>none
 | .len str x=>match ρ x with
  | .str s=>bif str then res (.int .i64 (s.length:Nat)) else none
  | .lit _ n _=>bif str then none else res (.int .i64 (n:Nat))
  | .sl _ _ n=>bif str then none else res (.int .i64 (n:Nat))
  | _=>none
 | .app T sz bytes x y =>
  match tailOf H (ρ y) with
  | none=>none
  | some (m,new)=>bif (new.length==sz) then (match ρ x with
   | .lit nl n _=>bif nl && (n==0) then some (m≤140737488355328∧m * bytes≤140737488355328,.sl nid 0 m,[(nid,some (.arr T m new))]) else none
   | .sl id off n=>match getH H id with
    | some (.arr T0 k cols)=>bif (off==0) && (T0==T) then (match colsApp n cols new with
     | some all=>some (n+m≤140737488355328∧(n+m) * bytes≤140737488355328,.sl nid 0 (n+m),[(id,none),(nid,some (.arr T (n+m) all))])
     | none=>none) else (bif (T0==T) then (match colsApp n (cols.map (Col.shift off)) new with
     | some all=>some (0<m∧off+n=k∧n+m≤140737488355328∧(n+m) * bytes≤140737488355328,.sl nid 0 (n+m),[(id,none),(nid,some (.arr T (n+m) all))])
     | none=>none) else none)
    | _=>none
   | _=>none) else none
 | .appin sz x y=>match tailOf H (ρ y) with
  | none=>none
  | some (m,new)=>bif (new.length==sz) then (match ρ x with
   | .sl id off n=>match getH H id with
    | some (.arr T k cols)=>match colsPaste (off+n) m cols new with
     | some all=>some (off<k∧off+n+m≤k,.sl id off (n+m),[(id,some (.arr T k all))])
     | none=>none
    | _=>none
   | _=>none) else none
 | .bad=>none
 | .cpy sz x y=>match tailOf H (ρ y) with
  | none=>none
  | some (m,new)=>bif (new.length==sz) then (match ρ x with
   | .sl id off n=>match getH H id with
    | some (.arr T k cols)=>match colsPaste off (min m n) cols new with
     | some all=>some (off<k,.int .i64 (min m n:Nat),[(id,some (.arr T k all))])
     | none=>none
    | _=>none
   | _=>none) else none
 | .clr z x=>match ρ x with
  | .sl id off n=>match getH H id with
   | some (.arr T k cols)=>match mkCols z [] with
    | some zs=>match colsPaste off n cols (zs.map Col.const) with
     | some all=>some (0<n,.any,[(id,some (.arr T k all))])
     | none=>none
    | none=>none
   | _=>none
  | _=>none
 | .ext x i=>match ρ x with
  | .tup ps=>match ps.drop i with
   | p::_=>res p
   | []=>none
  | _=>none
 | .slc sz x lo hi=>match optInt ρ lo,optInt ρ hi with
  | some lo,some hi=>match ρ x with
   | .lit nl n cols=>bif (cols.length==sz) then (match lo,hi with
    | none,none=>res (.lit nl n cols)
    | none,some h=>some (0≤h∧h≤n,.lit nl h.toNat cols,[])
    | some l,none=>some (0≤l∧l≤n,.lit nl (n - l.toNat) (cols.map (Col.shift l.toNat)),[])
    | some l,some h=>some (0≤l∧l≤h∧h≤n,.lit nl (h.toNat - l.toNat) (cols.map (Col.shift l.toNat)),[])) else none
   | .sl id off n=>match getH H id with
    | some (.arr _ k cols)=>bif (cols.length==sz) then (match lo,hi with
     | none,none=>res (.sl id off n)
     | none,some h=>some (0≤h∧off+h≤k,.sl id off h.toNat,[])
     | some l,none=>some (0≤l∧l≤n,.sl id (off+l.toNat) (n - l.toNat),[])
     | some l,some h=>some (0≤l∧l≤h∧off+h≤k,.sl id (off+l.toNat) (h.toNat - l.toNat),[])) else none
    | _=>none
   | _=>none
  | _,_=>none
 | .slc3 sz x lo hi mx=>match optInt ρ lo,optInt ρ hi,ρ mx with
  | some lo,some (some h),.int _ q=>match ρ x with
   | .lit nl n cols=>bif (cols.length==sz) then some (0≤lo.getD 0∧lo.getD 0≤h∧h≤q∧q≤n,.lit nl (h.toNat - (lo.getD 0).toNat) (cols.map (Col.shift (lo.getD 0).toNat)),[]) else none
   | .sl _ _ n=>some (0≤lo.getD 0∧lo.getD 0≤h∧h≤q∧q≤n,.any,[])
   | _=>none
  | _,_,_=>none
 | .sls x lo hi=>match optInt ρ lo,optInt ρ hi,ρ x with
  | some lo,some hi,.str s=>match lo,hi with
   | none,none=>res (.str s)
   | none,some h=>some (0≤h∧h≤s.length,.str (s.take h.toNat),[])
   | some l,none=>some (0≤l∧l≤s.length,.str (s.drop l.toNat),[])
   | some l,some h=>some (0≤l∧l≤h∧h≤s.length,.str ((s.drop l.toNat).take (h.toNat - l.toNat)),[])
  | _,_,_=>none
 | .conv k x=>match ρ x with
  | .int _ n=>res (.int k (k.wrap n))
  | _=>none
 | .nilchk x=>match ρ x with
  | .ptr id off=>res (.ptr id off)
  | .elp cols i=>res (.elp cols i)
  | .arp id i j=>res (.arp id i j)
  | .arv id=>res (.arv id)
  | .fn f cap=>res (.fn f cap)
  | _=>none
 | .mks T _ bytes zero n=>match ρ n with
  | .int _ k=>match mkCols zero [] with
   | some cols=>some (0≤k∧k≤140737488355328∧k * bytes≤140737488355328,.sl nid 0 k.toNat,[(nid,some (.arr T k.toNat (cols.map Col.const)))])
   | none=>none
  | _=>none
 | .mkfn f caps=>res (.fn f (caps.map ρ))
 | .mm mx x ys=>match ρ x with
  | .int k n=>match mmFold mx k n (ys.map ρ) with
   | some r=>res (.int k r)
   | none=>none
  | _=>none
 | .eqs neg ks x y=>match ρ x,ρ y with
  | .agg ps,.agg qs=>match eqK ks ps qs with
   | some r=>res (.bool (bif neg then !r else r))
   | none=>none
  | _,_=>none
 | .mmk kk z=>match mNew z with
  | some c=>some (True,.mp nid,[(nid,some (.map kk (fun _=>false) c))])
  | none=>none
 | .mlk ok kk z x k=>match ρ x with
  | .mp id=>match getH H id with
   | some (.map kk' dom c)=>match mkKey kk (ρ k) with
    | some q=>match mGet (dom q) q c z with
     | some v=>bif decide (kk=kk') then some (keyIn q,(bif ok then .tup [v,.bool (dom q)] else v),[]) else none
     | none=>none
    | none=>none
   | some (.mape kk' dom c q' _)=>match mkKey kk (ρ k) with
    | some q=>match mGet (dom q) q c z with
     | some v=>bif decide (kk=kk') && (!ok && (decide (q=q') && z0 z)) then some (keyIn q,v,[]) else none
     | none=>none
    | none=>none
   | _=>none
  | _=>none
 | .mup kk x k v=>match ρ x with
  | .mp id=>match getH H id with
   | some (.map kk' dom c)=>match mkKey kk (ρ k) with
    | some q=>match mPut q c (ρ v) with
     | some c'=>bif decide (kk=kk') then some (keyIn q,.any,[(id,some (.map kk (fun p=>if p=q then true else dom p) c'))]) else none
     | none=>none
    | none=>none
   | _=>none
  | _=>none
 | .mlen x=>match ρ x with
  | .mp id=>match getH H id with
   | some (.map kk dom _)=>res (.int .i64 (cardD kk dom:Nat))
   | _=>none
  | _=>none
 | .s2b x=>match ρ x with
  | .str s=>res (.lit false s.length [.i .u8 fun i=>((s.getD i 0).toNat:Nat)])
  | _=>none
 | .s2bo x=>match ρ x with
  | .str s=>some ((s.length:Int)≤140737488355328,.sl nid 0 s.length,[(nid,some (.arr 4294967295 s.length [.i .u8 fun i=>((s.getD i 0).toNat:Nat)]))])
  | _=>none
 | .b2s x=>match tailOf H (ρ x) with
  | some (m,cs)=>match cs with
   | [.i .u8 g]=>res (.str ((List.range m).map fun i=>UInt8.ofNat (g i).toNat))
   | _=>none
  | none=>none
 | .i2s x=>match ρ x with
  | .int _ n=>res (.str (Utf8.encode n).data.toList)
  | _=>none
 | .aadr n sz x i=>match ρ x,ρ i with
  | .ptr id off,.int _ k=>some (0≤k∧k<n,.ptr id (off+k.toNat * sz),[])
  | _,_=>none
 | .aidx n sz s x i=>match ρ x,ρ i with
  | .agg ps,.int _ k=>match s with
   | none=>match ps.drop (k.toNat * sz) with
    | p::_=>some (0≤k∧k<n,p,[])
    | []=>none
   | some s=>bif decide ((k.toNat * sz+s)≤ps.length) then some (0≤k∧k<n,.agg ((ps.drop (k.toNat * sz)).take s),[]) else none
  | _,_=>none
 | .call _ _=>none
 | .callv _ _=>none
 | .callx _ _=>none
 | .unk=>res .any
 | .ment kk z x k=>match ρ x with
  | .mp id=>match getH H id with
   | some (.map kk' dom c)=>match mkKey kk (ρ k) with
    | some q=>match mGet (dom q) q c z with
     | some v=>bif decide (kk=kk') && (c.noL && z0 z) then some (keyIn q,.tup [v,.stp nid],[(id,some (.mape kk dom c q nid))]) else none
     | none=>none
    | none=>none
   | _=>none
  | _=>none
 | .mest x s v=>match ρ x,ρ s with
  | .mp id,.stp sid=>match getH H id with
   | some (.mape kk dom c q sid')=>match mPut q c (ρ v) with
    | some c'=>bif sid==sid' then some (True,.any,[(id,some (.map kk (fun p=>if p=q then true else dom p) c'))]) else none
    | none=>none
   | _=>none
  | _,_=>none
 | .srg x=>match ρ x with
  | .str s=>some (True,.ptr nid 0,[(nid,some (.sit s 0))])
  | _=>none
 | .snx x=>match ρ x with
  | .ptr id 0=>match getH H id with
   | some (.sit s pos)=>bif decide (pos<s.length) then some ((s.getD pos 0).toNat<128,.tup [.bool true,.int .i64 (pos:Nat),.int .i32 ((s.getD pos 0).toNat:Nat)],[(id,some (.sit s (pos+1)))]) else some (True,.tup [.bool false],[])
   | _=>none
  | _=>none
open Go.RowKit
inductive ColRep (Y:Nat→Prop) (w:World):Col→Nat→Value→Prop
 | i {k:IntKind} {g:Nat→Int} {n:Nat}:ColRep Y w (.i k g) n (.int k (g n))
 | b {g:Nat→Bool} {n:Nat}:ColRep Y w (.b g) n (.bool (g n))
 | s {g:Nat→List UInt8} {n:Nat}:ColRep Y w (.s g) n (.string ⟨(g n).toArray⟩)
 | l {nl:Nat→Bool} {len:Nat→Nat} {cols:Nat→List Col} {n:Nat} {A:Option Addr} {cap:Nat} (u:Nat→Nat→Value)
   (hnl:nl n=A.isNone) (hn0:A=none→len n=0∧cap=0) (hle:len n≤cap)
   (hc:∀ j m,j<len n→m<(cols n).length→∃ b o,A=some ⟨b,o,none⟩∧¬ Y b∧w.cell? ⟨b,o+(j * (cols n).length+m),none⟩=some (u j m))
   (hr:∀ (j m:Nat) c,j<len n→(cols n)[m]?=some c→ColRep Y w c j (u j m)) :
   ColRep Y w (.l nl len cols) n (.slice A (len n) cap)
structure Pl where
 blk:Nat
 hdr:Value
 n:Nat
 sz:Nat
 o:Nat
abbrev Names:=Nat→Option Pl
inductive Rep (Y:Nat→Prop) (m:Names) (w:World):PV→Value→Prop
 | int {k:IntKind} {n:Int}:Rep Y m w (.int k n) (.int k n)
 | bool {b:Bool}:Rep Y m w (.bool b) (.bool b)
 | str {s:List UInt8}:Rep Y m w (.str s) (.string ⟨s.toArray⟩)
 | lit {nl:Bool} {n:Nat} {cols:List Col} {v:Value} (h:ColRep Y w (.l (fun _=>nl) (fun _=>n) (fun _=>cols)) 0 v):Rep Y m w (.lit nl n cols) v
 | ptr {id off:Nat} {pl:Pl} (h:m id=some pl):Rep Y m w (.ptr id off) (.pointer (some ⟨pl.blk,off,none⟩))
 | nilp:Rep Y m w .nilp (.pointer none)
 | nili:Rep Y m w .nili .nilIface
 | elp {cols:List Col} {i b o:Nat} (hb:cols≠[]→¬ Y b) (u:Nat→Value) (hc:∀ (j:Nat) c,cols[j]?=some c→w.cell? ⟨b,o+j,none⟩=some (u j)∧ColRep Y w c i (u j)) :
   Rep Y m w (.elp cols i) (.pointer (some ⟨b,o,none⟩))
 | arp {id i j:Nat} {pl:Pl} (h:m id=some pl) (hi:i<pl.n):Rep Y m w (.arp id i j) (.pointer (some ⟨pl.blk,pl.o+(i * pl.sz+j),none⟩))
 | arv {id:Nat} {pl:Pl} (h:m id=some pl) (hh:pl.hdr=.slice (some ⟨pl.blk,pl.o,none⟩) pl.n pl.n) (hn:0<pl.n):Rep Y m w (.arv id) (.pointer (some ⟨pl.blk,pl.o,none⟩))
 | sl {id off len:Nat} {pl:Pl} {A B:Option Addr} {c cap:Nat} (h:m id=some pl) (hh:pl.hdr=.slice A pl.n cap) (hl:off+len≤pl.n)
   (h0:off=0→B=A∧c=cap) (hB:0<c→B=some ⟨pl.blk,pl.o+off * pl.sz,none⟩) (hB0:B=none→c=0) (hle:len≤c) (hc:c+off=cap):Rep Y m w (.sl id off len) (.slice B len c)
 | agg {ps:List PV} {vs:List Value} (hl:vs.length=ps.length) (h:∀ (i:Nat) p v,ps[i]?=some p→vs[i]?=some v→Rep Y m w p v) (h1:∀ v∈vs,v.oneCell'=true):Rep Y m w (.agg ps) (.agg vs.toArray)
 | tup {ps:List PV} {vs:List Value} (hl:vs.length=ps.length) (h:∀ (i:Nat) p v,ps[i]?=some p→vs[i]?=some v→Rep Y m w p v):Rep Y m w (.tup ps) (.tuple vs.toArray)
 | fn {f:Nat} {cap:List PV} {vs:List Value} (hl:vs.length=cap.length) (h:∀ (i:Nat) p v,cap[i]?=some p→vs[i]?=some v→Rep Y m w p v):Rep Y m w (.fn f cap) (.func (.func f) #[] vs.toArray)
 | mp {id:Nat} {pl:Pl} (h:m id=some pl):Rep Y m w (.mp id) (.map (some pl.blk))
 | stp {sid:Nat} {pl:Pl} (h:m sid=some pl):Rep Y m w (.stp sid) (.int .i64 (pl.n:Nat))
 | any {v:Value}:Rep Y m w .any v
def SlRep (m:Names) (id off len:Nat) (v:Value):Prop:=∃ (pl:Pl) (A B:Option Addr) (c cap:Nat),m id=some pl∧v=.slice B len c∧pl.hdr=.slice A pl.n cap∧off+len≤pl.n ∧
  (off=0→B=A∧c=cap)∧(0<c→B=some ⟨pl.blk,pl.o+off * pl.sz,none⟩)∧(B=none→c=0)∧len≤c∧c+off=cap
def ACR (Y:Nat→Prop) (m:Names) (w:World):Col→Nat→Value→Prop
 | .o id len,k,v=>SlRep m (id k) 0 (len k) v
 | .q id,k,v=>∃ pl,m (id k)=some pl∧v=.pointer (some ⟨pl.blk,0,none⟩)
 | c,k,v=>ColRep Y w c k v
theorem ColRep.acr {Y:Nat→Prop} {m:Names} {w:World} {c:Col} {k:Nat} {v:Value} (h:ColRep Y w c k v):ACR Y m w c k v:=by
 cases c <;> first | exact h | cases h
theorem ACR.col {Y:Nat→Prop} {m:Names} {w:World} {c:Col} {k:Nat} {v:Value} (h:ACR Y m w c k v) (ho:c.noO=true):ColRep Y w c k v:=by
 cases c <;> first | exact h | cases ho
theorem noOs_get:∀ {cs:List Col} {j:Nat} {c:Col},noOs cs=true→cs[j]?=some c→c.noO=true
 | [],j,c,_,hc=>by simp at hc
 | d::cs,j,c,h,hc=>by
  rcases j with _ | j
  ·simp only [List.getElem?_cons_zero,Option.some.injEq] at hc
   subst hc
   cases d <;> first | rfl | cases h
  ·simp only [List.getElem?_cons_succ] at hc
   exact noOs_get (cs:=cs) (by cases d <;> first | exact h | cases h) hc
abbrev TS:Nat:=4294967295
def rowAt (w:World) (g:Nat) (cur:Array Value) (T:TypeId):Prop:=∃ e fz,w.heap[g]?=some (.cells cur e fz)∧((e=T∧fz=(0,0))∨(T=TS∧cur.size≤fz.1))
theorem rowAt.of {w:World} {g:Nat} {cur:Array Value} {T:TypeId} (h:w.heap[g]?=some (.cells cur T (0,0))):rowAt w g cur T:=⟨T,(0,0),h,.inl ⟨rfl,rfl⟩⟩
theorem rowAt.exact {w:World} {g:Nat} {cur:Array Value} {T:TypeId} (h:rowAt w g cur T) (hT:T≠TS):w.heap[g]?=some (.cells cur T (0,0)):=by
 obtain ⟨e,fz,h,⟨rfl,rfl⟩ | ⟨h1,_⟩⟩:=h
 ·exact h
 ·exact absurd h1 hT
theorem rowAt.trans {w w':World} {g:Nat} {cur:Array Value} {T:TypeId} (h:rowAt w g cur T) (e:w'.heap[g]?=w.heap[g]?):rowAt w' g cur T:=by
 obtain ⟨a,fz,h1,h2⟩:=h
 exact ⟨a,fz,e.trans h1,h2⟩
theorem rowAt.lt {w:World} {g:Nat} {cur:Array Value} {T:TypeId} (h:rowAt w g cur T):g<w.heap.size:=by
 obtain ⟨_,_,h,_⟩:=h
 exact (Array.getElem?_eq_some_iff.1 h).1
theorem rowAt.cell {w:World} {g:Nat} {cur:Array Value} {T:TypeId} (h:rowAt w g cur T) (j:Nat):w.cell? ⟨g,j,none⟩=cur[j]?:=by
 obtain ⟨e,fz,h,_⟩:=h
 exact cell_of_row w g j cur e fz h
theorem rowAt.set {w:World} {g:Nat} {cur cs:Array Value} {T:TypeId} (h:rowAt w g cur T) (hs:cs.size=cur.size):rowAt (w.setRow g cs) g cs T:=by
 obtain ⟨e,fz,h1,h2⟩:=h
 exact ⟨e,fz,setRow_heap w g cur _ e fz h1,h2.imp id fun h=>⟨h.1,by rw [hs]; exact h.2⟩⟩
theorem rowAt.stores {P:Program} {g o:Nat} {T:TypeId}:∀ (vs:List Value) (i:Nat) (cur:Array Value) (w:World),rowAt w g cur T→o+i+vs.length≤cur.size→(∀ v∈vs,v.oneCell'=true) →
  (storeCells ⟨g,o,none⟩ vs i).run P w=.ok () (w.setRow g (cur.toList.take (o+i)++vs++cur.toList.drop (o+i+vs.length)).toArray)
 | [],i,cur,w,hg,_,_=>by
  obtain ⟨e,fz,h,_⟩:=hg
  simp only [storeCells,List.append_nil,List.length_nil,Nat.add_zero,List.take_append_drop,Array.toArray_toList]
  rw [setRow_self w g cur e fz h]
  rfl
 | v::rest,i,cur,w,hg,hl,h1=>by
  have hi:o+i<cur.size:=by simp at hl; omega
  have hadd:(⟨g,o,none⟩:Addr).add i=⟨g,o+i,none⟩:=by unfold Addr.add; split <;> simp_all
  obtain ⟨e,fz,h,h2⟩:=hg
  have hcell:w.cell? ⟨g,o+i,none⟩=some cur[o+i]:=by simp [World.cell?,h,hi]
  have hfro:w.frozen? ⟨g,o+i,none⟩=false:=by
   rcases h2 with ⟨_,rfl⟩ | ⟨_,h3⟩
   ·simp [World.frozen?,h]
   ·simp [World.frozen?,h]; omega
  have hst:(store ((⟨g,o,none⟩:Addr).add i) v).run P w=.ok () (w.setRow g (cur.setIfInBounds (o+i) v)):=by
   rw [hadd,run_store P w _ v _ (h1 v (by simp)),hcell]
   simp [hfro,setCell_eq_setRow w g (o+i) cur e fz v h]
  have ih:=rowAt.stores (P:=P) (g:=g) (o:=o) (T:=T) rest (i+1) (cur.setIfInBounds (o+i) v) (w.setRow g (cur.setIfInBounds (o+i) v)) (rowAt.set ⟨e,fz,h,h2⟩ (by simp)) (by simp at hl ⊢; omega) (fun x hx=>h1 x (by simp [hx]))
  simp only [storeCells,Sem.run_bind,hst,Result.andThen_ok,ih,setRow_setRow]
  congr 3
  have e:=list_seg_step cur.toList (o+i) v rest (by simp at hl ⊢; omega)
  simpa [Array.toList_setIfInBounds,Nat.add_assoc] using e
def ownsAt (w:World) (T:TypeId) (sz:Nat) (hdr:Value) (o n:Nat) (xs:List Value):Prop :=
 xs.length=n * sz∧((hdr=.slice none 0 0∧n=0)∨∃ g cap cur,hdr=.slice (some ⟨g,o,none⟩) n cap∧rowAt w g cur T∧n≤cap∧cap≤maxLen∧cur.size=o+cap * sz ∧
  (cur.toList.drop o).take (n * sz)=xs)
theorem ownsAt.of {w:World} {base:Nat} {T:TypeId} {sz:Nat} {hdr:Value} {n:Nat} {xs:List Value} (h:w.ownsRow base T sz hdr n xs):ownsAt w T sz hdr 0 n xs:=by
 refine ⟨h.1,?_⟩
 rcases h.2 with h1 | ⟨g,cap,cur,h1,_,h2,h3,h4,h5,h6⟩
 ·exact .inl h1
 ·exact .inr ⟨g,cap,cur,h1,.of h2,h3,h4,by omega,by simpa using h6⟩
theorem ownsAt.less {w:World} {T:TypeId} {sz:Nat} {A:Option Addr} {o n m c:Nat} {xs:List Value} (h:ownsAt w T sz (.slice A n c) o n xs) (hm:m≤n):ownsAt w T sz (.slice A m c) o m (xs.take (m * sz)):=by
 have hms:m * sz≤n * sz:=Nat.mul_le_mul_right _ hm
 refine ⟨by rw [List.length_take,h.1]; omega,?_⟩
 rcases h.2 with ⟨h1,h2⟩ | ⟨g,cap,cur,h1,h2,h3,h4,h5,h6⟩
 ·injection h1 with hA _ hc
  have:m=0:=by omega
  subst this; subst hA; subst hc
  exact .inl ⟨rfl,rfl⟩
 ·injection h1 with hA _ hc
  subst hA; subst hc
  exact .inr ⟨g,c,cur,rfl,h2,by omega,h4,h5,by rw [← h6,List.take_take,Nat.min_eq_left hms]⟩
theorem ownsAt.cells {w:World} {T:TypeId} {sz:Nat} {hdr:Value} {o n:Nat} {xs:List Value} (h:ownsAt w T sz hdr o n xs) {g:Nat} (hg:hdr.ownBlock=some g):∀ (j:Nat) u,xs[j]?=some u→w.cell? ⟨g,o+j,none⟩=some u:=by
 intro j u hu
 rcases h.2 with ⟨rfl,_⟩ | ⟨g',cap,cur,rfl,hgg,_,_,_,htake⟩
 ·simp [Value.ownBlock] at hg
 ·simp only [Value.ownBlock,Option.some.injEq] at hg
  subst hg
  rw [hgg.cell (o+j)]
  rw [← htake,List.getElem?_take] at hu
  split at hu
  ·rw [List.getElem?_drop] at hu
   simpa using hu
  ·cases hu
theorem ownsAt.lt {w:World} {T:TypeId} {sz:Nat} {hdr:Value} {o n:Nat} {xs:List Value} (h:ownsAt w T sz hdr o n xs):∀ k,hdr.ownBlock=some k→k<w.heap.size:=by
 intro k hk
 rcases h.2 with ⟨rfl,_⟩ | ⟨g,cap,cur,rfl,hg,_⟩
 ·simp [Value.ownBlock] at hk
 ·simp [Value.ownBlock] at hk
  subst hk
  exact hg.lt
theorem ownsAt.cap {w:World} {T:TypeId} {sz:Nat} {A:Option Addr} {n c o:Nat} {xs:List Value} (h:ownsAt w T sz (.slice A n c) o n xs):n≤c∧c≤maxLen:=by
 rcases h.2 with ⟨h1,rfl⟩ | ⟨g,cap,cur,h1,_,h2,h3,_⟩
 ·injection h1 with _ _ h2
  subst h2
  exact ⟨Nat.le_refl _,Nat.zero_le _⟩
 ·injection h1 with _ _ h4
  subst h4
  exact ⟨h2,h3⟩
def keyV:KT→MK→Value
 | .i k,.i n=>.int k n
 | .s,.s b=>.string ⟨b.toArray⟩
 | .p,.p a b=>.agg #[.int .i64 a,.int .i64 b]
 | .q,.q a b=>.agg #[.string ⟨a.toArray⟩,.string ⟨b.toArray⟩]
 | _,_=>.nilIface
def mVal (c:MCol) (q:MK):Value:=match c with
 | .i k g=>.int k (g q)
 | .b g=>.bool (g q)
 | .s g=>.string ⟨(g q).toArray⟩
 | .l _ _ _=>.nilIface
def mZero (c:MCol):Value:=match c with
 | .i k _=>.int k 0
 | .b _=>.bool false
 | .s _=>.string ⟨([]:List UInt8).toArray⟩
 | .l _ _ _=>.nilIface
def MR (Y:Nat→Prop) (w:World) (c:MCol) (q:MK) (v:Value):Prop:=match c with
 | .l nl len cols=>ColRep Y w (.l (fun _=>nl q) (fun _=>len q) (fun _=>cols q)) 0 v
 | c=>v=mVal c q
theorem MR.plain {Y Y':Nat→Prop} {w w':World} {c:MCol} {q:MK} {v:Value} (h:MR Y w c q v) (hc:c.noL=true):MR Y' w' c q v:=by
 cases c <;> first | exact h | cases hc
def Born (es:Array MapEntry) (clk:Nat):Prop:=(es.toList.map (·.born)).Nodup∧∀ x∈es.toList,x.born<clk
def BlkSat (Y:Nat→Prop) (m:Names) (w:World) (pl:Pl):ABlk→Prop
 | .box T cs=>∃ vs:List Value,w.heap[pl.blk]?=some (.cells vs.toArray T (0,0))∧vs.length=cs.length∧(∀ v∈vs,v.oneCell'=true) ∧
   ∀ (i:Nat) p v,cs[i]?=some p→vs[i]?=some v→Rep Y m w p v
 | .arr T n cols=>∃ (xs:List Value) (cap:Nat),pl.n=n∧pl.sz=cols.length∧ownsAt w T cols.length pl.hdr pl.o n xs∧(0<n→pl.hdr.ownBlock=some pl.blk)∧(∀ v∈xs,v.oneCell'=true) ∧
   (∃ A,pl.hdr=.slice A n cap)∧∀ (i j:Nat) c,i<n→cols[j]?=some c→∃ v,xs[i * cols.length+j]?=some v∧ACR Y m w c i v
 | .map kk dom c=>∃ (es:Array MapEntry) (clk:Nat),w.heap[pl.blk]?=some (.map es clk)∧((∀ x∈es.toList,∃ q,keyG kk q=true∧x.key=keyV kk q)∧(es.toList.map (·.key)).Nodup∧Born es clk) ∧
   ∀ q,keyG kk q=true→(dom q=true→∃ x∈es.toList,x.key=keyV kk q∧MR Y w c q x.val)∧(dom q=false→∀ x∈es.toList,x.key≠keyV kk q)
 | .mape kk dom c q sid=>c.noL=true∧keyG kk q=true∧∃ (es:Array MapEntry) (clk:Nat),w.heap[pl.blk]?=some (.map es clk)∧((∀ x∈es.toList,∃ q,keyG kk q=true∧x.key=keyV kk q)∧(es.toList.map (·.key)).Nodup∧Born es clk) ∧
   (∀ q',keyG kk q'=true→q'≠q→(dom q'=true→∃ x∈es.toList,x.key=keyV kk q'∧x.val=mVal c q')∧(dom q'=false→∀ x∈es.toList,x.key≠keyV kk q')) ∧
   ∃ pls,m sid=some pls∧∃ x∈es.toList,x.key=keyV kk q∧x.born=pls.n∧(dom q=true→x.val=mVal c q)∧(dom q=false→x.val=mZero c)
 | .sit s pos=>w.heap[pl.blk]?=some (.stringIter ⟨s.toArray⟩ pos)
def ABlk.lies (pl:Pl):ABlk→Option Nat
 | .box _ _=>some pl.blk
 | .map _ _ _=>some pl.blk
 | .mape _ _ _ _ _=>some pl.blk
 | .sit _ _=>some pl.blk
 | .arr _ _ _=>pl.hdr.ownBlock
structure Ev (Y:Nat→Prop) (m:Names) (w:World) (Y':Nat→Prop) (m':Names) (w':World):Prop where
 size:w.heap.size≤w'.heap.size
 keep:∀ b,b<w.heap.size→¬ Y b→w'.heap[b]?=w.heap[b]?
 less:∀ b,Y' b→Y b∨w.heap.size≤b
 names:∀ id pl,m id=some pl→m' id=some pl
theorem Ev.refl (Y:Nat→Prop) (m:Names) (w:World):Ev Y m w Y m w:=⟨Nat.le_refl _,fun _ _ _=>rfl,fun _ h=>.inl h,fun _ _ h=>h⟩
theorem Ev.cell {Y Y':Nat→Prop} {m m':Names} {w w':World} (h:Ev Y m w Y' m' w') {b o:Nat} {v:Value} (hY:¬ Y b) (hc:w.cell? ⟨b,o,none⟩=some v) :
  ¬ Y' b∧w'.cell? ⟨b,o,none⟩=some v:=by
 have hlt:b<w.heap.size:=World.block_lt_of_cell? w _ hc
 refine ⟨fun hY'=>?_,?_⟩
 ·rcases h.less b hY' with h1 | h1
  ·exact hY h1
  ·omega
 ·rw [World.cell?_of_block (h.keep b hlt hY)]; exact hc
theorem ColRep.ev {Y Y':Nat→Prop} {m m':Names} {w w':World} {c:Col} {k:Nat} {v:Value} (h:ColRep Y w c k v) (e:Ev Y m w Y' m' w'):ColRep Y' w' c k v:=by
 induction h with
 | i=>exact .i
 | b=>exact .b
 | s=>exact .s
 | l u hnl hn0 hle hc hr ih =>
  refine .l u hnl hn0 hle (fun j mm hj hm=>?_) (fun j mm c hj hm=>ih j mm c hj hm)
  obtain ⟨b,o,hA,hY,hcell⟩:=hc j mm hj hm
  obtain ⟨h1,h2⟩:=e.cell hY hcell
  exact ⟨b,o,hA,h1,h2⟩
theorem MR.ev {Y Y':Nat→Prop} {m m':Names} {w w':World} {c:MCol} {q:MK} {v:Value} (h:MR Y w c q v) (e:Ev Y m w Y' m' w'):MR Y' w' c q v:=by
 cases c with
 | l nl len cols=>exact ColRep.ev (m:=m) (m':=m') h e
 | _=>exact h
theorem SlRep.ev {Y Y':Nat→Prop} {m m':Names} {w w':World} {id off len:Nat} {v:Value} (h:SlRep m id off len v) (e:Ev Y m w Y' m' w'):SlRep m' id off len v:=by
 obtain ⟨pl,A,B,c,cap,h1,h2⟩:=h
 exact ⟨pl,A,B,c,cap,e.names _ _ h1,h2⟩
theorem ACR.ev {Y Y':Nat→Prop} {m m':Names} {w w':World} {c:Col} {k:Nat} {v:Value} (h:ACR Y m w c k v) (e:Ev Y m w Y' m' w'):ACR Y' m' w' c k v:=by
 cases c with
 | o id len=>exact SlRep.ev (Y:=Y) h e
 | q id=>exact h.imp fun pl h=>⟨e.names _ _ h.1,h.2⟩
 | _=>exact ColRep.ev (Y:=Y) h e
theorem Rep.ev {Y Y':Nat→Prop} {m m':Names} {w w':World} {p:PV} {v:Value} (h:Rep Y m w p v) (e:Ev Y m w Y' m' w'):Rep Y' m' w' p v:=by
 induction h with
 | int=>exact .int
 | bool=>exact .bool
 | str=>exact .str
 | lit h=>exact .lit (h.ev e)
 | ptr h=>exact .ptr (e.names _ _ h)
 | nilp=>exact .nilp
 | nili=>exact .nili
 | elp hb u hc =>
  refine .elp (fun hne hY'=>?_) u (fun j c hj=>?_)
  ·obtain ⟨c,cs,rfl⟩:=List.exists_cons_of_ne_nil hne
   have:=(hc 0 c rfl).1
   exact (e.cell (hb hne) this).1 hY'
  ·obtain ⟨h1,h2⟩:=hc j c hj
   exact ⟨(e.cell (hb (by rintro rfl; simp at hj)) h1).2,h2.ev e⟩
 | arp h hi=>exact .arp (e.names _ _ h) hi
 | arv h hh hn=>exact .arv (e.names _ _ h) hh hn
 | sl h hh hl h0 hB hB0 hle hc=>exact .sl (e.names _ _ h) hh hl h0 hB hB0 hle hc
 | agg hl h h1 ih=>exact .agg hl (fun i p v hp hv=>ih i p v hp hv) h1
 | tup hl h ih=>exact .tup hl (fun i p v hp hv=>ih i p v hp hv)
 | fn hl h ih=>exact .fn hl (fun i p v hp hv=>ih i p v hp hv)
 | mp h=>exact .mp (e.names _ _ h)
 | stp h=>exact .stp (e.names _ _ h)
 | any=>exact .any
def cell0:Obj→Option Value
 | .cells c _ _=>c[0]?
 | _=>none
def GOK0 (z:Nat→Option Obj) (low:Nat):Prop:=∃ o m,0<low∧z 0=some o∧cell0 o=some (.int .i64 m)
def GOK (z:Nat→Option Obj) (low:Nat):Prop:=GOK0 z low
structure Ctx where
 w0:World
 X0:Nat→Prop
 Y0:Nat→Prop
 m0:Names
 base:Nat
 z:Nat→Option Obj
 lowb:Nat
structure GLW (C:Ctx):Prop where
 le:C.lowb≤C.w0.heap.size
 same:∀ b,b<C.lowb→C.w0.heap[b]?=C.z b
 off:∀ b,C.X0 b→C.lowb≤b
 ok:GOK C.z C.lowb
structure HSF (C:Ctx) (Y:Nat→Prop) (m:Names) (w:World) (H:Heap) (Fr:Nat→Prop):Prop where
 blk:∀ id b,getH H id=some b→∃ pl,m id=some pl∧BlkSat Y m w pl b∧∀ g,b.lies pl=some g→Y g∧(C.X0 g∨C.w0.heap.size≤g)
 inj:∀ id id' b b' pl pl' g,id≠id'→getH H id=some b→getH H id'=some b'→m id=some pl→m id'=some pl'→b.lies pl=some g→b'.lies pl'≠some g
 ylt:∀ b,Y b→b<w.heap.size
 keep:∀ b,C.Y0 b→¬ C.X0 b→Y b
 size:C.w0.heap.size≤w.heap.size
 frame:∀ b,b<C.w0.heap.size→¬ C.X0 b→w.heap[b]?=C.w0.heap[b]?
 os:w.os=C.w0.os
 tape:w.tape=C.w0.tape
 output:w.output=C.w0.output
 y0lt:∀ b,C.Y0 b→b<C.w0.heap.size
 x0:∀ b,C.X0 b→C.Y0 b
 yless:∀ b,Y b→C.Y0 b∨C.w0.heap.size≤b
 own:∀ id,C.base≤id→C.m0 id=none
 low:∀ id,Fr id→C.base≤id
 names:∀ id pl,C.m0 id=some pl→m id=some pl
 fresh:∀ id,Fr id→m id=none
 known:∀ id pl,m id=some pl→C.m0 id=some pl∨C.base≤id
 gl:GLW C
abbrev HS (C:Ctx) (Y:Nat→Prop) (m:Names) (w:World) (H:Heap) (next:Nat):Prop:=HSF C Y m w H (fun id=>next≤id)
def Has4 (Fr:Nat→Prop) (n:Nat):Prop:=∀ id,n≤id→id<n+4→Fr id
def Fr4 (Fr:Nat→Prop) (n:Nat) (id:Nat):Prop:=Fr id∧¬ (n≤id∧id<n+4)
structure Sat (C:Ctx) (nt:Nat) (Y:Nat→Prop) (m:Names) (st:ST) (a:Act) (w:World):Prop where
 size:a.tmps.size=nt
 defers:a.defers=[]
 slots:∀ i p,getS st.slots i=p→p≠.any→∃ v,a.tmps[i]?=some v∧Rep Y m w p v
 heap:HS C Y m w st.heap st.next
 base:C.base=st.base
def cvCell:Value→Option PV
 | .int k n=>some (.int k n)
 | .bool b=>some (.bool b)
 | .string s=>some (.str s.data.toList)
 | .pointer none=>some .nilp
 | .slice none 0 0=>some (.lit true 0 [])
 | .nilFunc=>some .any
 | .nilIface=>some .nili
 | .map none=>some .any
 | _=>none
def cvCells:List Value→Option (List PV)
 | []=>some []
 | v::vs=>match cvCell v,cvCells vs with
  | some p,some ps=>some (p::ps)
  | _,_=>none
def cv:Value→Option PV
 | .agg cs=>(cvCells cs.toList).map .agg
 | v=>match cvCell v with
  | some .any=>none
  | x=>x
def compX:Operand→Option AX
 | .tmp t=>some (.t t)
 | .const v=>(cv v).map .c
 | .func f=>some (.c (.fn f []))
 | .global _=>none
def isConst:Operand→Bool
 | .const _=>true
 | _=>false
def isUnk:Operand→Bool
 | .const v=>match cvCell v with
  | some .any=>true
  | _=>false
 | _=>false
def compXs:List Operand→Option (List AX)
 | []=>some []
 | x::xs=>match compX x,compXs xs with
  | some y,some ys=>some (y::ys)
  | _,_=>none
def optX:Option Operand→Option (Option AX)
 | none=>some none
 | some x=>match compX x with
  | some y=>some (some y)
  | none=>none
section
variable (P:Program)
def szT (t:TypeId):Option Nat:=(P.info? t).map (·.size)
def aggT (t:TypeId):Option Bool:=match P.underlying t with
 | some (.struct _)=>some true
 | some (.array _ _)=>some true
 | some _=>some false
 | none=>none
def zeroT (t:TypeId):Option (List PV):=match P.info? t with
 | some i=>match i.zero with
  | some z=>match cvCells z.cells.toList with
   | some ps=>if ps.length=i.size then some ps else none
   | none=>none
  | none=>none
 | none=>none
def ldT (t:TypeId):Option (Option Nat):=match aggT P t with
 | some true=>(szT P t).map some
 | some false=>some none
 | none=>none
def fieldsT (t:TypeId):Option (Array Field):=match P.underlying t with
 | some (.struct fs)=>some fs
 | _=>none
def placesT (t:TypeId):Option (List (Nat × Nat)):=match fieldsT P t with
 | some fs=>fs.toList.mapM fun f=>(P.info? f.type).map fun i=>(f.offset,i.size)
 | none=>none
def arrT (t:TypeId):Option (Nat × Nat):=match P.underlying t with
 | some (.array n e)=>(szT P e).map fun sz=>(n,sz)
 | _=>none
def isI64 (t:TypeId):Bool:=(match P.underlying t with
 | some (.int .i64)=>true
 | _=>false) && P.cellsOf t==1
def pairT (t : TypeId) : Bool := (match P.underlying t with
 | some (.struct fs) => (match fs.toList with
  | [f, g] => f.name != "_" && g.name != "_" && isI64 P f.type && isI64 P g.type && f.offset == 0 && g.offset == 1
  | _ => false)
 | some (.array n e) => n == 2 && isI64 P e
 | _ => false) && (P.cellsOf t == 2 && decide (0 < P.types.size) && P.keyType t && P.keyTypeAt 3 t && P.tiled 3 t)
def isStr (t:TypeId):Bool:=(match P.underlying t with
 | some .string=>true
 | _=>false) && P.cellsOf t==1
def pairS (t:TypeId):Bool:=(match P.underlying t with
 | some (.array n e)=>n==2 && isStr P e
 | _=>false) && (P.cellsOf t==2 && decide (0<P.types.size) && P.keyType t && P.keyTypeAt 3 t && P.tiled 3 t)
def keyT (t:TypeId):Option KT:=match P.underlying t with
 | some (.int k)=>some (.i k)
 | some .string=>some .s
 | _=>if pairT P t=true then some .p else if pairS P t=true then some .q else none
def zeroS (t:TypeId):Option PV:=match P.info? t with
 | some i=>match i.zero with
  | some (.int k n)=>some (.int k n)
  | some (.bool b)=>some (.bool b)
  | some (.string s)=>some (.str s.data.toList)
  | some (.slice none 0 0)=>some (.lit true 0 [])
  | _=>none
 | none=>none
def compParts (place:Nat→Option (Nat × Nat)):List (Nat × Operand)→Option (List (Nat × Nat × AX))
 | []=>some []
 | (i,x)::r=>match place i,compX x,compParts place r with
  | some (o,n),some y,some ys=>some ((o,n,y)::ys)
  | _,_,_=>none
def kindsT : List Field → Nat → Option (List Nat)
 | [], _ => some []
 | f :: fs, o => if f.name = "_" ∨ f.offset ≠ o then none else match P.underlying f.type, kindsT fs (o + 1) with
  | some (.int _), some ks => some (0 :: ks)
  | some .string, some ks => some (1 :: ks)
  | some .bool, some ks => some (2 :: ks)
  | _, _ => none
def kindsN (fs : List Field) : Option (List Nat) := match kindsT P fs 0 with
 | some ks => some ks
 | none => match fs with
  | [] => none
  | f :: r => if f.name = "_" ∨ f.offset ≠ 0 ∨ P.stoodInHeld f.type = true then none else match P.underlying f.type with
   | some (.struct gs) => (match kindsT P gs.toList 0 with
    | some k1 => if szT P f.type = some k1.length then (match kindsT P r k1.length with
     | some k2 => some (k1 ++ k2)
     | none => none) else none
    | none => none)
   | _ => none
def ownedAt (pos : String) : Bool := pos == "wafer.go:209" || pos == "wafers.go:180" || pos == "pattern.go:112" || pos == "detect.go:53" || pos == "patterns.go:211"
def nilAt (pos : String) : Bool := pos == "diagnose.go:77"
def litAt (pos : String) : Bool := pos == "h06_taps.go:478" || pos == "fault.go:231" || pos == "fault.go:236" || pos == "diagnoses.go:15"
def isZ8:PV→Bool
 | .int .u8 0=>true
 | _=>false
def bytesT (t:TypeId):Option Nat:=match P.underlying t with
 | some (.array n e)=>match P.underlying e,zeroT P t,szT P e with
  | some (.int .u8),some z,some 1=>if 0<n∧n≤1000000∧z.length=n∧z.all isZ8=true then some n else none
  | _,_,_=>none
 | _=>none
def compOp (o : Oper) : Option AOp :=
 match o.op with
 | .move x => (compX x).map .mv
 | .assign x => match compX x with
  | some y => some (.mv y)
  | none => if isUnk x = true then some .unk else none
 | .pick c a b => match compX c, compX a, compX b with
  | some c, some a, some b => some (.pick c a b)
  | _, _, _ => none
 | .alloc T => match bytesT P T with
  | some n => some (.allocb T n)
  | none => (zeroT P T).map (.alloc T)
 | .box T x => (compX x).map (.box T)
 | .build t parts => match zeroT P t, placesT P t with
  | some z, some pl => (compParts (fun i => pl[i]?) parts.toList).map (.build z)
  | some z, none => match arrT P t with
   | some (_, sz) => (compParts (fun i => some (i * sz, sz)) parts.toList).map (.build z)
   | none => none
  | _, _ => none
 | .buildSlice t n parts => match P.underlying t with
  | some (.slice e) => match szT P e, zeroT P e with
   | some sz, some z => if 0 < sz ∧ n * sz ≤ 16777216 then (if nilAt o.pos = true then (match P.underlying e with
    | some (.slice ein) => match zeroT P ein with
     | some zin => (compParts (fun i => some (i * sz, sz)) parts.toList).map (.bnil e ein sz n z zin)
     | none => none
    | _ => none) else if litAt o.pos = true then (compParts (fun i => some (i * sz, sz)) parts.toList).map (.bslit sz n z) else (compParts (fun i => some (i * sz, sz)) parts.toList).map (.bslice e sz n z)) else none
   | _, _ => none
  | _ => none
 | .load t x => match ldT P t, compX x with
  | some s, some y => some (.load s y)
  | _, _ => none
 | .store t x v => match szT P t, compX x, compX v with
  | some s, some y, some z => if 0 < s then some (.store s y z) else none
  | _, _, _ => none
 | .fieldAddr t x f => match fieldsT P t with
  | some fs => match fs[f]? with
   | some fd => match szT P fd.type, compX x with
    | some (_ + 1), some y => some (.fadr fd.offset y)
    | _, _ => none
   | none => none
  | none => none
 | .field t x f => match fieldsT P t with
  | some fs => match fs[f]? with
   | some fd => match ldT P fd.type, compX x with
    | some s, some y => some (.fld fd.offset s y)
    | _, _ => none
   | none => none
  | none => none
 | .indexAddr t x i => match P.underlying t with
  | some (.slice e) => match szT P e, compX x, compX i with
   | some sz, some y, some j => if 0 < sz then some (.iadr sz y j) else none
   | _, _, _ => none
  | some (.array n e) => match bytesT P t, szT P e, compX x, compX i with
   | some n', _, some y, some j => some (.aadrb n' y j)
   | none, some sz, some y, some j => some (.aadr n sz y j)
   | _, _, _, _ => none
  | _ => none
 | .index t x i => match P.underlying t with
  | some .string => match compX x, compX i with
   | some y, some j => some (.idxs y j)
   | _, _ => none
  | some (.array n e) => match szT P e, ldT P e, compX x, compX i with
   | some sz, some s, some y, some j => some (.aidx n sz s y j)
   | _, _, _, _ => none
  | _ => none
 | .binOp op t x y _ => match compX x, compX y with
  | some a, some b => match P.underlying t with
   | some (.int _) => some (.bin 0 op a b)
   | some .string => some (.bin 1 op a b)
   | some .bool => some (.bin 2 op a b)
   | some (.slice _) => some (.bin 3 op a b)
   | some (.pointer _) => some (.bin 4 op a b)
   | some (.interface _) => if isConst y = true then some (.bin 5 op a b) else none
   | some (.struct fs) => if P.stoodInHeld t = false ∧ P.eqGuardType P.depth t = false then (match kindsN P fs.toList with
    | some ks => (match op with
     | .eql => some (.eqs false ks a b)
     | .neq => some (.eqs true ks a b)
     | _ => none)
    | none => none) else none
   | some (.array n e) => if isI64 P e = true ∧ P.eqGuardType P.depth t = false then (match op with
    | .eql => some (.eqs false (List.replicate n 0) a b)
    | .neq => some (.eqs true (List.replicate n 0) a b)
    | _ => none) else none
   | _ => none
  | _, _ => none
 | .unOp op _ x => (compX x).map (.un op)
 | .convert s d x => match P.underlying s, P.underlying d with
  | some (.int _), some (.int k) => (compX x).map (.conv k)
  | some (.int _), some .string => (compX x).map .i2s
  | some .string, some (.slice e) => match P.underlying e with
   | some (.int .u8) => if ownedAt o.pos = true then (compX x).map .s2bo else (compX x).map .s2b
   | _ => none
  | some (.slice e), some .string => match P.underlying e with
   | some (.int .u8) => (compX x).map .b2s
   | _ => none
  | _, _ => none
 | .makeMap t r => match r, P.underlying t with
  | none, some (.map kt et) => match keyT P kt, zeroS P et with
   | some kk, some z => some (.mmk kk z)
   | _, _ => none
  | _, _ => none
 | .lookup t x i ok => match P.underlying t with
  | some (.map kt et) => match keyT P kt, zeroS P et, compX x, compX i with
   | some kk, some z, some y, some j => some (.mlk ok kk z y j)
   | _, _, _, _ => none
  | _ => none
 | .mapUpdate t m k v => match P.underlying t with
  | some (.map kt _) => match keyT P kt, compX m, compX k, compX v with
   | some kk, some y, some j, some z => some (.mup kk y j z)
   | _, _, _, _ => none
  | _ => none
 | .mapEntry t m k => match P.underlying t with
  | some (.map kt et) => match keyT P kt, zeroS P et, compX m, compX k with
   | some kk, some z, some y, some j => some (.ment kk z y j)
   | _, _, _, _ => none
  | _ => none
 | .entryStore _ m s v => match compX m, compX s, compX v with
  | some y, some j, some z => some (.mest y j z)
  | _, _, _ => none
 | .range t x => match P.underlying t with
  | some .string => (compX x).map .srg
  | _ => none
 | .next x b => match b with
  | true => (compX x).map .snx
  | false => none
 | .insert t m k v => match P.underlying t with
  | some (.map kt _) => match keyT P kt, compX m, compX k, compX v with
   | some kk, some y, some j, some z => some (.mup kk y j z)
   | _, _, _, _ => none
  | _ => none
 | .makeSlice t l c => match l, c with
  | .tmp l, .tmp c => if l = c then match P.underlying t with
   | some (.slice e) => match P.info? e, zeroT P e with
    | some i, some z => if 0 < i.size then some (.mks e i.size i.bytes z (.t l)) else none
    | _, _ => none
   | _ => none else none
  | _, _ => none
 | .slice t x lo hi mx => match mx with
  | none => match P.underlying t, compX x, optX lo, optX hi with
   | some .string, some y, some l, some h => some (.sls y l h)
   | some (.slice e), some y, some l, some h => (szT P e).map fun sz => .slc sz y l h
   | some (.array _ _), some y, some l, some h => (bytesT P t).map fun n => .slcb n y l h
   | _, _, _, _ => none
  | some mx => match P.underlying t, compX x, optX lo, optX hi, compX mx with
   | some (.slice e), some y, some l, some h, some q => (szT P e).map fun sz => .slc3 sz y l h q
   | _, _, _, _, _ => none
 | .nilCheck x => (compX x).map .nilchk
 | .makeInterface _ _ => some .bad
 | .panic _ => some .bad
 | .extract x i => (compX x).map fun y => .ext y i
 | .makeFunc fn first caps => match fn with
  | .func f => if first.size = 0 then (compXs caps.toList).map (.mkfn f) else none
  | _ => none
 | .call c => match c.callee with
  | .builtin .len => match c.args.toList, c.argTypes.toList with
   | [x], [t] => match P.underlying t with
    | some .string => (compX x).map (.len true)
    | some (.slice _) => (compX x).map (.len false)
    | some (.map _ _) => (compX x).map .mlen
    | _ => none
   | _, _ => none
  | .builtin .max => match c.args.toList with
   | x :: xs => match compX x, compXs xs with
    | some a, some az => some (.mm true a az)
    | _, _ => none
   | [] => none
  | .builtin .min => match c.args.toList with
   | x :: xs => match compX x, compXs xs with
    | some a, some az => some (.mm false a az)
    | _, _ => none
   | [] => none
  | .builtin .append => match c.args.toList, c.argTypes.toList with
   | [x, y], [t, t'] => if t = t' then match P.underlying t with
    | some (.slice e) => match P.info? e, zeroT P e, compX x, compX y with
     | some i, some _, some a, some b => if 0 < i.size ∧ e ≠ 4294967295 then (if o.pos == "slices.go:232" then some (.appin i.size a b) else some (.app e i.size i.bytes a b)) else none
     | _, _, _, _ => none
    | _ => none else none
   | _, _ => none
  | .builtin .copy => match c.args.toList, c.argTypes.toList with
   | [x, y], [t, t'] => if t = t' then match P.underlying t with
    | some (.slice e) => match szT P e, compX x, compX y with
     | some sz, some a, some b => if 0 < sz then some (.cpy sz a b) else none
     | _, _, _ => none
    | _ => none else none
   | _, _ => none
  | .builtin .clear => match c.args.toList, c.argTypes.toList with
   | [x], [t] => match P.underlying t with
    | some (.slice e) => match szT P e, zeroT P e, compX x with
     | some sz, some z, some a => if 0 < sz then some (.clr z a) else none
     | _, _, _ => none
    | _ => none
   | _, _ => none
  | .value (.func f) => (compXs c.args.toList).map (.call f)
  | .value (.tmp t) => (compXs c.args.toList).map (.callv (.t t))
  | _ => none
 | _ => none
def dstG (ops:Array Oper):Option (Nat × Bool)→Option (Option (Nat × Bool))
 | none=>some none
 | some (j,b)=>match (ops[j]?).bind (·.dst) with
  | some d=>some (some (d,b))
  | none=>none
def dstIn (nt:Nat):Option Tmp→Bool
 | none=>true
 | some d=>decide (d<nt)
def compOps (nt:Nat) (ops:Array Oper):List Oper→Option (List AIn)
 | []=>some []
 | o::l=>match compOp P o,dstG ops o.guard,compOps nt ops l with
  | some a,some g,some r=>if dstIn nt o.dst then some (⟨o.dst,g,a⟩::r) else none
  | _,_,_=>none
def directB (o:Oper) (k:Nat):Bool:=o.after.any fun e=>Region.binds .any e && e.on==k
def closedB (ops:Array Oper) (ms:List Nat):Bool:=(List.range ops.size).all fun j=>match ops[j]? with
 | none=>false
 | some o=>(o.after.all fun e=>!Region.binds .any e || decide (e.on<j)) &&
  (List.range ops.size).all fun k=>!(ms.getD j 0).testBit k || (directB o k || o.after.any fun e=>Region.binds .any e && (ms.getD e.on 0).testBit k)
def freesOf (ms:List Nat) (n:Nat):List (List Nat):=(List.range n).map fun j=>(List.range j).filter fun i=>!(ms.getD j 0).testBit i
def comp (nt:Nat):Code→Option ACode
 | .skip=>some .skip
 | .region _ ops d=>bif d then (bif closedB ops (Region.before ops).toList && P.follows .mixedOrders then (compOps P nt ops ops.toList).map fun l=>.any (l.zip (freesOf (Region.before ops).toList ops.size)) else none) else (compOps P nt ops ops.toList).map .ops
 | .seq a b=>match comp nt a,comp nt b with
  | some a,some b=>some (.seq a b)
  | _,_=>none
 | .cond c a b=>match compX c,comp nt a,comp nt b with
  | some c,some a,some b=>some (.cond c a b)
  | _,_,_=>none
 | .block id c=>(comp nt c).map (.block id)
 | .loop c=>(comp nt c).map .loop
 | .exit id=>some (.exit id)
 | .ret=>some .ret
 | _=>none
inductive ARes where
 | t (n:Nat)
 | c (n:Nat) (s:Option Nat)
def compR:List ResultVar→Option (List ARes)
 | []=>some []
 | .tmp t::r=>(compR r).map (.t t::·)
 | .cell a t::r=>match ldT P t,compR r with
  | some s,some rs=>some (.c a s::rs)
  | _,_=>none
structure AFn where
 nt:Nat
 res:List ARes
 body:ACode
def compF (f : Nat) : Option AFn := match P.funcs[f]? with
 | some fn => if fn.name == "runtime.NumGoroutine" then none else match fn.body with
  | some c => match comp P fn.ntmps c, compR P fn.results.toList with
   | some b, some r => some ⟨fn.ntmps, r, b⟩
   | _, _ => none
  | none => none
 | none => none
end
open Go.RowKit
inductive AEx where
 | normal
 | exit (id:Nat)
 | ret
def CallSat (P : Program) (f : Nat) (vs : Array Value) (w : World) (R : Value → World → Prop) : Prop :=
 (∃ fn, P.funcs[f]? = some fn ∧ (fn.name == "runtime.NumGoroutine") = false ∧ fn.body.isNone = false ∧ Calls P f vs w fun e w' => ∃ v, e = .returned v ∧ R v w') ∨
 (∃ v w', (callFunc f vs).run P w = .ok (.value v) w' ∧ R v w')
def ACall (P:Program) (f:Nat) (args:List PV) (Hs:Heap) (nid:Nat) (r:PV) (u:Heap):Prop :=
 ∀ (C:Ctx) (vs:List Value),C.base=nid→vs.length=args.length→(∀ (i:Nat) p v,args[i]?=some p→vs[i]?=some v→Rep C.Y0 C.m0 C.w0 p v)→HS C C.Y0 C.m0 C.w0 Hs nid →
  CallSat P f vs.toArray C.w0 fun v w'=>∃ Y' m',Rep Y' m' w' r v∧HS C Y' m' w' (u++Hs) (nid+4)∧Ev C.Y0 C.m0 C.w0 Y' m' w'
def ACallI (P:Program) (f:Nat) (args:List PV) (Hs:Heap) (nid:Nat) {ι:Type} (Post:ι→Prop) (r:ι→PV) (u:ι→Heap):Prop :=
 ∀ (C:Ctx) (vs:List Value),C.base=nid→vs.length=args.length→(∀ (i:Nat) p v,args[i]?=some p→vs[i]?=some v→Rep C.Y0 C.m0 C.w0 p v)→HS C C.Y0 C.m0 C.w0 Hs nid →
  CallSat P f vs.toArray C.w0 fun v w'=>∃ i,Post i∧∃ Y' m',Rep Y' m' w' (r i) v∧HS C Y' m' w' (u i++Hs) (nid+4)∧Ev C.Y0 C.m0 C.w0 Y' m' w'
def ACallIW (P:Program) (k f:Nat) (args:List PV) (Hs:Heap) (nid:Nat) {ι:Type} (Post:ι→Prop) (r:ι→PV) (u:ι→Heap):Prop :=
 ∀ (C:Ctx) (vs:List Value),C.base=nid→vs.length=args.length→(∀ (i:Nat) p v,args[i]?=some p→vs[i]?=some v→Rep C.Y0 C.m0 C.w0 p v)→HS C C.Y0 C.m0 C.w0 Hs nid →
  CallSat P f vs.toArray C.w0 fun v w'=>∃ i,Post i∧∃ Y' m',Rep Y' m' w' (r i) v∧HS C Y' m' w' (u i++Hs) (nid+k)∧Ev C.Y0 C.m0 C.w0 Y' m' w'
mutual
def PV.plain:PV→Bool
 | .int _ _=>true
 | .bool _=>true
 | .str _=>true
 | .ptr _ _=>true
 | .nilp=>true
 | .nili=>true
 | .arp _ _ _=>true
 | .arv _=>true
 | .sl _ _ _=>true
 | .any=>true
 | .agg ps=>PV.plains ps
 | .tup ps=>PV.plains ps
 | .mp _=>true
 | _=>false
def PV.plains:List PV→Bool
 | []=>true
 | p::ps=>p.plain && PV.plains ps
end
def Col.plain:Col→Bool
 | .l _ _ _=>false
 | _=>true
def ABlk.plain:ABlk→Bool
 | .box _ cs=>PV.plains cs
 | .arr _ _ cols=>cols.all Col.plain
 | .map _ _ c=>c.noL
 | .mape _ _ _ _ _=>false
 | .sit _ _=>true
def plainH:Heap→Bool
 | []=>true
 | (_,none)::H=>plainH H
 | (_,some b)::H=>b.plain && plainH H
mutual
def lend (H:Heap) (L:List Nat) (nl:Nat→Bool):PV→PV
 | .sl id off n=>bif L.contains id && (off==0) then (match getH H id with
  | some (.arr _ _ cols)=>bif noOs cols then .lit (nl id) n cols else .sl id off n
  | _=>.sl id off n) else .sl id off n
 | .agg ps=>.agg (lends H L nl ps)
 | p=>p
def lends (H:Heap) (L:List Nat) (nl:Nat→Bool):List PV→List PV
 | []=>[]
 | p::ps=>lend H L nl p::lends H L nl ps
end
def subH (Hs H:Heap):Prop:=∀ id b,getH Hs id=some b→getH H id=some b
def kill (F:List Nat):Heap:=F.map fun id=>(id,none)
def keys (H:Heap):List Nat:=H.map (·.1)
def CallX (P:Program) (f:Nat) (args:List PV) (H:Heap) (nid:Nat) (K:PV→Heap→List Nat→Prop):Prop :=
 ∃ (L F:List Nat) (Hs:Heap) (r:PV) (u:Heap),subH Hs H∧(∀ id∈L++F,getH Hs id=none∧getH u id=none)∧(L=[]∨(r.plain=true∧plainH u=true∧plainH Hs=true)) ∧
  (∀ nl:Nat→Bool,ACall P f (lends H (L++F) nl args) Hs nid r u)∧K r (u++kill F) (keys Hs++(L++F))
def CallOK (P:Program) (f:Nat) (args:List PV) (H:Heap) (nid:Nat) (K:PV→Heap→Prop):Prop :=
 (∃ G:List Nat,CallX P f args H nid (fun r u _=>∀ nl:Nat→Bool,K (lend (u++H) G nl r) (kill G++u))) ∨
 ∃ (ι:Type) (Post:ι→Prop) (r:ι→PV) (u:ι→Heap) (Hs:Heap),subH Hs H∧ACallI P f args Hs nid Post r u∧∀ i,Post i→K (r i) (u i)
def putS (s:Slots):Option Nat→PV→Slots
 | none,_=>s
 | some d,v=>(d,v)::s
def bindStep:Step→(PV→Heap→Prop)→Prop
 | some (vc,v,u),k=>vc∧k v u
 | none,_=>False
theorem bindStep_congr {s s':Step} (h:s=s') (k:PV→Heap→Prop):bindStep s k=bindStep s' k:=by rw [h]
def onBool:PV→(Bool→Prop)→Prop
 | .bool b,k=>k b
 | _,_=>False
theorem onBool_congr {p p':PV} (h:p=p') (k:Bool→Prop):onBool p k=onBool p' k:=by rw [h]
def onGrd:PV→(Bool→Prop)→(Unit→Prop)→Prop
 | .bool b,k,_=>k b
 | .tup [],_,z=>z ()
 | _,_,_=>False
def gPV:Option Bool→PV
 | some b=>.bool b
 | none=>.tup []
def split2 (b:Bool) (X Y:Unit→Prop):Prop:=(b=true→X ())∧(b=false→Y ())
theorem split2_true (X Y:Unit→Prop):split2 true X Y=X ():=by simp [split2]
theorem split2_false (X Y:Unit→Prop):split2 false X Y=Y ():=by simp [split2]
theorem split2_congr {b b':Bool} (h:b=b') (X Y:Unit→Prop):split2 b X Y=split2 b' X Y:=by rw [h]
def onFn:PV→(Nat→List PV→Prop)→Prop
 | .fn f cap,k=>k f cap
 | _,_=>False
theorem onFn_congr {p p':PV} (h:p=p') (k:Nat→List PV→Prop):onFn p k=onFn p' k:=by rw [h]
theorem CallX_congr {P:Program} {f:Nat} {args args':List PV} {H H':Heap} {nid nid':Nat} (h1:args=args') (h2:H=H') (h3:nid=nid') (K:PV→Heap→List Nat→Prop) :
  CallX P f args H nid K=CallX P f args' H' nid' K:=by rw [h1,h2,h3]
attribute [local congr] bindStep_congr onBool_congr split2_congr onFn_congr CallX_congr
section
variable (P:Program)
def runOp (s:Slots) (H:Heap) (n:Nat) (K:PV→Heap→Prop):AOp→Prop
 | .call f args=>CallOK P f (args.map (AX.val s)) H n K
 | .callv x args=>onFn (x.val s) fun f cap=>CallOK P f (args.map (AX.val s)++cap) H n K
 | op=>bindStep (step (AX.val s) H n op) K
def runOps:List AIn→Slots→Heap→Nat→(Slots→Heap→Nat→Prop)→Prop
 | [],s,H,n,K=>K s H n
 | ⟨d,none,op⟩::l,s,H,n,K=>runOp P s H n (fun v u=>runOps l (putS s d v) (u++H) (n+4) K) op
 | ⟨d,some (j,true),op⟩::l,s,H,n,K=>onGrd (getS s j) (fun b=>split2 b
   (fun _=>runOp P ((j,.bool true)::s) H n (fun v u=>runOps l (putS ((j,.bool true)::s) d v) (u++H) (n+4) K) op)
   (fun _=>runOps l (putS ((j,.bool false)::s) d (.tup [])) H (n+4) K)) (fun _=>runOps l (putS s d (.tup [])) H (n+4) K)
 | ⟨d,some (j,false),op⟩::l,s,H,n,K=>onGrd (getS s j) (fun b=>split2 b
   (fun _=>runOps l (putS ((j,.bool true)::s) d (.tup [])) H (n+4) K)
   (fun _=>runOp P ((j,.bool false)::s) H n (fun v u=>runOps l (putS ((j,.bool false)::s) d v) (u++H) (n+4) K) op)) (fun _=>runOps l (putS s d (.tup [])) H (n+4) K)
def opXs:AOp→List AX
 | .mv x=>[x]
 | .pick c a b=>[c,a,b]
 | .box _ x=>[x]
 | .alloc _ _=>[]
 | .build _ ps=>ps.map (·.2.2)
 | .bslice _ _ _ _ ps=>ps.map (·.2.2)
 | .bslit _ _ _ ps=>ps.map (·.2.2)
 | .bnil _ _ _ _ _ _ ps=>ps.map (·.2.2)
 | .allocb _ _=>[]
 | .aadrb _ x i=>[x,i]
 | .slcb _ x lo hi=>x::(lo.toList++hi.toList)
 | .load _ x=>[x]
 | .store _ x v=>[x,v]
 | .fadr _ x=>[x]
 | .fld _ _ x=>[x]
 | .iadr _ x i=>[x,i]
 | .idxs x i=>[x,i]
 | .bin _ _ x y=>[x,y]
 | .un _ x=>[x]
 | .len _ x=>[x]
 | .app _ _ _ x y=>[x,y]
 | .ext x _=>[x]
 | .slc _ x lo hi=>x::(lo.toList++hi.toList)
 | .slc3 _ x lo hi mx=>x::mx::(lo.toList++hi.toList)
 | .appin _ x y=>[x,y]
 | .clr _ x=>[x]
 | .cpy _ x y=>[x,y]
 | .bad=>[]
 | .sls x lo hi=>x::(lo.toList++hi.toList)
 | .conv _ x=>[x]
 | .nilchk x=>[x]
 | .mks _ _ _ _ n=>[n]
 | .mkfn _ cs=>cs
 | .mm _ x ys=>x::ys
 | .eqs _ _ x y=>[x,y]
 | .mmk _ _=>[]
 | .mlk _ _ _ x k=>[x,k]
 | .mup _ x k v=>[x,k,v]
 | .mlen x=>[x]
 | .s2b x=>[x]
 | .s2bo x=>[x]
 | .b2s x=>[x]
 | .i2s x=>[x]
 | .aadr _ _ x i=>[x,i]
 | .aidx _ _ _ x i=>[x,i]
 | .call _ az=>az
 | .callv x az=>x::az
 | .callx _ az=>az
 | .unk=>[]
 | .ment _ _ x k=>[x,k]
 | .mest x s v=>[x,s,v]
 | .srg x=>[x]
 | .snx x=>[x]
def rdXs:AOp→List AX
 | .load _ x=>[x]
 | .store _ x _=>[x]
 | .iadr _ x _=>[x]
 | .app _ _ _ x y=>[x,y]
 | .slc _ x _ _=>[x]
 | .aadrb _ x _=>[x]
 | .slcb _ x _ _=>[x]
 | .appin _ x y=>[x,y]
 | .clr _ x=>[x]
 | .cpy _ x y=>[x,y]
 | .b2s x=>[x]
 | .mlk _ _ _ x _=>[x]
 | .mup _ x _ _=>[x]
 | .mlen x=>[x]
 | .ment _ _ x _=>[x]
 | .mest x _ _=>[x]
 | .snx x=>[x]
 | _=>[]
theorem rdXs_sub:∀ (op:AOp) (x:AX),x∈rdXs op→x∈opXs op:=by
 intro op x h
 cases op <;> simp only [rdXs,opXs,List.mem_cons,List.not_mem_nil,or_false] at h ⊢ <;> simp [h]
def axSlot:AX→List Nat
 | .t n=>[n]
 | .c _=>[]
def namesX:List AX→List Nat
 | []=>[]
 | x::xs=>axSlot x++namesX xs
mutual
def idsOf:PV→List Nat
 | .ptr id _=>[id]
 | .arp id _ _=>[id]
 | .arv id=>[id]
 | .sl id _ _=>[id]
 | .agg ps=>idsOfs ps
 | .tup ps=>idsOfs ps
 | .fn _ ps=>idsOfs ps
 | .mp id=>[id]
 | .stp id=>[id]
 | _=>[]
def idsOfs:List PV→List Nat
 | []=>[]
 | p::ps=>idsOf p++idsOfs ps
end
def lowAll (n:Nat) (ids:List Nat):Bool:=ids.all fun id=>decide (id<n)
def allTo:Nat→(Nat→Bool)→Bool
 | 0,_=>true
 | k+1,f=>allTo k f && f k
def lowCols (n k:Nat):List Col→Bool
 | []=>true
 | .i _ _::cs=>lowCols n k cs
 | .b _::cs=>lowCols n k cs
 | .s _::cs=>lowCols n k cs
 | .l _ _ _::cs=>lowCols n k cs
 | .o id _::cs=>allTo k (fun j=>decide (id j<n)) && lowCols n k cs
 | .q id::cs=>allTo k (fun j=>decide (id j<n)) && lowCols n k cs
def lowBlk (n:Nat):Option ABlk→Bool
 | some (.box _ cs)=>lowAll n (idsOfs cs)
 | some (.arr _ k cols)=>lowCols n k cols
 | some (.mape _ _ _ _ sid)=>decide (sid<n)
 | _=>true
def lowH (H:Heap) (n:Nat):List Nat→Bool
 | []=>true
 | id::r=>decide (id<n) && lowBlk n (getH H id) && lowH H n r
structure Rec1 where
 dst:Option Nat
 names:List Nat
 rds:List Nat
 wrs:List Nat
def disj (a b:List Nat):Bool:=a.all fun x=>!b.contains x
def offO (d:Option Nat) (l:List Nat):Bool:=match d with
 | none=>true
 | some d=>!l.contains d
def neqO (a b:Option Nat):Bool:=match a,b with
 | some x,some y=>x != y
 | _,_=>true
def indep (r q:Rec1):Bool:=offO r.dst q.names && offO q.dst r.names && neqO r.dst q.dst && disj r.wrs q.rds && disj q.wrs r.rds && disj r.wrs q.wrs
def freeOf (recs:List Rec1) (q:Rec1):List Nat→Bool
 | []=>true
 | i::fr=>(match recs[i]? with
  | some r=>indep r q
  | none=>false) && freeOf recs q fr
def opX (s:Slots) (H:Heap) (n:Nat) (K:PV→Heap→List Nat→Prop):AOp→Prop
 | .call f args=>CallX P f (args.map (AX.val s)) H n fun v u rds=>lowH H n (idsOfs (args.map (AX.val s))++rds)=true∧K v u (idsOfs (args.map (AX.val s))++rds)
 | .callv x args=>onFn (x.val s) fun f cap=>CallX P f (args.map (AX.val s)++cap) H n fun v u rds=>lowH H n (idsOfs (args.map (AX.val s)++cap)++rds)=true∧K v u (idsOfs (args.map (AX.val s)++cap)++rds)
 | op=>bindStep (step (AX.val s) H n op) fun v u=>K v u (idsOfs ((rdXs op).map (AX.val s)))
def runAny:List (AIn × List Nat)→List Rec1→Slots→Heap→Nat→(Slots→Heap→Nat→Prop)→Prop
 | [],_,s,H,n,K=>K s H n
 | (⟨d,none,op⟩,fr)::l,recs,s,H,n,K=>opX P s H n (fun v u rds=>freeOf recs ⟨d,namesX (opXs op),rds,keys u⟩ fr=true∧runAny l (recs++[⟨d,namesX (opXs op),rds,keys u⟩]) (putS s d v) (u++H) (n+4) K) op
 | (⟨d,some (j,true),op⟩,fr)::l,recs,s,H,n,K=>onGrd (getS s j) (fun b=>split2 b
   (fun _=>opX P ((j,.bool true)::s) H n (fun v u rds=>freeOf recs ⟨d,j::namesX (opXs op),rds,keys u⟩ fr=true∧runAny l (recs++[⟨d,j::namesX (opXs op),rds,keys u⟩]) (putS ((j,.bool true)::s) d v) (u++H) (n+4) K) op)
   (fun _=>freeOf recs ⟨d,[j],[],[]⟩ fr=true∧runAny l (recs++[⟨d,[j],[],[]⟩]) (putS ((j,.bool false)::s) d (.tup [])) H (n+4) K)) (fun _=>freeOf recs ⟨d,[j],[],[]⟩ fr=true∧runAny l (recs++[⟨d,[j],[],[]⟩]) (putS s d (.tup [])) H (n+4) K)
 | (⟨d,some (j,false),op⟩,fr)::l,recs,s,H,n,K=>onGrd (getS s j) (fun b=>split2 b
   (fun _=>freeOf recs ⟨d,[j],[],[]⟩ fr=true∧runAny l (recs++[⟨d,[j],[],[]⟩]) (putS ((j,.bool true)::s) d (.tup [])) H (n+4) K)
   (fun _=>opX P ((j,.bool false)::s) H n (fun v u rds=>freeOf recs ⟨d,j::namesX (opXs op),rds,keys u⟩ fr=true∧runAny l (recs++[⟨d,j::namesX (opXs op),rds,keys u⟩]) (putS ((j,.bool false)::s) d v) (u++H) (n+4) K) op)) (fun _=>freeOf recs ⟨d,[j],[],[]⟩ fr=true∧runAny l (recs++[⟨d,[j],[],[]⟩]) (putS s d (.tup [])) H (n+4) K)
def seqK (R:ST→Prop) (Q:AEx→ST→Prop):AEx→ST→Prop
 | .normal,s=>R s
 | .exit i,s=>Q (.exit i) s
 | .ret,s=>Q .ret s
def blockK (id:Nat) (Q:AEx→ST→Prop):AEx→ST→Prop
 | .normal,s=>Q .normal s
 | .exit i,s=>bif i==id then Q .normal s else Q (.exit i) s
 | .ret,s=>Q .ret s
def Cov (st st':ST):Prop:=∀ C nt Y m a w,Sat C nt Y m st a w→∃ Y' m',Sat C nt Y' m' st' a w
def loopK (N:ST→Prop) (Q:AEx→ST→Prop):AEx→ST→Prop
 | .normal,s=>N s
 | .exit i,s=>Q (.exit i) s
 | .ret,s=>Q .ret s
def LoopOK (R:ST→(AEx→ST→Prop)→Prop) (st:ST) (Q:AEx→ST→Prop):Prop :=
 ∃ (ι:Type) (I:ι→ST) (μ:ι→Nat) (x:ι),Cov st (I x)∧∀ x,R (I x) (loopK (fun s=>∃ y,μ y<μ x∧Cov s (I y)) Q)
def run:ACode→ST→(AEx→ST→Prop)→Prop
 | .skip,st,Q=>Q .normal st
 | .ops l,st,Q=>runOps P l st.slots st.heap st.next (fun s H n=>Q .normal ⟨s,H,n,st.base⟩)
 | .any l,st,Q=>runAny P l [] st.slots st.heap st.next (fun s H n=>Q .normal ⟨s,H,n,st.base⟩)
 | .seq a b,st,Q=>run a st (seqK (fun s=>run b s Q) Q)
 | .cond x a b,st,Q=>onBool (x.val st.slots) fun c=>split2 c (fun _=>run a st Q) (fun _=>run b st Q)
 | .block id c,st,Q=>run c st (blockK id Q)
 | .loop c,st,Q=>LoopOK (run c) st Q
 | .exit i,st,Q=>Q (.exit i) st
 | .ret,st,Q=>Q .ret st
end
open Go.RowKit
section bytes
theorem bsize (l:List UInt8):(ByteArray.mk l.toArray).size=l.length:=rfl
theorem bget (l:List UInt8) (k:Nat) (h:k<l.length):(ByteArray.mk l.toArray)[k]?=some (l.getD k 0):=by
 have h':k<(ByteArray.mk l.toArray).size:=h
 rw [getElem?_pos (ByteArray.mk l.toArray) k h']
 congr 1
 show l.toArray[k]=_
 simp [List.getD_eq_getElem?_getD,h]
theorem bext (l:List UInt8) (a b:Nat):(ByteArray.mk l.toArray).extract a b=⟨((l.drop a).take (b - a)).toArray⟩:=by
 apply ByteArray.ext
 simp [ByteArray.data_extract]
theorem bapp (l m:List UInt8):(ByteArray.mk l.toArray)++(ByteArray.mk m.toArray)=⟨(l++m).toArray⟩:=by
 apply ByteArray.ext
 simp
theorem blist (l:List UInt8):(ByteArray.mk l.toArray).toList=l:=by
 rw [Lib.toList_data]
end bytes
section inv
variable {Y:Nat→Prop} {m:Names} {w:World} {v:Value}
theorem Rep.int_inv {k:IntKind} {n:Int} (h:Rep Y m w (.int k n) v):v=.int k n:=by cases h; rfl
theorem Rep.bool_inv {b:Bool} (h:Rep Y m w (.bool b) v):v=.bool b:=by cases h; rfl
theorem Rep.str_inv {s:List UInt8} (h:Rep Y m w (.str s) v):v=.string ⟨s.toArray⟩:=by cases h; rfl
theorem Rep.ptr_inv {id off:Nat} (h:Rep Y m w (.ptr id off) v):∃ pl,m id=some pl∧v=.pointer (some ⟨pl.blk,off,none⟩):=by cases h with | ptr h=>exact ⟨_,h,rfl⟩
theorem Rep.stp_inv {id:Nat} (h:Rep Y m w (.stp id) v):∃ pl,m id=some pl∧v=.int .i64 (pl.n:Nat):=by cases h with | stp h=>exact ⟨_,h,rfl⟩
theorem Rep.mp_inv {id:Nat} (h:Rep Y m w (.mp id) v):∃ pl,m id=some pl∧v=.map (some pl.blk):=by cases h with | mp h=>exact ⟨_,h,rfl⟩
theorem Rep.arp_inv {id i j:Nat} (h:Rep Y m w (.arp id i j) v):∃ pl,m id=some pl∧i<pl.n∧v=.pointer (some ⟨pl.blk,pl.o+(i * pl.sz+j),none⟩):=by cases h with | arp h hi=>exact ⟨_,h,hi,rfl⟩
theorem Rep.arv_inv {id:Nat} (h:Rep Y m w (.arv id) v):∃ pl,m id=some pl∧pl.hdr=.slice (some ⟨pl.blk,pl.o,none⟩) pl.n pl.n∧0<pl.n∧v=.pointer (some ⟨pl.blk,pl.o,none⟩):=by cases h with | arv h hh hn=>exact ⟨_,h,hh,hn,rfl⟩
theorem Rep.agg_inv {ps:List PV} (h:Rep Y m w (.agg ps) v):∃ vs:List Value,v=.agg vs.toArray∧vs.length=ps.length∧(∀ (i:Nat) p u,ps[i]?=some p→vs[i]?=some u→Rep Y m w p u)∧∀ u∈vs,u.oneCell'=true:=by
 cases h with | agg hl h h1=>exact ⟨_,rfl,hl,h,h1⟩
theorem Rep.tup_inv {ps:List PV} (h:Rep Y m w (.tup ps) v):∃ vs:List Value,v=.tuple vs.toArray∧vs.length=ps.length∧(∀ (i:Nat) p u,ps[i]?=some p→vs[i]?=some u→Rep Y m w p u):=by
 cases h with | tup hl h=>exact ⟨_,rfl,hl,h⟩
theorem Rep.fn_inv {f:Nat} {cap:List PV} (h:Rep Y m w (.fn f cap) v):∃ vs:List Value,v=.func (.func f) #[] vs.toArray∧vs.length=cap.length∧(∀ (i:Nat) p u,cap[i]?=some p→vs[i]?=some u→Rep Y m w p u):=by
 cases h with | fn hl h=>exact ⟨_,rfl,hl,h⟩
theorem Rep.lit_inv {nl:Bool} {n:Nat} {cols:List Col} (h:Rep Y m w (.lit nl n cols) v):∃ (A:Option Addr) (cap:Nat) (u:Nat→Nat→Value),v=.slice A n cap∧nl=A.isNone∧(A=none→n=0∧cap=0)∧n≤cap ∧
  (∀ j k,j<n→k<cols.length→∃ b o,A=some ⟨b,o,none⟩∧¬ Y b∧w.cell? ⟨b,o+(j * cols.length+k),none⟩=some (u j k)) ∧
  (∀ (j k:Nat) c,j<n→cols[k]?=some c→ColRep Y w c j (u j k)):=by
 cases h with | lit h=>cases h with | l u h1 h2 h3 h4 h5=>exact ⟨_,_,u,rfl,h1,h2,h3,h4,h5⟩
theorem Rep.lit_mk {nl:Bool} {n:Nat} {cols:List Col} {A:Option Addr} {cap:Nat} (u:Nat→Nat→Value) (h1:nl=A.isNone) (h2:A=none→n=0∧cap=0) (h3:n≤cap)
  (h4:∀ j k,j<n→k<cols.length→∃ b o,A=some ⟨b,o,none⟩∧¬ Y b∧w.cell? ⟨b,o+(j * cols.length+k),none⟩=some (u j k))
  (h5:∀ (j k:Nat) c,j<n→cols[k]?=some c→ColRep Y w c j (u j k)):Rep Y m w (.lit nl n cols) (.slice A n cap) :=
 .lit (.l (len:=fun _=>n) (cols:=fun _=>cols) (nl:=fun _=>nl) (n:=0) u h1 h2 h3 h4 h5)
theorem Rep.sl_inv {id off len:Nat} (h:Rep Y m w (.sl id off len) v):∃ (pl:Pl) (A B:Option Addr) (c cap:Nat),m id=some pl∧v=.slice B len c∧pl.hdr=.slice A pl.n cap∧off+len≤pl.n ∧
  (off=0→B=A∧c=cap)∧(0<c→B=some ⟨pl.blk,pl.o+off * pl.sz,none⟩)∧(B=none→c=0)∧len≤c∧c+off=cap:=by
 cases h with | sl h hh hl h0 hB hB0 hle hc=>exact ⟨_,_,_,_,_,h,rfl,hh,hl,h0,hB,hB0,hle,hc⟩
theorem Rep.elp_inv {cols:List Col} {i:Nat} (h:Rep Y m w (.elp cols i) v):∃ (b o:Nat) (u:Nat→Value),v=.pointer (some ⟨b,o,none⟩)∧(cols≠[]→¬ Y b) ∧
  ∀ (j:Nat) c,cols[j]?=some c→w.cell? ⟨b,o+j,none⟩=some (u j)∧ColRep Y w c i (u j):=by
 cases h with | elp hb u hc=>exact ⟨_,_,u,rfl,hb,hc⟩
theorem Rep.one {p:PV} {ps:List PV} (h:Rep Y m w p v) (hc:p.cells=some ps):∃ vs:List Value,v.cells=vs.toArray∧vs.length=ps.length ∧
  (∀ (i:Nat) q u,ps[i]?=some q→vs[i]?=some u→Rep Y m w q u)∧∀ u∈vs,u.oneCell'=true:=by
 cases p with
 | agg qs =>
  obtain ⟨vs,rfl,h1,h2,h3⟩:=h.agg_inv
  simp only [PV.cells,Option.some.injEq] at hc
  subst hc
  exact ⟨vs,rfl,h1,h2,h3⟩
 | tup qs=>simp [PV.cells] at hc
 | any=>simp [PV.cells] at hc
 | _ =>
  simp only [PV.cells,Option.some.injEq] at hc
  subst hc
  refine ⟨[v],by cases h <;> first | rfl | (rename_i hh; cases hh; rfl),rfl,?_,?_⟩
  ·intro i q u hq hu
   rcases i with _ | i
   ·simp only [List.getElem?_cons_zero,Option.some.injEq] at hq hu
    subst hq; subst hu
    exact h
   ·simp at hq
  ·intro u hu
   simp only [List.mem_singleton] at hu
   subst hu
   cases h <;> first | rfl | (rename_i hh; cases hh; rfl)
theorem rep_colPV {c:Col} {k:Nat} (h:ColRep Y w c k v):Rep Y m w (colPV c k) v:=by
 cases h with
 | i=>exact .int
 | b=>exact .bool
 | s=>exact .str
 | l u h1 h2 h3 h4 h5=>exact Rep.lit_mk u h1 h2 h3 h4 h5
theorem rep_sl {id off len:Nat} (h:SlRep m id off len v):Rep Y m w (.sl id off len) v:=by
 obtain ⟨pl,A,B,c,cap,h1,rfl,h3,h4,h5,h6,h7,h8,h9⟩:=h
 exact .sl h1 h3 h4 h5 h6 h7 h8 h9
theorem rep_acr {c:Col} {k:Nat} (h:ACR Y m w c k v):Rep Y m w (colPV c k) v:=by
 cases c with
 | o id len=>exact rep_sl h
 | q id =>
  obtain ⟨pl,h1,rfl⟩:=h
  exact .ptr h1
 | _=>exact rep_colPV h
theorem ColRep.one {c:Col} {k:Nat} (h:ColRep Y w c k v):v.oneCell'=true:=by cases h <;> rfl
theorem ACR.one {c:Col} {k:Nat} (h:ACR Y m w c k v):v.oneCell'=true:=by
 cases c with
 | o id len=>obtain ⟨pl,A,B,c,cap,_,rfl,_⟩:=h; rfl
 | q id=>obtain ⟨pl,_,rfl⟩:=h; rfl
 | _=>exact ColRep.one h
theorem rep_cvCell {p:PV} (h:cvCell v=some p):Rep Y m w p v∧(v.oneCell'=true):=by
 unfold cvCell at h
 split at h <;> simp only [Option.some.injEq,reduceCtorEq] at h <;> subst h
 ·exact ⟨.int,rfl⟩
 ·exact ⟨.bool,rfl⟩
 ·rename_i s
  have e:Value.string s=.string ⟨s.data.toList.toArray⟩:=by cases s; simp
  exact ⟨by rw [e]; exact .str,rfl⟩
 ·exact ⟨.nilp,rfl⟩
 ·exact ⟨Rep.lit_mk (fun _ _=>undef) rfl (fun _=>⟨rfl,rfl⟩) (Nat.le_refl _) (fun j k h=>by omega) (fun j k c h=>by omega),rfl⟩
 ·exact ⟨.any,rfl⟩
 ·exact ⟨.nili,rfl⟩
 ·exact ⟨.any,rfl⟩
theorem rep_cvCells:∀ {vs:List Value} {ps:List PV},cvCells vs=some ps→vs.length=ps.length∧(∀ (i:Nat) p u,ps[i]?=some p→vs[i]?=some u→Rep Y m w p u)∧∀ u∈vs,u.oneCell'=true:=by
 intro vs
 induction vs with
 | nil=>intro ps h; simp [cvCells] at h; subst h; simp
 | cons x vs ih =>
  intro ps h
  simp only [cvCells] at h
  split at h
  ·rename_i p qs h1 h2
   simp only [Option.some.injEq] at h
   subst h
   obtain ⟨i1,i2,i3⟩:=ih h2
   obtain ⟨r1,r2⟩:=rep_cvCell (Y:=Y) (m:=m) (w:=w) h1
   refine ⟨by simp [i1],?_,?_⟩
   ·intro i p u hp hu
    rcases i with _ | i
    ·simp only [List.getElem?_cons_zero,Option.some.injEq] at hp hu
     subst hp; subst hu; exact r1
    ·simp only [List.getElem?_cons_succ] at hp hu
     exact i2 i p u hp hu
   ·intro u hu
    rcases List.mem_cons.1 hu with rfl | hu
    ·exact r2
    ·exact i3 u hu
  ·cases h
theorem rep_cv {p:PV} (h:cv v=some p):Rep Y m w p v:=by
 unfold cv at h
 split at h
 ·rename_i cs
  rw [Option.map_eq_some_iff] at h
  obtain ⟨ps,h1,rfl⟩:=h
  obtain ⟨i1,i2,i3⟩:=rep_cvCells (Y:=Y) (m:=m) (w:=w) h1
  have:Value.agg cs=.agg cs.toList.toArray:=by simp
  rw [this]
  exact .agg i1 i2 i3
 ·split at h
  ·cases h
  ·exact (rep_cvCell h).1
end inv
def Did (P:Program) (o:Oper) (ρv:Operand→Value) (w:World) (v:Value) (w':World):Prop :=
 (execOp ρv o).run P w=.ok (.value v) w'∨((execOp ρv o).run P w=.ok .skip w'∧v=undef)
theorem HSF.mono {C:Ctx} {Y:Nat→Prop} {m:Names} {w:World} {H:Heap} {Fr Fr':Nat→Prop} (h:HSF C Y m w H Fr) (hn:∀ id,Fr' id→Fr id):HSF C Y m w H Fr' :=
 ⟨h.blk,h.inj,h.ylt,h.keep,h.size,h.frame,h.os,h.tape,h.output,h.y0lt,h.x0,h.yless,h.own,fun id hid=>h.low id (hn id hid),h.names,fun id hid=>h.fresh id (hn id hid),h.known,h.gl⟩
theorem HSF.next {C:Ctx} {Y:Nat→Prop} {m:Names} {w:World} {H:Heap} {n n':Nat} (h:HS C Y m w H n) (hn:n≤n'):HS C Y m w H n':=h.mono fun id hid=>Nat.le_trans hn hid
theorem fr4_next {n id:Nat}:n+4≤id→Fr4 (fun id=>n≤id) n id:=fun h=>⟨by omega,by omega⟩
theorem has4_next (n:Nat):Has4 (fun id=>n≤id) n:=fun id h _=>h
def StepOK (P:Program) (o:Oper) (ao:AOp):Prop :=
 ∀ (C:Ctx) (Y:Nat→Prop) (m:Names) (w:World) (H:Heap) (Fr:Nat→Prop) (next:Nat) (ρ:AX→PV) (ρv:Operand→Value) (vc:Prop) (p:PV) (u:Heap),
  (∀ x ax,compX x=some ax→Rep Y m w (ρ ax) (ρv x))→HSF C Y m w H Fr→Has4 Fr next→step ρ H next ao=some (vc,p,u)→vc →
  ∃ v w' Y' m',Did P o ρv w v w'∧Rep Y' m' w' p v∧HSF C Y' m' w' (u++H) (Fr4 Fr next)∧Ev Y m w Y' m' w'
theorem StepOK.quiet {P:Program} {o:Oper} {ao:AOp}
  (h:∀ (Y:Nat→Prop) (m:Names) (w:World) (H:Heap) (next:Nat) (ρ:AX→PV) (ρv:Operand→Value) (vc:Prop) (p:PV) (u:Heap),
   (∀ x ax,compX x=some ax→Rep Y m w (ρ ax) (ρv x))→(∀ id b,getH H id=some b→∃ pl,m id=some pl∧BlkSat Y m w pl b)→step ρ H next ao=some (vc,p,u)→vc →
   u=[]∧∃ v,Did P o ρv w v w∧Rep Y m w p v):StepOK P o ao:=by
 intro C Y m w H Fr next ρ ρv vc p u hρ hH _ hs hvc
 obtain ⟨rfl,v,hd,hr⟩:=h Y m w H next ρ ρv vc p u hρ (fun id b hb=>by obtain ⟨pl,h1,h2,_⟩:=hH.blk id b hb; exact ⟨pl,h1,h2⟩) hs hvc
 exact ⟨v,w,Y,m,hd,hr,hH.mono (fun id h=>h.1),Ev.refl _ _ _⟩
open Go.RowKit
variable {P:Program} {o:Oper} {ao:AOp}
theorem map_some {α β:Type} {f:α→β} {x:Option α} {y:β} (h:x.map f=some y):∃ a,x=some a∧f a=y:=by
 rw [Option.map_eq_some_iff] at h; exact h
theorem ok_mv {x:Operand} (ho:o.op=.move x∨o.op=.assign x) (hc:(compX x).map AOp.mv=some ao):StepOK P o ao:=by
 obtain ⟨ax,hx,rfl⟩:=map_some hc
 refine StepOK.quiet fun Y m w H next ρ ρv vc p u hρ hH hs hvc=>?_
 simp only [step,res,Option.some.injEq,Prod.mk.injEq] at hs
 obtain ⟨_,rfl,rfl⟩:=hs
 refine ⟨rfl,_,.inl ?_,hρ x ax hx⟩
 rcases ho with ho | ho <;> simp [execOp,ho]
theorem ok_unk {x:Operand} (ho:o.op=.assign x):StepOK P o .unk:=by
 refine StepOK.quiet fun Y m w H next ρ ρv vc p u hρ hH hs hvc=>?_
 simp only [step,res,Option.some.injEq,Prod.mk.injEq] at hs
 obtain ⟨_,rfl,rfl⟩:=hs
 exact ⟨rfl,ρv x,.inl (by simp [execOp,ho]),.any⟩
theorem rep_mix {Y:Nat→Prop} {m:Names} {w:World} {t:Bool} {p q:PV} {a b:Value} (h1:Rep Y m w p a) (h2:Rep Y m w q b):Rep Y m w (mix t p q) (if t then a else b):=by
 unfold mix
 split
 ·rw [h1.bool_inv,h2.bool_inv]; cases t <;> exact .bool
 ·rw [h1.int_inv,h2.int_inv]; split
  ·rename_i e; subst e; cases t <;> exact .int
  ·cases t <;> exact .int
 ·rw [h1.str_inv,h2.str_inv]; cases t <;> exact .str
 ·cases t
  ·exact h2
  ·exact h1
theorem ok_pick {c a b:Operand} {c' a' b':AX} (ho:o.op=.pick c a b) (hc:compX c=some c') (ha:compX a=some a') (hb:compX b=some b'):StepOK P o (.pick c' a' b'):=by
 refine StepOK.quiet fun Y m w H next ρ ρv vc p u hρ hH hs hvc=>?_
 simp only [step] at hs
 split at hs
 ·rename_i t ht
  simp only [res,Option.some.injEq,Prod.mk.injEq] at hs
  obtain ⟨_,rfl,rfl⟩:=hs
  have h1:=hρ c c' hc
  rw [ht] at h1
  refine ⟨rfl,_,.inl ?_,rep_mix (hρ a a' ha) (hρ b b' hb)⟩
  simp only [execOp,ho,h1.bool_inv,asBool]
  rfl
 ·cases hs
theorem ok_nilchk {x:Operand} (ho:o.op=.nilCheck x) (hc:(compX x).map AOp.nilchk=some ao):StepOK P o ao:=by
 obtain ⟨ax,hx,rfl⟩:=map_some hc
 refine StepOK.quiet fun Y m w H next ρ ρv vc p u hρ hH hs hvc=>?_
 have h1:=hρ x ax hx
 simp only [step] at hs
 split at hs
 ·rename_i id off hp
  simp only [res,Option.some.injEq,Prod.mk.injEq] at hs
  obtain ⟨_,rfl,rfl⟩:=hs
  rw [hp] at h1
  obtain ⟨pl,_,h2⟩:=h1.ptr_inv
  exact ⟨rfl,_,.inl (by simp only [execOp,ho,h2]; rfl),h2 ▸ h1⟩
 ·rename_i cols i hp
  simp only [res,Option.some.injEq,Prod.mk.injEq] at hs
  obtain ⟨_,rfl,rfl⟩:=hs
  rw [hp] at h1
  obtain ⟨b,oo,uu,h2,_⟩:=h1.elp_inv
  exact ⟨rfl,_,.inl (by simp only [execOp,ho,h2]; rfl),h2 ▸ h1⟩
 ·rename_i id i j hp
  simp only [res,Option.some.injEq,Prod.mk.injEq] at hs
  obtain ⟨_,rfl,rfl⟩:=hs
  rw [hp] at h1
  obtain ⟨pl,_,_,h2⟩:=h1.arp_inv
  exact ⟨rfl,_,.inl (by simp only [execOp,ho,h2]; rfl),h2 ▸ h1⟩
 ·rename_i id hp
  simp only [res,Option.some.injEq,Prod.mk.injEq] at hs
  obtain ⟨_,rfl,rfl⟩:=hs
  rw [hp] at h1
  obtain ⟨pl,_,_,_,h2⟩:=h1.arv_inv
  exact ⟨rfl,_,.inl (by simp only [execOp,ho,h2]; rfl),h2 ▸ h1⟩
 ·rename_i f cap hp
  simp only [res,Option.some.injEq,Prod.mk.injEq] at hs
  obtain ⟨_,rfl,rfl⟩:=hs
  rw [hp] at h1
  obtain ⟨vs,h2,_⟩:=h1.fn_inv
  exact ⟨rfl,_,.inl (by simp only [execOp,ho,h2]; rfl),h2 ▸ h1⟩
 ·cases hs
theorem ok_ext {x:Operand} {i:Nat} (ho:o.op=.extract x i) (hc:(compX x).map (fun y=>AOp.ext y i)=some ao):StepOK P o ao:=by
 obtain ⟨ax,hx,rfl⟩:=map_some hc
 refine StepOK.quiet fun Y m w H next ρ ρv vc p u hρ hH hs hvc=>?_
 have h1:=hρ x ax hx
 simp only [step] at hs
 split at hs
 ·rename_i ps hp
  rw [hp] at h1
  obtain ⟨vs,h2,h3,h4⟩:=h1.tup_inv
  split at hs
  ·rename_i q rest hd
   simp only [res,Option.some.injEq,Prod.mk.injEq] at hs
   obtain ⟨_,rfl,rfl⟩:=hs
   have hq:ps[i]?=some q:=by
    have:=congrArg (fun l=>l[0]?) hd
    simpa using this
   have hi:i<vs.length:=by rw [h3]; exact (List.getElem?_eq_some_iff.1 hq).1
   have hv:vs[i]?=some vs[i]:=List.getElem?_eq_getElem hi
   refine ⟨rfl,vs[i],.inl ?_,h4 i q _ hq hv⟩
   simp only [execOp,ho,h2,Instr.extract]
   simp [hi]
  ·cases hs
 ·cases hs
theorem arr1 {α:Type} {a:Array α} {x:α} (h:a.toList=[x]):a=#[x]:=by cases a; simp at h; subst h; rfl
theorem arr2 {α:Type} {a:Array α} {x y:α} (h:a.toList=[x,y]):a=#[x,y]:=by cases a; simp at h; subst h; rfl
theorem ok_len {x:Operand} {t:TypeId} {c:Call} {b:Bool} (ho:o.op=.call c) (h1:c.callee=.builtin .len) (h2:c.args.toList=[x]) (h3:c.argTypes.toList=[t])
  (ht:(b=true∧P.underlying t=some .string)∨(b=false∧∃ e,P.underlying t=some (.slice e))) (hc:(compX x).map (AOp.len b)=some ao):StepOK P o ao:=by
 obtain ⟨ax,hx,rfl⟩:=map_some hc
 have e2:=arr1 h2
 have e3:=arr1 h3
 refine StepOK.quiet fun Y m w H next ρ ρv vc p u hρ hH hs hvc=>?_
 have hr:=hρ x ax hx
 have keyS:∀ (A:Option Addr) (n cap:Nat),b=false→ρv x=.slice A n cap→Did P o ρv w (.int .i64 (n:Nat)) w:=by
  intro A n cap hb hv
  obtain ⟨_,e,he⟩:=ht.resolve_left (by simp [hb])
  left
  simp [execOp,ho,resolve,h1,e2,e3,invoke,builtin,Builtin.len_,run_underlying he,hv,goInt]
 simp only [step] at hs
 split at hs
 ·rename_i s hp
  cases b
  ·simp at hs
  ·simp only [cond_true,res,Option.some.injEq,Prod.mk.injEq] at hs
   obtain ⟨_,rfl,rfl⟩:=hs
   rw [hp] at hr
   have he:=(ht.resolve_right (by simp)).2
   refine ⟨rfl,_,.inl ?_,.int⟩
   simp [execOp,ho,resolve,h1,e2,e3,invoke,builtin,Builtin.len_,run_underlying he,hr.str_inv,goInt,bsize]
 ·rename_i nl n cols hp
  cases b
  ·simp only [cond_false,res,Option.some.injEq,Prod.mk.injEq] at hs
   obtain ⟨_,rfl,rfl⟩:=hs
   rw [hp] at hr
   obtain ⟨A,cap,uu,h5,_⟩:=hr.lit_inv
   exact ⟨rfl,_,keyS _ _ _ rfl h5,.int⟩
  ·simp at hs
 ·rename_i id off n hp
  cases b
  ·simp only [cond_false,res,Option.some.injEq,Prod.mk.injEq] at hs
   obtain ⟨_,rfl,rfl⟩:=hs
   rw [hp] at hr
   obtain ⟨pl,A,B,cc,cap,_,h5,_⟩:=hr.sl_inv
   exact ⟨rfl,_,keyS _ _ _ rfl h5,.int⟩
  ·simp at hs
 ·cases hs
theorem ok_un {op:UnOp} {t:TypeId} {x:Operand} (ho:o.op=.unOp op t x) (hc:(compX x).map (AOp.un op)=some ao):StepOK P o ao:=by
 obtain ⟨ax,hx,rfl⟩:=map_some hc
 refine StepOK.quiet fun Y m w H next ρ ρv vc p u hρ hH hs hvc=>?_
 have hr:=hρ x ax hx
 simp only [step] at hs
 split at hs
 ·rename_i b hp
  simp only [res,Option.some.injEq,Prod.mk.injEq] at hs
  obtain ⟨_,rfl,rfl⟩:=hs
  rw [hp] at hr
  exact ⟨rfl,_,.inl (by simp [execOp,ho,hr.bool_inv,Op.unary]),.bool⟩
 ·rename_i k n hp
  rw [hp] at hr
  split at hs
  ·rename_i hk
   subst hk
   simp only [Option.some.injEq,Prod.mk.injEq] at hs
   obtain ⟨rfl,rfl,rfl⟩:=hs
   exact ⟨rfl,_,.inl (by simp [execOp,ho,hr.int_inv,Op.unary,Op.intArith,]; exact IntWalk.i64_in _ (by unfold inI64 at hvc; omega)),.int⟩
  ·simp only [res,Option.some.injEq,Prod.mk.injEq] at hs
   obtain ⟨_,rfl,rfl⟩:=hs
   exact ⟨rfl,_,.inl (by simp [execOp,ho,hr.int_inv,Op.unary,Op.intArith]),.int⟩
 ·cases hs
theorem ok_conv {s d:TypeId} {x:Operand} {k k0:IntKind} (ho:o.op=.convert s d x) (h1:P.underlying s=some (.int k0)) (h2:P.underlying d=some (.int k)) (hc:(compX x).map (AOp.conv k)=some ao):StepOK P o ao:=by
 obtain ⟨ax,hx,rfl⟩:=map_some hc
 refine StepOK.quiet fun Y m w H next ρ ρv vc p u hρ hH hs hvc=>?_
 have hr:=hρ x ax hx
 simp only [step] at hs
 split at hs
 ·rename_i n k1 hp
  simp only [res,Option.some.injEq,Prod.mk.injEq] at hs
  obtain ⟨_,rfl,rfl⟩:=hs
  rw [hp] at hr
  exact ⟨rfl,_,.inl (by simp [execOp,ho,hr.int_inv,convert,run_underlying h1,run_underlying h2,Conv.intToInt]),.int⟩
 ·cases hs
theorem ok_idxs {t:TypeId} {x i:Operand} {x' i':AX} (ho:o.op=.index t x i) (h1:P.underlying t=some .string) (hx:compX x=some x') (hi:compX i=some i'):StepOK P o (.idxs x' i'):=by
 refine StepOK.quiet fun Y m w H next ρ ρv vc p u hρ hH hs hvc=>?_
 have hr:=hρ x x' hx
 have hq:=hρ i i' hi
 simp only [step] at hs
 split at hs
 ·rename_i s kk k hp hp2
  simp only [Option.some.injEq,Prod.mk.injEq] at hs
  obtain ⟨rfl,rfl,rfl⟩:=hs
  obtain ⟨hv0,hv1⟩:=hvc
  rw [hp] at hr
  rw [hp2] at hq
  have hk:k.toNat<s.length:=by omega
  refine ⟨rfl,_,.inl ?_,.int⟩
  simp [execOp,ho,Instr.index,hr.str_inv,hq.int_inv,asIntOf,run_underlying h1,hv0,bget s _ hk]
 ·cases hs
theorem optInt_some {Y:Nat→Prop} {m:Names} {w:World} {ρ:AX→PV} {ρv:Operand→Value} (hρ:∀ x ax,compX x=some ax→Rep Y m w (ρ ax) (ρv x))
  {x:Option Operand} {ax:Option AX} {r:Option Int} (hx:optX x=some ax) (hr:optInt ρ ax=some r) :
  (r=none∧x.map ρv=none)∨∃ k n,r=some n∧x.map ρv=some (.int k n):=by
 cases x with
 | none=>simp only [optX,Option.some.injEq] at hx; subst hx; simp only [optInt,Option.some.injEq] at hr; subst hr; exact .inl ⟨rfl,rfl⟩
 | some x =>
  simp only [optX] at hx
  split at hx
  ·rename_i y hy
   simp only [Option.some.injEq] at hx
   subst hx
   simp only [optInt] at hr
   split at hr
   ·rename_i k n hp
    simp only [Option.some.injEq] at hr
    subst hr
    have:=hρ x y hy
    rw [hp] at this
    exact .inr ⟨k,n,rfl,by rw [Option.map_some,this.int_inv]⟩
   ·cases hr
  ·cases hx
theorem optInt_none {Y:Nat→Prop} {m:Names} {w:World} {ρ:AX→PV} {ρv:Operand→Value} (hρ:∀ x ax,compX x=some ax→Rep Y m w (ρ ax) (ρv x))
  {x:Option Operand} {ax:Option AX} (hx:optX x=some ax) (hr:optInt ρ ax=some none):x.map ρv=none:=by
 rcases optInt_some hρ hx hr with ⟨_,h⟩ | ⟨_,_,h,_⟩
 ·exact h
 ·cases h
theorem optInt_int {Y:Nat→Prop} {m:Names} {w:World} {ρ:AX→PV} {ρv:Operand→Value} (hρ:∀ x ax,compX x=some ax→Rep Y m w (ρ ax) (ρv x))
  {x:Option Operand} {ax:Option AX} {n:Int} (hx:optX x=some ax) (hr:optInt ρ ax=some (some n)):∃ k,x.map ρv=some (.int k n):=by
 rcases optInt_some hρ hx hr with ⟨h,_⟩ | ⟨k,n',h,h'⟩
 ·cases h
 ·cases h; exact ⟨k,h'⟩
theorem ok_sls {t:TypeId} {x:Operand} {lo hi:Option Operand} {x':AX} {lo' hi':Option AX} (ho:o.op=.slice t x lo hi none) (h1:P.underlying t=some .string) (hx:compX x=some x') (hl:optX lo=some lo') (hh:optX hi=some hi') :
  StepOK P o (.sls x' lo' hi'):=by
 refine StepOK.quiet fun Y m w H next ρ ρv vc p u hρ hH hs hvc=>?_
 have hr:=hρ x x' hx
 simp only [step] at hs
 split at hs
 ·rename_i l h s e1 e2 hp
  rw [hp] at hr
  have hb:∀ (a b:Nat) (r:List UInt8),a≤b→b≤s.length→(s.drop a).take (b - a)=r→(Instr.sliceBounds false s.length s.length (lo.map ρv) (hi.map ρv) none).run P w=.ok (a,b,s.length) w →
    Did P o ρv w (.string ⟨r.toArray⟩) w:=by
   intro a b r hab hbs hr' hrun
   left
   simp only [execOp,ho,Instr.sliceAt,Instr.slice,Option.map_none,hr.str_inv,Sem.run_bind,run_underlying h1,Result.andThen_ok,bsize,Option.isSome_none,Bool.false_eq_true,if_false]
   simp [hrun,bext,hr',h1,run_underlying,hr.str_inv,bsize]
  split at hs
  ·simp only [res,Option.some.injEq,Prod.mk.injEq] at hs
   obtain ⟨_,rfl,rfl⟩:=hs
   have k1:=optInt_none hρ hl e1
   have k2:=optInt_none hρ hh e2
   refine ⟨rfl,_,hb 0 s.length s (Nat.zero_le _) (Nat.le_refl _) (by simp) ?_,.str⟩
   rw [k1,k2]; simp [Instr.sliceBounds]
  ·rename_i h'
   simp only [Option.some.injEq,Prod.mk.injEq] at hs
   obtain ⟨rfl,rfl,rfl⟩:=hs
   have k1:=optInt_none hρ hl e1
   obtain ⟨_,k2⟩:=optInt_int hρ hh e2
   obtain ⟨c1,c2⟩:=hvc
   refine ⟨rfl,_,hb 0 h'.toNat _ (Nat.zero_le _) (by omega) (by simp) ?_,.str⟩
   rw [k1,k2]; simp [Instr.sliceBounds,Instr.sliceBound,asIntOf,c1,c2]
  ·rename_i l'
   simp only [Option.some.injEq,Prod.mk.injEq] at hs
   obtain ⟨rfl,rfl,rfl⟩:=hs
   have k2:=optInt_none hρ hh e2
   obtain ⟨_,k1⟩:=optInt_int hρ hl e1
   obtain ⟨c1,c2⟩:=hvc
   refine ⟨rfl,_,hb l'.toNat s.length _ (by omega) (Nat.le_refl _) (by rw [List.take_of_length_le]; simp) ?_,.str⟩
   rw [k1,k2]; simp [Instr.sliceBounds,Instr.sliceBound,asIntOf,c1,c2]
  ·rename_i l' h'
   simp only [Option.some.injEq,Prod.mk.injEq] at hs
   obtain ⟨rfl,rfl,rfl⟩:=hs
   obtain ⟨_,k2⟩:=optInt_int hρ hh e2
   obtain ⟨_,k1⟩:=optInt_int hρ hl e1
   obtain ⟨c1,c2,c3⟩:=hvc
   refine ⟨rfl,_,hb l'.toNat h'.toNat _ (by omega) (by omega) rfl ?_,.str⟩
   rw [k1,k2]
   have d0:0≤h':=by omega
   have d1:¬ max h' 0<l':=by omega
   simp [Instr.sliceBounds,Instr.sliceBound,asIntOf,c1,c3,d0,d1]
 ·cases hs
theorem eqGuard_int {Q:Program} {w:World} {op:BinOp} {t:TypeId} {x y:Operand} {k k':IntKind} {a b:Int}:(eqGuard op t x y (.int k a) (.int k' b)).run Q w=.ok () w:=by
 unfold eqGuard; split <;> rfl
theorem eqGuard_str {Q:Program} {w:World} {op:BinOp} {t:TypeId} {x y:Operand} {a b:ByteArray}:(eqGuard op t x y (.string a) (.string b)).run Q w=.ok () w:=by
 unfold eqGuard; split <;> rfl
theorem eqGuard_bool {Q:Program} {w:World} {op:BinOp} {t:TypeId} {x y:Operand} {a b:Bool}:(eqGuard op t x y (.bool a) (.bool b)).run Q w=.ok () w:=by
 unfold eqGuard; split <;> rfl
theorem eqGuard_slice {Q:Program} {w:World} {op:BinOp} {t:TypeId} {x y:Operand} {A B:Option Addr} {a b c d:Nat}:(eqGuard op t x y (.slice A a b) (.slice B c d)).run Q w=.ok () w:=by
 unfold eqGuard; split <;> rfl
theorem beq_bytes (a b:List UInt8):((ByteArray.mk a.toArray).toList==(ByteArray.mk b.toArray).toList)=(a==b):=by rw [blist,blist]
theorem binOp_int {w:World} {t:TypeId} {op:BinOp} {k k':IntKind} {a b:Int} {ty:Nat} {vc:Prop} {p:PV} {u:Heap} (hs:stepBin ty op (.int k a) (.int k' b)=some (vc,p,u)) (hvc:vc) :
  u=[]∧∃ v,(binOp op t (.int k a) (.int k' b)).run P w=.ok v w∧∀ Y m,Rep Y m w p v:=by
 by_cases hk:k=k'
 case neg =>
  cases op
  case shl =>
   simp only [stepBin,Option.some.injEq,Prod.mk.injEq] at hs
   obtain ⟨rfl,rfl,rfl⟩:=hs
   have h':¬ b<0:=by omega
   exact ⟨rfl,_,by simp only [binOp,Op.shift,if_neg h']; rfl,fun _ _=>.int⟩
  case shr =>
   simp only [stepBin,Option.some.injEq,Prod.mk.injEq] at hs
   obtain ⟨rfl,rfl,rfl⟩:=hs
   have h':¬ b<0:=by omega
   exact ⟨rfl,_,by simp only [binOp,Op.shift,if_neg h']; rfl,fun _ _=>.int⟩
  all_goals simp [stepBin,hk] at hs
 subst hk
 cases op
 case shl =>
  simp only [stepBin,Option.some.injEq,Prod.mk.injEq] at hs
  obtain ⟨rfl,rfl,rfl⟩:=hs
  have h':¬ b<0:=by omega
  exact ⟨rfl,_,by simp only [binOp,Op.shift,if_neg h']; rfl,fun _ _=>.int⟩
 case shr =>
  simp only [stepBin,Option.some.injEq,Prod.mk.injEq] at hs
  obtain ⟨rfl,rfl,rfl⟩:=hs
  have h':¬ b<0:=by omega
  exact ⟨rfl,_,by simp only [binOp,Op.shift,if_neg h']; rfl,fun _ _=>.int⟩
 all_goals simp only [stepBin,ne_eq,not_true_eq_false,if_false] at hs
 case add =>
  split at hs
  ·rename_i e
   subst e
   simp only [Option.some.injEq,Prod.mk.injEq] at hs
   obtain ⟨rfl,rfl,rfl⟩:=hs
   unfold inI64 at hvc
   exact ⟨rfl,.int .i64 _,by simp [binOp,Op.intArith,IntWalk.i64_in _ hvc],fun _ _=>.int⟩
  ·simp only [res,Option.some.injEq,Prod.mk.injEq] at hs
   obtain ⟨_,rfl,rfl⟩:=hs
   exact ⟨rfl,_,by simp only [binOp,ne_eq,not_true_eq_false,if_false,Op.intArith]; rfl,fun _ _=>.int⟩
 case sub =>
  split at hs
  ·rename_i e
   subst e
   simp only [Option.some.injEq,Prod.mk.injEq] at hs
   obtain ⟨rfl,rfl,rfl⟩:=hs
   unfold inI64 at hvc
   exact ⟨rfl,.int .i64 _,by simp [binOp,Op.intArith,IntWalk.i64_in _ hvc],fun _ _=>.int⟩
  ·simp only [res,Option.some.injEq,Prod.mk.injEq] at hs
   obtain ⟨_,rfl,rfl⟩:=hs
   exact ⟨rfl,_,by simp only [binOp,ne_eq,not_true_eq_false,if_false,Op.intArith]; rfl,fun _ _=>.int⟩
 case mul =>
  split at hs
  ·rename_i e
   subst e
   simp only [Option.some.injEq,Prod.mk.injEq] at hs
   obtain ⟨rfl,rfl,rfl⟩:=hs
   unfold inI64 at hvc
   exact ⟨rfl,.int .i64 _,by simp [binOp,Op.intArith,IntWalk.i64_in _ hvc],fun _ _=>.int⟩
  ·simp only [res,Option.some.injEq,Prod.mk.injEq] at hs
   obtain ⟨_,rfl,rfl⟩:=hs
   exact ⟨rfl,_,by simp only [binOp,ne_eq,not_true_eq_false,if_false,Op.intArith]; rfl,fun _ _=>.int⟩
 case quo =>
  simp only [Option.some.injEq,Prod.mk.injEq] at hs
  obtain ⟨rfl,rfl,rfl⟩:=hs
  exact ⟨rfl,_,by simp only [binOp,ne_eq,not_true_eq_false,if_false,Op.intDiv,if_neg hvc]; rfl,fun _ _=>.int⟩
 case rem =>
  simp only [Option.some.injEq,Prod.mk.injEq] at hs
  obtain ⟨rfl,rfl,rfl⟩:=hs
  exact ⟨rfl,_,by simp only [binOp,ne_eq,not_true_eq_false,if_false,Op.intDiv,if_neg hvc]; rfl,fun _ _=>.int⟩
 all_goals
  simp only [res,Option.some.injEq,Prod.mk.injEq] at hs
  obtain ⟨_,rfl,rfl⟩:=hs
  first
   | exact ⟨rfl,.int _ _,by simp only [binOp,ne_eq,not_true_eq_false,if_false,Op.intBits]; rfl,fun _ _=>.int⟩
   | exact ⟨rfl,.bool _,by simp only [binOp,ne_eq,not_true_eq_false,if_false,Op.intCmp]; rfl,fun _ _=>.bool⟩
theorem equal_nil_slice {w:World} {t e:TypeId} {B:Option Addr} {n c:Nat} (d:Nat) (he:P.underlying t=some (.slice e)):(Op.equalIn (d+1) t (.slice none 0 0) (.slice B n c)).run P w=.ok B.isNone w:=by
 simp [Op.equalIn,run_underlying he]
theorem eqGuard_ptr {Q:Program} {w:World} {op:BinOp} {t:TypeId} {x y:Operand} {A B:Option Addr}:(eqGuard op t x y (.pointer A) (.pointer B)).run Q w=.ok () w:=by
 unfold eqGuard; split <;> rfl
theorem eqGuard_nil {Q:Program} {w:World} {op:BinOp} {t:TypeId} {x y:Operand} (h:isConst y=true):(eqGuard op t x y .nilIface .nilIface).run Q w=.ok () w:=by
 cases y with
 | const v=>unfold eqGuard; split <;> simp
 | _=>cases h
theorem nilp_inv {Y:Nat→Prop} {m:Names} {w:World} {v:Value} (h:Rep Y m w .nilp v):v=.pointer none:=by cases h; rfl
theorem nili_inv {Y:Nat→Prop} {m:Names} {w:World} {v:Value} (h:Rep Y m w .nili v):v=.nilIface:=by cases h; rfl
theorem equal_pp {w:World} {t e:TypeId} (d:Nat) (he:P.underlying t=some (.pointer e)):(Op.equalIn (d+1) t (.pointer none) (.pointer none)).run P w=.ok true w:=by
 simp [Op.equalIn,run_underlying he]
theorem equal_pq {w:World} {t e:TypeId} (a:Addr) (d:Nat) (he:P.underlying t=some (.pointer e)):(Op.equalIn (d+1) t (.pointer (some a)) (.pointer none)).run P w=.ok false w:=by
 simp [Op.equalIn,run_underlying he]
theorem equal_ii {w:World} {t:TypeId} {e:Array (String × TypeId)} (d:Nat) (he:P.underlying t=some (.interface e)):(Op.equalIn (d+1) t .nilIface .nilIface).run P w=.ok true w:=by
 simp [Op.equalIn,run_underlying he]
def EqVals (a b:Value):Prop:=∀ (t:TypeId),binOp .eql t a b=(do pure (.bool (← Op.equal t a b)))∧binOp .neq t a b=(do pure (.bool (!(← Op.equal t a b))))
theorem eqB_pp {A B:Option Addr}:EqVals (.pointer A) (.pointer B):=fun t=>⟨by simp only [binOp],by simp only [binOp]⟩
theorem eqB_ii:EqVals .nilIface .nilIface:=fun t=>⟨by simp only [binOp],by simp only [binOp]⟩
theorem eqB_run {w:World} {t:TypeId} {op:BinOp} {b:Bool} {ty:Nat} {x y:Value} {vc:Prop} {p:PV} {u:Heap} (hs:eqB op b=some (vc,p,u)) (hvc:vc) (hv:EqVals x y) (he:(Op.equalIn (9999+1) t x y).run P w=.ok b w) :
  u=[]∧∃ v,(binOp op t x y).run P w=.ok v w∧∀ Y m,Rep Y m w p v:=by
 have he2:(Op.equal t x y).run P w=.ok b w:=he
 unfold eqB at hs
 split at hs
 ·simp only [res,Option.some.injEq,Prod.mk.injEq] at hs
  obtain ⟨rfl,rfl,rfl⟩:=hs
  exact ⟨rfl,_,by rw [(hv t).1]; simp [he2],fun Y m=>.bool⟩
 ·simp only [res,Option.some.injEq,Prod.mk.injEq] at hs
  obtain ⟨rfl,rfl,rfl⟩:=hs
  exact ⟨rfl,_,by rw [(hv t).2]; simp [he2],fun Y m=>.bool⟩
 ·cases hs
theorem ok_bin {op:BinOp} {t t2:TypeId} {x y:Operand} {x' y':AX} {ty:Nat} (ho:o.op=.binOp op t x y t2) (hx:compX x=some x') (hy:compX y=some y')
  (h2:ty=2→P.underlying t=some .bool) (h3:ty=3→∃ e,P.underlying t=some (.slice e)) (h4:ty=4→∃ e,P.underlying t=some (.pointer e)) (h5:ty=5→(∃ e,P.underlying t=some (.interface e))∧isConst y=true):StepOK P o (.bin ty op x' y'):=by
 refine StepOK.quiet fun Y m w H next ρ ρv vc p u hρ hH hs hvc=>?_
 have hr:=hρ x x' hx
 have hq:=hρ y y' hy
 simp only [step] at hs
 have did:∀ {a b v:Value},ρv x=a→ρv y=b→(eqGuard op t x y a b).run P w=.ok () w→(binOp op t a b).run P w=.ok v w→Did P o ρv w v w:=by
  intro a b v ha hb hg hb'
  left
  simp [execOp,ho,ha,hb,hg,hb']
 unfold stepBin at hs
 split at hs
 ·rename_i k a k' b hp hp2
  rw [hp] at hr; rw [hp2] at hq
  obtain ⟨hu,v,hrun,hrep⟩:=binOp_int (P:=P) (w:=w) (t:=t) (op:=op) (k:=k) (k':=k') (a:=a) (b:=b) (ty:=ty) hs hvc
  exact ⟨hu,v,did hr.int_inv hq.int_inv eqGuard_int hrun,hrep _ _⟩
 ·rename_i a b hp hp2
  rw [hp] at hr; rw [hp2] at hq
  split at hs
  ·simp only [Option.some.injEq,Prod.mk.injEq] at hs
   obtain ⟨rfl,rfl,rfl⟩:=hs
   refine ⟨rfl,_,did hr.str_inv hq.str_inv eqGuard_str ?_,.str⟩
   have:=run_string_add_sum (P:=P) (w:=w) (a:=⟨a.toArray⟩) (b:=⟨b.toArray⟩) (by simp only [bsize]; omega)
   simp only [binOp,this,bapp]
  ·simp only [res,Option.some.injEq,Prod.mk.injEq] at hs
   obtain ⟨rfl,rfl,rfl⟩:=hs
   exact ⟨rfl,_,did hr.str_inv hq.str_inv eqGuard_str (by simp only [binOp,Op.stringOp,beq_bytes]; rfl),.bool⟩
  ·simp only [res,Option.some.injEq,Prod.mk.injEq] at hs
   obtain ⟨rfl,rfl,rfl⟩:=hs
   exact ⟨rfl,_,did hr.str_inv hq.str_inv eqGuard_str (by simp only [binOp,Op.stringOp,beq_bytes]; rfl),.bool⟩
  ·simp only [res,Option.some.injEq,Prod.mk.injEq] at hs
   obtain ⟨rfl,rfl,rfl⟩:=hs
   exact ⟨rfl,_,did hr.str_inv hq.str_inv eqGuard_str (by simp only [binOp,Op.stringOp,blist]; rfl),.bool⟩
  ·simp only [res,Option.some.injEq,Prod.mk.injEq] at hs
   obtain ⟨rfl,rfl,rfl⟩:=hs
   exact ⟨rfl,_,did hr.str_inv hq.str_inv eqGuard_str (by simp only [binOp,Op.stringOp,blist]; rfl),.bool⟩
  ·simp only [res,Option.some.injEq,Prod.mk.injEq] at hs
   obtain ⟨rfl,rfl,rfl⟩:=hs
   exact ⟨rfl,_,did hr.str_inv hq.str_inv eqGuard_str (by simp only [binOp,Op.stringOp,blist]; rfl),.bool⟩
  ·simp only [res,Option.some.injEq,Prod.mk.injEq] at hs
   obtain ⟨rfl,rfl,rfl⟩:=hs
   exact ⟨rfl,_,did hr.str_inv hq.str_inv eqGuard_str (by simp only [binOp,Op.stringOp,blist]; rfl),.bool⟩
  ·cases hs
 ·rename_i a b hp hp2
  rw [hp] at hr; rw [hp2] at hq
  cases hty:ty==2
  ·simp [hty] at hs
  ·simp only [hty,cond_true] at hs
   have he:=run_equal_bool (P:=P) (w:=w) t a b (h2 (by simpa using hty))
   split at hs
   ·simp only [res,Option.some.injEq,Prod.mk.injEq] at hs
    obtain ⟨rfl,rfl,rfl⟩:=hs
    exact ⟨rfl,_,did hr.bool_inv hq.bool_inv eqGuard_bool (by simp only [binOp]; simp [he]),.bool⟩
   ·simp only [res,Option.some.injEq,Prod.mk.injEq] at hs
    obtain ⟨rfl,rfl,rfl⟩:=hs
    exact ⟨rfl,_,did hr.bool_inv hq.bool_inv eqGuard_bool (by simp only [binOp]; simp [he]),.bool⟩
   ·cases hs
 ·rename_i nl n cs nl' n' cs' hp hp2
  rw [hp] at hr; rw [hp2] at hq
  cases hty:ty==3
  ·simp [hty] at hs
  ·simp only [hty,cond_true] at hs
   obtain ⟨e,he⟩:=h3 (by simpa using hty)
   obtain ⟨A,cap,_,e1,e2,e3,_⟩:=hr.lit_inv
   obtain ⟨B,cap',_,f1,f2,f3,_⟩:=hq.lit_inv
   cases hn':(n'==0 && nl')
   ·simp only [hn',cond_false] at hs
    cases hn:(n==0 && nl)
    ·simp [hn] at hs
    ·simp only [hn,cond_true] at hs
     simp only [Bool.and_eq_true,beq_iff_eq] at hn
     obtain ⟨rfl,rfl⟩:=hn
     have hA:A=none:=by cases A <;> simp at e2; rfl
     subst hA
     obtain ⟨_,rfl⟩:=e3 rfl
     have hq2:(Op.equal t (.slice none 0 0) (.slice B n' cap')).run P w=.ok nl' w:=by
      rw [f2]; exact equal_nil_slice 9999 he
     split at hs
     ·simp only [res,Option.some.injEq,Prod.mk.injEq] at hs
      obtain ⟨rfl,rfl,rfl⟩:=hs
      exact ⟨rfl,_,did e1 f1 eqGuard_slice (by simp only [binOp]; simp [hq2]),.bool⟩
     ·simp only [res,Option.some.injEq,Prod.mk.injEq] at hs
      obtain ⟨rfl,rfl,rfl⟩:=hs
      exact ⟨rfl,_,did e1 f1 eqGuard_slice (by simp only [binOp]; simp [hq2]),.bool⟩
     ·cases hs
   ·simp only [hn',cond_true] at hs
    simp only [Bool.and_eq_true,beq_iff_eq] at hn'
    obtain ⟨rfl,rfl⟩:=hn'
    have hB:B=none:=by cases B <;> simp at f2; rfl
    subst hB
    obtain ⟨_,rfl⟩:=f3 rfl
    have hq2:(Op.equal t (.slice A n cap) (.slice none 0 0)).run P w=.ok nl w:=by
     rw [e2]; exact run_equal_slice_nil w t e A n cap he
    split at hs
    ·simp only [res,Option.some.injEq,Prod.mk.injEq] at hs
     obtain ⟨rfl,rfl,rfl⟩:=hs
     exact ⟨rfl,_,did e1 f1 eqGuard_slice (by simp only [binOp]; simp [hq2]),.bool⟩
    ·simp only [res,Option.some.injEq,Prod.mk.injEq] at hs
     obtain ⟨rfl,rfl,rfl⟩:=hs
     exact ⟨rfl,_,did e1 f1 eqGuard_slice (by simp only [binOp]; simp [hq2]),.bool⟩
    ·cases hs
 ·rename_i id off n nl' n' cs' hp hp2
  rw [hp] at hr; rw [hp2] at hq
  cases hty:(ty==3 && (n'==0 && nl'))
  ·simp [hty] at hs
  ·simp only [hty,cond_true] at hs
   simp only [Bool.and_eq_true,beq_iff_eq] at hty
   obtain ⟨hty,rfl,rfl⟩:=hty
   obtain ⟨e,he⟩:=h3 hty
   obtain ⟨pl,A,B,c,cap,hm,e1,e2,e3,e4,e5,e6,e7,e8⟩:=hr.sl_inv
   obtain ⟨B2,cap',_,f1,f2,f3,_⟩:=hq.lit_inv
   have hB:B2=none:=by cases B2 <;> simp at f2; rfl
   subst hB
   obtain ⟨_,rfl⟩:=f3 rfl
   have hq2:(Op.equal t (.slice B n c) (.slice none 0 0)).run P w=.ok B.isNone w:=run_equal_slice_nil w t e B n c he
   split at hs
   ·simp only [Option.some.injEq,Prod.mk.injEq] at hs
    obtain ⟨rfl,rfl,rfl⟩:=hs
    have hb:B.isNone=false:=by rw [e5 (by omega)]; rfl
    exact ⟨rfl,_,did e1 f1 eqGuard_slice (by simp only [binOp]; simp [hq2,hb]),.bool⟩
   ·simp only [Option.some.injEq,Prod.mk.injEq] at hs
    obtain ⟨rfl,rfl,rfl⟩:=hs
    have hb:B.isNone=false:=by rw [e5 (by omega)]; rfl
    exact ⟨rfl,_,did e1 f1 eqGuard_slice (by simp only [binOp]; simp [hq2,hb]),.bool⟩
   ·cases hs
 ·rename_i hp hp2
  rw [hp] at hr; rw [hp2] at hq
  cases hty:ty==4
  ·simp [hty] at hs
  ·simp only [hty,cond_true] at hs
   obtain ⟨e,he⟩:=h4 (by simpa using hty)
   obtain ⟨rfl,v,g1,g2⟩:=eqB_run (P:=P) (w:=w) (t:=t) (ty:=ty) (x:=.pointer none) (y:=.pointer none) hs hvc eqB_pp (equal_pp 9999 he)
   exact ⟨rfl,v,did (nilp_inv hr) (nilp_inv hq) eqGuard_ptr g1,g2 _ _⟩
 ·rename_i id off hp hp2
  rw [hp] at hr; rw [hp2] at hq
  cases hty:ty==4
  ·simp [hty] at hs
  ·simp only [hty,cond_true] at hs
   obtain ⟨e,he⟩:=h4 (by simpa using hty)
   obtain ⟨pl,k1,k2⟩:=hr.ptr_inv
   obtain ⟨rfl,v,g1,g2⟩:=eqB_run (P:=P) (w:=w) (t:=t) (ty:=ty) (x:=.pointer (some ⟨pl.blk,off,none⟩)) (y:=.pointer none) hs hvc eqB_pp (equal_pq _ 9999 he)
   exact ⟨rfl,v,did k2 (nilp_inv hq) eqGuard_ptr g1,g2 _ _⟩
 ·rename_i id i j hp hp2
  rw [hp] at hr; rw [hp2] at hq
  cases hty:ty==4
  ·simp [hty] at hs
  ·simp only [hty,cond_true] at hs
   obtain ⟨e,he⟩:=h4 (by simpa using hty)
   obtain ⟨pl,k1,k3,k2⟩:=hr.arp_inv
   obtain ⟨rfl,v,g1,g2⟩:=eqB_run (P:=P) (w:=w) (t:=t) (ty:=ty) (x:=.pointer (some ⟨pl.blk,pl.o+(i * pl.sz+j),none⟩)) (y:=.pointer none) hs hvc eqB_pp (equal_pq _ 9999 he)
   exact ⟨rfl,v,did k2 (nilp_inv hq) eqGuard_ptr g1,g2 _ _⟩
 ·rename_i hp hp2
  rw [hp] at hr; rw [hp2] at hq
  cases hty:ty==5
  ·simp [hty] at hs
  ·simp only [hty,cond_true] at hs
   obtain ⟨⟨e,he⟩,hc⟩:=h5 (by simpa using hty)
   obtain ⟨rfl,v,g1,g2⟩:=eqB_run (P:=P) (w:=w) (t:=t) (ty:=ty) (x:=.nilIface) (y:=.nilIface) hs hvc eqB_ii (equal_ii 9999 he)
   exact ⟨rfl,v,did (nili_inv hr) (nili_inv hq) (eqGuard_nil hc) g1,g2 _ _⟩
 ·cases hs
open Go.RowKit
variable {P:Program} {o:Oper} {ao:AOp}
theorem addr_add (b o n:Nat):(⟨b,o,none⟩:Addr).add n=⟨b,o+n,none⟩:=by
 unfold Addr.add; split
 ·rename_i h; subst h; rfl
 ·rfl
theorem run_size {t:TypeId} {n:Nat} (h:szT P t=some n) (w:World):(sizeOf t).run P w=.ok n w:=by
 unfold szT at h
 obtain ⟨i,hi,rfl⟩:=map_some h
 simp [sizeOf,typeInfo,hi]
theorem run_isAgg {t:TypeId} {b:Bool} (h:aggT P t=some b) (w:World):(isAgg t).run P w=.ok b w:=by
 unfold aggT at h
 split at h <;> simp only [Option.some.injEq,reduceCtorEq] at h <;> subst h
 ·rename_i hu; simp [isAgg,run_underlying hu]
 ·rename_i hu; simp [isAgg,run_underlying hu]
 ·rename_i d h1 h2 hu
  simp only [isAgg,Sem.run_bind,run_underlying hu,Result.andThen_ok]
  cases d <;> first | rfl | (exfalso; exact h1 _ rfl) | (exfalso; exact h2 _ _ rfl)
theorem run_fields {t:TypeId} {fs:Array Field} (h:fieldsT P t=some fs):P.underlying t=some (.struct fs):=by
 unfold fieldsT at h
 split at h <;> simp only [Option.some.injEq,reduceCtorEq] at h
 subst h; assumption
theorem ok_fadr {t:TypeId} {x:Operand} {x':AX} {f:Nat} {fs:Array Field} {fd:Field} {n:Nat} (ho:o.op=.fieldAddr t x f) (h1:fieldsT P t=some fs) (h2:fs[f]?=some fd)
  (h3:szT P fd.type=some (n+1)) (hx:compX x=some x'):StepOK P o (.fadr fd.offset x'):=by
 refine StepOK.quiet fun Y m w H next ρ ρv vc p u hρ hH hs hvc=>?_
 have hr:=hρ x x' hx
 have did:∀ b off,ρv x=.pointer (some ⟨b,off,none⟩)→Did P o ρv w (.pointer (some ⟨b,off+fd.offset,none⟩)) w:=by
  intro b off hv
  left
  simp [execOp,ho,hv,Instr.fieldAt,run_underlying (run_fields h1),h2,Instr.sureAddr,fieldPlace,run_size h3,addr_add]
 simp only [step] at hs
 split at hs
 ·rename_i id off hp
  simp only [res,Option.some.injEq,Prod.mk.injEq] at hs
  obtain ⟨_,rfl,rfl⟩:=hs
  rw [hp] at hr
  obtain ⟨pl,hm,hv⟩:=hr.ptr_inv
  exact ⟨rfl,_,did _ _ hv,.ptr hm⟩
 ·rename_i cols i hp
  simp only [res,Option.some.injEq,Prod.mk.injEq] at hs
  obtain ⟨_,rfl,rfl⟩:=hs
  rw [hp] at hr
  obtain ⟨b,oo,uu,hv,hY,hc⟩:=hr.elp_inv
  refine ⟨rfl,_,did _ _ hv,.elp (fun hne=>hY (by rintro rfl; simp at hne)) (fun j=>uu (fd.offset+j)) (fun j c hj=>?_)⟩
  rw [List.getElem?_drop] at hj
  obtain ⟨c1,c2⟩:=hc _ c hj
  exact ⟨by rw [Nat.add_assoc]; exact c1,c2⟩
 ·rename_i id i j hp
  simp only [res,Option.some.injEq,Prod.mk.injEq] at hs
  obtain ⟨_,rfl,rfl⟩:=hs
  rw [hp] at hr
  obtain ⟨pl,hm,hi,hv⟩:=hr.arp_inv
  have:=did _ _ hv
  rw [Nat.add_assoc,Nat.add_assoc] at this
  exact ⟨rfl,_,this,.arp hm hi⟩
 ·cases hs
theorem ok_iadr {t e:TypeId} {x i:Operand} {x' i':AX} {sz:Nat} (ho:o.op=.indexAddr t x i) (h1:P.underlying t=some (.slice e)) (h2:szT P e=some sz) (hz:0<sz) (hx:compX x=some x') (hi:compX i=some i') :
  StepOK P o (.iadr sz x' i'):=by
 refine StepOK.quiet fun Y m w H next ρ ρv vc p u hρ hH hs hvc=>?_
 have hr:=hρ x x' hx
 have hq:=hρ i i' hi
 have did:∀ b off n cap kk (k:Int),ρv x=.slice (some ⟨b,off,none⟩) n cap→ρv i=.int kk k→0≤k→k<n→Did P o ρv w (.pointer (some ⟨b,off+k.toNat * sz,none⟩)) w:=by
  intro b off n cap kk k hv hv2 h0 h1'
  left
  simp [execOp,ho,hv,hv2,Instr.indexAt,asIntOf,run_underlying h1,h0,h1',run_size h2,addr_add]
 simp only [step] at hs
 split at hs
 ·rename_i nl n cols kk k hp hp2
  cases hsz:cols.length==sz
  ·simp [hsz] at hs
  ·simp only [hsz,cond_true,Option.some.injEq,Prod.mk.injEq] at hs
   obtain ⟨rfl,rfl,rfl⟩:=hs
   obtain ⟨hv0,hv1⟩:=hvc
   have hsz':cols.length=sz:=by simpa using hsz
   rw [hp] at hr
   rw [hp2] at hq
   obtain ⟨A,cap,uu,e1,e2,e3,e4,e5,e6⟩:=hr.lit_inv
   have hk:k.toNat<n:=by omega
   rcases A with _ | ⟨b,off,spot⟩
   ·have:=(e3 rfl).1; omega
   ·have hcl:0<cols.length:=by omega
    obtain ⟨b',o',hA,hY,_⟩:=e5 k.toNat 0 hk hcl
    injection hA with hA
    injection hA with hA1 hA2 hA3
    subst hA1; subst hA2; subst hA3
    refine ⟨rfl,_,did _ _ _ _ _ _ e1 hq.int_inv hv0 hv1,.elp (fun _=>hY) (fun j=>uu k.toNat j) (fun j c hj=>?_)⟩
    have hjl:j<cols.length:=(List.getElem?_eq_some_iff.1 hj).1
    obtain ⟨b2,o2,hA,_,hcell⟩:=e5 k.toNat j hk hjl
    injection hA with hA
    injection hA with hA1 hA2 hA3
    subst hA1; subst hA2
    refine ⟨?_,e6 k.toNat j c hk hj⟩
    rw [← hsz',Nat.add_assoc]
    exact hcell
 ·rename_i id off n kk k hp hp2
  split at hs
  ·rename_i T nn cols hb
   cases hsz:cols.length==sz
   ·simp [hsz] at hs
   ·simp only [hsz,cond_true,Option.some.injEq,Prod.mk.injEq] at hs
    obtain ⟨rfl,rfl,rfl⟩:=hs
    obtain ⟨hv0,hv1⟩:=hvc
    have hsz':cols.length=sz:=by simpa using hsz
    rw [hp] at hr
    rw [hp2] at hq
    obtain ⟨pl,A,B,c,cap,hm,e1,e2,e3,e4,e5,e6,e7,e8⟩:=hr.sl_inv
    obtain ⟨pl',hm',hbs⟩:=hH id _ hb
    rw [hm] at hm'
    injection hm' with hm'
    subst hm'
    obtain ⟨xs,cap2,s1,s2,_⟩:=hbs
    have hB:=e5 (by omega)
    subst hB
    have hd:=did _ _ _ _ _ _ e1 hq.int_inv hv0 hv1
    refine ⟨rfl,_,hd,?_⟩
    have:pl.o+((off+k.toNat) * pl.sz+0)=pl.o+off * pl.sz+k.toNat * sz:=by rw [s2,hsz',Nat.add_mul,Nat.add_zero,Nat.add_assoc]
    rw [← this]
    exact .arp hm (by omega)
  ·cases hs
 ·cases hs
theorem ldT_none {t:TypeId} (h:ldT P t=some none):aggT P t=some false:=by
 unfold ldT at h; split at h
 ·obtain ⟨_,_,h⟩:=map_some h; cases h
 ·assumption
 ·cases h
theorem ldT_some {t:TypeId} {n:Nat} (h:ldT P t=some (some n)):aggT P t=some true∧szT P t=some n:=by
 unfold ldT at h; split at h
 ·obtain ⟨k,hk,h⟩:=map_some h
  injection h with h
  subst h
  exact ⟨by assumption,hk⟩
 ·cases h
 ·cases h
theorem load_one {t:TypeId} {x:Operand} {ρv:Operand→Value} {w:World} {b off:Nat} {v:Value} (ho:o.op=.load t x) (ht:ldT P t=some none) (hv:ρv x=.pointer (some ⟨b,off,none⟩))
  (hc:w.cell? ⟨b,off,none⟩=some v):Did P o ρv w v w:=by
 left
 simp [execOp,ho,hv,Instr.loadAt,Instr.sureAddr,loadVar,run_isAgg (ldT_none ht),hc]
theorem load_many {t:TypeId} {x:Operand} {ρv:Operand→Value} {w:World} {b off:Nat} {vs:List Value} (ho:o.op=.load t x) (ht:ldT P t=some (some vs.length)) (hv:ρv x=.pointer (some ⟨b,off,none⟩))
  (hc:∀ j u,vs[j]?=some u→w.cell? ⟨b,off+j,none⟩=some u):Did P o ρv w (.agg vs.toArray) w:=by
 left
 have h:=run_loadCells_list (P:=P) (w:=w) ⟨b,off,none⟩ vs (fun j u hj=>by rw [addr_add]; exact hc j u hj)
 obtain ⟨h1,h2⟩:=ldT_some ht
 simp [execOp,ho,hv,Instr.loadAt,Instr.sureAddr,loadVar,run_isAgg h1,run_size h2,h]
theorem cols_agg {Y:Nat→Prop} {m:Names} {w:World} {cols:List Col} {k n:Nat} (u:Nat→Value) (hn:n≤cols.length) (hr:∀ (j:Nat) c,cols[j]?=some c→ACR Y m w c k (u j)) :
  Rep Y m w (.agg ((cols.take n).map (colPV · k))) (.agg ((List.range n).map u).toArray):=by
 refine .agg (by simp; omega) ?_ ?_
 ·intro i p v hp hv
  rw [List.getElem?_map] at hp
  obtain ⟨c,hc,rfl⟩:=map_some hp
  rw [List.getElem?_take] at hc
  split at hc
  ·rename_i hi
   rw [List.getElem?_map,List.getElem?_range hi] at hv
   simp only [Option.map_some,Option.some.injEq] at hv
   subst hv
   exact rep_acr (hr i c hc)
  ·cases hc
 ·intro v hv
  obtain ⟨j,hj,rfl⟩:=List.mem_map.1 hv
  have hj':j<n:=List.mem_range.1 hj
  exact (hr j cols[j] (List.getElem?_eq_getElem (by omega))).one
theorem load_quiet {t:TypeId} {x:Operand} {x':AX} {s:Option Nat} (ho:o.op=.load t x) (ht:ldT P t=some s) (hx:compX x=some x')
  (Y:Nat→Prop) (m:Names) (w:World) (H:Heap) (next:Nat) (ρ:AX→PV) (ρv:Operand→Value) (vc:Prop) (p:PV) (u:Heap)
  (hρ:∀ x ax,compX x=some ax→Rep Y m w (ρ ax) (ρv x)) (hH:∀ id b,getH H id=some b→∃ pl,m id=some pl∧BlkSat Y m w pl b) (hs:step ρ H next (.load s x')=some (vc,p,u)) :
  u=[]∧∃ v,Did P o ρv w v w∧Rep Y m w p v:=by
 have hr:=hρ x x' hx
 simp only [step] at hs
 split at hs
 ·rename_i id off hp
  rw [hp] at hr
  obtain ⟨pl,hm,hv⟩:=hr.ptr_inv
  split at hs
  ·rename_i T cs hb
   obtain ⟨pl',hm',hbs⟩:=hH id _ hb
   rw [hm] at hm'
   injection hm' with hm'
   subst hm'
   obtain ⟨vs,s1,s2,s3,s4⟩:=hbs
   have hcell:∀ j u,vs[j]?=some u→w.cell? ⟨pl.blk,j,none⟩=some u:=fun j u hj=>by
    rw [cell_of_row w pl.blk j _ T (0,0) s1]; simpa using hj
   split at hs
   ·split at hs
    ·rename_i q rest hd
     simp only [res,Option.some.injEq,Prod.mk.injEq] at hs
     obtain ⟨_,rfl,rfl⟩:=hs
     have hq:cs[off]?=some q:=by have:=congrArg (fun l=>l[0]?) hd; simpa using this
     have hlt:off<vs.length:=by rw [s2]; exact (List.getElem?_eq_some_iff.1 hq).1
     have hv':vs[off]?=some vs[off]:=List.getElem?_eq_getElem hlt
     exact ⟨rfl,_,load_one ho ht hv (hcell _ _ hv'),s4 _ _ _ hq hv'⟩
    ·cases hs
   ·rename_i n
    cases hle:decide (off+n≤cs.length)
    ·simp [hle] at hs
    ·simp only [hle,cond_true,res,Option.some.injEq,Prod.mk.injEq] at hs
     obtain ⟨_,rfl,rfl⟩:=hs
     have hle':off+n≤cs.length:=by simpa using hle
     have hl:((vs.drop off).take n).length=n:=by simp; omega
     refine ⟨rfl,_,load_many (vs:=(vs.drop off).take n) ho (by rw [hl]; exact ht) hv (fun j u hj=>?_),.agg (by simp; omega) ?_ ?_⟩
     ·rw [List.getElem?_take] at hj
      split at hj
      ·rw [List.getElem?_drop] at hj; exact hcell _ _ hj
      ·cases hj
     ·intro i p v hp hv
      rw [List.getElem?_take] at hp hv
      split at hp
      ·rename_i hi
       rw [if_pos hi] at hv
       rw [List.getElem?_drop] at hp hv
       exact s4 _ _ _ hp hv
      ·cases hp
     ·intro v hv; exact s3 v (List.mem_of_mem_drop (List.mem_of_mem_take hv))
  ·cases hs
 ·rename_i cols i hp
  rw [hp] at hr
  obtain ⟨b,oo,uu,hv,hY,hc⟩:=hr.elp_inv
  split at hs
  ·split at hs
   ·rename_i c rest
    simp only [res,Option.some.injEq,Prod.mk.injEq] at hs
    obtain ⟨_,rfl,rfl⟩:=hs
    obtain ⟨c1,c2⟩:=hc 0 c rfl
    exact ⟨rfl,_,load_one ho ht hv c1,rep_colPV c2⟩
   ·cases hs
  ·rename_i n
   cases hle:decide (n≤cols.length)
   ·simp [hle] at hs
   ·simp only [hle,cond_true,res,Option.some.injEq,Prod.mk.injEq] at hs
    obtain ⟨_,rfl,rfl⟩:=hs
    have hle':n≤cols.length:=by simpa using hle
    refine ⟨rfl,_,load_many (vs:=(List.range n).map uu) ho (by simpa using ht) hv (fun j u hj=>?_),cols_agg uu hle' (fun j c hj=>(hc j c hj).2.acr)⟩
    rw [List.getElem?_map] at hj
    obtain ⟨k,hk,rfl⟩:=map_some hj
    have hjn:j<n:=by have:=(List.getElem?_eq_some_iff.1 hk).1; simpa using this
    rw [List.getElem?_range hjn] at hk
    injection hk with hk
    subst hk
    exact (hc _ cols[j] (List.getElem?_eq_getElem (by omega))).1
 ·rename_i id i j hp
  rw [hp] at hr
  obtain ⟨pl,hm,hi,hv⟩:=hr.arp_inv
  split at hs
  ·rename_i T nn cols hb
   obtain ⟨pl',hm',hbs⟩:=hH id _ hb
   rw [hm] at hm'
   injection hm' with hm'
   subst hm'
   obtain ⟨xs,cap,s1,s2,s3,s4,s5,s6,s7⟩:=hbs
   have hcell:∀ j' c,cols[j']?=some c→∃ v,w.cell? ⟨pl.blk,pl.o+(i * pl.sz+j'),none⟩=some v∧ACR Y m w c i v:=fun j' c hj=>by
    obtain ⟨v,hx,hcr⟩:=s7 i j' c (by omega) hj
    have:=s3.cells (g:=pl.blk) (s4 (by omega)) _ _ hx
    exact ⟨v,by rw [s2]; exact this,hcr⟩
   split at hs
   ·split at hs
    ·rename_i c rest hd
     simp only [res,Option.some.injEq,Prod.mk.injEq] at hs
     obtain ⟨_,rfl,rfl⟩:=hs
     have hq:cols[j]?=some c:=by have:=congrArg (fun l=>l[0]?) hd; simpa using this
     obtain ⟨v,c1,c2⟩:=hcell j c hq
     exact ⟨rfl,_,load_one ho ht hv c1,rep_acr c2⟩
    ·cases hs
   ·rename_i n
    cases hle:decide (j+n≤cols.length)
    ·simp [hle] at hs
    ·simp only [hle,cond_true,res,Option.some.injEq,Prod.mk.injEq] at hs
     obtain ⟨_,rfl,rfl⟩:=hs
     have hle':j+n≤cols.length:=by simpa using hle
     have hcell':∀ j',∃ v,∀ c,(cols.drop j)[j']?=some c→w.cell? ⟨pl.blk,pl.o+(i * pl.sz+j)+j',none⟩=some v∧ACR Y m w c i v:=by
      intro j'
      rcases h:(cols.drop j)[j']? with _ | c
      ·exact ⟨undef,fun c h'=>by cases h'⟩
      ·have h2:=h
       rw [List.getElem?_drop] at h2
       obtain ⟨v,c1,c2⟩:=hcell _ c h2
       refine ⟨v,fun c' h'=>?_⟩
       injection h' with h'
       subst h'
       exact ⟨by rw [Nat.add_assoc,Nat.add_assoc]; exact c1,c2⟩
     obtain ⟨uu,huu⟩:=Classical.axiomOfChoice hcell'
     have hdl:n≤(cols.drop j).length:=by simp; omega
     refine ⟨rfl,_,load_many (vs:=(List.range n).map uu) ho (by simpa using ht) hv (fun j' u hj=>?_),cols_agg uu hdl (fun j' c hj=>(huu j' c hj).2)⟩
     rw [List.getElem?_map] at hj
     obtain ⟨k,hk,rfl⟩:=map_some hj
     have hjn:j'<n:=by have:=(List.getElem?_eq_some_iff.1 hk).1; simpa using this
     rw [List.getElem?_range hjn] at hk
     injection hk with hk
     subst hk
     exact (huu _ _ (List.getElem?_eq_getElem (by omega))).1
  ·cases hs
 ·cases hs
theorem ok_load {t:TypeId} {x:Operand} {x':AX} {s:Option Nat} (ho:o.op=.load t x) (ht:ldT P t=some s) (hx:compX x=some x'):StepOK P o (.load s x') :=
 StepOK.quiet fun Y m w H next ρ ρv vc p u hρ hH hs _=>load_quiet ho ht hx Y m w H next ρ ρv vc p u hρ hH hs
theorem ok_aidx {t e:TypeId} {n:Nat} {x i:Operand} {x' i':AX} {sz:Nat} {s:Option Nat} (ho:o.op=.index t x i) (h1:P.underlying t=some (.array n e)) (h2:szT P e=some sz)
  (ht:ldT P e=some s) (hx:compX x=some x') (hi:compX i=some i'):StepOK P o (.aidx n sz s x' i'):=by
 refine StepOK.quiet fun Y m w H next ρ ρv vc p u hρ hH hs hvc=>?_
 have hr:=hρ x x' hx
 have hq:=hρ i i' hi
 simp only [step] at hs
 split at hs
 ·rename_i ps kk k hp hp2
  rw [hp] at hr
  rw [hp2] at hq
  obtain ⟨vs,hv,c1,c2,c3⟩:=hr.agg_inv
  split at hs
  ·split at hs
   ·rename_i q rest hd
    simp only [Option.some.injEq,Prod.mk.injEq] at hs
    obtain ⟨rfl,rfl,rfl⟩:=hs
    obtain ⟨hv0,hv1⟩:=hvc
    have hq':ps[k.toNat * sz]?=some q:=by have:=congrArg (fun l=>l[0]?) hd; simpa using this
    have hlt:k.toNat * sz<vs.length:=by rw [c1]; exact (List.getElem?_eq_some_iff.1 hq').1
    have hv':vs[k.toNat * sz]?=some vs[k.toNat * sz]:=List.getElem?_eq_getElem hlt
    refine ⟨rfl,vs[k.toNat * sz],.inl ?_,c2 _ _ _ hq' hv'⟩
    simp [execOp,ho,hv,hq.int_inv,Instr.index,asIntOf,run_underlying h1,part,run_isAgg (ldT_none ht),run_size h2,asAgg,hlt,hv0,hv1]
   ·cases hs
  ·rename_i z
   cases hle:decide (k.toNat * sz+z≤ps.length)
   ·simp [hle] at hs
   ·simp only [hle,cond_true,Option.some.injEq,Prod.mk.injEq] at hs
    obtain ⟨rfl,rfl,rfl⟩:=hs
    obtain ⟨hv0,hv1⟩:=hvc
    have hle':k.toNat * sz+z≤ps.length:=by simpa using hle
    obtain ⟨g1,g2⟩:=ldT_some ht
    have hz:sz=z:=by rw [h2] at g2; injection g2
    subst hz
    refine ⟨rfl,.agg ((vs.drop (k.toNat * sz)).take sz).toArray,.inl ?_,.agg (by simp; omega) ?_ ?_⟩
    ·simp [execOp,ho,hv,hq.int_inv,Instr.index,asIntOf,run_underlying h1,part,run_isAgg g1,run_size g2,run_size h2,asAgg,hv0,hv1]
    ·intro i p v hp hv
     rw [List.getElem?_take] at hp hv
     split at hp
     ·rename_i hi
      rw [if_pos hi] at hv
      rw [List.getElem?_drop] at hp hv
      exact c2 _ _ _ hp hv
     ·cases hp
    ·intro v hv; exact c3 v (List.mem_of_mem_drop (List.mem_of_mem_take hv))
 ·cases hs
theorem ok_fld {t:TypeId} {x:Operand} {x':AX} {f:Nat} {fs:Array Field} {fd:Field} {s:Option Nat} (ho:o.op=.field t x f) (h1:fieldsT P t=some fs) (h2:fs[f]?=some fd)
  (ht:ldT P fd.type=some s) (hx:compX x=some x'):StepOK P o (.fld fd.offset s x'):=by
 refine StepOK.quiet fun Y m w H next ρ ρv vc p u hρ hH hs hvc=>?_
 have hr:=hρ x x' hx
 simp only [step] at hs
 split at hs
 ·rename_i ps hp
  rw [hp] at hr
  obtain ⟨vs,hv,c1,c2,c3⟩:=hr.agg_inv
  split at hs
  ·split at hs
   ·rename_i q rest hd
    simp only [res,Option.some.injEq,Prod.mk.injEq] at hs
    obtain ⟨_,rfl,rfl⟩:=hs
    have hq:ps[fd.offset]?=some q:=by have:=congrArg (fun l=>l[0]?) hd; simpa using this
    have hlt:fd.offset<vs.length:=by rw [c1]; exact (List.getElem?_eq_some_iff.1 hq).1
    have hv':vs[fd.offset]?=some vs[fd.offset]:=List.getElem?_eq_getElem hlt
    refine ⟨rfl,vs[fd.offset],.inl ?_,c2 _ _ _ hq hv'⟩
    simp [execOp,ho,hv,Instr.field,run_underlying (run_fields h1),h2,part,run_isAgg (ldT_none ht),asAgg,hlt]
   ·cases hs
  ·rename_i n
   cases hle:decide (fd.offset+n≤ps.length)
   ·simp [hle] at hs
   ·simp only [hle,cond_true,res,Option.some.injEq,Prod.mk.injEq] at hs
    obtain ⟨_,rfl,rfl⟩:=hs
    have hle':fd.offset+n≤ps.length:=by simpa using hle
    obtain ⟨g1,g2⟩:=ldT_some ht
    have he:(vs.toArray.extract fd.offset (fd.offset+n))=((vs.drop fd.offset).take n).toArray:=by simp
    refine ⟨rfl,.agg ((vs.drop fd.offset).take n).toArray,.inl ?_,.agg (by simp; omega) ?_ ?_⟩
    ·simp [execOp,ho,hv,Instr.field,run_underlying (run_fields h1),h2,part,run_isAgg g1,run_size g2,asAgg]
    ·intro i p v hp hv
     rw [List.getElem?_take] at hp hv
     split at hp
     ·rename_i hi
      rw [if_pos hi] at hv
      rw [List.getElem?_drop] at hp hv
      exact c2 _ _ _ hp hv
     ·cases hp
    ·intro v hv; exact c3 v (List.mem_of_mem_drop (List.mem_of_mem_take hv))
 ·cases hs
theorem mm_run {Y:Nat→Prop} {m:Names} {w:World} {mx:Bool} {k:IntKind}:∀ (ys:List PV) (vs:List Value) (n r:Int),mmFold mx k n ys=some r→vs.length=ys.length→(∀ (i:Nat) p v,ys[i]?=some p→vs[i]?=some v→Rep Y m w p v) →
  (vs.foldlM (if mx then Builtin.max2 else Builtin.min2) (.int k n)).run P w=.ok (.int k r) w
 | [],vs,n,r,h,hl,hr=>by
  simp only [mmFold,Option.some.injEq] at h; subst h
  have:vs=[]:=by simpa using hl
  subst this; simp
 | y::ys,[],n,r,h,hl,hr=>by simp at hl
 | y::ys,v::vs,n,r,h,hl,hr=>by
  cases y with
  | int k' b =>
   simp only [mmFold] at h
   split at h
   ·rename_i e
    subst e
    have hv:=(hr 0 _ v rfl rfl).int_inv
    subst hv
    rw [List.foldlM_cons]
    have ih:=mm_run ys vs _ r h (by simpa using hl) (fun i p v h1 h2=>hr (i+1) p v (by simpa using h1) (by simpa using h2))
    cases mx
    ·have e:(if b<n then b else n)=min n b:=by simp only [Int.min_def]; split <;> split <;> omega
     simp only [cond_false] at ih
     simpa [Builtin.min2,e] using ih
    ·have e:(if b > n then b else n)=max n b:=by simp only [Int.max_def]; split <;> split <;> omega
     simp only [cond_true] at ih
     simpa [Builtin.max2,e] using ih
   ·cases h
  | _=>simp [mmFold] at h
open Go.RowKit
variable {P:Program} {o:Oper} {ao:AOp}
structure Cells (Y:Nat→Prop) (m:Names) (w:World) (ps:List PV) (vs:List Value):Prop where
 len:vs.length=ps.length
 rep:∀ (i:Nat) p v,ps[i]?=some p→vs[i]?=some v→Rep Y m w p v
 one:∀ v∈vs,v.oneCell'=true
theorem Rep.toCells {Y:Nat→Prop} {m:Names} {w:World} {p:PV} {v:Value} {ps:List PV} (h:Rep Y m w p v) (hc:p.cells=some ps):∃ vs:List Value,v.cells=vs.toArray∧Cells Y m w ps vs:=by
 obtain ⟨vs,h1,h2,h3,h4⟩:=h.one hc
 exact ⟨vs,h1,h2,h3,h4⟩
theorem Cells.ev {Y Y':Nat→Prop} {m m':Names} {w w':World} {ps:List PV} {vs:List Value} (h:Cells Y m w ps vs) (e:Ev Y m w Y' m' w'):Cells Y' m' w' ps vs :=
 ⟨h.len,fun i p v hp hv=>(h.rep i p v hp hv).ev e,h.one⟩
theorem splice_len {α:Type}:∀ (ps cs:List α) (o:Nat),(splice cs o ps).length=cs.length
 | [],cs,o=>rfl
 | p::ps,cs,o=>by simp only [splice]; rw [splice_len ps]; simp
theorem splice_get {α:Type}:∀ (ps cs:List α) (o i:Nat),(splice cs o ps)[i]?=if o≤i∧i<o+ps.length∧i<cs.length then ps[i - o]? else cs[i]?
 | [],cs,o,i=>by
  simp only [splice,List.length_nil]
  rw [if_neg (by omega)]
 | p::ps,cs,o,i=>by
  simp only [splice]
  rw [splice_get ps,List.length_set,List.length_cons]
  by_cases h1:o=i
  ·subst h1
   rw [if_neg (by omega)]
   by_cases h2:o<cs.length
   ·rw [if_pos ⟨Nat.le_refl _,by omega,h2⟩,Nat.sub_self,List.getElem?_set_self h2]; rfl
   ·rw [if_neg (by omega),List.getElem?_eq_none (by simp; omega),List.getElem?_eq_none (by omega)]
  ·by_cases h2:o≤i∧i<o+(ps.length+1)∧i<cs.length
   ·rw [if_pos h2,if_pos (by omega)]
    obtain ⟨k,hk⟩:∃ k,i - o=k+1:=⟨i - o - 1,by omega⟩
    rw [hk,show i - (o+1)=k from by omega,List.getElem?_cons_succ]
   ·rw [if_neg h2,if_neg (by omega),List.getElem?_set_ne h1]
theorem Cells.splice {Y:Nat→Prop} {m:Names} {w:World} {ps qs:List PV} {vs us:List Value} (h:Cells Y m w ps vs) (k:Cells Y m w qs us) (o:Nat):Cells Y m w (splice ps o qs) (splice vs o us):=by
 refine ⟨by rw [splice_len,splice_len,h.len],?_,?_⟩
 ·intro i p v hp hv
  rw [splice_get] at hp hv
  rw [h.len,k.len] at hv
  split at hp
  ·rename_i hc
   rw [if_pos hc] at hv
   exact k.rep _ p v hp hv
  ·rename_i hc
   rw [if_neg hc] at hv
   exact h.rep i p v hp hv
 ·intro v hv
  obtain ⟨i,hi⟩:=List.mem_iff_getElem?.1 hv
  rw [splice_get] at hi
  split at hi
  ·exact k.one v (List.mem_of_getElem? hi)
  ·exact h.one v (List.mem_of_getElem? hi)
theorem fold_splice (off:Nat):∀ (vs:List Value) (k:Nat) (cs:List Value),
  (vs.zipIdx k).foldl (fun (a:Array Value) (cj:Value × Nat)=>a.setIfInBounds (off+cj.2) cj.1) cs.toArray=(splice cs (off+k) vs).toArray
 | [],k,cs=>rfl
 | v::vs,k,cs=>by
  simp only [List.zipIdx_cons,List.foldl_cons,splice]
  rw [List.setIfInBounds_toArray,fold_splice off vs (k+1)]
  rw [Nat.add_assoc]
theorem fill_rep {Y:Nat→Prop} {m:Names} {w:World} {ρ:AX→PV} {ρv:Operand→Value} (hρ:∀ x ax,compX x=some ax→Rep Y m w (ρ ax) (ρv x)) (place:Nat→Option (Nat × Nat)) :
  ∀ (parts:List (Nat × Operand)) (ys:List (Nat × Nat × AX)) (zs ps:List PV) (cs:List Value),compParts place parts=some ys→fillP ρ zs ys=some ps→Cells Y m w zs cs →
   ∃ cs',Instr.fill place cs.toArray (parts.map fun (i,x)=>(i,ρv x))=some cs'.toArray∧Cells Y m w ps cs'
 | [],ys,zs,ps,cs,hc,hf,hz=>by
  simp only [compParts,Option.some.injEq] at hc
  subst hc
  simp only [fillP,Option.some.injEq] at hf
  subst hf
  exact ⟨cs,rfl,hz⟩
 | (i,x)::r,ys,zs,ps,cs,hc,hf,hz=>by
  simp only [compParts] at hc
  split at hc
  ·rename_i off n y ys' h1 h2 h3
   simp only [Option.some.injEq] at hc
   subst hc
   simp only [fillP] at hf
   split at hf
   ·rename_i qs hq
    obtain ⟨us,hus,hcu⟩:=(hρ x y h2).toCells hq
    cases hcond:(qs.length==n && decide (off+n≤zs.length))
    ·simp [hcond] at hf
    ·simp only [hcond,cond_true] at hf
     simp only [Bool.and_eq_true,beq_iff_eq,decide_eq_true_eq] at hcond
     obtain ⟨cs',g1,g2⟩:=fill_rep hρ place r ys' _ ps (splice cs off us) h3 hf (hz.splice hcu off)
     refine ⟨cs',?_,g2⟩
     have hl1:us.length=n:=by rw [hcu.len]; exact hcond.1
     have hl2:off+us.length≤cs.length:=by rw [hl1,hz.len]; exact hcond.2
     have hfold:=fold_splice off us 0 cs
     simp only [List.map_cons,Instr.fill,h1,hus,List.size_toArray,hl1,ne_eq,not_true_eq_false,decide_false,Bool.false_or,decide_eq_true_eq]
     rw [if_neg (by omega)]
     rw [← g1]
     congr 1
     rw [Nat.add_zero] at hfold
     rw [← hfold]
     simp
   ·cases hf
  ·cases hc
theorem zeroT_cells {Y:Nat→Prop} {m:Names} {w:World} {t:TypeId} {z:List PV} (h:zeroT P t=some z):∃ (i:TypeInfo) (zv:Value) (cs:List Value),P.info? t=some i∧i.zero=some zv∧zv.cells=cs.toArray∧z.length=i.size∧Cells Y m w z cs:=by
 unfold zeroT at h
 split at h
 ·rename_i i hi
  split at h
  ·rename_i zv hz
   split at h
   ·rename_i ps hps
    split at h
    ·rename_i hl
     simp only [Option.some.injEq] at h
     subst h
     obtain ⟨c1,c2,c3⟩:=rep_cvCells (Y:=Y) (m:=m) (w:=w) hps
     exact ⟨i,zv,zv.cells.toList,hi,hz,by simp,hl,c1,c2,c3⟩
    ·cases h
   ·cases h
  ·cases h
 ·cases h
theorem ok_build {t:TypeId} {parts:Array (Nat × Operand)} {z:List PV} {pl:List (Nat × Nat)} (ho:o.op=.build t parts) (h1:zeroT P t=some z) (h2:placesT P t=some pl)
  (hc:(compParts (fun i=>pl[i]?) parts.toList).map (AOp.build z)=some ao):StepOK P o ao:=by
 obtain ⟨ys,hys,rfl⟩:=map_some hc
 refine StepOK.quiet fun Y m w H next ρ ρv vc p u hρ hH hs hvc=>?_
 simp only [step] at hs
 split at hs
 ·rename_i ps hps
  simp only [res,Option.some.injEq,Prod.mk.injEq] at hs
  obtain ⟨_,rfl,rfl⟩:=hs
  obtain ⟨i,zv,cs,e1,e2,e3,e4,e5⟩:=zeroT_cells (Y:=Y) (m:=m) (w:=w) h1
  obtain ⟨cs',g1,g2⟩:=fill_rep hρ _ _ _ _ _ cs hys hps e5
  unfold placesT at h2
  split at h2
  ·rename_i fs hfs
   refine ⟨rfl,.agg cs'.toArray,.inl ?_,.agg g2.len g2.rep g2.one⟩
   have hb:P.built t (parts.map fun (i,x)=>(i,ρv x)).toList=some cs'.toArray:=by
    unfold Program.built
    simp only [e1,run_fields hfs,e2,h2,e3]
    rw [← g1]
    congr 1
    ·funext k; simp
    ·simp
   have:=run_build (P:=P) w t (parts.map fun (i,x)=>(i,ρv x)) cs'.toArray hb
   simp only [execOp,ho]
   simp [this]
  ·cases h2
 ·cases hs
theorem compXs_rep {Y:Nat→Prop} {m:Names} {w:World} {ρ:AX→PV} {ρv:Operand→Value} (hρ:∀ x ax,compX x=some ax→Rep Y m w (ρ ax) (ρv x)) :
  ∀ {xs:List Operand} {az:List AX},compXs xs=some az→(xs.map ρv).length=(az.map ρ).length∧∀ (i:Nat) p v,(az.map ρ)[i]?=some p→(xs.map ρv)[i]?=some v→Rep Y m w p v
 | [],az,h=>by simp only [compXs,Option.some.injEq] at h; subst h; simp
 | x::xs,az,h=>by
  simp only [compXs] at h
  split at h
  ·rename_i y ys h1 h2
   simp only [Option.some.injEq] at h
   subst h
   obtain ⟨i1,i2⟩:=compXs_rep hρ h2
   refine ⟨by simp only [List.map_cons,List.length_cons,i1],?_⟩
   intro i p v hp hv
   rcases i with _ | i
   ·simp only [List.map_cons,List.getElem?_cons_zero,Option.some.injEq] at hp hv
    subst hp; subst hv
    exact hρ x y h1
   ·simp only [List.map_cons,List.getElem?_cons_succ] at hp hv
    exact i2 i p v hp hv
  ·cases h
theorem ok_mkfn {f:FuncId} {first caps:Array Operand} (ho:o.op=.makeFunc (.func f) first caps) (hf:first.size=0) (hc:(compXs caps.toList).map (AOp.mkfn f)=some ao):StepOK P o ao:=by
 obtain ⟨ys,hys,rfl⟩:=map_some hc
 refine StepOK.quiet fun Y m w H next ρ ρv vc p u hρ hH hs hvc=>?_
 simp only [step,res,Option.some.injEq,Prod.mk.injEq] at hs
 obtain ⟨_,rfl,rfl⟩:=hs
 obtain ⟨i1,i2⟩:=compXs_rep hρ hys
 refine ⟨rfl,.func (.func f) #[] (caps.toList.map ρv).toArray,.inl ?_,.fn i1 i2⟩
 have e:caps.map ρv=(caps.toList.map ρv).toArray:=Array.toList_inj.1 (by simp)
 have e2:first=#[]:=Array.eq_empty_of_size_eq_zero hf
 simp [execOp,ho,Instr.makeFunc,e,e2]
theorem ColRep.shift {Y:Nat→Prop} {w:World} {c:Col} {a j:Nat} {v:Value} (h:ColRep Y w c (a+j) v):ColRep Y w (c.shift a) j v:=by
 cases h with
 | i=>exact .i (g:=fun i=>_)
 | b=>exact .b (g:=fun i=>_)
 | s=>exact .s (g:=fun i=>_)
 | l u h1 h2 h3 h4 h5=>exact .l (nl:=fun i=>_) (len:=fun i=>_) (cols:=fun i=>_) u h1 h2 h3 h4 h5
theorem slc_lit {Y:Nat→Prop} {m:Names} {w:World} {nl:Bool} {n cap l h sz:Nat} {cols:List Col} {A:Option Addr} (u:Nat→Nat→Value) (cols':List Col)
  (e2:nl=A.isNone) (e3:A=none→n=0∧cap=0) (e4:n≤cap)
  (e5:∀ j k,j<n→k<cols.length→∃ b o,A=some ⟨b,o,none⟩∧¬ Y b∧w.cell? ⟨b,o+(j * cols.length+k),none⟩=some (u j k))
  (e6:∀ (j k:Nat) c,j<n→cols[k]?=some c→ColRep Y w c j (u j k)) (hl:l≤h) (hh:h≤n) (hsz:cols.length=sz)
  (hlen:cols'.length=cols.length) (hcols:∀ (k:Nat) c,cols'[k]?=some c→∃ c0,cols[k]?=some c0∧∀ j v,ColRep Y w c0 (l+j) v→ColRep Y w c j v) :
  Rep Y m w (.lit nl (h - l) cols') (.slice (if cap=l then A else A.map (·.add (l * sz))) (h - l) (cap - l)):=by
 refine Rep.lit_mk (fun j k=>u (l+j) k) ?_ ?_ (by omega) ?_ ?_
 ·rw [e2]; split
  ·rfl
  ·cases A <;> rfl
 ·intro hA
  have:A=none:=by
   split at hA
   ·exact hA
   ·cases A
    ·rfl
    ·simp at hA
  have:=e3 this
  omega
 ·intro j k hj hk
  rw [hlen] at hk ⊢
  obtain ⟨b,oo,hA,hY,hc⟩:=e5 (l+j) k (by omega) hk
  subst hA
  rw [if_neg (by omega)]
  refine ⟨b,oo+l * sz,by simp [addr_add],hY,?_⟩
  rw [← hc,← hsz]
  congr 2
  rw [Nat.add_mul]; omega
 ·intro j k c hj hk
  obtain ⟨c0,h0,hcr⟩:=hcols k c hk
  exact hcr j _ (e6 (l+j) k c0 (by omega) h0)
def LoIs:Option Int→Nat→Prop
 | none,a=>a=0
 | some k,a=>0≤k∧a=k.toNat
def HiIs (n:Nat):Option Int→Nat→Prop
 | none,b=>b=n
 | some k,b=>0≤k∧b=k.toNat
theorem ok_slc {t e:TypeId} {x:Operand} {lo hi:Option Operand} {x':AX} {lo' hi':Option AX} {sz:Nat} (ho:o.op=.slice t x lo hi none) (h1:P.underlying t=some (.slice e)) (h2:szT P e=some sz)
  (hx:compX x=some x') (hl:optX lo=some lo') (hh:optX hi=some hi'):StepOK P o (.slc sz x' lo' hi'):=by
 refine StepOK.quiet fun Y m w H next ρ ρv vc p u hρ hH hs hvc=>?_
 have hr:=hρ x x' hx
 have did:∀ (A:Option Addr) (n cap a b:Nat),ρv x=.slice A n cap→(Instr.sliceBounds true n cap (lo.map ρv) (hi.map ρv) none).run P w=.ok (a,b,cap) w →
   Did P o ρv w (.slice (if cap=a then A else A.map (·.add (a * sz))) (b - a) (cap - a)) w:=by
  intro A n cap a b hv hrun
  left
  simp [execOp,ho,hv,Instr.sliceAt,Instr.slice,run_underlying h1,hrun,run_size h2]
 simp only [step] at hs
 split at hs
 ·rename_i lo2 hi2 l h q1 q2
  -- the bounds as numbers
  have run4:∀ (n cap:Nat),n≤cap→∀ (a b:Nat),a≤b→b≤cap→LoIs l a→HiIs n h b →
    (Instr.sliceBounds true n cap (lo.map ρv) (hi.map ρv) none).run P w=.ok (a,b,cap) w:=by
   intro n cap hnc a b hab hbn hla hhb
   rcases l with _ | kl <;> rcases h with _ | kh
   ·simp only [LoIs,HiIs] at hla hhb
    subst hla; subst hhb
    rw [optInt_none hρ hl q1,optInt_none hρ hh q2]
    simp [Instr.sliceBounds]
   ·simp only [LoIs,HiIs] at hla hhb
    obtain ⟨c1,rfl⟩:=hhb
    subst hla
    obtain ⟨_,k2⟩:=optInt_int hρ hh q2
    have c2:kh≤(cap:Int):=by omega
    rw [optInt_none hρ hl q1,k2]
    simp [Instr.sliceBounds,Instr.sliceBound,asIntOf,c1,c2]
   ·simp only [LoIs,HiIs] at hla hhb
    obtain ⟨c1,rfl⟩:=hla
    subst hhb
    obtain ⟨_,k1⟩:=optInt_int hρ hl q1
    have c2:kl≤(b:Int):=by omega
    rw [k1,optInt_none hρ hh q2]
    simp [Instr.sliceBounds,Instr.sliceBound,asIntOf,c1,c2]
   ·simp only [LoIs,HiIs] at hla hhb
    obtain ⟨c1,rfl⟩:=hla
    obtain ⟨c3,rfl⟩:=hhb
    obtain ⟨_,k1⟩:=optInt_int hρ hl q1
    obtain ⟨_,k2⟩:=optInt_int hρ hh q2
    have c2:kh≤(cap:Int):=by omega
    have c4:¬ max kh 0<kl:=by omega
    rw [k1,k2]
    simp [Instr.sliceBounds,Instr.sliceBound,asIntOf,c1,c2,c3,c4]
  split at hs
  ·rename_i nl n cols hp
   rw [hp] at hr
   obtain ⟨A,cap,uu,e1,e2,e3,e4,e5,e6⟩:=hr.lit_inv
   cases hsz:cols.length==sz
   ·simp [hsz] at hs
   ·simp only [hsz,cond_true] at hs
    have hsz':cols.length=sz:=by simpa using hsz
    have go:∀ (a b:Nat),a≤b→b≤n→LoIs l a→HiIs n h b→∀ cols':List Col,cols'.length=cols.length →
      (∀ (k:Nat) c,cols'[k]?=some c→∃ c0,cols[k]?=some c0∧∀ j v,ColRep Y w c0 (a+j) v→ColRep Y w c j v) →
      ∃ v,Did P o ρv w v w∧Rep Y m w (.lit nl (b - a) cols') v:=by
     intro a b hab hbn hla hhb cols' hlen hcols
     exact ⟨_,did _ _ _ _ _ e1 (run4 n cap e4 a b hab (by omega) hla hhb),slc_lit uu cols' e2 e3 e4 e5 e6 hab hbn hsz' hlen hcols⟩
    have same:∀ (k:Nat) c,cols[k]?=some c→∃ c0,cols[k]?=some c0∧∀ j v,ColRep Y w c0 (0+j) v→ColRep Y w c j v:=fun k c hk=>⟨c,hk,fun j v hj=>by rwa [Nat.zero_add] at hj⟩
    have shifted:∀ (a k:Nat) c,(cols.map (Col.shift a))[k]?=some c→∃ c0,cols[k]?=some c0∧∀ j v,ColRep Y w c0 (a+j) v→ColRep Y w c j v:=fun a k c hk=>by
     rw [List.getElem?_map] at hk
     obtain ⟨c0,h0,rfl⟩:=map_some hk
     exact ⟨c0,h0,fun j v hj=>hj.shift⟩
    rcases l with _ | kl <;> rcases h with _ | kh <;> simp only at hs
    ·simp only [res,Option.some.injEq,Prod.mk.injEq] at hs
     obtain ⟨_,rfl,rfl⟩:=hs
     obtain ⟨v,d,r⟩:=go 0 n (Nat.zero_le _) (Nat.le_refl _) rfl rfl cols rfl same
     exact ⟨rfl,v,d,r⟩
    ·simp only [Option.some.injEq,Prod.mk.injEq] at hs
     obtain ⟨rfl,rfl,rfl⟩:=hs
     obtain ⟨v,d,r⟩:=go 0 kh.toNat (Nat.zero_le _) (by omega) rfl ⟨hvc.1,rfl⟩ cols rfl same
     exact ⟨rfl,v,d,r⟩
    ·simp only [Option.some.injEq,Prod.mk.injEq] at hs
     obtain ⟨rfl,rfl,rfl⟩:=hs
     obtain ⟨v,d,r⟩:=go kl.toNat n (by omega) (Nat.le_refl _) ⟨hvc.1,rfl⟩ rfl _ (by simp) (shifted _)
     exact ⟨rfl,v,d,r⟩
    ·simp only [Option.some.injEq,Prod.mk.injEq] at hs
     obtain ⟨rfl,rfl,rfl⟩:=hs
     obtain ⟨v,d,r⟩:=go kl.toNat kh.toNat (by omega) (by omega) ⟨hvc.1,rfl⟩ ⟨by omega,rfl⟩ _ (by simp) (shifted _)
     exact ⟨rfl,v,d,r⟩
  ·rename_i id off n hp
   rw [hp] at hr
   obtain ⟨pl,A,B,c,cap,hm,e1,e2,e3,e4,e5,e6,e7,e8⟩:=hr.sl_inv
   split at hs
   ·rename_i T nn cols hb
    obtain ⟨pl',hm',hbs⟩:=hH id _ hb
    rw [hm] at hm'
    injection hm' with hm'
    subst hm'
    obtain ⟨xs,cap2,s1,s2,s3,_⟩:=hbs
    cases hsz:cols.length==sz
    ·simp [hsz] at hs
    ·simp only [hsz,cond_true] at hs
     have hsz':pl.sz=sz:=by rw [s2]; simpa using hsz
     have hcap:nn≤cap:=by rw [e2,s1] at s3; exact s3.cap.1
     have go:∀ (a b:Nat),a≤b→off+b≤nn→LoIs l a→HiIs n h b →
       ∃ v,Did P o ρv w v w∧Rep Y m w (.sl id (off+a) (b - a)) v:=by
      intro a b hab hbn hla hhb
      refine ⟨_,did _ _ _ _ _ e1 (run4 n c e7 a b hab (by omega) hla hhb),.sl hm e2 (by omega) ?_ ?_ ?_ (by omega) (by omega)⟩
      ·intro h0
       have ha0:a=0:=by omega
       subst ha0
       obtain ⟨rfl,rfl⟩:=e4 (by omega)
       refine ⟨?_,Nat.sub_zero _⟩
       split
       ·rfl
       ·cases B <;> simp [Addr.add]
      ·intro hlt
       rw [if_neg (by omega),e5 (by omega)]
       simp only [Option.map_some,addr_add]
       rw [hsz',Nat.add_mul,Nat.add_assoc]
      ·intro hB
       have:B=none:=by
        split at hB
        ·exact hB
        ·cases B
         ·rfl
         ·simp at hB
       have:=e6 this
       omega
     rcases l with _ | kl <;> rcases h with _ | kh <;> simp only at hs
     ·simp only [res,Option.some.injEq,Prod.mk.injEq] at hs
      obtain ⟨_,rfl,rfl⟩:=hs
      obtain ⟨v,d,r⟩:=go 0 n (Nat.zero_le _) (by omega) rfl rfl
      exact ⟨rfl,v,d,r⟩
     ·simp only [Option.some.injEq,Prod.mk.injEq] at hs
      obtain ⟨rfl,rfl,rfl⟩:=hs
      obtain ⟨v,d,r⟩:=go 0 kh.toNat (Nat.zero_le _) (by omega) rfl ⟨hvc.1,rfl⟩
      exact ⟨rfl,v,d,r⟩
     ·simp only [Option.some.injEq,Prod.mk.injEq] at hs
      obtain ⟨rfl,rfl,rfl⟩:=hs
      obtain ⟨v,d,r⟩:=go kl.toNat n (by omega) (by omega) ⟨hvc.1,rfl⟩ rfl
      exact ⟨rfl,v,d,r⟩
     ·simp only [Option.some.injEq,Prod.mk.injEq] at hs
      obtain ⟨rfl,rfl,rfl⟩:=hs
      obtain ⟨v,d,r⟩:=go kl.toNat kh.toNat (by omega) (by omega) ⟨hvc.1,rfl⟩ ⟨by omega,rfl⟩
      exact ⟨rfl,v,d,r⟩
   ·cases hs
  ·cases hs
 ·cases hs
theorem ok_slc3 {t e:TypeId} {x mx:Operand} {lo hi:Option Operand} {x' mx':AX} {lo' hi':Option AX} {sz:Nat} (ho:o.op=.slice t x lo hi (some mx)) (h1:P.underlying t=some (.slice e)) (h2:szT P e=some sz)
  (hx:compX x=some x') (hl:optX lo=some lo') (hh:optX hi=some hi') (hm:compX mx=some mx'):StepOK P o (.slc3 sz x' lo' hi' mx'):=by
 refine StepOK.quiet fun Y m w H next ρ ρv vc p u hρ hH hs hvc=>?_
 have hr:=hρ x x' hx
 have hrm:=hρ mx mx' hm
 have did:∀ (A:Option Addr) (n cap a b q:Nat),ρv x=.slice A n cap→(Instr.sliceBounds true n cap (lo.map ρv) (hi.map ρv) (some (ρv mx))).run P w=.ok (a,b,q) w →
   Did P o ρv w (.slice (if q=a then A else A.map (·.add (a * sz))) (b - a) (q - a)) w:=by
  intro A n cap a b q hv hrun
  left
  simp [execOp,ho,hv,Instr.sliceAt,Instr.slice,run_underlying h1,hrun,run_size h2]
 simp only [step] at hs
 split at hs
 ·rename_i lo2 hi2 l h k q q1 q2 q3
  rw [q3] at hrm
  have hmv:=hrm.int_inv
  obtain ⟨_,k2⟩:=optInt_int hρ hh q2
  have run5:∀ (n cap:Nat),n≤cap→0≤l.getD 0→l.getD 0≤h→h≤q→q≤(n:Int) →
    (Instr.sliceBounds true n cap (lo.map ρv) (hi.map ρv) (some (ρv mx))).run P w=.ok ((l.getD 0).toNat,h.toNat,q.toNat) w:=by
   intro n cap hnc f1 f2 f3 f4
   have g1:0≤q:=by omega
   have g2:q≤(cap:Int):=by omega
   have g3:0≤h:=by omega
   have g4:h≤max q 0:=by omega
   rcases l with _ | kl
   ·rw [optInt_none hρ hl q1,k2,hmv]
    simp [Instr.sliceBounds,Instr.sliceBound,asIntOf,g1,g2,g3,g4]
   ·obtain ⟨_,k1⟩:=optInt_int hρ hl q1
    simp only [Option.getD_some] at f1 f2
    have g5:kl≤max h 0:=by omega
    rw [k1,k2,hmv]
    simp [Instr.sliceBounds,Instr.sliceBound,asIntOf,g1,g2,g3,g4,f1,g5]
  split at hs
  ·rename_i nl n cols hp
   rw [hp] at hr
   obtain ⟨A,cap,uu,e1,e2,e3,e4,e5,e6⟩:=hr.lit_inv
   cases hsz:cols.length==sz
   ·simp [hsz] at hs
   ·simp only [hsz,cond_true,Option.some.injEq,Prod.mk.injEq] at hs
    obtain ⟨rfl,rfl,rfl⟩:=hs
    obtain ⟨f1,f2,f3,f4⟩:=hvc
    have hsz':cols.length=sz:=by simpa using hsz
    refine ⟨rfl,_,did _ _ _ _ _ _ e1 (run5 n cap e4 f1 f2 f3 f4),?_⟩
    have hb:=slc_lit (Y:=Y) (m:=m) (w:=w) (l:=(l.getD 0).toNat) (h:=h.toNat) (n:=q.toNat) (cap:=q.toNat) uu (cols.map (Col.shift (l.getD 0).toNat)) e2 (fun hA=>by
     obtain ⟨g1,g2⟩:=e3 hA
     exact ⟨by omega,by omega⟩) (Nat.le_refl _) (fun j k hj hk=>e5 j k (by omega) hk) (fun j k c hj hk=>e6 j k c (by omega) hk) (by omega) (by omega) hsz' (by simp) (fun k c hk=>by
     rw [List.getElem?_map] at hk
     obtain ⟨c0,h0,rfl⟩:=map_some hk
     exact ⟨c0,h0,fun j v hj=>hj.shift⟩)
    exact hb
  ·rename_i id off n hp
   rw [hp] at hr
   obtain ⟨pl,A,B,c,cap,hm2,e1,e2,e3,e4,e5,e6,e7,e8⟩:=hr.sl_inv
   simp only [Option.some.injEq,Prod.mk.injEq] at hs
   obtain ⟨rfl,rfl,rfl⟩:=hs
   obtain ⟨f1,f2,f3,f4⟩:=hvc
   exact ⟨rfl,_,did _ _ _ _ _ _ e1 (run5 n c e7 f1 f2 f3 f4),.any⟩
  ·cases hs
 ·cases hs
theorem ok_mm {cl:Call} {mx:Bool} {x:Operand} {xs:List Operand} {x':AX} {xs':List AX} (ho:o.op=.call cl) (h1:cl.callee=.builtin (if mx then .max else .min)) (h2:cl.args.toList=x::xs) (hx:compX x=some x') (hxs:compXs xs=some xs') :
  StepOK P o (.mm mx x' xs'):=by
 refine StepOK.quiet fun Y m w H next ρ ρv vc p u hρ hH hs hvc=>?_
 have hr:=hρ x x' hx
 simp only [step] at hs
 split at hs
 ·rename_i k n hp
  rw [hp] at hr
  split at hs
  ·rename_i r hf
   simp only [res,Option.some.injEq,Prod.mk.injEq] at hs
   obtain ⟨_,rfl,rfl⟩:=hs
   obtain ⟨e1,e2⟩:=compXs_rep hρ hxs
   have hrun:=mm_run (P:=P) (Y:=Y) (m:=m) (w:=w) (mx:=mx) (k:=k) (xs'.map ρ) (xs.map ρv) n r hf e1 e2
   refine ⟨rfl,_,.inl ?_,.int⟩
   have ha:cl.args.map ρv=(ρv x::xs.map ρv).toArray:=by
    rw [← List.map_cons,← h2]; exact Array.toList_inj.1 (by simp)
   cases mx
   ·simp only [Bool.false_eq_true,if_false] at h1 hrun
    simp [execOp,ho,resolve,h1,ha,invoke,builtin,Builtin.min_,hr.int_inv,hrun]
   ·simp only [if_true] at h1 hrun
    simp [execOp,ho,resolve,h1,ha,invoke,builtin,Builtin.max_,hr.int_inv,hrun]
  ·cases hs
 ·cases hs
theorem eqK_run {Y:Nat→Prop} {m:Names} {w:World} (d:Nat):∀ (fs:List Field) (o:Nat) (ks:List Nat) (ps qs:List PV) (vs us:List Value) (r:Bool) (az bs:Array Value),kindsT P fs o=some ks→eqK ks ps qs=some r →
  (∀ (i:Nat) p v,ps[i]?=some p→vs[i]?=some v→Rep Y m w p v)→(∀ (i:Nat) p v,qs[i]?=some p→us[i]?=some v→Rep Y m w p v)→vs.length=ps.length→us.length=qs.length →
  (∀ i,az[o+i]?=vs[i]?)→(∀ i,bs[o+i]?=us[i]?)→(Op.eqFields (d+1) az bs fs).run P w=.ok r w
 | [],o,ks,ps,qs,vs,us,r,az,bs,hk,he,h1,h2,h3,h4,h5,h6=>by
  simp only [kindsT,Option.some.injEq] at hk; subst hk
  cases ps <;> cases qs <;> simp [eqK] at he
  subst he
  simp [Op.eqFields]
 | f::fs,o,ks,ps,qs,vs,us,r,az,bs,hk,he,h1,h2,h3,h4,h5,h6=>by
  simp only [kindsT] at hk
  split at hk
  ·cases hk
  ·rename_i hn
   simp only [not_or,Decidable.not_not] at hn
   obtain ⟨hn1,hn2⟩:=hn
   have go:∀ (p q:PV) (ps' qs':List PV) (ks':List Nat) (c r':Bool),ps=p::ps'→qs=q::qs'→kindsT P fs (o+1)=some ks'→eqK ks' ps' qs'=some r'→r=(c && r')→aggT P f.type=some false →
     (∀ v u,Rep Y m w p v→Rep Y m w q u→(Op.equalIn (d+1) f.type v u).run P w=.ok c w)→(Op.eqFields (d+1) az bs (f::fs)).run P w=.ok r w:=by
    rintro p q ps' qs' ks' c r' rfl rfl hk' he' rfl hagg heq
    obtain ⟨v,vs',rfl⟩:∃ v vs',vs=v::vs':=by cases vs with | nil=>simp at h3 | cons v vs'=>exact ⟨v,vs',rfl⟩
    obtain ⟨u,us',rfl⟩:∃ v vs',us=v::vs':=by cases us with | nil=>simp at h4 | cons v vs'=>exact ⟨v,vs',rfl⟩
    have a0:az[f.offset]?=some v:=by rw [hn2]; simpa using h5 0
    have b0:bs[f.offset]?=some u:=by rw [hn2]; simpa using h6 0
    have ih:=eqK_run d fs (o+1) ks' ps' qs' vs' us' r' az bs hk' he' (fun i p v e1 e2=>h1 (i+1) p v (by simpa using e1) (by simpa using e2)) (fun i p v e1 e2=>h2 (i+1) p v (by simpa using e1) (by simpa using e2))
     (by simpa using h3) (by simpa using h4) (fun i=>by have:=h5 (i+1); rw [show o+1+i=o+(i+1) by omega]; simpa using this) (fun i=>by have:=h6 (i+1); rw [show o+1+i=o+(i+1) by omega]; simpa using this)
    have hp:=heq v u (h1 0 _ _ rfl rfl) (h2 0 _ _ rfl rfl)
    have pa:(part f.type az f.offset).run P w=.ok v w:=by simp [part,run_isAgg hagg,a0]
    have pb:(part f.type bs f.offset).run P w=.ok u w:=by simp [part,run_isAgg hagg,b0]
    simp only [Op.eqFields,ne_eq,hn1,not_false_eq_true,if_true,Sem.run_bind,pa,pb,hp,Result.andThen_ok,Sem.run_ite]
    cases c
    ·simp
    ·simpa using ih
   split at hk
   ·rename_i kk ks' hu hk'
    simp only [Option.some.injEq] at hk; subst hk
    cases ps with
    | nil=>simp [eqK] at he
    | cons p ps'=>cases qs with
     | nil=>cases p <;> simp [eqK] at he
     | cons q qs' =>
      cases p <;> cases q <;> simp only [eqK] at he <;> try (cases he; done)
      split at he
      ·rename_i e
       subst e
       split at he
       ·rename_i r' hr'
        simp only [Option.some.injEq] at he
        exact go _ _ _ _ _ _ _ rfl rfl hk' hr' he.symm (by simp [aggT,hu]) (fun v u hv hu'=>by rw [hv.int_inv,hu'.int_inv]; exact run_equalIn_int w d _ _ _ _ _ hu)
       ·cases he
      ·cases he
   ·rename_i ks' hu hk'
    simp only [Option.some.injEq] at hk; subst hk
    cases ps with
    | nil=>simp [eqK] at he
    | cons p ps'=>cases qs with
     | nil=>cases p <;> simp [eqK] at he
     | cons q qs' =>
      cases p <;> cases q <;> simp only [eqK] at he <;> try (cases he; done)
      split at he
      ·rename_i r' hr'
       simp only [Option.some.injEq] at he
       exact go _ _ _ _ _ _ _ rfl rfl hk' hr' he.symm (by simp [aggT,hu]) (fun v u hv hu'=>by rw [hv.str_inv,hu'.str_inv,run_equalIn_string w d _ _ _ hu,beq_bytes])
      ·cases he
   ·rename_i ks' hu hk'
    simp only [Option.some.injEq] at hk; subst hk
    cases ps with
    | nil=>simp [eqK] at he
    | cons p ps'=>cases qs with
     | nil=>cases p <;> simp [eqK] at he
     | cons q qs' =>
      cases p <;> cases q <;> simp only [eqK] at he <;> try (cases he; done)
      split at he
      ·rename_i r' hr'
       simp only [Option.some.injEq] at he
       exact go _ _ _ _ _ _ _ rfl rfl hk' hr' he.symm (by simp [aggT,hu]) (fun v u hv hu'=>by rw [hv.bool_inv,hu'.bool_inv]; exact run_equalIn_bool w d _ _ _ hu)
      ·cases he
   ·cases hk
theorem eqK_app {k2:List Nat}:∀ (k1:List Nat) (ps qs:List PV) (r:Bool),eqK (k1++k2) ps qs=some r→∃ p1 p2 q1 q2 r1 r2,ps=p1++p2∧qs=q1++q2∧p1.length=k1.length∧q1.length=k1.length∧eqK k1 p1 q1=some r1∧eqK k2 p2 q2=some r2∧r=(r1 && r2)
 | [],ps,qs,r,h=>⟨[],ps,[],qs,true,r,rfl,rfl,rfl,rfl,rfl,h,by simp⟩
 | k::k1,ps,qs,r,h=>by
  rw [List.cons_append] at h
  have go:∀ (p q:PV) (ps' qs':List PV) (c r':Bool),eqK (k1++k2) ps' qs'=some r'→r=(c && r')→(∀ r1 p1 q1,eqK k1 p1 q1=some r1→eqK (k::k1) (p::p1) (q::q1)=some (c && r1))→ps=p::ps'→qs=q::qs'→∃ p1 p2 q1 q2 r1 r2,ps=p1++p2∧qs=q1++q2∧p1.length=(k::k1).length∧q1.length=(k::k1).length∧eqK (k::k1) p1 q1=some r1∧eqK k2 p2 q2=some r2∧r=(r1 && r2):=by
   rintro p q ps' qs' c r' h1 rfl h2 rfl rfl
   obtain ⟨p1,p2,q1,q2,r1,r2,rfl,rfl,e1,e2,e3,e4,rfl⟩:=eqK_app k1 ps' qs' r' h1
   exact ⟨p::p1,p2,q::q1,q2,c && r1,r2,rfl,rfl,by simp [e1],by simp [e2],h2 r1 p1 q1 e3,e4,by rw [Bool.and_assoc]⟩
  unfold eqK at h
  split at h
  ·rename_i e; exact absurd e (by simp)
  ·rename_i ks ki a ps' kj b qs' e
   obtain ⟨rfl,rfl⟩:=List.cons.inj e
   split at h
   ·rename_i hkk
    subst hkk
    split at h
    ·rename_i r' hr'
     simp only [Option.some.injEq] at h
     exact go _ _ _ _ _ _ hr' h.symm (fun r1 p1 q1 he=>by simp [eqK,he]) rfl rfl
    ·cases h
   ·cases h
  ·rename_i ks a ps' b qs' e
   obtain ⟨rfl,rfl⟩:=List.cons.inj e
   split at h
   ·rename_i r' hr'
    simp only [Option.some.injEq] at h
    exact go _ _ _ _ _ _ hr' h.symm (fun r1 p1 q1 he=>by simp [eqK,he]) rfl rfl
   ·cases h
  ·rename_i ks a ps' b qs' e
   obtain ⟨rfl,rfl⟩:=List.cons.inj e
   split at h
   ·rename_i r' hr'
    simp only [Option.some.injEq] at h
    exact go _ _ _ _ _ _ hr' h.symm (fun r1 p1 q1 he=>by simp [eqK,he]) rfl rfl
   ·cases h
  ·cases h
theorem eqN_run {Y:Nat→Prop} {m:Names} {w:World} (d:Nat) (fs:List Field) (ks:List Nat) (ps qs:List PV) (vs us:List Value) (r:Bool) (hk:kindsN P fs=some ks) (he:eqK ks ps qs=some r)
  (h1:∀ (i:Nat) p v,ps[i]?=some p→vs[i]?=some v→Rep Y m w p v) (h2:∀ (i:Nat) p v,qs[i]?=some p→us[i]?=some v→Rep Y m w p v) (h3:vs.length=ps.length) (h4:us.length=qs.length) :
  (Op.eqFields (d+2) vs.toArray us.toArray fs).run P w=.ok r w:=by
 unfold kindsN at hk
 split at hk
 ·rename_i ks' hk'
  simp only [Option.some.injEq] at hk
  subst hk
  exact eqK_run (Y:=Y) (m:=m) (d+1) fs 0 _ ps qs vs us r vs.toArray us.toArray hk' he h1 h2 h3 h4 (fun i=>by simp) (fun i=>by simp)
 ·split at hk
  ·cases hk
  ·rename_i f fr hkn
   split at hk
   ·cases hk
   ·rename_i hn
    simp only [not_or,Decidable.not_not] at hn
    obtain ⟨hn1,hn2,hn3⟩:=hn
    split at hk
    ·rename_i gs hu
     split at hk
     ·rename_i k1 hg
      split at hk
      ·rename_i hsz
       split at hk
       ·rename_i k2 hr
        simp only [Option.some.injEq] at hk
        subst hk
        obtain ⟨p1,p2,q1,q2,r1,r2,rfl,rfl,e1,e2,e3,e4,rfl⟩:=eqK_app k1 ps qs r he
        have hagg:aggT P f.type=some true:=by simp [aggT,hu]
        have pa:(part f.type vs.toArray f.offset).run P w=.ok (.agg (vs.toArray.extract 0 k1.length)) w:=by simp [part,run_isAgg hagg,run_size hsz,hn2]
        have pb:(part f.type us.toArray f.offset).run P w=.ok (.agg (us.toArray.extract 0 k1.length)) w:=by simp [part,run_isAgg hagg,run_size hsz,hn2]
        have hvl:k1.length≤vs.length:=by rw [h3,List.length_append,e1]; omega
        have hul:k1.length≤us.length:=by rw [h4,List.length_append,e2]; omega
        have hex:∀ (l:List Value),l.toArray.extract 0 k1.length=(l.take k1.length).toArray:=fun l=>by simp
        have hfs:P.fieldsOf f.type=gs:=by simp [Program.fieldsOf,hu]
        have hp:(Op.equalIn (d+2) f.type (.agg (vs.toArray.extract 0 k1.length)) (.agg (us.toArray.extract 0 k1.length))).run P w=.ok r1 w:=by
         rw [run_equalIn_struct w (d+1) f.type _ _ (by rw [hfs]; exact hu) (by simpa using hn3),hfs,hex,hex]
         refine eqK_run (Y:=Y) (m:=m) d gs.toList 0 k1 p1 q1 (vs.take k1.length) (us.take k1.length) r1 _ _ hg e3 (fun i p v a1 a2=>?_) (fun i p v a1 a2=>?_) (by rw [List.length_take,e1]; omega) (by rw [List.length_take,e2]; omega) (fun i=>by simp) (fun i=>by simp)
         ·have hi:i<p1.length:=(List.getElem?_eq_some_iff.1 a1).1
          exact h1 i p v (by rw [List.getElem?_append_left hi]; exact a1) (by rw [List.getElem?_take,if_pos (by omega)] at a2; exact a2)
         ·have hi:i<q1.length:=(List.getElem?_eq_some_iff.1 a1).1
          exact h2 i p v (by rw [List.getElem?_append_left hi]; exact a1) (by rw [List.getElem?_take,if_pos (by omega)] at a2; exact a2)
        have ih:=eqK_run (P:=P) (Y:=Y) (m:=m) (w:=w) (d+1) fr k1.length k2 p2 q2 (vs.drop k1.length) (us.drop k1.length) r2 vs.toArray us.toArray hr e4 (fun i p v a1 a2=>h1 (k1.length+i) p v (by rw [← e1,List.getElem?_append_right (by omega),Nat.add_sub_cancel_left]; exact a1) (by rw [List.getElem?_drop] at a2; exact a2))
         (fun i p v a1 a2=>h2 (k1.length+i) p v (by rw [← e2,List.getElem?_append_right (by omega),Nat.add_sub_cancel_left]; exact a1) (by rw [List.getElem?_drop] at a2; exact a2))
         (by rw [List.length_drop,h3,List.length_append,e1]; omega) (by rw [List.length_drop,h4,List.length_append,e2]; omega) (fun i=>by simp) (fun i=>by simp)
        simp only [Op.eqFields,ne_eq,hn1,not_false_eq_true,if_true,Sem.run_bind,pa,pb,hp,Result.andThen_ok,Sem.run_ite]
        cases r1
        ·simp
        ·simpa using ih
       ·cases hk
      ·cases hk
     ·cases hk
    ·cases hk
theorem ok_eqs {op:BinOp} {t t2:TypeId} {x y:Operand} {x' y':AX} {neg:Bool} {ks:List Nat} {fs:Array Field} (ho:o.op=.binOp op t x y t2) (hop:op=if neg then .neq else .eql) (hu:P.underlying t=some (.struct fs))
  (hp:P.stoodInHeld t=false∧P.eqGuardType P.depth t=false) (hk:kindsN P fs.toList=some ks) (hx:compX x=some x') (hy:compX y=some y'):StepOK P o (.eqs neg ks x' y'):=by
 refine StepOK.quiet fun Y m w H next ρ ρv vc p u hρ hH hs hvc=>?_
 have hr:=hρ x x' hx
 have hq:=hρ y y' hy
 simp only [step] at hs
 split at hs
 ·rename_i ps qs hp1 hp2
  rw [hp1] at hr; rw [hp2] at hq
  split at hs
  ·rename_i r he
   simp only [res,Option.some.injEq,Prod.mk.injEq] at hs
   obtain ⟨_,rfl,rfl⟩:=hs
   obtain ⟨vs,v1,v2,v3,_⟩:=hr.agg_inv
   obtain ⟨us,u1,u2,u3,_⟩:=hq.agg_inv
   have hfs:P.fieldsOf t=fs:=by simp [Program.fieldsOf,hu]
   have key:=eqN_run (P:=P) (Y:=Y) (m:=m) (w:=w) 9997 fs.toList ks ps qs vs us r hk he v3 u3 v2 u2
   have keq:(Op.equalIn 10000 t (.agg vs.toArray) (.agg us.toArray)).run P w=.ok r w:=by
    rw [run_equalIn_struct w 9999 t _ _ (by rw [hfs]; exact hu) hp.1,hfs]; exact key
   refine ⟨rfl,_,.inl ?_,.bool⟩
   subst hop
   cases neg
   ·simp only [Bool.false_eq_true,if_false] at ho
    simp only [execOp,ho,v1,u1,Sem.run_bind,run_eqGuard_agg w _ _ _ _ _ _ hp.2,Result.andThen_ok,run_eql_struct,keq]
    simp
   ·simp only [if_true] at ho
    simp only [execOp,ho,v1,u1,Sem.run_bind,run_eqGuard_agg w _ _ _ _ _ _ hp.2,Result.andThen_ok,run_neq_struct,keq]
    simp
  ·cases hs
 ·cases hs
theorem isI64_spec {e:TypeId} (h:isI64 P e=true):P.underlying e=some (.int .i64)∧P.cellsOf e=1:=by
 unfold isI64 at h
 rw [Bool.and_eq_true,beq_iff_eq] at h
 obtain ⟨h1,h2⟩:=h
 refine ⟨?_,h2⟩
 split at h1
 ·assumption
 ·cases h1
theorem eqKA_run {Y:Nat→Prop} {m:Names} {w:World} (d:Nat) {e:TypeId} (hu:P.underlying e=some (.int .i64)):∀ (n o:Nat) (ps qs:List PV) (vs us:List Value) (r:Bool) (az bs:Array Value),eqK (List.replicate n 0) ps qs=some r →
  (∀ (i:Nat) p v,ps[i]?=some p→vs[i]?=some v→Rep Y m w p v)→(∀ (i:Nat) p v,qs[i]?=some p→us[i]?=some v→Rep Y m w p v)→vs.length=ps.length→us.length=qs.length →
  (∀ i,az[o+i]?=vs[i]?)→(∀ i,bs[o+i]?=us[i]?)→(Op.eqItems (d+1) e 1 az bs (List.range' o n)).run P w=.ok r w
 | 0,o,ps,qs,vs,us,r,az,bs,he,h1,h2,h3,h4,h5,h6=>by
  cases ps <;> cases qs <;> simp [eqK] at he
  subst he
  simp [Op.eqItems]
 | n+1,o,ps,qs,vs,us,r,az,bs,he,h1,h2,h3,h4,h5,h6=>by
  rw [List.replicate_succ] at he
  cases ps with
  | nil=>simp [eqK] at he
  | cons p ps'=>cases qs with
   | nil=>cases p <;> simp [eqK] at he
   | cons q qs' =>
    cases p <;> cases q <;> simp only [eqK] at he <;> try (cases he; done)
    split at he
    ·rename_i ek
     subst ek
     split at he
     ·rename_i r' hr'
      simp only [Option.some.injEq] at he
      obtain ⟨v,vs',rfl⟩:∃ v vs',vs=v::vs':=by cases vs with | nil=>simp at h3 | cons v vs'=>exact ⟨v,vs',rfl⟩
      obtain ⟨u,us',rfl⟩:∃ v vs',us=v::vs':=by cases us with | nil=>simp at h4 | cons v vs'=>exact ⟨v,vs',rfl⟩
      have a0:az[o]?=some v:=by simpa using h5 0
      have b0:bs[o]?=some u:=by simpa using h6 0
      have ih:=eqKA_run d hu n (o+1) ps' qs' vs' us' r' az bs hr' (fun i p v e1 e2=>h1 (i+1) p v (by simpa using e1) (by simpa using e2)) (fun i p v e1 e2=>h2 (i+1) p v (by simpa using e1) (by simpa using e2))
       (by simpa using h3) (by simpa using h4) (fun i=>by have:=h5 (i+1); rw [show o+1+i=o+(i+1) by omega]; simpa using this) (fun i=>by have:=h6 (i+1); rw [show o+1+i=o+(i+1) by omega]; simpa using this)
      have hagg:aggT P e=some false:=by simp [aggT,hu]
      have pa:(part e az (o * 1)).run P w=.ok v w:=by simp [part,run_isAgg hagg,a0]
      have pb:(part e bs (o * 1)).run P w=.ok u w:=by simp [part,run_isAgg hagg,b0]
      have hv:=(h1 0 _ _ rfl rfl).int_inv
      have hq:=(h2 0 _ _ rfl rfl).int_inv
      subst hv; subst hq
      rename_i ka a b xx
      have hp:=run_equalIn_int (P:=P) w d e ka .i64 a b hu
      rw [List.range'_succ]
      simp only [Op.eqItems,Sem.run_bind,pa,pb,hp,Result.andThen_ok,Sem.run_ite]
      subst he
      cases hc:(a==b)
      ·simp
      ·simpa using ih
     ·cases he
    ·cases he
theorem ok_eqsA {op:BinOp} {t t2 e:TypeId} {x y:Operand} {x' y':AX} {neg:Bool} {n:Nat} (ho:o.op=.binOp op t x y t2) (hop:op=if neg then .neq else .eql) (hu:P.underlying t=some (.array n e))
  (hp:isI64 P e=true∧P.eqGuardType P.depth t=false) (hx:compX x=some x') (hy:compX y=some y'):StepOK P o (.eqs neg (List.replicate n 0) x' y'):=by
 refine StepOK.quiet fun Y m w H next ρ ρv vc p u hρ hH hs hvc=>?_
 have hr:=hρ x x' hx
 have hq:=hρ y y' hy
 obtain ⟨he1,he2⟩:=isI64_spec hp.1
 simp only [step] at hs
 split at hs
 ·rename_i ps qs hp1 hp2
  rw [hp1] at hr; rw [hp2] at hq
  split at hs
  ·rename_i r he
   simp only [res,Option.some.injEq,Prod.mk.injEq] at hs
   obtain ⟨_,rfl,rfl⟩:=hs
   obtain ⟨vs,v1,v2,v3,_⟩:=hr.agg_inv
   obtain ⟨us,u1,u2,u3,_⟩:=hq.agg_inv
   obtain ⟨i,hi⟩:=info_of_underlying he1
   have key:=eqKA_run (P:=P) (w:=w) 9998 he1 n 0 ps qs vs us r vs.toArray us.toArray he v3 u3 v2 u2 (fun i=>by simp) (fun i=>by simp)
   have keq:(Op.equalIn 10000 t (.agg vs.toArray) (.agg us.toArray)).run P w=.ok r w:=by
    rw [run_equalIn_array w 9999 vs.toArray us.toArray hu hi,he2,List.range_eq_range']; exact key
   refine ⟨rfl,_,.inl ?_,.bool⟩
   subst hop
   cases neg
   ·simp only [Bool.false_eq_true,if_false] at ho
    simp only [execOp,ho,v1,u1,Sem.run_bind,run_eqGuard_agg w _ _ _ _ _ _ hp.2,Result.andThen_ok,run_eql_struct,keq]
    simp
   ·simp only [if_true] at ho
    simp only [execOp,ho,v1,u1,Sem.run_bind,run_eqGuard_agg w _ _ _ _ _ _ hp.2,Result.andThen_ok,run_neq_struct,keq]
    simp
  ·cases hs
 ·cases hs
open Go.RowKit
variable {P:Program} {o:Oper} {ao:AOp}
theorem BlkSat.ev {Y Y':Nat→Prop} {m m':Names} {w w':World} {pl:Pl} {b:ABlk} (h:BlkSat Y m w pl b) (e:Ev Y m w Y' m' w') (hk:∀ g,b.lies pl=some g→w'.heap[g]?=w.heap[g]?):BlkSat Y' m' w' pl b:=by
 cases b with
 | box T cs =>
  obtain ⟨vs,h1,h2,h3,h4⟩:=h
  exact ⟨vs,(hk _ rfl).trans h1,h2,h3,fun i p v hp hv=>(h4 i p v hp hv).ev e⟩
 | arr T n cols =>
  obtain ⟨xs,cap,s1,s2,s3,s4,s5,s6,s7⟩:=h
  refine ⟨xs,cap,s1,s2,⟨s3.1,?_⟩,s4,s5,s6,fun i j c hi hj=>let ⟨v,h1,h2⟩:=s7 i j c hi hj; ⟨v,h1,h2.ev e⟩⟩
  rcases s3.2 with hn | ⟨g,cap',cur,hv,hg,r⟩
  ·exact .inl hn
  ·exact .inr ⟨g,cap',cur,hv,hg.trans (hk g (by simp [ABlk.lies,hv,Value.ownBlock])),r⟩
 | map kk dom c =>
  obtain ⟨es,clk,h1,h2,h3⟩:=h
  exact ⟨es,clk,(hk _ rfl).trans h1,h2,fun q hq=>⟨fun hd=>let ⟨x,a,b,c⟩:=(h3 q hq).1 hd; ⟨x,a,b,c.ev e⟩,(h3 q hq).2⟩⟩
 | mape kk dom c q sid =>
  obtain ⟨hn,hk0,es,clk,h1,h2,h3,pls,h4,h5⟩:=h
  exact ⟨hn,hk0,es,clk,(hk _ rfl).trans h1,h2,h3,pls,e.names _ _ h4,h5⟩
 | sit s p=>exact (hk _ rfl).trans h
def Yn (Y:Nat→Prop) (w w':World) (b:Nat):Prop:=Y b∨(w.heap.size≤b∧b<w'.heap.size)
theorem Ev.grow {Y:Nat→Prop} {m m':Names} {w w':World} {row:Option Nat} (hg:w.grownBy w' row) (hrow:∀ g,row=some g→Y g) (hm:∀ id pl,m id=some pl→m' id=some pl):Ev Y m w (Yn Y w w') m' w' :=
 ⟨hg.size,fun b hb hY=>hg.block b hb (fun e=>hY (hrow b e.symm)),fun b h=>h.elim .inl (fun h=>.inr h.1),hm⟩
theorem HSF.go {C:Ctx} {Y:Nat→Prop} {m:Names} {w:World} {H:Heap} {Fr Fr':Nat→Prop} (h:HSF C Y m w H Fr) (hfr:∀ id,Fr' id→Fr id) {w':World} {row:Option Nat} (hg:w.grownBy w' row)
  (hrow:∀ g,row=some g→Y g∧(C.X0 g∨C.w0.heap.size≤g)) {m':Names} (hm:∀ id pl,m id=some pl→m' id=some pl) (hf:∀ id,Fr' id→m' id=none) (hkn:∀ id pl,m' id=some pl→m id=some pl∨C.base≤id) (k:Nat) {H':Heap}
  (hH:∀ id b,getH H' id=some b→(id≠k∧getH H id=some b∧∀ pl,m id=some pl→∀ g,b.lies pl=some g→row≠some g) ∨
   (id=k∧∃ pl,m' id=some pl∧BlkSat (Yn Y w w') m' w' pl b∧∀ g,b.lies pl=some g→row=some g∨(w.heap.size≤g∧g<w'.heap.size))) :
  HSF C (Yn Y w w') m' w' H' Fr'∧Ev Y m w (Yn Y w w') m' w':=by
 have ev:Ev Y m w (Yn Y w w') m' w':=Ev.grow hg (fun g e=>(hrow g e).1) hm
 have hrl:∀ g,row=some g→g<w.heap.size:=fun g e=>h.ylt g (hrow g e).1
 refine ⟨⟨?_,?_,?_,fun b h0 hx=>.inl (h.keep b h0 hx),Nat.le_trans h.size hg.size,?_,hg.os.trans h.os,hg.tape.trans h.tape,hg.output.trans h.output,h.y0lt,h.x0,fun b hb=>by
  rcases hb with hb | ⟨hb,_⟩
  ·exact h.yless b hb
  ·exact .inr (Nat.le_trans h.size hb),h.own,fun id hid=>h.low id (hfr id hid),fun id pl h0=>hm _ _ (h.names _ _ h0),hf,fun id pl h0=>(hkn id pl h0).elim (h.known id pl) .inr,h.gl⟩,ev⟩
 ·intro id b hb
  rcases hH id b hb with ⟨_,ho,hne⟩ | ⟨rfl,pl,hp,hbs,hl⟩
  ·obtain ⟨pl,h1,h2,h3⟩:=h.blk id b ho
   refine ⟨pl,hm _ _ h1,h2.ev ev (fun g hl=>hg.block g (h.ylt g (h3 g hl).1) (fun e=>hne pl h1 g hl e.symm)),fun g hl=>⟨.inl (h3 g hl).1,(h3 g hl).2⟩⟩
  ·refine ⟨pl,hp,hbs,fun g hlg=>?_⟩
   rcases hl g hlg with e | ⟨h1,h2⟩
   ·exact ⟨.inl (hrow g e).1,(hrow g e).2⟩
   ·exact ⟨.inr ⟨h1,h2⟩,.inr (Nat.le_trans h.size h1)⟩
 ·intro id id' b b' pl pl' g hne hb hb' hpl hpl' hl hl'
  rcases hH id b hb with ⟨n1,o1,r1⟩ | ⟨n1,q1,hq1,_,r1⟩ <;> rcases hH id' b' hb' with ⟨n2,o2,r2⟩ | ⟨n2,q2,hq2,_,r2⟩
  ·obtain ⟨p1,e1,_⟩:=h.blk id b o1
   obtain ⟨p2,e2,_⟩:=h.blk id' b' o2
   have f1:=hm _ _ e1; rw [hpl] at f1; injection f1 with f1; subst f1
   have f2:=hm _ _ e2; rw [hpl'] at f2; injection f2 with f2; subst f2
   exact h.inj id id' b b' pl pl' g hne o1 o2 e1 e2 hl hl'
  ·obtain ⟨p1,e1,_,l1⟩:=h.blk id b o1
   have f1:=hm _ _ e1; rw [hpl] at f1; injection f1 with f1; subst f1
   rw [hpl'] at hq2; injection hq2 with hq2; subst hq2
   have hlt:=h.ylt g (l1 g hl).1
   rcases r2 g hl' with e | ⟨h1,_⟩
   ·exact r1 pl e1 g hl e
   ·omega
  ·obtain ⟨p2,e2,_,l2⟩:=h.blk id' b' o2
   have f2:=hm _ _ e2; rw [hpl'] at f2; injection f2 with f2; subst f2
   rw [hpl] at hq1; injection hq1 with hq1; subst hq1
   have hlt:=h.ylt g (l2 g hl').1
   rcases r1 g hl with e | ⟨h1,_⟩
   ·exact r2 pl' e2 g hl' e
   ·omega
  ·exact hne (n1.trans n2.symm)
 ·intro b hb
  rcases hb with hb | ⟨_,hb⟩
  ·exact Nat.lt_of_lt_of_le (h.ylt b hb) hg.size
  ·exact hb
 ·intro b hb hx
  rw [hg.block b (Nat.lt_of_lt_of_le hb h.size) (fun e=>by
   rcases (hrow b e.symm).2 with h1 | h1
   ·exact hx h1
   ·omega)]
  exact h.frame b hb hx
def addN (m:Names) (k:Nat) (pl:Pl):Names:=fun id=>if id=k then some pl else m id
theorem HSF.add {C:Ctx} {Y:Nat→Prop} {m:Names} {w:World} {H:Heap} {Fr:Nat→Prop} {next:Nat} (h:HSF C Y m w H Fr) (h4:Has4 Fr next) (pl:Pl) :
  (∀ id q,m id=some q→addN m next pl id=some q)∧(∀ id,Fr4 Fr next id→addN m next pl id=none)∧addN m next pl next=some pl∧(∀ id q,addN m next pl id=some q→m id=some q∨C.base≤id):=by
 refine ⟨fun id q hq=>?_,fun id hid=>?_,by simp [addN],fun id q hq=>?_⟩
 ·unfold addN
  rw [if_neg]
  ·exact hq
  ·rintro rfl
   rw [h.fresh id (h4 id (Nat.le_refl _) (by omega))] at hq
   cases hq
 ·unfold addN
  rw [if_neg (by rintro rfl; exact hid.2 ⟨Nat.le_refl _,by omega⟩)]
  exact h.fresh id hid.1
 ·unfold addN at hq
  by_cases e:id=next
  ·subst e; exact .inr (h.low id (h4 id (Nat.le_refl _) (by omega)))
  ·rw [if_neg e] at hq; exact .inl hq
theorem getH_new {H:Heap} {next id:Nat} {b b':ABlk} (h:getH ((next,some b)::H) id=some b'):(id=next∧b'=b)∨(id≠next∧getH H id=some b'):=by
 simp only [getH] at h
 by_cases e:next=id
 ·subst e; simp only [beq_self_eq_true,cond_true,Option.some.injEq] at h; exact .inl ⟨rfl,h.symm⟩
 ·have:(next==id)=false:=by simpa using e
  simp only [this,cond_false] at h
  exact .inr ⟨fun e'=>e e'.symm,h⟩
theorem HSF.newBox {C:Ctx} {Y:Nat→Prop} {m:Names} {w:World} {H:Heap} {Fr:Nat→Prop} {next:Nat} (h:HSF C Y m w H Fr) (h4:Has4 Fr next) (T:TypeId) (cs:List PV) (vs:List Value) (hc:Cells Y m w cs vs) :
  ∃ Y' m',Rep Y' m' (w.alloc (.cells vs.toArray T)) (.ptr next 0) (.pointer (some ⟨w.heap.size,0,none⟩))∧HSF C Y' m' (w.alloc (.cells vs.toArray T)) ((next,some (.box T cs))::H) (Fr4 Fr next) ∧
   Ev Y m w Y' m' (w.alloc (.cells vs.toArray T)):=by
 let pl:Pl:=⟨w.heap.size,.slice none 0 0,0,0,0⟩
 obtain ⟨a1,a2,a3,a4⟩:=h.add h4 pl
 have hg:=World.grownBy_alloc w (.cells vs.toArray T) none
 have ev:Ev Y m w (Yn Y w (w.alloc (.cells vs.toArray T))) (addN m next pl) (w.alloc (.cells vs.toArray T)):=Ev.grow hg (by simp) a1
 obtain ⟨g1,g2⟩:=h.go (fun id h=>h.1) hg (by simp) a1 a2 a4 next (H':=(next,some (.box T cs))::H) (fun id b hb=>by
  rcases getH_new hb with ⟨rfl,rfl⟩ | ⟨hne,hb⟩
  ·refine .inr ⟨rfl,pl,a3,⟨vs,heap_alloc_new w _,hc.len,hc.one,fun i p v hp hv=>(hc.rep i p v hp hv).ev ev⟩,fun g hl=>.inr ?_⟩
   simp only [ABlk.lies,Option.some.injEq] at hl
   subst hl
   exact ⟨Nat.le_refl _,by simp [pl]⟩
  ·exact .inl ⟨hne,hb,by simp⟩)
 exact ⟨_,_,.ptr a3,g1,g2⟩
theorem ok_box {T:TypeId} {x:Operand} (ho:o.op=.box T x) (hc:(compX x).map (AOp.box T)=some ao):StepOK P o ao:=by
 obtain ⟨ax,hx,rfl⟩:=map_some hc
 intro C Y m w H Fr next ρ ρv vc p u hρ hH h4 hs hvc
 simp only [step] at hs
 split at hs
 ·rename_i cs hcs
  simp only [Option.some.injEq,Prod.mk.injEq] at hs
  obtain ⟨_,rfl,rfl⟩:=hs
  obtain ⟨vs,e1,e2⟩:=(hρ x ax hx).toCells hcs
  obtain ⟨Y',m',r1,r2,r3⟩:=hH.newBox h4 T cs vs e2
  refine ⟨_,_,Y',m',.inl ?_,r1,r2,r3⟩
  simp [execOp,ho,Instr.box,newVar,newRow,e1]
 ·cases hs
theorem ok_alloc {T:TypeId} (ho:o.op=.alloc T) (hc:(zeroT P T).map (AOp.alloc T)=some ao):StepOK P o ao:=by
 obtain ⟨z,hz,rfl⟩:=map_some hc
 intro C Y m w H Fr next ρ ρv vc p u hρ hH h4 hs hvc
 simp only [step,Option.some.injEq,Prod.mk.injEq] at hs
 obtain ⟨_,rfl,rfl⟩:=hs
 obtain ⟨i,zv,cs,e1,e2,e3,e4,e5⟩:=zeroT_cells (Y:=Y) (m:=m) (w:=w) hz
 obtain ⟨Y',m',r1,r2,r3⟩:=hH.newBox h4 T z cs e5
 refine ⟨_,_,Y',m',.inl ?_,r1,r2,r3⟩
 simp [execOp,ho,Instr.alloc,zeroValue,typeInfo,e1,e2,newVar,newRow,e3]
theorem splice_eq {α:Type} (cs vs:List α) (o:Nat) (h:o+vs.length≤cs.length):splice cs o vs=cs.take o++vs++cs.drop (o+vs.length):=by
 apply List.ext_getElem?
 intro i
 rw [splice_get]
 by_cases h1:i<o
 ·rw [if_neg (by omega),List.append_assoc,List.getElem?_append_left (by simp; omega),List.getElem?_take_of_lt h1]
 ·by_cases h2:i<o+vs.length
  ·rw [if_pos (by omega),List.append_assoc,List.getElem?_append_right (by simp; omega),List.getElem?_append_left (by simp; omega)]
   congr 1
   simp; omega
  ·rw [if_neg (by omega),List.getElem?_append_right (by simp; omega),List.getElem?_drop]
   congr 1
   simp; omega
theorem grown_setRow (w:World) (g:Nat) (cs:Array Value):w.grownBy (w.setRow g cs) (some g) :=
 ⟨rfl,rfl,rfl,by simp,fun k _ hk=>setRow_other w g k _ (fun e=>hk (by simp [e]))⟩
theorem colPut_rep {c c':Col} {i:Nat} {p:PV} (h:c.put i p=some c') {Y:Nat→Prop} {m:Names} {w:World} :
  (∀ k v,k≠i→ACR Y m w c k v→ACR Y m w c' k v)∧(∀ v,Rep Y m w p v→ACR Y m w c' i v):=by
 suffices hh:(c.noO=true→(∀ k v,k≠i→ColRep Y w c k v→ColRep Y w c' k v)∧(∀ v,Rep Y m w p v→ColRep Y w c' i v)) by
  cases c with
  | o a g =>
   cases p <;> simp only [Col.put,reduceCtorEq] at h
   split at h
   ·rename_i id off n e
    subst e
    simp only [Option.some.injEq] at h
    subst h
    refine ⟨fun j v hj hv=>?_,fun v hv=>?_⟩
    ·show SlRep m _ 0 _ v
     simp only [if_neg hj]
     exact hv
    ·show SlRep m _ 0 _ v
     simp only [if_true]
     exact hv.sl_inv
   ·cases h
  | q a =>
   cases p <;> simp only [Col.put,reduceCtorEq] at h
   split at h
   ·rename_i id off e
    subst e
    simp only [Option.some.injEq] at h
    subst h
    refine ⟨fun j v hj hv=>?_,fun v hv=>?_⟩
    ·obtain ⟨pl,h1,h2⟩:=hv
     exact ⟨pl,by simp only [if_neg hj]; exact h1,h2⟩
    ·obtain ⟨pl,h1,rfl⟩:=hv.ptr_inv
     exact ⟨pl,by simp only [if_true]; exact h1,rfl⟩
   ·cases h
  | _ =>
   have h2:=hh rfl
   exact ⟨fun k v hk hv=>(h2.1 k v hk (hv.col rfl)).acr,fun v hv=>(h2.2 v hv).acr⟩
 intro _
 cases c with
 | o a g=>contradiction
 | q a=>contradiction
 | i k g =>
  cases p <;> simp only [Col.put,reduceCtorEq] at h
  rename_i k' x
  split at h
  ·rename_i e
   subst e
   simp only [Option.some.injEq] at h
   subst h
   refine ⟨fun j v hj hv=>?_,fun v hv=>?_⟩
   ·cases hv; have:=ColRep.i (Y:=Y) (w:=w) (k:=k) (g:=fun j=>if j=i then x else g j) (n:=j); simpa [hj] using this
   ·cases hv; have:=ColRep.i (Y:=Y) (w:=w) (k:=k) (g:=fun j=>if j=i then x else g j) (n:=i); simpa using this
  ·cases h
 | b g =>
  cases p <;> simp only [Col.put,reduceCtorEq,Option.some.injEq] at h
  rename_i x
  subst h
  refine ⟨fun j v hj hv=>?_,fun v hv=>?_⟩
  ·cases hv; have:=ColRep.b (Y:=Y) (w:=w) (g:=fun j=>if j=i then x else g j) (n:=j); simpa [hj] using this
  ·cases hv; have:=ColRep.b (Y:=Y) (w:=w) (g:=fun j=>if j=i then x else g j) (n:=i); simpa using this
 | s g =>
  cases p <;> simp only [Col.put,reduceCtorEq,Option.some.injEq] at h
  rename_i x
  subst h
  refine ⟨fun j v hj hv=>?_,fun v hv=>?_⟩
  ·cases hv; have:=ColRep.s (Y:=Y) (w:=w) (g:=fun j=>if j=i then x else g j) (n:=j); simpa [hj] using this
  ·cases hv; have:=ColRep.s (Y:=Y) (w:=w) (g:=fun j=>if j=i then x else g j) (n:=i); simpa using this
 | l a g cc =>
  cases p <;> simp only [Col.put,reduceCtorEq,Option.some.injEq] at h
  rename_i nl n cs
  subst h
  refine ⟨fun j v hj hv=>?_,fun v hv=>?_⟩
  ·cases hv with
   | l u h1 h2 h3 h4 h5 =>
    have:=ColRep.l (Y:=Y) (w:=w) (nl:=fun j=>if j=i then nl else a j) (len:=fun j=>if j=i then n else g j) (cols:=fun j=>if j=i then cs else cc j) (n:=j) u (by simpa [hj] using h1) (by simpa [hj] using h2) (by simpa [hj] using h3)
     (by simpa [hj] using h4) (by simpa [hj] using h5)
    simpa [hj] using this
  ·obtain ⟨A,cap,u,rfl,h1,h2,h3,h4,h5⟩:=hv.lit_inv
   have:=ColRep.l (Y:=Y) (w:=w) (nl:=fun j=>if j=i then nl else a j) (len:=fun j=>if j=i then n else g j) (cols:=fun j=>if j=i then cs else cc j) (n:=i) (A:=A) (cap:=cap) u (by simpa using h1) (by simpa using h2) (by simpa using h3)
    (by simpa using h4) (by simpa using h5)
   simpa using this
theorem colsPut_spec (i:Nat):∀ (cs:List Col) (j:Nat) (ps:List PV) (cs':List Col),colsPut i cs j ps=some cs'→cs'.length=cs.length∧(ps≠[]→j+ps.length≤cs.length) ∧
  ∀ (k:Nat) c',cs'[k]?=some c'→∃ c,cs[k]?=some c∧((j≤k∧k<j+ps.length∧∃ p,ps[k - j]?=some p∧c.put i p=some c')∨(¬ (j≤k∧k<j+ps.length)∧c'=c))
 | cs,j,[],cs',h=>by
  have:cs=cs':=by cases cs <;> cases j <;> simp [colsPut] at h <;> first | exact h | exact h.symm
  subst this
  exact ⟨rfl,by simp,fun k c' hk=>⟨c',hk,.inr ⟨by simp,rfl⟩⟩⟩
 | [],j,p::ps,cs',h=>by simp [colsPut] at h
 | c::cs,0,p::ps,cs',h=>by
  simp only [colsPut] at h
  split at h
  ·rename_i d ds h1 h2
   simp only [Option.some.injEq] at h
   subst h
   obtain ⟨i1,i2,i3⟩:=colsPut_spec i cs 0 ps ds h2
   refine ⟨by simp [i1],fun _=>?_,fun k c' hk=>?_⟩
   ·rcases ps with _ | ⟨q,qs⟩
    ·simp
    ·have:=i2 (by simp); simp at this ⊢; omega
   ·rcases k with _ | k
    ·simp only [List.getElem?_cons_zero,Option.some.injEq] at hk
     subst hk
     exact ⟨c,rfl,.inl ⟨Nat.le_refl _,by simp,p,rfl,h1⟩⟩
    ·simp only [List.getElem?_cons_succ] at hk
     obtain ⟨c0,e1,e2⟩:=i3 k c' hk
     refine ⟨c0,by simpa using e1,?_⟩
     rcases e2 with ⟨_,f2,q,f3,f4⟩ | ⟨f1,f2⟩
     ·exact .inl ⟨Nat.zero_le _,by simp; omega,q,by simpa using f3,f4⟩
     ·exact .inr ⟨by simp; omega,f2⟩
  ·cases h
 | c::cs,j+1,p::ps,cs',h=>by
  simp only [colsPut] at h
  split at h
  ·rename_i ds h2
   simp only [Option.some.injEq] at h
   subst h
   obtain ⟨i1,i2,i3⟩:=colsPut_spec i cs j (p::ps) ds h2
   refine ⟨by simp [i1],fun hne=>by have:=i2 hne; simp at this ⊢; omega,fun k c' hk=>?_⟩
   rcases k with _ | k
   ·simp only [List.getElem?_cons_zero,Option.some.injEq] at hk
    subst hk
    exact ⟨c,rfl,.inr ⟨by omega,rfl⟩⟩
   ·simp only [List.getElem?_cons_succ] at hk
    obtain ⟨c0,e1,e2⟩:=i3 k c' hk
    refine ⟨c0,by simpa using e1,?_⟩
    rcases e2 with ⟨f1,f2,q,f3,f4⟩ | ⟨f1,f2⟩
    ·exact .inl ⟨by omega,by omega,q,by rw [Nat.add_sub_add_right]; exact f3,f4⟩
    ·exact .inr ⟨by omega,f2⟩
  ·cases h
theorem getH_set {H:Heap} {k id:Nat} {b:ABlk} {b':ABlk} (h:getH ((k,some b)::H) id=some b'):(id=k∧b'=b)∨(id≠k∧getH H id=some b'):=getH_new h
theorem take_splice {α:Type} (cs vs:List α) (o n:Nat) (h:o+vs.length≤n) (hn:n≤cs.length):(splice cs o vs).take n=splice (cs.take n) o vs:=by
 apply List.ext_getElem?
 intro i
 rw [List.getElem?_take,splice_get,splice_get,List.getElem?_take,List.length_take]
 by_cases h1:i<n
 ·rw [if_pos h1,if_pos h1]
  by_cases h2:o≤i∧i<o+vs.length∧i<cs.length
  ·rw [if_pos h2,if_pos (by omega)]
  ·rw [if_neg h2,if_neg (by omega)]
 ·rw [if_neg h1,if_neg (by omega),if_neg h1]
theorem drop_splice {α:Type} (cs vs:List α) (o k:Nat):(splice cs (o+k) vs).drop o=splice (cs.drop o) k vs:=by
 apply List.ext_getElem?
 intro i
 rw [List.getElem?_drop,splice_get,splice_get,List.getElem?_drop,List.length_drop]
 by_cases h:k≤i∧i<k+vs.length∧i<cs.length - o
 ·rw [if_pos h,if_pos (by omega)]
  congr 1
  omega
 ·rw [if_neg h,if_neg (by omega)]
theorem ok_store {t:TypeId} {x v:Operand} {x' v':AX} {s:Nat} (ho:o.op=.store t x v) (ht:szT P t=some s) (hz:0<s) (hx:compX x=some x') (hv:compX v=some v'):StepOK P o (.store s x' v'):=by
 intro C Y m w H Fr next ρ ρv vc p u hρ hH h4 hs hvc
 have hr:=hρ x x' hx
 have did:∀ (vs:List Value) (b off:Nat) (T:TypeId) (cur:Array Value),(ρv v).cells=vs.toArray→vs.length=s→ρv x=.pointer (some ⟨b,off,none⟩)→rowAt w b cur T→off+s≤cur.size →
   (∀ u∈vs,u.oneCell'=true)→Did P o ρv w undef (w.setRow b (splice cur.toList off vs).toArray):=by
  intro vs b off T cur h1 h2 h3 h4 h5 h6
  right
  have hst:=rowAt.stores (P:=P) (o:=off) vs 0 cur w h4 (by rw [h2]; omega) h6
  simp only [Nat.add_zero] at hst
  rw [← splice_eq cur.toList vs off (by rw [h2]; simpa using h5)] at hst
  refine ⟨?_,rfl⟩
  simp [execOp,ho,Instr.storeAt,h3,Instr.sureAddr,storeVar,run_size ht,h1,h2,hst]
 simp only [step] at hs
 split at hs
 ·rename_i ps hps
  obtain ⟨vs,e1,e2⟩:=(hρ v v' hv).toCells hps
  cases hl:ps.length==s
  ·simp [hl] at hs
  ·simp only [hl,cond_true] at hs
   have hl':vs.length=s:=by rw [e2.len]; simpa using hl
   split at hs
   ·rename_i id off hp
    rw [hp] at hr
    obtain ⟨pl,hm,hv1⟩:=hr.ptr_inv
    split at hs
    ·rename_i T cs hb
     obtain ⟨pl',hm',hbs,hlies⟩:=hH.blk id _ hb
     rw [hm] at hm'
     injection hm' with hm'
     subst hm'
     obtain ⟨us,s1,s2,s3,s4⟩:=hbs
     cases hle:decide (off+s≤cs.length)
     ·simp [hle] at hs
     ·simp only [hle,cond_true,Option.some.injEq,Prod.mk.injEq] at hs
      obtain ⟨_,rfl,rfl⟩:=hs
      have hle':off+s≤us.length:=by rw [s2]; simpa using hle
      have hd:=did vs pl.blk off T us.toArray e1 hl' hv1 (.of s1) (by simpa using hle') e2.one
      have hgr:=grown_setRow w pl.blk (splice us off vs).toArray
      have hbl:=hlies pl.blk rfl
      have hrow:∀ g,some pl.blk=some g→Y g∧(C.X0 g∨C.w0.heap.size≤g):=fun g e=>by injection e with e; subst e; exact hbl
      have ev:Ev Y m w (Yn Y w (w.setRow pl.blk (splice us off vs).toArray)) m (w.setRow pl.blk (splice us off vs).toArray):=Ev.grow hgr (fun g e=>(hrow g e).1) (fun _ _ h=>h)
      have hcu:Cells Y m w cs us:=⟨s2,s4,s3⟩
      obtain ⟨g1,g2⟩:=hH.go (Fr':=Fr4 Fr next) (fun id h=>h.1) hgr hrow (fun _ _ h=>h) (fun i hi=>hH.fresh i hi.1) (fun _ _ h=>.inl h) id (H':=(id,some (.box T (splice cs off ps)))::H) (fun i b hb'=>by
       rcases getH_set hb' with ⟨rfl,rfl⟩ | ⟨hne,hb'⟩
       ·have hcs:=(hcu.splice e2 off).ev ev
        refine .inr ⟨rfl,pl,hm,⟨splice us off vs,setRow_heap w pl.blk _ _ T _ s1,hcs.len,hcs.one,hcs.rep⟩,fun g hl=>.inl ?_⟩
        simpa [ABlk.lies] using hl
       ·refine .inl ⟨hne,hb',fun pl2 hp2 g hl2 e=>?_⟩
        injection e with e
        subst e
        exact hH.inj i id b _ pl2 pl pl.blk hne hb' hb hp2 hm hl2 rfl)
      exact ⟨_,_,_,_,by simpa using hd,.any,g1,g2⟩
    ·cases hs
   ·rename_i id i j hp
    rw [hp] at hr
    obtain ⟨pl,hm,hi,hv1⟩:=hr.arp_inv
    split at hs
    ·rename_i T n cols hb
     obtain ⟨pl',hm',hbs,hlies⟩:=hH.blk id _ hb
     rw [hm] at hm'
     injection hm' with hm'
     subst hm'
     obtain ⟨xs,cap,s1,s2,s3,s4,s5,s6,s7⟩:=hbs
     split at hs
     ·rename_i cols' hcp
      simp only [Option.some.injEq,Prod.mk.injEq] at hs
      obtain ⟨_,rfl,rfl⟩:=hs
      obtain ⟨c1,c2,c3⟩:=colsPut_spec i cols j ps cols' hcp
      have hn0:0<n:=by omega
      have hblk:=s4 hn0
      obtain ⟨A,hA⟩:=s6
      rcases s3.2 with ⟨h0,_⟩ | ⟨g,cap',cur,hg1,hg2,hg3,hg4,hg5,hg6⟩
      ·rw [h0] at hblk; simp [Value.ownBlock] at hblk
      ·have hgb:g=pl.blk:=by rw [hg1] at hblk; simpa [Value.ownBlock] using hblk
       subst hgb
       have hjl:j+ps.length≤cols.length:=by
        rcases ps with _ | ⟨q,qs⟩
        ·simp at hl; omega
        ·exact c2 (by simp)
       have hps:vs.length=ps.length:=e2.len
       have hin:i * cols.length+j+vs.length≤n * cols.length:=by
        have h1:i * cols.length+cols.length≤n * cols.length:=by
         rw [← Nat.succ_mul]; exact Nat.mul_le_mul_right _ (by omega)
        omega
       have hcap:pl.o+n * cols.length≤cur.size:=by rw [hg5]; exact Nat.add_le_add_left (Nat.mul_le_mul_right _ hg3) _
       have hd:=did vs pl.blk (pl.o+(i * pl.sz+j)) T cur e1 hl' hv1 hg2 (by rw [s2,← hl']; omega) e2.one
       rw [s2] at hd
       have hgr:=grown_setRow w pl.blk (splice cur.toList (pl.o+(i * cols.length+j)) vs).toArray
       have hbl:=hlies pl.blk (by simp [ABlk.lies,hg1,Value.ownBlock])
       have hrow:∀ g,some pl.blk=some g→Y g∧(C.X0 g∨C.w0.heap.size≤g):=fun g e=>by injection e with e; subst e; exact hbl
       have ev:Ev Y m w (Yn Y w (w.setRow pl.blk (splice cur.toList (pl.o+(i * cols.length+j)) vs).toArray)) m (w.setRow pl.blk (splice cur.toList (pl.o+(i * cols.length+j)) vs).toArray) :=
        Ev.grow hgr (fun g e=>(hrow g e).1) (fun _ _ h=>h)
       have hxl:xs.length=n * cols.length:=s3.1
       obtain ⟨g1,g2⟩:=hH.go (Fr':=Fr4 Fr next) (fun id h=>h.1) hgr hrow (fun _ _ h=>h) (fun i hi=>hH.fresh i hi.1) (fun _ _ h=>.inl h) id (H':=(id,some (.arr T n cols'))::H) (fun i' b hb'=>by
        rcases getH_set hb' with ⟨rfl,rfl⟩ | ⟨hne,hb'⟩
        ·refine .inr ⟨rfl,pl,hm,⟨splice xs (i * cols.length+j) vs,cap,s1,by rw [s2,c1],?_,fun _=>hblk,?_,⟨A,hA⟩,?_⟩,fun g hl=>.inl ?_⟩
         ·refine ⟨by rw [splice_len,hxl,c1],.inr ⟨pl.blk,cap',_,hg1,hg2.set (by rw [List.size_toArray,splice_len]; simp),hg3,hg4,?_,?_⟩⟩
          ·rw [List.size_toArray,splice_len,c1]; simpa using hg5
          ·rw [c1]; simp only []; rw [drop_splice,take_splice _ _ _ _ hin (by simp only [List.length_drop,Array.length_toList]; omega),hg6]
         ·intro v hv
          obtain ⟨k,hk⟩:=List.mem_iff_getElem?.1 hv
          rw [splice_get] at hk
          split at hk
          ·exact e2.one v (List.mem_of_getElem? hk)
          ·exact s5 v (List.mem_of_getElem? hk)
         ·intro a k c' ha hk
          obtain ⟨c0,f1,f2⟩:=c3 k c' hk
          have hkl:k<cols.length:=(List.getElem?_eq_some_iff.1 f1).1
          rw [c1,splice_get,hxl]
          have hak:a * cols.length+k<n * cols.length:=by
           have h1:a * cols.length+cols.length≤n * cols.length:=by
            rw [← Nat.succ_mul]; exact Nat.mul_le_mul_right _ (by omega)
           omega
          have hdiv:(a * cols.length+k) / cols.length=a:=by
           rw [Nat.add_comm,Nat.add_mul_div_right _ _ (by omega),Nat.div_eq_of_lt hkl,Nat.zero_add]
          have hmod:(a * cols.length+k) % cols.length=k:=by
           rw [Nat.add_comm,Nat.add_mul_mod_self_right,Nat.mod_eq_of_lt hkl]
          by_cases hai:a=i
          ·subst hai
           rcases f2 with ⟨f3,f4,q,f5,f6⟩ | ⟨f3,f4⟩
           ·rw [if_pos (by omega)]
            have hq:k - j<vs.length:=by omega
            refine ⟨vs[k - j],?_,?_⟩
            ·rw [show a * cols.length+k - (a * cols.length+j)=k - j from by omega]
             exact List.getElem?_eq_getElem hq
            ·exact (colPut_rep f6).2 _ ((e2.rep (k - j) q _ f5 (List.getElem?_eq_getElem hq)).ev ev)
           ·subst f4
            rw [if_neg (by omega)]
            obtain ⟨v,h1,h2⟩:=s7 a k c' (by omega) f1
            exact ⟨v,h1,h2.ev ev⟩
          ·have hout:¬ (i * cols.length+j≤a * cols.length+k∧a * cols.length+k<i * cols.length+j+vs.length∧a * cols.length+k<n * cols.length):=by
            rintro ⟨h1,h2,_⟩
            rcases Nat.lt_or_gt_of_ne hai with hlt | hgt
            ·have:a * cols.length+cols.length≤i * cols.length:=by rw [← Nat.succ_mul]; exact Nat.mul_le_mul_right _ hlt
             omega
            ·have:i * cols.length+cols.length≤a * cols.length:=by rw [← Nat.succ_mul]; exact Nat.mul_le_mul_right _ hgt
             omega
           rw [if_neg hout]
           obtain ⟨v,h1,h2⟩:=s7 a k c0 (by omega) f1
           refine ⟨v,h1,?_⟩
           rcases f2 with ⟨_,_,q,_,f6⟩ | ⟨_,f4⟩
           ·exact (colPut_rep (m:=m) f6).1 a v hai (h2.ev ev)
           ·subst f4; exact h2.ev ev
         ·simpa [ABlk.lies,hg1,Value.ownBlock] using hl
        ·refine .inl ⟨hne,hb',fun pl2 hp2 g hl2 e=>?_⟩
         injection e with e
         subst e
         exact hH.inj i' id b _ pl2 pl pl.blk hne hb' hb hp2 hm hl2 (by simp [ABlk.lies,hg1,Value.ownBlock]))
       exact ⟨_,_,_,_,hd,.any,g1,g2⟩
     ·cases hs
    ·cases hs
   ·cases hs
 ·cases hs
theorem HSF.setArr {C:Ctx} {Y:Nat→Prop} {m:Names} {w:World} {H:Heap} {Fr:Nat→Prop} (next:Nat) (hH:HSF C Y m w H Fr) {id:Nat} {pl:Pl} {T n:Nat} {cols cols':List Col} (hm:m id=some pl)
  (hb:getH H id=some (.arr T n cols)) (hn:0<n) (q:Nat) (vs:List Value) (h1:∀ v∈vs,v.oneCell'=true) (hq:q+vs.length≤n * cols.length) (c1:cols'.length=cols.length)
  (hin:∀ (a k:Nat) c',a<n→cols'[k]?=some c'→q≤a * cols.length+k→a * cols.length+k<q+vs.length→∃ u,vs[a * cols.length+k - q]?=some u∧ACR Y m w c' a u)
  (hout:∀ (a k:Nat) c',a<n→cols'[k]?=some c'→¬ (q≤a * cols.length+k∧a * cols.length+k<q+vs.length)→∃ c0,cols[k]?=some c0∧∀ v,ACR Y m w c0 a v→ACR Y m w c' a v) :
  ∃ cur:Array Value,rowAt w pl.blk cur T∧pl.o+q+vs.length≤cur.size ∧
   ∃ Y',HSF C Y' m (w.setRow pl.blk (splice cur.toList (pl.o+q) vs).toArray) ((id,some (.arr T n cols'))::H) (Fr4 Fr next)∧Ev Y m w Y' m (w.setRow pl.blk (splice cur.toList (pl.o+q) vs).toArray):=by
 obtain ⟨pl',hm',hbs,hlies⟩:=hH.blk id _ hb
 rw [hm] at hm'
 injection hm' with hm'
 subst hm'
 obtain ⟨xs,cap,s1,s2,s3,s4,s5,s6,s7⟩:=hbs
 have hblk:=s4 hn
 obtain ⟨A,hA⟩:=s6
 rcases s3.2 with ⟨h0,_⟩ | ⟨g,cap',cur,hg1,hg2,hg3,hg4,hg5,hg6⟩
 ·rw [h0] at hblk; simp [Value.ownBlock] at hblk
 have hgb:g=pl.blk:=by rw [hg1] at hblk; simpa [Value.ownBlock] using hblk
 subst hgb
 have hcap:pl.o+n * cols.length≤cur.size:=by rw [hg5]; exact Nat.add_le_add_left (Nat.mul_le_mul_right _ hg3) _
 refine ⟨cur,hg2,by omega,?_⟩
 have hgr:=grown_setRow w pl.blk (splice cur.toList (pl.o+q) vs).toArray
 have hbl:=hlies pl.blk (by simp [ABlk.lies,hg1,Value.ownBlock])
 have hrow:∀ g,some pl.blk=some g→Y g∧(C.X0 g∨C.w0.heap.size≤g):=fun g e=>by injection e with e; subst e; exact hbl
 have ev:Ev Y m w (Yn Y w (w.setRow pl.blk (splice cur.toList (pl.o+q) vs).toArray)) m (w.setRow pl.blk (splice cur.toList (pl.o+q) vs).toArray) :=
  Ev.grow hgr (fun g e=>(hrow g e).1) (fun _ _ h=>h)
 have hxl:xs.length=n * cols.length:=s3.1
 obtain ⟨g1,g2⟩:=hH.go (Fr':=Fr4 Fr next) (fun id h=>h.1) hgr hrow (fun _ _ h=>h) (fun i hi=>hH.fresh i hi.1) (fun _ _ h=>.inl h) id (H':=(id,some (.arr T n cols'))::H) (fun i' b hb'=>by
  rcases getH_set hb' with ⟨rfl,rfl⟩ | ⟨hne,hb'⟩
  ·refine .inr ⟨rfl,pl,hm,⟨splice xs q vs,cap,s1,by rw [s2,c1],?_,fun _=>hblk,?_,⟨A,hA⟩,?_⟩,fun g hl=>.inl ?_⟩
   ·refine ⟨by rw [splice_len,hxl,c1],.inr ⟨pl.blk,cap',_,hg1,hg2.set (by rw [List.size_toArray,splice_len]; simp),hg3,hg4,?_,?_⟩⟩
    ·rw [List.size_toArray,splice_len,c1]; simpa using hg5
    ·rw [c1]; simp only []; rw [drop_splice,take_splice _ _ _ _ hq (by simp only [List.length_drop,Array.length_toList]; omega),hg6]
   ·intro v hv
    obtain ⟨k,hk⟩:=List.mem_iff_getElem?.1 hv
    rw [splice_get] at hk
    split at hk
    ·exact h1 v (List.mem_of_getElem? hk)
    ·exact s5 v (List.mem_of_getElem? hk)
   ·intro a k c' ha hk
    have hkl:k<cols.length:=by rw [← c1]; exact (List.getElem?_eq_some_iff.1 hk).1
    rw [c1,splice_get,hxl]
    have hak:a * cols.length+k<n * cols.length:=by
     have h1:a * cols.length+cols.length≤n * cols.length:=by
      rw [← Nat.succ_mul]; exact Nat.mul_le_mul_right _ (by omega)
     omega
    by_cases hc:q≤a * cols.length+k∧a * cols.length+k<q+vs.length
    ·rw [if_pos ⟨hc.1,hc.2,hak⟩]
     obtain ⟨u,f1,f2⟩:=hin a k c' ha hk hc.1 hc.2
     exact ⟨u,f1,f2.ev ev⟩
    ·rw [if_neg (fun h=>hc ⟨h.1,h.2.1⟩)]
     obtain ⟨c0,f1,f2⟩:=hout a k c' ha hk hc
     obtain ⟨v,h1,h2⟩:=s7 a k c0 (by omega) f1
     exact ⟨v,h1,(f2 v h2).ev ev⟩
   ·simpa [ABlk.lies,hg1,Value.ownBlock] using hl
  ·refine .inl ⟨hne,hb',fun pl2 hp2 g hl2 e=>?_⟩
   injection e with e
   subst e
   exact hH.inj i' id b _ pl2 pl pl.blk hne hb' hb hp2 hm hl2 (by simp [ABlk.lies,hg1,Value.ownBlock]))
 exact ⟨_,g1,g2⟩
end Go.Proofs.Yteepabfepfehgaa
