/-
 WafersStay holds: for every list of numbers the Go function scankeep1.WafersStay returns true,and its input reads as it did. No condition.
-/
import Derived.Test.YteepabfepfehgaaRows
import Derived.Test.YteepabfepfehgaaKWS7
import Derived.Test.YteepabfepfehgaaChecked
import Derived.WalkKit
import Derived.ProofKit
import Derived.OpenShut
import Derived.SizedLaws
import Derived.ChangeOld
import Derived.Below
set_option linter.unusedVariables false
set_option linter.unusedSimpArgs false
namespace Go.Proofs.Yteepabfepfehgaa
open Go.ChangeShapes Go.WideShapes Go.ChangeAt Go.RowKit
theorem wafersStay_own:ownKnob Try.prog.godebug=none:=by kernel_rfl
theorem wafersStay_laidOut:laidOutB Try.prog=true:=by kernel_rfl
theorem wafersStay_cells:Try.prog.cellsOf 3=1:=by kernel_rfl
theorem wafersStay_bytes:Try.prog.bytesOf 3=8:=by kernel_rfl
set_option maxRecDepth 100000 in
theorem wafersStay_block {W:World} {base:Nat} {a0:Option Addr} {len cap:Nat} (h:Value.okWide Try.prog W .any base 22 (.slice a0 len cap)):∀ a,a0=some a→a.block<W.heap.size:=by
 intro a e
 subst e
 simp only [Value.okWide,Try.underlying22,Cell.okWide,Cell.ok] at h
 obtain ⟨_,_,_,_,row,cells,hs,_⟩:=h
 rcases Nat.lt_or_ge a.block W.heap.size with hl | hl
 ·exact hl
 ·have hn:W.heap[a.block]?=none:=Array.getElem?_eq_none hl
  simp [World.shape?,hn] at hs
set_option maxRecDepth 100000 in
theorem wafersStay_lifted (os:Os) (started:os.Started) (H:Type) (enc:TypeId × Value→H) :
  ReturnsInHanded {} Try.checked os 4 .any (Rows.wafersStaySpec.pre6 enc Try.prog Try.f4 Rows.wafersStayRow.domain false) (Rows.wafersStaySpec.post enc Try.prog Try.f4 false true false false):=by
 refine returnsInHanded_of_change_shaped (C:=Try.checked) wafersStay_own started (by kernel_rfl) Try.func4
  (ChangeSpec.witness6 (enc:=enc) (C:=Try.checked) false ⟨#[],#[.slice none 0 0],[]⟩ 8 (by kernel_rfl) (by kernel_rfl) (by kernel_rfl) (by kernel_rfl)) ?_
 intro W base args ds gs before hval0 hW hcnd hsz0 hsh _
 have hsz:(DataW.weightsEach Try.prog (Try.f4.params.toList++Rows.wafersStaySpec.plain.varTypes Try.prog) (ds++gs)).all (·≤reachBytes)=true:=hsz0
 clear hsz0
 have hval:∀ (j:Nat) t v,Try.f4.params[j]?=some t→args[j]?=some v→Value.okWide Try.prog W .any base t v:=hval0
 have hW':=hW
 obtain ⟨p,q,hA0,hV,rfl,hfz,hnd⟩:=hW
 have hA:DataW.TrodAll enc Try.prog W 0 (fun _=>true) true Try.f4.params.toList args.toList ds p:=hA0
 rw [Try.params4] at hA hval hsz
 obtain ⟨v0,vs0,d0,ds0,p0,q0,hargs,rfl,rfl,h0,r0⟩:=trodAll_cons hA
 obtain ⟨rfl,rfl,rfl⟩:=trodAll_nil r0
 obtain rfl:args=#[v0]:=by cases args; simp_all
 obtain ⟨rfl,rfl⟩:=trodVars_none hV
 obtain ⟨a0,len0,cap0,rfl⟩:=okWide_slice Try.underlying22 (hval 0 22 v0 rfl rfl)
 have k0:=h0
 have lt0:∀ x∈p0,x.block<W.heap.size:=by obtain ⟨m,hm⟩:=k0; exact DataW.trod_lt m _ _ _ hm
 obtain ⟨L,rfl,hr,hblk,hwf,hlen,hcap,hle⟩:∃ L:List Int,len0=L.length∧RowV W a0 (ints L)∧(∀ a,a0=some a→a.block<W.heap.size)∧Within (-9223372036854775808) 9223372036854775807 L∧L.length≤17592186044415∧(a0=none→cap0=0)∧L.length≤cap0:=by
  obtain ⟨fuel,hf⟩:=h0
  rcases open_ints Try.underlying22 Try.underlying3 wafersStay_cells hf with ⟨hcs,_⟩ | ⟨x,l,c,zs,hcs,_,hl,hm,hz,hx,hcell,hwz⟩
  ·simp [Value.cells] at hcs
   obtain ⟨rfl,rfl,rfl⟩:=hcs
   exact ⟨[],rfl,(fun k u hu=>by simp [ints] at hu),(fun a e=>by cases e),(fun y hy=>by cases hy),by simp,fun _=>rfl,by simp⟩
  ·simp [Value.cells] at hcs
   obtain ⟨rfl,rfl,rfl⟩:=hcs
   simp only [Prod.mk.injEq] at hx
   obtain ⟨rfl,rfl⟩:=hx
   simp only [if_true] at hz
   have hreach:len0 * 8≤140737488351232:=by
    have:=sized_slice hsz (j:=0) (t:=22) (e:=3) rfl rfl Try.underlying22
    rw [wafersStay_bytes] at this
    simp only [lits,List.length_map,List.length_take,List.length_drop,reachBytes] at this
    omega
   have hll:(zs.take len0).length=len0:=by rw [List.length_take]; omega
   refine ⟨zs.take len0,hll.symm,?_,?_,?_,by omega,(fun e=>by cases e),by omega⟩
   ·intro k u hu
    obtain ⟨b,off,spot⟩:=x
    have hk:k<len0:=by
     have:=(List.getElem?_eq_some_iff.1 hu).1
     simp only [ints,List.length_map] at this
     omega
    have hspot:spot=none:=by simpa [Addr.add] using World.cell?_spot (hcell 0 (by omega))
    subst hspot
    refine ⟨b,off,rfl,?_⟩
    have hc:=hcell k (by omega)
    simp only [ints,List.getElem?_map,List.getElem?_take,hk,if_true] at hu
    have hkz:k<zs.length:=by omega
    rw [List.getElem?_eq_getElem hkz] at hu
    simp only [Option.map_some,Option.some.injEq] at hu
    subst hu
    rw [List.getD_eq_getElem?_getD,List.getElem?_eq_getElem hkz] at hc
    have e:(⟨b,off,none⟩:Addr).add k=⟨b,off+k,none⟩:=by unfold Addr.add; split <;> simp_all
    rw [e] at hc
    simpa using hc
   ·exact wafersStay_block (hval 0 22 _ rfl rfl)
   ·intro y hy
    have h1:IntKind.i64.min = -9223372036854775808:=rfl
    have h2:IntKind.i64.max=9223372036854775807:=rfl
    have:=hwz y (List.mem_of_mem_take hy)
    simp [Lit.wf,h1,h2] at this
    omega
 clear hA0 hval0
 refine (calls_of_acall Try.func4 (by kernel_rfl) (by kernel_rfl) hr hcap hle (gok_of hsh) (fun nl nid=>wafersStay_c nl L nid (by omega))).mono fun e W' ⟨he,bel⟩=>?_
 subst he
 exact ⟨_,rfl,_,_,_,[],_,[],hW',trodAll_mk1 (shut_bool Try.underlying4 _),(trodAll_cons_mk (Below.trod wafersStay_laidOut (by kernel_rfl) (of_decide_eq_true (by kernel_rfl)) k0 bel lt0) trodAll_mk0),rfl,bel.frame _,fun h=>by cases h⟩
theorem wafersStay_over:Rows.wafersStayRow.holds Try.pinned (OpenSpec.ofChange Rows.wafersStaySpec) :=
 OpenClaim.holds_of_wide 4 Try.f4 rfl rfl rfl rfl rfl rfl rfl ⟨rfl,rfl,rfl,rfl,rfl⟩ rfl rfl rfl rfl rfl (by kernel_rfl) Try.func4 (by kernel_rfl)
  (of_decide_eq_true (by kernel_rfl)) (by unfold Func.isWrapper; first | (rw [if_pos (by decide +kernel)]; kernel_rfl) | (rw [if_neg (by decide +kernel)]; exact ⟨rfl,rfl⟩))
  (fun os started H enc _=>wafersStay_lifted os started H enc)
theorem wafersStay_said:Rows.WafersStaySaid:=wafersStay_over
end Go.Proofs.Yteepabfepfehgaa
