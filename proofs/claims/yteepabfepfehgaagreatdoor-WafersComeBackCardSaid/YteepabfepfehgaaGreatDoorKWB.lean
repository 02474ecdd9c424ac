/-
 WafersComeBack holds: for every list of numbers the Go function scankeep1.WafersComeBack returns true,and its input reads as it did. Its row lists four tables and two errors of the library with what the text lays; the card ties them.
-/
import Derived.Test.YteepabfepfehgaaGreatDoorRows
import Derived.Test.YteepabfepfehgaaGreatDoorKWB7
import Derived.Test.YteepabfepfehgaaGreatDoorChecked
import Derived.Test.YteepabfepfehgaaGreatDoorCards
import Derived.Test.YteepabfepfehgaaGreatDoorTie
import Derived.ChangeSame
import Derived.ChangeVars
import Derived.JoinedOf
import Derived.LaidLaws
import Derived.LaidHandle
import Derived.PinnedBridge
import Derived.SevenTiedAt
import Derived.WalkKit
import Derived.ProofKit
import Derived.OpenShut
import Derived.SizedLaws
import Derived.ChangeOld
import Derived.Below
set_option linter.unusedVariables false
set_option linter.unusedSimpArgs false
namespace Go.Proofs.YteepabfepfehgaaGreatDoor
open Go.ChangeShapes Go.WideShapes Go.ChangeAt Go.RowKit
def cellsD:Nat→DataW Unit→List Value
 | 0,_=>[]
 | n+1,.agg l=>l.flatMap (cellsD n)
 | _+1,.lit (.int k z)=>[.int k z]
 | _+1,_=>[]
noncomputable def low0:Nat:=(World.holding Tryz.prog default ⟨#[],#[],[]⟩).heap.size
noncomputable def laidWorld (os : Os) : World :=
  let w0 := World.holding Tryz.prog os ⟨#[.cells #[.string ⟨#[118, 97, 108, 117, 101, 32, 111, 117, 116, 32, 111, 102, 32, 114, 97, 110, 103, 101]⟩] 209, .cells #[.string ⟨#[105, 110, 118, 97, 108, 105, 100, 32, 115, 121, 110, 116, 97, 120]⟩] 209], #[], []⟩
  let put (h : Array Obj) (g : Nat) (cs : List Value) : Array Obj := h.modify g fun
    | .cells _ t frozen => .cells cs.toArray t frozen
    | o => o
  { w0 with heap := put (put (put (put (put (put (put (w0.heap) ((Tryz.prog.globalNamed "math/bits.deBruijn32tab").getD 0) (cellsD 9 Rows.laid_math_bits_deBruijn32tab)) ((Tryz.prog.globalNamed "math/bits.deBruijn64tab").getD 0) (cellsD 9 Rows.laid_math_bits_deBruijn64tab)) ((Tryz.prog.globalNamed "internal/strconv.uint64pow10").getD 0) (cellsD 9 Rows.laid_internal_strconv_uint64pow10)) ((Tryz.prog.globalNamed "unicode/utf8.acceptRanges").getD 0) (cellsD 9 Rows.laid_unicode_utf8_acceptRanges)) ((Tryz.prog.globalNamed "unicode/utf8.first").getD 0) (cellsD 9 Rows.laid_unicode_utf8_first)) ((Tryz.prog.globalNamed "strconv.ErrRange").getD 0) [.iface 207 (.pointer (some ⟨low0 + 0, 0, none⟩))]) ((Tryz.prog.globalNamed "strconv.ErrSyntax").getD 0) [.iface 207 (.pointer (some ⟨low0 + 1, 0, none⟩))] }
set_option maxRecDepth 1000000 in
theorem wafersComeBack_met (os:Os) (args:Array Value):laidMetH Tryz.prog Rows.wafersComeBackRow.laid ((laidWorld os).forCall (fun _ _=>0) ⟨#[],args,[]⟩).memory:=by
 show laidMet Tryz.prog Rows.wafersComeBackRow.laid _
 exact laidMet_of_run' 10 (by kernel_rfl) (by kernel_rfl)
theorem wafersComeBack_own:ownKnob Tryz.prog.godebug=none:=by kernel_rfl
theorem wafersComeBack_laidOut:laidOutB Tryz.prog=true:=by kernel_rfl
theorem wafersComeBack_cells:Tryz.prog.cellsOf 3=1:=by kernel_rfl
theorem wafersComeBack_bytes:Tryz.prog.bytesOf 3=8:=by kernel_rfl
set_option maxRecDepth 100000 in
theorem wafersComeBack_block {W:World} {base:Nat} {a0:Option Addr} {len cap:Nat} (h:Value.okWide Tryz.prog W .any base 22 (.slice a0 len cap)):∀ a,a0=some a→a.block<W.heap.size:=by
 intro a e
 subst e
 simp only [Value.okWide,Tryz.underlying22,Cell.okWide,Cell.ok] at h
 obtain ⟨_,_,_,_,row,cells,hs,_⟩:=h
 rcases Nat.lt_or_ge a.block W.heap.size with hl | hl
 ·exact hl
 ·have hn:W.heap[a.block]?=none:=Array.getElem?_eq_none hl
  simp [World.shape?,hn] at hs
set_option maxRecDepth 100000 in
theorem wafersComeBack_lifted (os:Os) (started:os.Started) (H:Type) (enc:TypeId × Value→H) :
  ReturnsInHanded {} Tryz.checked os 3 .any (fun w args=>(Rows.wafersComeBackSpec.pre enc Tryz.prog Tryz.f3 Rows.wafersComeBackRow.domain false w args∧laidMetH Tryz.prog Rows.wafersComeBackRow.laid w)∧sizedMet enc Tryz.prog Tryz.f3 (OpenSpec.ofChange Rows.wafersComeBackSpec) false w args)
   (Rows.wafersComeBackSpec.post enc Tryz.prog Tryz.f3 false true false false):=by
 refine handed_shaped (C:=Tryz.checked) (X:=fun w _=>laidMetH Tryz.prog Rows.wafersComeBackRow.laid w) (fun _ _ _ hh h=>h.of_heap hh) wafersComeBack_own started (by kernel_rfl) Tryz.func3
  (ChangeSpec.witness_at (enc:=enc) (C:=Tryz.checked) (os:=os) (X:=fun w _=>laidMetH Tryz.prog Rows.wafersComeBackRow.laid w) false (laidWorld os) #[.slice none 0 0] 8 rfl (by kernel_rfl) (by kernel_rfl) (by kernel_rfl) (by kernel_rfl) (by kernel_rfl) (wafersComeBack_met os _)) ?_
 intro W base args ds gs before hval0 hW hcnd hsz0 _ hsh
 have hsz:(DataW.weightsEach Tryz.prog (Tryz.f3.params.toList++Rows.wafersComeBackSpec.plain.varTypes Tryz.prog) (ds++gs)).all (·≤reachBytes)=true:=hsz0
 clear hsz0
 have hval:∀ (j:Nat) t v,Tryz.f3.params[j]?=some t→args[j]?=some v→Value.okWide Tryz.prog W .any base t v:=hval0
 have hW':=hW
 obtain ⟨p,q,hA0,hV,rfl,hfz,hnd⟩:=hW
 have hA:DataW.TrodAll enc Tryz.prog W 0 (fun _=>true) true Tryz.f3.params.toList args.toList ds p:=hA0
 rw [Tryz.params3] at hA hval hsz
 obtain ⟨v0,vs0,d0,ds0,p0,q0,hargs,rfl,rfl,h0,r0⟩:=trodAll_cons hA
 obtain ⟨rfl,rfl,rfl⟩:=trodAll_nil r0
 obtain rfl:args=#[v0]:=by cases args; simp_all
 obtain ⟨rfl,rfl⟩:=trodVars_none hV
 obtain ⟨a0,len0,cap0,rfl⟩:=okWide_slice Tryz.underlying22 (hval 0 22 v0 rfl rfl)
 have k0:=h0
 have lt0:∀ x∈p0,x.block<W.heap.size:=by obtain ⟨m,hm⟩:=k0; exact DataW.trod_lt m _ _ _ hm
 obtain ⟨L,rfl,hr,hblk,hwf,hlen,hcap,hle⟩:∃ L:List Int,len0=L.length∧RowV W a0 (ints L)∧(∀ a,a0=some a→a.block<W.heap.size)∧Within (-9223372036854775808) 9223372036854775807 L∧L.length≤17592186044415∧(a0=none→cap0=0)∧L.length≤cap0:=by
  obtain ⟨fuel,hf⟩:=h0
  rcases open_ints Tryz.underlying22 Tryz.underlying3 wafersComeBack_cells hf with ⟨hcs,_⟩ | ⟨x,l,c,zs,hcs,_,hl,hm,hz,hx,hcell,hwz⟩
  ·simp [Value.cells] at hcs
   obtain ⟨rfl,rfl,rfl⟩:=hcs
   exact ⟨[],rfl,(fun k u hu=>by simp [ints] at hu),(fun a e=>by cases e),(fun y hy=>by cases hy),by simp,fun _=>rfl,by simp⟩
  ·simp [Value.cells] at hcs
   obtain ⟨rfl,rfl,rfl⟩:=hcs
   simp only [Prod.mk.injEq] at hx
   obtain ⟨rfl,rfl⟩:=hx
   simp only [if_true] at hz
   have hreach:len0 * 8≤140737488351232:=by
    have:=sized_slice hsz (j:=0) (t:=22) (e:=3) rfl rfl Tryz.underlying22
    rw [wafersComeBack_bytes] at this
    simp only [lits,List.length_map,List.length_take,List.length_drop,reachBytes] at this
    omega
   have hll:(zs.take len0).length=len0:=by rw [List.length_take]; omega
   refine ⟨zs.take len0,hll.symm,?_,?_,?_,by omega,(fun e=>by cases e),by omega⟩
   ·intro k u hu
    obtain ⟨b,off,spot⟩:=x
    have hk:k<len0:=by
     have:=(List.getElem?_eq_some_iff.1 hu).1
     simp only [ints,List.length_map] at this
     omega
    have hspot:spot=none:=by simpa [Addr.add] using World.cell?_spot (hcell 0 (by omega))
    subst hspot
    refine ⟨b,off,rfl,?_⟩
    have hc:=hcell k (by omega)
    simp only [ints,List.getElem?_map,List.getElem?_take,hk,if_true] at hu
    have hkz:k<zs.length:=by omega
    rw [List.getElem?_eq_getElem hkz] at hu
    simp only [Option.map_some,Option.some.injEq] at hu
    subst hu
    rw [List.getD_eq_getElem?_getD,List.getElem?_eq_getElem hkz] at hc
    have e:(⟨b,off,none⟩:Addr).add k=⟨b,off+k,none⟩:=by unfold Addr.add; split <;> simp_all
    rw [e] at hc
    simpa using hc
   ·exact wafersComeBack_block (hval 0 22 _ rfl rfl)
   ·intro y hy
    have h1:IntKind.i64.min = -9223372036854775808:=rfl
    have h2:IntKind.i64.max=9223372036854775807:=rfl
    have:=hwz y (List.mem_of_mem_take hy)
    simp [Lit.wf,h1,h2] at this
    omega
 clear hA0 hval0
 refine (calls_of_acall Tryz.func3 (by kernel_rfl) (by kernel_rfl) hr hcap hle (gok_of hsh) (fun nl nid=>wafersComeBack_c nl L nid (by omega))).mono fun e W' ⟨he,bel⟩=>?_
 subst he
 exact ⟨_,rfl,_,_,_,[],_,[],hW',trodAll_mk1 (shut_bool Tryz.underlying4 _),(trodAll_cons_mk (Below.trod wafersComeBack_laidOut (by kernel_rfl) (of_decide_eq_true (by kernel_rfl)) k0 bel lt0) trodAll_mk0),rfl,bel.frame _,fun h=>by cases h⟩
theorem wafersComeBack_over:Rows.wafersComeBackRow.holds Tryz.pinned (OpenSpec.ofChange Rows.wafersComeBackSpec) :=
 OpenClaim.holds_of_wide 3 Tryz.f3 rfl rfl rfl rfl rfl rfl rfl ⟨rfl,rfl,rfl,rfl,rfl⟩ rfl rfl rfl rfl rfl (by kernel_rfl) Tryz.func3 (by kernel_rfl)
  (of_decide_eq_true (by kernel_rfl)) (by unfold Func.isWrapper; first | (rw [if_pos (by decide +kernel)]; kernel_rfl) | (rw [if_neg (by decide +kernel)]; exact ⟨rfl,rfl⟩))
  (fun os started H enc _=>wafersComeBack_lifted os started H enc)
theorem wafersComeBack_said : Rows.WafersComeBackCardSaid :=
 Claim7.holds_tied_plain_at .later [] [.data, .data, .data, .data, .sentinel, .sentinel, .pinned] true (true, "c07038c2cae95296446d1032ecb5c21261795379ecf913891187ec640218499c") true
  wafersComeBack_over (fun _ h => by cases h) (by kernel_rfl) (fun _ h => by cases h) wafersComeBack_row_tie rfl ⟨rfl, rfl⟩ (by kernel_rfl) rfl
  (fun f fn hf hfn => by
   obtain rfl : f = 3 := Option.some.inj ((show Tryz.prog.funcNamed "scanchain/scankeep1.WafersComeBack" = some 3 by kernel_rfl).symm.trans hf) |>.symm
   obtain rfl : fn = Tryz.f3 := (Option.some.inj (Tryz.func3.symm.trans hfn)).symm
   exact ⟨by kernel_rfl, fun j t ht => by
    rw [Tryz.params3] at ht
    have h3 : t = 22 := by
     rcases j with _ | j
     ·simpa using ht.symm
     ·simp at ht
    subst h3
    exact (show Tryz.prog.wantsStandIn 22 = false by kernel_rfl)⟩)
  (by kernel_rfl)
end Go.Proofs.YteepabfepfehgaaGreatDoor
