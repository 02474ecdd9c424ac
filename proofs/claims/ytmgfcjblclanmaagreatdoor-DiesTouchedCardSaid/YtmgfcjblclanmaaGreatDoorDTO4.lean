/-
 Sets as the machine's numbers of 64 bits without a sign: with,without,the lowest member.
-/
import Derived.Test.YtmgfcjblclanmaaGreatDoorDTO3
import Derived.KernelRfl
import Derived.Test.YtmgfcjblclanmaaGreatDoorDTO1
set_option linter.unusedVariables false
set_option linter.unusedSimpArgs false
namespace Go.Proofs.YtmgfcjblclanmaaGreatDoor
open Go.RowKit
theorem u64_nat {a : Nat} (ha : a < 18446744073709551616) : IntKind.u64.wrap (a : Int) = a := by
 show ((a : Int) % (2 ^ 64 : Int)) = a
 exact Int.emod_eq_of_lt (by omega) (by omega)
theorem ofInt_u64 (a : Nat) (ha : a < 18446744073709551616) : (BitVec.ofInt IntKind.u64.bits (a : Int)).toNat = a := by
 rw [BitVec.toNat_ofInt]
 have : ((a : Int) % (2 ^ 64 : Nat)) = a := Int.emod_eq_of_lt (by omega) (by omega)
 show ((a : Int) % (2 ^ 64 : Nat)).toNat = a
 rw [this]
 rfl
theorem and64u (a b : Nat) (ha : a < 18446744073709551616) (hb : b < 18446744073709551616) : IntKind.u64.wrap (((BitVec.ofInt IntKind.u64.bits (a : Int)) &&& (BitVec.ofInt IntKind.u64.bits (b : Int))).toNat : Int) = ((a &&& b : Nat) : Int) := by
 rw [BitVec.toNat_and,ofInt_u64 a ha,ofInt_u64 b hb,u64_nat (Nat.lt_of_le_of_lt Nat.and_le_left ha)]
theorem or64u (a b : Nat) (ha : a < 18446744073709551616) (hb : b < 18446744073709551616) : IntKind.u64.wrap (((BitVec.ofInt IntKind.u64.bits (a : Int)) ||| (BitVec.ofInt IntKind.u64.bits (b : Int))).toNat : Int) = ((a ||| b : Nat) : Int) := by
 rw [BitVec.toNat_or,ofInt_u64 a ha,ofInt_u64 b hb,u64_nat (Nat.or_lt_two_pow (n := 64) ha hb)]
theorem andNot64u (a b : Nat) (ha : a < 18446744073709551616) (hb : b < 18446744073709551616) : IntKind.u64.wrap (((BitVec.ofInt IntKind.u64.bits (a : Int)) &&& ~~~ (BitVec.ofInt IntKind.u64.bits (b : Int))).toNat : Int) = ((andN a b : Nat) : Int) := by
 have e : ((BitVec.ofInt IntKind.u64.bits (a : Int)) &&& ~~~ (BitVec.ofInt IntKind.u64.bits (b : Int))).toNat = andN a b := by
  rw [BitVec.toNat_and,BitVec.toNat_not,ofInt_u64 a ha,ofInt_u64 b hb]
  show a &&& (2 ^ 64 - 1 - b) = andN a b
  rw [Nat.sub_sub,Nat.add_comm 1 b]
  refine Nat.eq_of_testBit_eq fun i => ?_
  rw [Nat.testBit_and,Nat.testBit_two_pow_sub_succ (by omega),andN_test]
  by_cases h : i < 64
  ·rw [decide_eq_true h,Bool.true_and]
  ·have : a.testBit i = false := Nat.testBit_lt_two_pow (Nat.lt_of_lt_of_le ha (Nat.pow_le_pow_right (n := 2) (i := 64) (by omega) (by omega)))
   rw [this]; rfl
 rw [e,u64_nat (Nat.lt_of_le_of_lt (andN_le ha) ha)]
theorem shl64u (i : Nat) (hi : i < 64) : IntKind.u64.wrap (1 * 2 ^ (min i IntKind.u64.bits)) = ((1 <<< i : Nat) : Int) := by
 have e : min i IntKind.u64.bits = i := Nat.min_eq_left (by show i ≤ 64; omega)
 rw [e,Int.one_mul,Nat.shiftLeft_eq,Nat.one_mul]
 have h : (2 : Nat) ^ i < 18446744073709551616 := Nat.pow_lt_pow_right (a := 2) (by omega) (show i < 64 from hi)
 have := u64_nat h
 push_cast at this ⊢
 exact this
theorem low_all : ((List.range 16384).all fun s => s == 0 || (s &&& (18446744073709551616 - s)) == 2 ^ lowN s) = true := by kernel_rfl
theorem low64u (s : Nat) (h0 : s ≠ 0) (hs : s < 16384) : IntKind.u64.wrap (((BitVec.ofInt IntKind.u64.bits (s : Int)) &&& (BitVec.ofInt IntKind.u64.bits (IntKind.u64.wrap (0 - (s : Int))))).toNat : Int) = ((2 ^ lowN s : Nat) : Int) := by
 have e : IntKind.u64.wrap (0 - (s : Int)) = ((18446744073709551616 - s : Nat) : Int) := by
  show ((0 - (s : Int)) % (2 ^ 64 : Int)) = _
  rw [← Int.add_emod_right]
  rw [Int.emod_eq_of_lt (by omega) (by omega)]
  omega
 rw [e,and64u s _ (by omega) (by omega)]
 have := List.all_eq_true.1 low_all s (List.mem_range.2 hs)
 rw [Bool.or_eq_true,beq_iff_eq,beq_iff_eq] at this
 rw [this.resolve_left h0]
theorem low_in (d i : Nat) : (((d &&& 2 ^ i : Nat) : Int) == 0) = !d.testBit i := by
 have e : d &&& 2 ^ i = if d.testBit i = true then 2 ^ i else 0 := by
  refine Nat.eq_of_testBit_eq fun j => ?_
  rw [Nat.testBit_and,Nat.testBit_two_pow]
  by_cases h : i = j
  ·subst h
   cases hd : d.testBit i
   ·rw [if_neg (by simp),Nat.zero_testBit]; rfl
   ·rw [if_pos rfl,Nat.testBit_two_pow]; simp
  ·rw [decide_eq_false h,Bool.and_false]
   split
   ·rw [Nat.testBit_two_pow,decide_eq_false h]
   ·rw [Nat.zero_testBit]
 have hp : 0 < 2 ^ i := Nat.pow_pos (by omega)
 rw [e]
 cases d.testBit i
 ·simp
 ·rw [if_pos rfl,Bool.not_true,beq_eq_false_iff_ne]
  omega
end Go.Proofs.YtmgfcjblclanmaaGreatDoor
namespace Go.Proofs.YtmgfcjblclanmaaGreatDoor
open Go.RowKit
variable {P : Program}
def shiftL (k : Nat) (l : List (AIn × List Nat)) : List (AIn × List Nat) := l.map fun p => (p.1,p.2.map fun j => j - k)
theorem freeOf_pre {pre recs : List Rec1} {q : Rec1} : ∀ {fr : List Nat},(∀ j ∈ fr,pre.length ≤ j) → freeOf (pre ++ recs) q fr = freeOf recs q (fr.map fun j => j - pre.length)
 | [],h => rfl
 | j :: fr,h => by
  have h1 := h j List.mem_cons_self
  rw [List.map_cons]
  unfold freeOf
  rw [List.getElem?_append_right h1,freeOf_pre (fun x hx => h x (List.mem_cons_of_mem _ hx))]
theorem runAny_pre {pre : List Rec1} : ∀ (l : List (AIn × List Nat)) (recs : List Rec1) (s : Slots) (H : Heap) (n : Nat) {K : Slots → Heap → Nat → Prop},(∀ p ∈ l,∀ j ∈ p.2,pre.length ≤ j) → runAny P l (pre ++ recs) s H n K = runAny P (shiftL pre.length l) recs s H n K
 | [],recs,s,H,n,K,h => rfl
 | (⟨d,g,op⟩,fr) :: l,recs,s,H,n,K,h => by
  have h1 : ∀ j ∈ fr,pre.length ≤ j := h _ List.mem_cons_self
  have ih := fun recs s H n => runAny_pre l recs s H n (K := K) (fun p hp => h p (List.mem_cons_of_mem _ hp))
  unfold shiftL at ih ⊢
  rw [List.map_cons]
  match g with
  | none => simp only [runAny,List.append_assoc,freeOf_pre h1,ih]
  | some (j,true) => simp only [runAny,List.append_assoc,freeOf_pre h1,ih]
  | some (j,false) => simp only [runAny,List.append_assoc,freeOf_pre h1,ih]
theorem runAny_split {l2 : List (AIn × List Nat)} : ∀ (l : List (AIn × List Nat)) (recs : List Rec1) (s : Slots) (H : Heap) (n : Nat) {K : Slots → Heap → Nat → Prop},runAny P l recs s H n (fun s H n => ∀ r,r.length = recs.length + l.length → runAny P l2 r s H n K) → runAny P (l ++ l2) recs s H n K
 | [],recs,s,H,n,K,k => k recs rfl
 | (⟨d,g,op⟩,fr) :: l,recs,s,H,n,K,k => by
  have ih : ∀ q s H n,runAny P l (recs ++ [q]) s H n (fun s H n => ∀ r,r.length = recs.length + (l.length + 1) → runAny P l2 r s H n K) → runAny P (l ++ l2) (recs ++ [q]) s H n K := fun q s H n k => runAny_split l (recs ++ [q]) s H n (runAny_mono l _ _ _ _ (fun s H n hk r hr => hk r (by rw [hr,List.length_append,List.length_cons,List.length_nil]; omega)) k)
  rw [List.cons_append]
  match g with
  | none =>
   simp only [runAny,List.length_cons] at k ⊢
   exact opX_mono (fun v u r hk => ⟨hk.1,ih _ _ _ _ hk.2⟩) op k
  | some (j,true) =>
   simp only [runAny,List.length_cons] at k ⊢
   exact onGrd_mono (fun b hk => split2_mono (fun hk => opX_mono (fun v u r hk => ⟨hk.1,ih _ _ _ _ hk.2⟩) op hk) (fun hk => ⟨hk.1,ih _ _ _ _ hk.2⟩) hk) (fun hk => ⟨hk.1,ih _ _ _ _ hk.2⟩) k
  | some (j,false) =>
   simp only [runAny,List.length_cons] at k ⊢
   exact onGrd_mono (fun b hk => split2_mono (fun hk => ⟨hk.1,ih _ _ _ _ hk.2⟩) (fun hk => opX_mono (fun v u r hk => ⟨hk.1,ih _ _ _ _ hk.2⟩) op hk) hk) (fun hk => ⟨hk.1,ih _ _ _ _ hk.2⟩) k
def RCut (P : Program) (l : List (AIn × List Nat)) (s : Slots) (H : Heap) (n : Nat) (K : Slots → Heap → Nat → Prop) (_ : Tag K) : Prop := runAny P l [] s H n K
theorem RCut.go (ns : List Nat) {l : List (AIn × List Nat)} {s : Slots} {H : Heap} {n : Nat} {K : Slots → Heap → Nat → Prop} {t : Tag K} (h : ∀ s1 : Slots,(∀ i ∈ ns,getS s1 i = getS s i) → RAny P l [] s1 H n K .mk) : RCut P l s H n K t := by
 have := h s fun _ _ => rfl
 rw [RAny_eq] at this
 exact this
theorem runAny_cut (k : Nat) {l : List (AIn × List Nat)} {s : Slots} {H : Heap} {n : Nat} {K : Slots → Heap → Nat → Prop} (hl : k ≤ l.length) (hd : ((l.drop k).all fun p => p.2.all fun j => decide (k ≤ j)) = true) (h : RAny P (l.take k) [] s H n (fun s H n => RCut P (shiftL k (l.drop k)) s H n K .mk) .mk) : runAny P l [] s H n K := by
 rw [RAny_eq] at h
 rw [← List.take_append_drop k l]
 refine runAny_split (l.take k) [] s H n (runAny_mono _ _ _ _ _ (fun s H n hk r hr => ?_) h)
 have hr : r.length = k := by rw [hr,List.length_take,List.length_nil]; omega
 have h2 := runAny_pre (P := P) (pre := r) (l.drop k) [] s H n (K := K) (fun p hp j hj => by
  have := List.all_eq_true.1 (List.all_eq_true.1 hd p hp) j hj
  rw [hr]; exact of_decide_eq_true this)
 rw [List.append_nil] at h2
 rw [h2,hr]
 exact hk
theorem RCut.again (k : Nat) (ns : List Nat) {l : List (AIn × List Nat)} {s : Slots} {H : Heap} {n : Nat} {K : Slots → Heap → Nat → Prop} {t : Tag K} (hl : k ≤ l.length) (hd : ((l.drop k).all fun p => p.2.all fun j => decide (k ≤ j)) = true) (h : ∀ s1 : Slots,(∀ i ∈ ns,getS s1 i = getS s i) → RAny P (l.take k) [] s1 H n (fun s H n => RCut P (shiftL k (l.drop k)) s H n K .mk) .mk) : RCut P l s H n K t := runAny_cut k hl hd (h s fun _ _ => rfl)
theorem Run.cut (k : Nat) {l : List (AIn × List Nat)} {s : Slots} {H : Heap} {n b : Nat} {R : ST → Prop} {Q : AEx → ST → Prop} {t : Tag (seqK R Q)} (hl : k ≤ l.length) (hd : ((l.drop k).all fun p => p.2.all fun j => decide (k ≤ j)) = true) (h : RAny P (l.take k) [] s H n (fun s H n => RCut P (shiftL k (l.drop k)) s H n (fun s H n => R ⟨s,H,n,b⟩) .mk) .mk) : Run P (.any l) ⟨s,H,n,b⟩ (seqK R Q) t := by
 rw [Run_eq]
 exact runAny_cut k hl hd h
theorem Run.whole {l : List (AIn × List Nat)} {s : Slots} {H : Heap} {n b : Nat} {R : ST → Prop} {Q : AEx → ST → Prop} {t : Tag (seqK R Q)} (h : RAny P l [] s H n (fun s H n => R ⟨s,H,n,b⟩) .mk) : Run P (.any l) ⟨s,H,n,b⟩ (seqK R Q) t := by
 rw [Run_eq]
 rw [RAny_eq] at h
 exact h
end Go.Proofs.YtmgfcjblclanmaaGreatDoor
namespace Go.Proofs.YtmgfcjblclanmaaGreatDoor
open Go.RowKit
variable {P : Program}
end Go.Proofs.YtmgfcjblclanmaaGreatDoor
namespace Go.Proofs.YtmgfcjblclanmaaGreatDoor
open Go.RowKit
variable {P : Program}
def kOK (b : Nat) (Hs : Heap) : Heap → Prop
 | [] => True
 | (i,_) :: X => (b ≤ i ∨ i ∉ keys Hs) ∧ kOK b Hs X
theorem kOK.mem {b : Nat} {Hs : Heap} : ∀ {X : Heap},kOK b Hs X → ∀ id ∈ keys X,b ≤ id ∨ id ∉ keys Hs
 | [],_,id,h => by simp [keys] at h
 | (i,c) :: X,h,id,hid => by
  simp only [keys,List.map_cons,List.mem_cons] at hid
  rcases hid with rfl | hid
  ·exact h.1
  ·exact kOK.mem h.2 id hid
structure Scoped (b : Nat) (Hs : Heap) : Prop where
 lt : ∀ id ∈ keys Hs,id < b
 blk : ∀ id x,getH Hs id = some x → lowBlk b (some x) = true
theorem allTo_mono {f g : Nat → Bool} (h : ∀ j,f j = true → g j = true) : ∀ {k : Nat},allTo k f = true → allTo k g = true
 | 0,_ => rfl
 | k + 1,hf => by
  simp only [allTo,Bool.and_eq_true] at hf ⊢
  exact ⟨allTo_mono h hf.1,h k hf.2⟩
theorem lowCols_mono {b b' k : Nat} : ∀ {cs : List Col},lowCols b k cs = true → b ≤ b' → lowCols b' k cs = true
 | [],_,_ => rfl
 | c :: cs,h,hb => by
  have go : ∀ {id : Nat → Nat},allTo k (fun j => decide (id j < b)) = true → allTo k (fun j => decide (id j < b')) = true := fun h => allTo_mono (fun j h => by simp only [decide_eq_true_eq] at h ⊢; omega) h
  cases c with
  | o a g => simp only [lowCols,Bool.and_eq_true] at h ⊢; exact ⟨go h.1,lowCols_mono h.2 hb⟩
  | q a => simp only [lowCols,Bool.and_eq_true] at h ⊢; exact ⟨go h.1,lowCols_mono h.2 hb⟩
  | _ => exact lowCols_mono (cs := cs) h hb
theorem Scoped.mono {b b' : Nat} {Hs : Heap} (h : Scoped b Hs) (hb : b ≤ b') : Scoped b' Hs := by
 have hl : ∀ l,lowAll b l = true → lowAll b' l = true := fun l hl => by
  unfold lowAll at *
  rw [List.all_eq_true] at *
  intro id hid
  have := hl id hid
  simp only [decide_eq_true_eq] at this ⊢
  omega
 refine ⟨fun id hid => by have := h.lt id hid; omega,fun id x hx => ?_⟩
 have := h.blk id x hx
 cases x with
 | box T cs => exact hl _ this
 | arr T n cols => exact lowCols_mono this hb
 | map kk dom c => exact this
theorem lowAll_mono {b b' : Nat} {l : List Nat} (h : lowAll b l = true) (hb : b ≤ b') : lowAll b' l = true := by
 unfold lowAll at *
 rw [List.all_eq_true] at *
 intro id hid
 have := h id hid
 simp only [decide_eq_true_eq] at this ⊢
 omega
theorem nils_all {lo hi : Nat} {l : List (Nat × Nat)} (h : inRange lo hi l = true) {id : Nat} (hid : id < lo) : (l.all fun x => x.1 != id) = true := by
 unfold inRange at h
 rw [List.all_eq_true] at h ⊢
 intro x hx
 have := h x hx
 simp only [Bool.and_eq_true,decide_eq_true_eq] at this
 simp only [bne_iff_ne,ne_eq]
 omega
section
variable {b hi : Nat} {ren nils : List (Nat × Nat)}
mutual
theorem PVCov.self (h1 : inRange b hi ren = true) (h2 : inRange b hi nils = true) (hb : b ≤ hi) : ∀ p,lowAll b (idsOf p) = true → PVCov hi ren nils p p
 | .any,_ => by simp [PVCov]
 | .int _ _,_ => by simp [PVCov]
 | .bool _,_ => by simp [PVCov]
 | .str _,_ => by simp [PVCov]
 | .lit _ _ _,_ => by simp [PVCov,ColsEq.refl]
 | .nilp,_ => by simp [PVCov]
 | .nili,_ => by simp [PVCov]
 | .elp _ _,_ => by simp [PVCov]
 | .ptr id _,h => by
  have hid : id < b := lowAll_mem h (by simp [idsOf])
  exact ⟨(inRange_src h1 (.inl hid)).1,nils_all h2 hid,by omega,rfl⟩
 | .arp id _ _,h => by
  have hid : id < b := lowAll_mem h (by simp [idsOf])
  exact ⟨(inRange_src h1 (.inl hid)).1,nils_all h2 hid,by omega,rfl,rfl⟩
 | .arv id,h => by
  have hid : id < b := lowAll_mem h (by simp [idsOf])
  exact ⟨(inRange_src h1 (.inl hid)).1,nils_all h2 hid,by omega⟩
 | .sl id _ _,h => by
  have hid : id < b := lowAll_mem h (by simp [idsOf])
  exact ⟨(inRange_src h1 (.inl hid)).1,nils_all h2 hid,by omega,rfl,rfl⟩
 | .mp id,h => by
  have hid : id < b := lowAll_mem h (by simp [idsOf])
  exact ⟨(inRange_src h1 (.inl hid)).1,nils_all h2 hid,by omega⟩
 | .agg ps,h => by
  simp only [idsOf] at h
  simp only [PVCov]
  exact PVCovs.self h1 h2 hb ps h
 | .tup ps,h => by
  simp only [idsOf] at h
  simp only [PVCov]
  exact PVCovs.self h1 h2 hb ps h
 | .fn _ ps,h => by
  simp only [idsOf] at h
  simp only [PVCov]
  exact ⟨trivial,PVCovs.self h1 h2 hb ps h⟩
theorem PVCovs.self (h1 : inRange b hi ren = true) (h2 : inRange b hi nils = true) (hb : b ≤ hi) : ∀ ps,lowAll b (idsOfs ps) = true → PVCovs hi ren nils ps ps
 | [],_ => by simp [PVCovs]
 | p :: ps,h => by
  simp only [idsOfs] at h
  obtain ⟨l1,l2⟩ := lowAll_app h
  simp only [PVCovs]
  exact ⟨PVCov.self h1 h2 hb p l1,PVCovs.self h1 h2 hb ps l2⟩
end
theorem AColsEq.self (h1 : inRange b hi ren = true) (h2 : inRange b hi nils = true) (hb : b ≤ hi) {n : Nat} : ∀ cols,lowCols b n cols = true → AColsEq hi ren nils n cols cols
 | [],_ => trivial
 | c :: cs,h => by
  refine ⟨?_,AColsEq.self h1 h2 hb cs (by
   cases c with
   | o a g => simp only [lowCols,Bool.and_eq_true] at h; exact h.2
   | q a => simp only [lowCols,Bool.and_eq_true] at h; exact h.2
   | _ => exact h)⟩
  cases c with
  | o a g =>
   simp only [lowCols,Bool.and_eq_true] at h
   exact fun j hj => by
    have hid : a j < b := by simpa using allTo_at h.1 j hj
    exact ⟨(inRange_src h1 (.inl hid)).1,nils_all h2 hid,by omega,rfl⟩
  | q a =>
   simp only [lowCols,Bool.and_eq_true] at h
   exact fun j hj => by
    have hid : a j < b := by simpa using allTo_at h.1 j hj
    exact ⟨(inRange_src h1 (.inl hid)).1,nils_all h2 hid,by omega⟩
  | _ => exact ColEq.refl _ _
theorem BlkCov.self (h1 : inRange b hi ren = true) (h2 : inRange b hi nils = true) (hb : b ≤ hi) (x : ABlk) (h : lowBlk b (some x) = true) : BlkCov hi ren nils x x := by
 cases x with
 | box T cs => exact And.intro rfl (PVCovs.self h1 h2 hb cs h)
 | arr T n cols => exact And.intro rfl (And.intro rfl (AColsEq.self h1 h2 hb cols h))
 | map kk dom c => exact And.intro rfl (fun q _ => ⟨rfl,fun _ => MEq.refl c q⟩)
theorem liveIds_app : ∀ (X Y : Heap),liveIds (X ++ Y) = liveIds X ++ liveIds Y
 | [],Y => rfl
 | (i,none) :: X,Y => by simp only [List.cons_append,liveIds]; exact liveIds_app X Y
 | (i,some c) :: X,Y => by simp only [List.cons_append,liveIds,liveIds_app X Y]
theorem live_key : ∀ {X : Heap} {id : Nat},id ∈ liveIds X → id ∈ keys X
 | [],id,h => by simp [liveIds] at h
 | (i,none) :: X,id,h => by
  simp only [liveIds] at h
  have := live_key h
  unfold keys at *
  simp only [List.map_cons,List.mem_cons]
  exact .inr this
 | (i,some c) :: X,id,h => by
  simp only [liveIds,List.mem_cons] at h
  unfold keys at *
  simp only [List.map_cons,List.mem_cons]
  rcases h with h | h
  ·exact .inl h
  ·exact .inr (live_key h)
theorem getH_key {X : Heap} {id : Nat} {c : ABlk} (h : getH X id = some c) : (keys X).contains id = true := by
 have := live_key (live_mem h)
 simpa using this
theorem srcOf_cases : ∀ (l : List (Nat × Nat)) (id : Nat),srcOf l id = id ∨ ∃ x ∈ l,x.2 = srcOf l id
 | [],id => .inl rfl
 | (a,c) :: l,id => by
  simp only [srcOf]
  cases h : a == id
  ·rcases srcOf_cases l id with e | ⟨x,hx,e⟩
   ·exact .inl e
   ·exact .inr ⟨x,by simp [hx],e⟩
  ·exact .inr ⟨(a,c),by simp,rfl⟩
theorem apart_of : ∀ {l : List Nat},(∀ id id',id ∈ l → id' ∈ l → id ≠ id' → nilSz nils id = none → nilSz nils id' = none → srcOf ren id ≠ srcOf ren id') → apart ren nils l = true
 | [],_ => rfl
 | x :: l,h => by
  simp only [apart,Bool.and_eq_true,List.all_eq_true]
  refine ⟨fun j hj => ?_,apart_of fun id id' h1 h2 => h id id' (by simp [h1]) (by simp [h2])⟩
  by_cases e : j = x
  ·simp [e]
  ·cases n1 : nilSz nils x with
   | some _ => simp
   | none =>
    cases n2 : nilSz nils j with
    | some _ => simp
    | none =>
     have := h j x (by simp [hj]) (by simp) e n2 n1
     simp [this]
theorem frame_cov {n : Nat} (Hs X Y : Heap) (hs : Scoped b Hs) (hX : ∀ id ∈ keys X,b ≤ id ∨ id ∉ keys Hs) (h1 : inRange b hi ren = true) (h2 : inRange b hi nils = true) (hb : b ≤ hi) (h : HeapCov hi ren nils X Y) : HCov hi ren nils (X ++ Hs) (Y ++ Hs) := by
 intro id x hx
 rw [getH_appC] at hx
 cases hk : (keys Y).contains id
 ·rw [hk] at hx
  simp only [cond_false] at hx
  have hid := getH_key hx
  have hlt := hs.lt id (by simpa using hid)
  obtain ⟨e1,_⟩ := inRange_src h1 (id := id) (.inl hlt)
  obtain ⟨_,e2⟩ := inRange_src h2 (id := id) (.inl hlt)
  rw [e2,e1]
  have hkx : (keys X).contains id = false := by
   cases hkx : (keys X).contains id
   ·rfl
   ·rcases hX id (by simpa using hkx) with h | h
    ·omega
    ·exact absurd (by simpa using hid) h
  show onBlk (getH (X ++ Hs) id) _
  rw [getH_appC,hkx]
  simp only [cond_false]
  rw [hx]
  exact BlkCov.self h1 h2 hb x (hs.blk id x hx)
 ·rw [hk] at hx
  simp only [cond_true] at hx
  have := HeapCov.get h hx
  cases hn : nilSz nils id with
  | some sz => rw [hn] at this; exact this
  | none =>
   rw [hn] at this
   have hg : onBlk (getH X (srcOf ren id)) fun b1 => BlkCov hi ren nils b1 x := this
   show onBlk (getH (X ++ Hs) (srcOf ren id)) _
   cases hgx : getH X (srcOf ren id) with
   | none => rw [hgx] at hg; exact hg.elim
   | some c =>
    rw [hgx] at hg
    rw [getH_appC,getH_key hgx]
    simp only [cond_true]
    rw [hgx]
    exact hg
theorem frame_apart (Hs Y : Heap) (hs : Scoped b Hs) (h1 : inRange b hi ren = true) (hr : ren.all (fun x => decide (b ≤ x.2)) = true) (h : apart ren nils (liveIds Y) = true) : apart ren nils (liveIds (Y ++ Hs)) = true := by
 rw [liveIds_app]
 have hsrc : ∀ id,id ∈ liveIds Hs → id < b ∧ srcOf ren id = id := fun id hid => by
  have hlt := hs.lt id (live_key hid)
  exact ⟨hlt,(inRange_src h1 (.inl hlt)).1⟩
 have hmix : ∀ id id',id' ∈ liveIds Hs → id ≠ id' → srcOf ren id ≠ srcOf ren id' := fun id id' hid' hne => by
  obtain ⟨h3,h4⟩ := hsrc id' hid'
  rw [h4]
  rcases srcOf_cases ren id with e | ⟨x,hx,e⟩
  ·rw [e]; exact hne
  ·rw [← e]
   have := List.all_eq_true.1 hr x hx
   simp only [decide_eq_true_eq] at this
   omega
 refine apart_of fun id id' k1 k2 hne n1 n2 => ?_
 rcases List.mem_append.1 k2 with k2 | k2
 ·rcases List.mem_append.1 k1 with k1 | k1
  ·exact apart_spec h id id' k1 k2 hne n1 n2
  ·exact (hmix id' id k1 (Ne.symm hne)).symm
 ·exact hmix id id' k2 hne
theorem frame_lt (Hs Y : Heap) (hs : Scoped b Hs) (hb : b ≤ hi) (h : (liveIds Y).all (fun id => decide (id < hi)) = true) : (liveIds (Y ++ Hs)).all (fun id => decide (id < hi)) = true := by
 rw [liveIds_app,List.all_append,h,Bool.true_and,List.all_eq_true]
 intro id hid
 have := hs.lt id (live_key hid)
 simp only [decide_eq_true_eq]
 omega
end
theorem Cov.goF {s1 s2 : Slots} {n1 n2 b : Nat} (Hs X Y : Heap) (ren nils : List (Nat × Nat)) (hs : Scoped b Hs) (hX : kOK b Hs X) (hr : ren.all (fun x => decide (b ≤ x.2)) = true)
  (h : b ≤ n2 ∧ inRange b n2 ren = true ∧ inRange b n2 nils = true ∧ apart ren nils (liveIds Y) = true ∧ (liveIds Y).all (fun id => decide (id < n2)) = true ∧ HeapCov n2 ren nils X Y ∧ SlotsCov n2 ren nils s1 s2) : Cov ⟨s1,X ++ Hs,n1,b⟩ ⟨s2,Y ++ Hs,n2,b⟩ :=
 Cov.mk ren nils rfl h.1 h.2.1 h.2.2.1 (frame_apart Hs Y hs h.2.1 hr h.2.2.2.1) (frame_lt Hs Y hs h.1 h.2.2.2.2.1) (frame_cov (n := 0) Hs X Y hs hX.mem h.2.1 h.2.2.1 h.1 h.2.2.2.2.2.1) h.2.2.2.2.2.2
theorem keys_over (u : Heap) : ∀ (H : Heap) (i : Nat),(keys u).contains i = false → (keys (over u H)).contains i = (keys H).contains i
 | [],i,h => rfl
 | (j,c) :: H,i,h => by
  cases hj : (keys u).contains j
  ·simp only [over,hj,cond_false]
   simp only [keys,List.map_cons,List.contains_cons]
   rw [show (List.map (fun x => x.1) (over u H)).contains i = (List.map (fun x => x.1) H).contains i from keys_over u H i h]
  ·simp only [over,hj,cond_true]
   rw [keys_over u H i h]
   have : (i == j) = false := by
    have : i ≠ j := by rintro rfl; rw [h] at hj; cases hj
    simpa using this
   simp only [keys,List.map_cons,List.contains_cons,this,Bool.false_or]
theorem RetOK.goF {rs : List ARes} {nid : Nat} {r : PV} {e : AEx} {s : Slots} {n1 b1 : Nat} (Hs H0 X u : Heap) (ren nils : List (Nat × Nat)) (he : e = .ret ∨ e = .normal) (hs : Scoped nid Hs) (hX : kOK nid Hs X) (hr : ren.all (fun x => decide (nid ≤ x.2)) = true)
  (h : onAll (readAll ⟨s,X ++ Hs,n1,b1⟩ rs) fun ps => inRange nid (nid + 4) ren = true ∧ inRange nid (nid + 4) nils = true ∧ apart ren nils (liveIds (u ++ Go.Proofs.YtmgfcjblclanmaaGreatDoor.over u H0)) = true ∧ (liveIds (u ++ Go.Proofs.YtmgfcjblclanmaaGreatDoor.over u H0)).all (fun id => decide (id < nid + 4)) = true ∧ HeapCov (nid + 4) ren nils X (u ++ Go.Proofs.YtmgfcjblclanmaaGreatDoor.over u H0) ∧ PVCov (nid + 4) ren nils (retPV ps) r) :
  RetOK rs (H0 ++ Hs) nid r u e ⟨s,X ++ Hs,n1,b1⟩ := by
 cases hp : readAll ⟨s,X ++ Hs,n1,b1⟩ rs with
 | none => rw [hp] at h; exact h.elim
 | some ps =>
  rw [hp] at h
  obtain ⟨h2,h3,h4,h5,h6,h7⟩ := h
  have hget : ∀ id,getH ((u ++ Go.Proofs.YtmgfcjblclanmaaGreatDoor.over u H0) ++ Hs) id = getH (u ++ (H0 ++ Hs)) id := fun id => by
   rw [List.append_assoc,getH_appC u (Go.Proofs.YtmgfcjblclanmaaGreatDoor.over u H0 ++ Hs),getH_appC u (H0 ++ Hs)]
   cases hk : (keys u).contains id
   ·simp only [cond_false]
    rw [getH_appC _ Hs,getH_appC H0 Hs,keys_over u H0 id hk,getH_over u H0 id hk]
   ·rfl
  have hall : ∃ (ren nils : List (Nat × Nat)) (H2 : Heap),(∀ id,getH H2 id = getH (u ++ (H0 ++ Hs)) id) ∧ inRange nid (nid + 4) ren = true ∧ inRange nid (nid + 4) nils = true ∧ apart ren nils (liveIds H2) = true ∧ (liveIds H2).all (fun id => decide (id < nid + 4)) = true ∧
    HCov (nid + 4) ren nils (X ++ Hs) H2 ∧ PVCov (nid + 4) ren nils (retPV ps) r :=
   ⟨ren,nils,(u ++ Go.Proofs.YtmgfcjblclanmaaGreatDoor.over u H0) ++ Hs,hget,h2,h3,frame_apart Hs _ hs h2 hr h4,frame_lt Hs _ hs (by omega) h5,frame_cov (n := 0) Hs X _ hs hX.mem h2 h3 (by omega) h6,h7⟩
  rcases he with rfl | rfl
  ·show onAll (readAll ⟨s,X ++ Hs,n1,b1⟩ rs) _
   rw [hp]
   exact hall
  ·show onAll (readAll ⟨s,X ++ Hs,n1,b1⟩ rs) _
   rw [hp]
   exact hall
theorem subH_frame {b : Nat} {Hs X : Heap} (hs : Scoped b Hs) (hX : kOK b Hs X) : subH Hs (X ++ Hs) := fun id c hc => by
 rw [getH_appC]
 have hid := getH_key hc
 have hlt := hs.lt id (by simpa using hid)
 cases hk : (keys X).contains id
 ·exact hc
 ·rcases hX.mem id (by simpa using hk) with h | h
  ·omega
  ·exact absurd (by simpa using hid) h
theorem capsC {b : Nat} {caps : List PV} (h : lowAll b (idsOfs caps) = true) (hi : Nat) (hb : b ≤ hi) : PVCovs hi [] [] caps caps := PVCovs.self (b := b) rfl rfl hb caps h
theorem nn_of {C : Ctx} {Y : Nat → Prop} {m : Names} {w : World} {H : Heap} {n : Nat} (hH : HS C Y m w H n) {id T k : Nat} {cols : List Col} (hg : getH H id = some (.arr T k cols)) (hk : 0 < k) : nlOf m id = false := by
 obtain ⟨pl,h1,h2,_⟩ := hH.blk id _ hg
 obtain ⟨xs,cap,s1,s2,s3,s4,s5,⟨A,hA⟩,s7⟩ := h2
 have := s4 hk
 simp only [nlOf,h1,hA]
 rw [hA] at this
 cases A with
 | none => simp [Value.ownBlock] at this
 | some a => rfl
theorem HSF.some_sub {C : Ctx} {Y : Nat → Prop} {m : Names} {w : World} {H H' : Heap} {Fr : Nat → Prop} (h : HSF C Y m w H Fr) (e : ∀ id b,getH H' id = some b → getH H id = some b) : HSF C Y m w H' Fr :=
  { h with
    blk := fun id b hb => h.blk id b (e id b hb)
    inj := fun id id' b b' pl pl' g hne hb hb' hm hm' hl => h.inj id id' b b' pl pl' g hne (e id b hb) (e id' b' hb') hm hm' hl }
theorem ACall.lit {f : Nat} {args : List PV} {Hs : Heap} {nid id T n : Nat} {cols : List Col} (h : ACall P f args Hs nid (.sl id 0 n) [(id,some (.arr T n cols))]) (hn : 0 < n) (ho : noOs cols = true) (hid : getH Hs id = none) :
  ACall P f args Hs nid (.lit false n cols) [] := fun C vs h1 h2 h3 h4 => by
 refine (h C vs h1 h2 h3 h4).imp fun v w' h => ?_
 obtain ⟨Y',m',r1,r2,r3⟩ := h
 obtain ⟨Y2,k1,k2,k3⟩ := freeze_core r2 [id]
 have hg : getH ([(id,some (.arr T n cols))] ++ Hs) id = some (.arr T n cols) := by simp [getH]
 have hr := k1 _ v r1
 have hnl := nn_of r2 hg hn
 simp only [lend,hg,List.contains_cons,List.contains_nil,beq_self_eq_true,Bool.or_false,ho,Bool.true_and,cond_true,hnl] at hr
 refine ⟨Y2,m',by simpa using hr,k2.some_sub (fun i b hb => ?_),?_⟩
 ·have hi : i ≠ id := by
   rintro rfl
   rw [List.nil_append,hid] at hb
   cases hb
  have e1 : (id == i) = false := by simpa using fun e => hi e.symm
  simp only [kill,List.map_cons,List.map_nil,List.cons_append,List.nil_append,getH,e1,cond_false] at hb ⊢
  exact hb
 ·exact r3.trans k3
end Go.Proofs.YtmgfcjblclanmaaGreatDoor
namespace Go.Proofs.YtmgfcjblclanmaaGreatDoor
open Go.RowKit
theorem scp1 {b i : Nat} {x : ABlk} (h : i < b) (hx : lowBlk b (some x) = true) : Scoped b [(i,some x)] := ⟨fun j hj => by simp [keys] at hj; omega,fun j y hy => by
 simp only [getH] at hy
 by_cases e : (i == j) = true
 ·simp only [e,cond_true,Option.some.injEq] at hy; subst hy; exact hx
 ·simp only [Bool.not_eq_true] at e; simp [e] at hy⟩
theorem scp2 {b i j : Nat} {x y : ABlk} (hi : i < b) (hj : j < b) (hx : lowBlk b (some x) = true) (hy : lowBlk b (some y) = true) : Scoped b [(i,some x),(j,some y)] := by
 refine ⟨fun k hk => ?_,fun k z hz => ?_⟩
 ·simp [keys] at hk; omega
 ·simp only [getH] at hz
  by_cases e : (i == k) = true
  ·simp only [e,cond_true,Option.some.injEq] at hz; subst hz; exact hx
  ·simp only [Bool.not_eq_true] at e
   by_cases e2 : (j == k) = true
   ·simp only [e,e2,cond_true,cond_false,Option.some.injEq] at hz; subst hz; exact hy
   ·simp only [Bool.not_eq_true] at e2; simp [e,e2] at hz
end Go.Proofs.YtmgfcjblclanmaaGreatDoor
namespace Go.Proofs.YtmgfcjblclanmaaGreatDoor
theorem low_of : ∀ (n : Nat) (ds : List Nat) (s : Nat),ds.length = n → s < 2 ^ 64 → (∀ i,s.testBit i = true ↔ ∃ d ∈ ds,d.testBit i = true) → ds.Pairwise (fun a b => ∀ i,a.testBit i = true → b.testBit i = false) → (∀ d ∈ ds,d ≠ 0) → ∃ ds',LowParts s ds' ∧ ds'.length = ds.length ∧ ∀ d ∈ ds',d ∈ ds
 | 0,ds,s,hn,hs,hb,hp,h0 => by
  obtain rfl := List.length_eq_zero_iff.1 hn
  have e : s = 0 := Nat.eq_of_testBit_eq fun i => by
   rw [Nat.zero_testBit,Bool.eq_false_iff]
   intro h
   obtain ⟨d,hd,_⟩ := (hb i).1 h
   cases hd
  subst e
  exact ⟨[],.nil,rfl,fun d hd => hd⟩
 | n + 1,ds,s,hn,hs,hb,hp,h0 => by
  have hsz : s ≠ 0 := by
   intro e
   subst e
   obtain ⟨d,hd⟩ : ∃ d,d ∈ ds := List.exists_mem_of_length_pos (by omega)
   obtain ⟨i,hi⟩ := Nat.exists_testBit_of_ne_zero (h0 d hd)
   have := (hb i).2 ⟨d,hd,hi⟩
   rw [Nat.zero_testBit] at this
   cases this
  have hlow := (lowN_has hs hsz).1
  obtain ⟨d,hd,hdi⟩ := (hb _).1 hlow
  obtain ⟨ls,rs,rfl⟩ := List.append_of_mem hd
  rw [List.pairwise_append] at hp
  obtain ⟨p1,p2,p3⟩ := hp
  rw [List.pairwise_cons] at p2
  obtain ⟨p4,p5⟩ := p2
  have hap : ∀ e,e ∈ ls ++ rs → ∀ i,e.testBit i = true → d.testBit i = false := fun e he i hi => by
   rcases List.mem_append.1 he with he | he
   ·exact p3 e he d (List.mem_cons_self ..) i hi
   ·cases hdd : d.testBit i with
    | false => rfl
    | true =>
     have := p4 e he i hdd
     rw [hi] at this
     cases this
  have hsub : subN d s = true := subN_iff.2 fun i hi => (hb i).2 ⟨d,hd,hi⟩
  obtain ⟨ds',g1,g2,g3⟩ := low_of n (ls ++ rs) (andN s d) (by simp at hn ⊢; omega) (Nat.lt_of_le_of_lt (andN_le hs) hs) (fun i => by
   rw [andN_test,Bool.and_eq_true,Bool.not_eq_true']
   constructor
   ·rintro ⟨h1,h2⟩
    obtain ⟨e,he,hei⟩ := (hb i).1 h1
    refine ⟨e,?_,hei⟩
    rcases List.mem_append.1 he with he | he
    ·exact List.mem_append_left _ he
    ·rcases List.mem_cons.1 he with rfl | he
     ·rw [h2] at hei; cases hei
     ·exact List.mem_append_right _ he
   ·rintro ⟨e,he,hei⟩
    refine ⟨(hb i).2 ⟨e,?_,hei⟩,hap e he i hei⟩
    rcases List.mem_append.1 he with he | he
    ·exact List.mem_append_left _ he
    ·exact List.mem_append_right _ (List.mem_cons_of_mem _ he)) (by
   rw [List.pairwise_append]
   exact ⟨p1,p5,fun a ha b hb' => p3 a ha b (List.mem_cons_of_mem _ hb')⟩) (fun e he => h0 e (by
    rcases List.mem_append.1 he with he | he
    ·exact List.mem_append_left _ he
    ·exact List.mem_append_right _ (List.mem_cons_of_mem _ he)))
  refine ⟨d :: ds',.cons hsub hdi hsz g1,?_,fun e he => ?_⟩
  ·rw [List.length_cons,g2,List.length_append,List.length_append,List.length_cons]
   omega
  ·rcases List.mem_cons.1 he with rfl | he
   ·exact hd
   ·rcases List.mem_append.1 (g3 e he) with he | he
    ·exact List.mem_append_left _ he
    ·exact List.mem_append_right _ (List.mem_cons_of_mem _ he)
theorem few_any {l : List Nat} {s d : Nat} (hs : s < 2 ^ 64) (hd : d ∈ l) (h0 : d ≠ 0) (hsub : subN d s = true) (hr : andN s d = 0 ∨ fewN l (andN s d) ≠ 0) : fewN l s ≠ 0 ∧ fewN l s ≤ fewN l (andN s d) + 1 := by
 have hrs : andN s d < 2 ^ 64 := Nat.lt_of_le_of_lt (andN_le hs) hs
 obtain ⟨is,_,g2,g3,g4⟩ := goN_ok (fewN l (andN s d)) (andN s d) hrs hr (Nat.le_refl _)
 have hp : Parts s (d :: is.map fun i => l.getD i 0) := .cons hsub h0 g2
 have hmem : ∀ e ∈ d :: is.map (fun i => l.getD i 0),e ∈ l := fun e he => by
  rcases List.mem_cons.1 he with rfl | he
  ·exact hd
  ·obtain ⟨i,hi,rfl⟩ := List.mem_map.1 he
   rw [List.getD_eq_getElem?_getD,List.getElem?_eq_getElem (g4 i hi)]
   exact List.getElem_mem _
 obtain ⟨ds',k1,k2,k3⟩ := low_of _ _ s rfl hs hp.has hp.apart hp.some
 obtain ⟨k4,k5⟩ := few_low k1 hs fun e he => hmem e (k3 e he)
 have hsz : s ≠ 0 := fun e => by
  subst e
  obtain ⟨i,hi⟩ := Nat.exists_testBit_of_ne_zero h0
  have := subN_iff.1 hsub i hi
  rw [Nat.zero_testBit] at this
  cases this
 refine ⟨k4.resolve_left hsz,?_⟩
 rw [k2,List.length_cons,List.length_map,g3] at k5
 exact k5
def encF (l : List Nat) (s : Nat) : Int := if s ≠ 0 ∧ fewN l s = 0 then -1 else fewN l s
def stepD (F : Nat → Int) (s : Nat) (acc : Int) (d : Nat) : Int := if subN d s = false ∨ F (andN s d) < 0 then acc else if acc < 0 ∨ F (andN s d) + 1 < acc then F (andN s d) + 1 else acc
theorem foldD {F : Nat → Int} {s : Nat} : ∀ (l : List Nat) (a : Int),(∀ d ∈ l,subN d s = true → 0 ≤ F (andN s d) → 0 ≤ l.foldl (stepD F s) a ∧ l.foldl (stepD F s) a ≤ F (andN s d) + 1) ∧ (0 ≤ a → 0 ≤ l.foldl (stepD F s) a ∧ l.foldl (stepD F s) a ≤ a) ∧ (l.foldl (stepD F s) a = a ∨ ∃ d ∈ l,subN d s = true ∧ 0 ≤ F (andN s d) ∧ l.foldl (stepD F s) a = F (andN s d) + 1)
 | [],a => ⟨fun d hd => absurd hd List.not_mem_nil,fun h => ⟨h,Int.le_refl _⟩,.inl rfl⟩
 | x :: l,a => by
  obtain ⟨h1,h2,h3⟩ := foldD l (stepD F s a x)
  rw [List.foldl_cons]
  have hx : subN x s = true → 0 ≤ F (andN s x) → 0 ≤ stepD F s a x ∧ stepD F s a x ≤ F (andN s x) + 1 := fun ha hb => by
   unfold stepD
   rw [if_neg (by rw [ha]; simp; omega)]
   split <;> omega
  have ha : 0 ≤ a → 0 ≤ stepD F s a x ∧ stepD F s a x ≤ a := fun h => by
   unfold stepD
   split
   ·omega
   ·rename_i hn
    have : ¬ F (andN s x) < 0 := fun hh => hn (.inr hh)
    split <;> omega
  refine ⟨fun d hd hm hF => ?_,fun h => ?_,?_⟩
  ·rcases List.mem_cons.1 hd with rfl | hd
   ·obtain ⟨g1,g2⟩ := hx hm hF
    obtain ⟨g3,g4⟩ := h2 g1
    exact ⟨g3,by omega⟩
   ·exact h1 d hd hm hF
  ·obtain ⟨g1,g2⟩ := ha h
   obtain ⟨g3,g4⟩ := h2 g1
   exact ⟨g3,by omega⟩
  ·rcases h3 with h3 | ⟨d,hd,hm,hF,h3⟩
   ·by_cases hc : subN x s = false ∨ F (andN s x) < 0
    ·have e : stepD F s a x = a := by unfold stepD; rw [if_pos hc]
     rw [e] at h3 ⊢
     exact .inl h3
    ·have hc1 : subN x s = true := by cases hh : subN x s with
      | true => rfl
      | false => exact absurd (.inl hh) hc
     have hc2 : 0 ≤ F (andN s x) := by
      have : ¬ F (andN s x) < 0 := fun hh => hc (.inr hh)
      omega
     by_cases hd : a < 0 ∨ F (andN s x) + 1 < a
     ·have e : stepD F s a x = F (andN s x) + 1 := by unfold stepD; rw [if_neg hc,if_pos hd]
      rw [e] at h3
      exact .inr ⟨x,List.mem_cons_self ..,hc1,hc2,by rw [e]; exact h3⟩
     ·have e : stepD F s a x = a := by unfold stepD; rw [if_neg hc,if_neg hd]
      rw [e] at h3 ⊢
      exact .inl h3
   ·exact .inr ⟨d,List.mem_cons_of_mem _ hd,hm,hF,h3⟩
theorem encF_ok {l : List Nat} {s : Nat} : 0 ≤ encF l s ↔ s = 0 ∨ fewN l s ≠ 0 := by
 unfold encF
 split
 ·omega
 ·omega
theorem encF_val {l : List Nat} {s : Nat} (h : s = 0 ∨ fewN l s ≠ 0) : encF l s = fewN l s := by
 unfold encF
 rw [if_neg (by omega)]
theorem need_val {l : List Nat} {s : Nat} (hs : s < 2 ^ 64) (h0 : s ≠ 0) (hl : ∀ d ∈ l,d ≠ 0) : l.foldl (stepD (encF l) s) (-1) = encF l s := by
 obtain ⟨f1,f2,f3⟩ := foldD (F := encF l) (s := s) l (-1)
 by_cases hz : fewN l s = 0
 ·have e : encF l s = -1 := by unfold encF; rw [if_pos ⟨h0,hz⟩]
  rw [e]
  rcases f3 with f3 | ⟨d,hd,hm,hF,f3⟩
  ·exact f3
  ·exact absurd hz (few_any hs hd (hl d hd) hm (encF_ok.1 hF)).1
 ·rw [encF_val (.inr hz)]
  obtain ⟨d,hd,hm,e⟩ := fewN_is l hs hz
  unfold mayN at hm
  rw [Bool.and_eq_true,Bool.and_eq_true,Bool.or_eq_true,decide_eq_true_eq,decide_eq_true_eq] at hm
  have hF : 0 ≤ encF l (andN s d) := encF_ok.2 hm.2
  obtain ⟨g1,g2⟩ := f1 d hd hm.1.1 hF
  rw [encF_val hm.2] at g2
  rcases f3 with f3 | ⟨d',hd',hm',hF',f3⟩
  ·omega
  ·have hr := encF_ok.1 hF'
   have hle := (few_any hs hd' (hl d' hd') hm' hr).2
   rw [encF_val hr] at f3
   omega
theorem sub_andN {s d : Nat} (hs : s < 2 ^ 64) (h : subN d s = true) : s - d = andN s d := by
 have hd : d < 2 ^ 64 := by
  rcases Nat.lt_or_ge d (2 ^ 64) with hh | hh
  ·exact hh
  ·obtain ⟨i,hi,hb⟩ := Nat.exists_ge_and_testBit_of_ge_two_pow hh
   have := subN_iff.1 h i hb
   rw [Nat.testBit_lt_two_pow (Nat.lt_of_lt_of_le hs (Nat.pow_le_pow_right (by omega) hi))] at this
   cases this
 have ha : andN s d < 2 ^ 64 := Nat.lt_of_le_of_lt (andN_le hs) hs
 have hor : andN s d ||| d = s := Nat.eq_of_testBit_eq fun i => by
  rw [Nat.testBit_or,andN_test]
  cases hb : d.testBit i with
  | true => rw [subN_iff.1 h i hb]; rfl
  | false => simp
 have hand : andN s d &&& d = 0 := Nat.eq_of_testBit_eq fun i => by
  rw [Nat.testBit_and,andN_test,Nat.zero_testBit]
  cases d.testBit i <;> simp
 have h1 := BitVec.add_eq_or_of_and_eq_zero (BitVec.ofNat 64 (andN s d)) (BitVec.ofNat 64 d) (by
  apply BitVec.eq_of_toNat_eq
  rw [BitVec.toNat_and,BitVec.toNat_ofNat,BitVec.toNat_ofNat,Nat.mod_eq_of_lt ha,Nat.mod_eq_of_lt hd,hand]
  rfl)
 have h2 := congrArg BitVec.toNat h1
 rw [BitVec.toNat_add,BitVec.toNat_or,BitVec.toNat_ofNat,BitVec.toNat_ofNat,Nat.mod_eq_of_lt ha,Nat.mod_eq_of_lt hd,hor] at h2
 by_cases hlt : andN s d + d < 2 ^ 64
 ·rw [Nat.mod_eq_of_lt hlt] at h2
  omega
 ·have hdle : d ≤ s := by
   rw [← hor]
   exact Nat.right_le_or
  have hale := andN_le (s := s) (d := d) hs
  rw [Nat.mod_eq_sub_mod (by omega),Nat.mod_eq_of_lt (by omega)] at h2
  omega
end Go.Proofs.YtmgfcjblclanmaaGreatDoor
namespace Go.Proofs.YtmgfcjblclanmaaGreatDoor
def idxR (F : Nat → Bool) (n : Nat) : Int := if (List.range n).any F = true then (((List.range n).findIdx F : Nat) : Int) else -1
theorem idxR_at {F : Nat → Bool} {n k : Nat} (hk : k < n) (h : F k = true) (h0 : ∀ j,j < k → F j = false) : idxR F n = (k : Nat) := by
 have e : (List.range n).findIdx F = k := (List.findIdx_eq (by simpa using hk)).2 ⟨by simpa using h,fun j hj => by simpa using h0 j hj⟩
 unfold idxR
 rw [if_pos,e]
 exact List.any_eq_true.2 ⟨k,List.mem_range.2 hk,h⟩
theorem idxR_no {F : Nat → Bool} {n : Nat} (h0 : ∀ j,j < n → F j = false) : idxR F n = -1 := by
 unfold idxR
 rw [if_neg]
 intro h
 obtain ⟨x,hx,hf⟩ := List.any_eq_true.1 h
 rw [h0 x (List.mem_range.1 hx)] at hf; cases hf
theorem idxR_any (F : Nat → Bool) (n : Nat) : decide (0 ≤ idxR F n) = (List.range n).any F := by
 unfold idxR
 cases h : (List.range n).any F <;> simp
end Go.Proofs.YtmgfcjblclanmaaGreatDoor
namespace Go.Proofs.YtmgfcjblclanmaaGreatDoor
open Go.RowKit
theorem acall_lib {P : Program} {f : Nat} {fn : Func} {args : List PV} {r : PV} (nid : Nat) (hf : P.funcs[f]? = some fn) (h1 : (fn.name == "runtime.NumGoroutine") = false) (h2 : fn.body.isNone = false)
  (h : ∀ (Y : Nat → Prop) (m : Names) (w : World) (vs : List Value), vs.length = args.length → (∀ (i : Nat) p v, args[i]? = some p → vs[i]? = some v → Rep Y m w p v) → GW w → (∀ b, Y b → b < w.heap.size) →
   Calls P f vs.toArray w fun e w' => ∃ v, e = .returned v ∧ Rep Y m w' r v ∧ Below w.heap.size w w') : ACall P f args [] nid r [] := by
 intro C vs hb hl hrep hs
 refine .inl ⟨fn, hf, h1, h2, (h C.Y0 C.m0 C.w0 vs hl hrep (GW.of hs.gl) hs.ylt).mono fun e w' ⟨v, he, hr, hB⟩ => ⟨v, he, C.Y0, C.m0, hr, ?_, ?_⟩⟩
 ·have := HSF.below hs hB
  simpa using this
 ·exact ⟨hB.size, fun b hlt _ => hB.block b hlt, fun _ hY => .inl hY, fun _ _ e => e⟩
theorem Rep.strs_inv {Y : Nat → Prop} {m : Names} {w : World} {nl : Bool} {n : Nat} {g : Nat → List UInt8} {v : Value} (h : Rep Y m w (.lit nl n [.s g]) v) :
  ∃ A cap,v = .slice A n cap ∧ n ≤ cap ∧ (0 < n → ∃ b o,A = some ⟨b,o,none⟩ ∧ b < w.heap.size ∧ ∀ j,j < n → w.cell? ⟨b,o + j,none⟩ = some (.string ⟨(g j).toArray⟩)) := by
 cases h with
 | lit h =>
  cases h with
  | @l _ _ _ _ A cap u hnl hn0 hle hc hr =>
   refine ⟨A,cap,rfl,hle,fun hn => ?_⟩
   obtain ⟨b,o,hA,_,hcell⟩ := hc 0 0 hn (by simp)
   refine ⟨b,o,hA,World.block_lt_of_cell? w _ hcell,fun j hj => ?_⟩
   obtain ⟨b',o',hA',_,hcell'⟩ := hc j 0 hj (by simp)
   rw [hA] at hA'
   injection hA' with hA'
   injection hA' with e1 e2
   subst e1; subst e2
   have hrr := hr j 0 _ hj rfl
   generalize u j 0 = x at hrr hcell'
   cases hrr
   simpa using hcell'
end Go.Proofs.YtmgfcjblclanmaaGreatDoor
