/-
  Blocks that a function only hands on to others: a part of the heap that is not looked at.
-/
import Derived.Test.YthcldfmlfjomfaaDoorKVC3
import Derived.IntWalk
import Derived.Shelf.GgSortFunc.RowK
import Derived.Shelf.SlSortCmp.InsertionK
import Derived.Shelf.Sort.Plain
set_option linter.unusedVariables false
set_option linter.unusedSimpArgs false
set_option maxRecDepth 100000
namespace Go.Proofs.YthcldfmlfjomfaaDoor
open Go.RowKit
variable {P : Program}
def kOK (b : Nat) (Hs : Heap) : Heap → Prop
  | [] => True
  | (i, _) :: X => (b ≤ i ∨ i ∉ keys Hs) ∧ kOK b Hs X
theorem kOK.mem {b : Nat} {Hs : Heap} : ∀ {X : Heap}, kOK b Hs X → ∀ id ∈ keys X, b ≤ id ∨ id ∉ keys Hs
  | [], _, id, h => by simp [keys] at h
  | (i, c) :: X, h, id, hid => by
    simp only [keys, List.map_cons, List.mem_cons] at hid
    rcases hid with rfl | hid
    · exact h.1
    · exact kOK.mem h.2 id hid
structure Scoped (b : Nat) (Hs : Heap) : Prop where
  lt : ∀ id ∈ keys Hs, id < b
  blk : ∀ id x, getH Hs id = some x → lowBlk b (some x) = true
theorem Scoped.mono {b b' : Nat} {Hs : Heap} (h : Scoped b Hs) (hb : b ≤ b') : Scoped b' Hs := by
  have hl : ∀ l, lowAll b l = true → lowAll b' l = true := fun l hl => by
    unfold lowAll at *
    rw [List.all_eq_true] at *
    intro id hid
    have := hl id hid
    simp only [decide_eq_true_eq] at this ⊢
    omega
  refine ⟨fun id hid => by have := h.lt id hid; omega, fun id x hx => ?_⟩
  have := h.blk id x hx
  cases x with
  | box T cs => exact hl _ this
  | arr T n cols => exact this
  | map kk dom c => exact this
theorem nils_all {lo hi : Nat} {l : List (Nat × Nat)} (h : inRange lo hi l = true) {id : Nat} (hid : id < lo) : (l.all fun x => x.1 != id) = true := by
  unfold inRange at h
  rw [List.all_eq_true] at h ⊢
  intro x hx
  have := h x hx
  simp only [Bool.and_eq_true, decide_eq_true_eq] at this
  simp only [bne_iff_ne, ne_eq]
  omega
section
variable {b hi : Nat} {ren nils : List (Nat × Nat)}
mutual
theorem PVCov.self (h1 : inRange b hi ren = true) (h2 : inRange b hi nils = true) (hb : b ≤ hi) : ∀ p, lowAll b (idsOf p) = true → PVCov hi ren nils p p
  | .any, _ => by simp [PVCov]
  | .int _ _, _ => by simp [PVCov]
  | .bool _, _ => by simp [PVCov]
  | .str _, _ => by simp [PVCov]
  | .lit _ _ _, _ => by simp [PVCov, ColsEq.refl]
  | .nilp, _ => by simp [PVCov]
  | .elp _ _, _ => by simp [PVCov]
  | .ptr id _, h => by
    have hid : id < b := lowAll_mem h (by simp [idsOf])
    exact ⟨(inRange_src h1 (.inl hid)).1, nils_all h2 hid, by omega, rfl⟩
  | .arp id _ _, h => by
    have hid : id < b := lowAll_mem h (by simp [idsOf])
    exact ⟨(inRange_src h1 (.inl hid)).1, nils_all h2 hid, by omega, rfl, rfl⟩
  | .arv id, h => by
    have hid : id < b := lowAll_mem h (by simp [idsOf])
    exact ⟨(inRange_src h1 (.inl hid)).1, nils_all h2 hid, by omega⟩
  | .sl id _ _, h => by
    have hid : id < b := lowAll_mem h (by simp [idsOf])
    exact ⟨(inRange_src h1 (.inl hid)).1, nils_all h2 hid, by omega, rfl, rfl⟩
  | .mp id, h => by
    have hid : id < b := lowAll_mem h (by simp [idsOf])
    exact ⟨(inRange_src h1 (.inl hid)).1, nils_all h2 hid, by omega⟩
  | .agg ps, h => by
    simp only [idsOf] at h
    simp only [PVCov]
    exact PVCovs.self h1 h2 hb ps h
  | .tup ps, h => by
    simp only [idsOf] at h
    simp only [PVCov]
    exact PVCovs.self h1 h2 hb ps h
  | .fn _ ps, h => by
    simp only [idsOf] at h
    simp only [PVCov]
    exact ⟨trivial, PVCovs.self h1 h2 hb ps h⟩
theorem PVCovs.self (h1 : inRange b hi ren = true) (h2 : inRange b hi nils = true) (hb : b ≤ hi) : ∀ ps, lowAll b (idsOfs ps) = true → PVCovs hi ren nils ps ps
  | [], _ => by simp [PVCovs]
  | p :: ps, h => by
    simp only [idsOfs] at h
    obtain ⟨l1, l2⟩ := lowAll_app h
    simp only [PVCovs]
    exact ⟨PVCov.self h1 h2 hb p l1, PVCovs.self h1 h2 hb ps l2⟩
end
theorem AColsEq.self {n : Nat} : ∀ cols, noOs cols = true → AColsEq hi ren nils n cols cols
  | [], _ => trivial
  | c :: cs, h => by
    refine ⟨?_, AColsEq.self cs (by cases c <;> first | exact h | cases h)⟩
    cases c <;> first | exact ColEq.refl _ _ | cases h
theorem BlkCov.self (h1 : inRange b hi ren = true) (h2 : inRange b hi nils = true) (hb : b ≤ hi) (x : ABlk) (h : lowBlk b (some x) = true) : BlkCov hi ren nils x x := by
  cases x with
  | box T cs => exact And.intro rfl (PVCovs.self h1 h2 hb cs h)
  | arr T n cols => exact And.intro rfl (And.intro rfl (AColsEq.self cols h))
  | map kk dom c => exact And.intro rfl (fun q _ => ⟨rfl, fun _ => MEq.refl c q⟩)
theorem liveIds_app : ∀ (X Y : Heap), liveIds (X ++ Y) = liveIds X ++ liveIds Y
  | [], Y => rfl
  | (i, none) :: X, Y => by simp only [List.cons_append, liveIds]; exact liveIds_app X Y
  | (i, some c) :: X, Y => by simp only [List.cons_append, liveIds, liveIds_app X Y]
theorem live_key : ∀ {X : Heap} {id : Nat}, id ∈ liveIds X → id ∈ keys X
  | [], id, h => by simp [liveIds] at h
  | (i, none) :: X, id, h => by
    simp only [liveIds] at h
    have := live_key h
    unfold keys at *
    simp only [List.map_cons, List.mem_cons]
    exact .inr this
  | (i, some c) :: X, id, h => by
    simp only [liveIds, List.mem_cons] at h
    unfold keys at *
    simp only [List.map_cons, List.mem_cons]
    rcases h with h | h
    · exact .inl h
    · exact .inr (live_key h)
theorem getH_key {X : Heap} {id : Nat} {c : ABlk} (h : getH X id = some c) : (keys X).contains id = true := by
  have := live_key (live_mem h)
  simpa using this
theorem srcOf_cases : ∀ (l : List (Nat × Nat)) (id : Nat), srcOf l id = id ∨ ∃ x ∈ l, x.2 = srcOf l id
  | [], id => .inl rfl
  | (a, c) :: l, id => by
    simp only [srcOf]
    cases h : a == id
    · rcases srcOf_cases l id with e | ⟨x, hx, e⟩
      · exact .inl e
      · exact .inr ⟨x, by simp [hx], e⟩
    · exact .inr ⟨(a, c), by simp, rfl⟩
theorem apart_of : ∀ {l : List Nat}, (∀ id id', id ∈ l → id' ∈ l → id ≠ id' → nilSz nils id = none → nilSz nils id' = none → srcOf ren id ≠ srcOf ren id') → apart ren nils l = true
  | [], _ => rfl
  | x :: l, h => by
    simp only [apart, Bool.and_eq_true, List.all_eq_true]
    refine ⟨fun j hj => ?_, apart_of fun id id' h1 h2 => h id id' (by simp [h1]) (by simp [h2])⟩
    by_cases e : j = x
    · simp [e]
    · cases n1 : nilSz nils x with
      | some _ => simp
      | none =>
        cases n2 : nilSz nils j with
        | some _ => simp
        | none =>
          have := h j x (by simp [hj]) (by simp) e n2 n1
          simp [this]
theorem frame_cov {n : Nat} (Hs X Y : Heap) (hs : Scoped b Hs) (hX : ∀ id ∈ keys X, b ≤ id ∨ id ∉ keys Hs) (h1 : inRange b hi ren = true) (h2 : inRange b hi nils = true) (hb : b ≤ hi) (h : HeapCov hi ren nils X Y) : HCov hi ren nils (X ++ Hs) (Y ++ Hs) := by
  intro id x hx
  rw [getH_appC] at hx
  cases hk : (keys Y).contains id
  · rw [hk] at hx
    simp only [cond_false] at hx
    have hid := getH_key hx
    have hlt := hs.lt id (by simpa using hid)
    obtain ⟨e1, _⟩ := inRange_src h1 (id := id) (.inl hlt)
    obtain ⟨_, e2⟩ := inRange_src h2 (id := id) (.inl hlt)
    rw [e2, e1]
    have hkx : (keys X).contains id = false := by
      cases hkx : (keys X).contains id
      · rfl
      · rcases hX id (by simpa using hkx) with h | h
        · omega
        · exact absurd (by simpa using hid) h
    show onBlk (getH (X ++ Hs) id) _
    rw [getH_appC, hkx]
    simp only [cond_false]
    rw [hx]
    exact BlkCov.self h1 h2 hb x (hs.blk id x hx)
  · rw [hk] at hx
    simp only [cond_true] at hx
    have := HeapCov.get h hx
    cases hn : nilSz nils id with
    | some sz => rw [hn] at this; exact this
    | none =>
      rw [hn] at this
      have hg : onBlk (getH X (srcOf ren id)) fun b1 => BlkCov hi ren nils b1 x := this
      show onBlk (getH (X ++ Hs) (srcOf ren id)) _
      cases hgx : getH X (srcOf ren id) with
      | none => rw [hgx] at hg; exact hg.elim
      | some c =>
        rw [hgx] at hg
        rw [getH_appC, getH_key hgx]
        simp only [cond_true]
        rw [hgx]
        exact hg
theorem frame_apart (Hs Y : Heap) (hs : Scoped b Hs) (h1 : inRange b hi ren = true) (hr : ren.all (fun x => decide (b ≤ x.2)) = true) (h : apart ren nils (liveIds Y) = true) : apart ren nils (liveIds (Y ++ Hs)) = true := by
  rw [liveIds_app]
  have hsrc : ∀ id, id ∈ liveIds Hs → id < b ∧ srcOf ren id = id := fun id hid => by
    have hlt := hs.lt id (live_key hid)
    exact ⟨hlt, (inRange_src h1 (.inl hlt)).1⟩
  have hmix : ∀ id id', id' ∈ liveIds Hs → id ≠ id' → srcOf ren id ≠ srcOf ren id' := fun id id' hid' hne => by
    obtain ⟨h3, h4⟩ := hsrc id' hid'
    rw [h4]
    rcases srcOf_cases ren id with e | ⟨x, hx, e⟩
    · rw [e]; exact hne
    · rw [← e]
      have := List.all_eq_true.1 hr x hx
      simp only [decide_eq_true_eq] at this
      omega
  refine apart_of fun id id' k1 k2 hne n1 n2 => ?_
  rcases List.mem_append.1 k2 with k2 | k2
  · rcases List.mem_append.1 k1 with k1 | k1
    · exact apart_spec h id id' k1 k2 hne n1 n2
    · exact (hmix id' id k1 (Ne.symm hne)).symm
  · exact hmix id id' k2 hne
theorem frame_lt (Hs Y : Heap) (hs : Scoped b Hs) (hb : b ≤ hi) (h : (liveIds Y).all (fun id => decide (id < hi)) = true) : (liveIds (Y ++ Hs)).all (fun id => decide (id < hi)) = true := by
  rw [liveIds_app, List.all_append, h, Bool.true_and, List.all_eq_true]
  intro id hid
  have := hs.lt id (live_key hid)
  simp only [decide_eq_true_eq]
  omega
end
theorem Cov.goF {s1 s2 : Slots} {n1 n2 b : Nat} (Hs X Y : Heap) (ren nils : List (Nat × Nat)) (hs : Scoped b Hs) (hX : kOK b Hs X) (hr : ren.all (fun x => decide (b ≤ x.2)) = true)
    (h : b ≤ n2 ∧ inRange b n2 ren = true ∧ inRange b n2 nils = true ∧ apart ren nils (liveIds Y) = true ∧ (liveIds Y).all (fun id => decide (id < n2)) = true ∧ HeapCov n2 ren nils X Y ∧ SlotsCov n2 ren nils s1 s2) : Cov ⟨s1, X ++ Hs, n1, b⟩ ⟨s2, Y ++ Hs, n2, b⟩ :=
  Cov.mk ren nils rfl h.1 h.2.1 h.2.2.1 (frame_apart Hs Y hs h.2.1 hr h.2.2.2.1) (frame_lt Hs Y hs h.1 h.2.2.2.2.1) (frame_cov (n := 0) Hs X Y hs hX.mem h.2.1 h.2.2.1 h.1 h.2.2.2.2.2.1) h.2.2.2.2.2.2
theorem keys_over (u : Heap) : ∀ (H : Heap) (i : Nat), (keys u).contains i = false → (keys (over u H)).contains i = (keys H).contains i
  | [], i, h => rfl
  | (j, c) :: H, i, h => by
    cases hj : (keys u).contains j
    · simp only [over, hj, cond_false]
      simp only [keys, List.map_cons, List.contains_cons]
      rw [show (List.map (fun x => x.1) (over u H)).contains i = (List.map (fun x => x.1) H).contains i from keys_over u H i h]
    · simp only [over, hj, cond_true]
      rw [keys_over u H i h]
      have : (i == j) = false := by
        have : i ≠ j := by rintro rfl; rw [h] at hj; cases hj
        simpa using this
      simp only [keys, List.map_cons, List.contains_cons, this, Bool.false_or]
theorem RetOK.goF {rs : List ARes} {nid : Nat} {r : PV} {e : AEx} {s : Slots} {n1 b1 : Nat} (Hs H0 X u : Heap) (ren nils : List (Nat × Nat)) (he : e = .ret ∨ e = .normal) (hs : Scoped nid Hs) (hX : kOK nid Hs X) (hr : ren.all (fun x => decide (nid ≤ x.2)) = true)
    (h : onAll (readAll ⟨s, X ++ Hs, n1, b1⟩ rs) fun ps => inRange nid (nid + 4) ren = true ∧ inRange nid (nid + 4) nils = true ∧ apart ren nils (liveIds (u ++ Go.Proofs.YthcldfmlfjomfaaDoor.over u H0)) = true ∧ (liveIds (u ++ Go.Proofs.YthcldfmlfjomfaaDoor.over u H0)).all (fun id => decide (id < nid + 4)) = true ∧ HeapCov (nid + 4) ren nils X (u ++ Go.Proofs.YthcldfmlfjomfaaDoor.over u H0) ∧ PVCov (nid + 4) ren nils (retPV ps) r) :
    RetOK rs (H0 ++ Hs) nid r u e ⟨s, X ++ Hs, n1, b1⟩ := by
  cases hp : readAll ⟨s, X ++ Hs, n1, b1⟩ rs with
  | none => rw [hp] at h; exact h.elim
  | some ps =>
    rw [hp] at h
    obtain ⟨h2, h3, h4, h5, h6, h7⟩ := h
    have hget : ∀ id, getH ((u ++ Go.Proofs.YthcldfmlfjomfaaDoor.over u H0) ++ Hs) id = getH (u ++ (H0 ++ Hs)) id := fun id => by
      rw [List.append_assoc, getH_appC u (Go.Proofs.YthcldfmlfjomfaaDoor.over u H0 ++ Hs), getH_appC u (H0 ++ Hs)]
      cases hk : (keys u).contains id
      · simp only [cond_false]
        rw [getH_appC _ Hs, getH_appC H0 Hs, keys_over u H0 id hk, getH_over u H0 id hk]
      · rfl
    have hall : ∃ (ren nils : List (Nat × Nat)) (H2 : Heap), (∀ id, getH H2 id = getH (u ++ (H0 ++ Hs)) id) ∧ inRange nid (nid + 4) ren = true ∧ inRange nid (nid + 4) nils = true ∧ apart ren nils (liveIds H2) = true ∧ (liveIds H2).all (fun id => decide (id < nid + 4)) = true ∧
        HCov (nid + 4) ren nils (X ++ Hs) H2 ∧ PVCov (nid + 4) ren nils (retPV ps) r :=
      ⟨ren, nils, (u ++ Go.Proofs.YthcldfmlfjomfaaDoor.over u H0) ++ Hs, hget, h2, h3, frame_apart Hs _ hs h2 hr h4, frame_lt Hs _ hs (by omega) h5, frame_cov (n := 0) Hs X _ hs hX.mem h2 h3 (by omega) h6, h7⟩
    rcases he with rfl | rfl
    · show onAll (readAll ⟨s, X ++ Hs, n1, b1⟩ rs) _
      rw [hp]
      exact hall
    · show onAll (readAll ⟨s, X ++ Hs, n1, b1⟩ rs) _
      rw [hp]
      exact hall
theorem subH_frame {b : Nat} {Hs X : Heap} (hs : Scoped b Hs) (hX : kOK b Hs X) : subH Hs (X ++ Hs) := fun id c hc => by
  rw [getH_appC]
  have hid := getH_key hc
  have hlt := hs.lt id (by simpa using hid)
  cases hk : (keys X).contains id
  · exact hc
  · rcases hX.mem id (by simpa using hk) with h | h
    · omega
    · exact absurd (by simpa using hid) h
theorem capsC {b : Nat} {caps : List PV} (h : lowAll b (idsOfs caps) = true) (hi : Nat) (hb : b ≤ hi) : PVCovs hi [] [] caps caps := PVCovs.self (b := b) rfl rfl hb caps h
theorem nn_of {C : Ctx} {Y : Nat → Prop} {m : Names} {w : World} {H : Heap} {n : Nat} (hH : HS C Y m w H n) {id T k : Nat} {cols : List Col} (hg : getH H id = some (.arr T k cols)) (hk : 0 < k) : nlOf m id = false := by
  obtain ⟨pl, h1, h2, _⟩ := hH.blk id _ hg
  obtain ⟨xs, cap, s1, s2, s3, s4, s5, ⟨A, hA⟩, s7⟩ := h2
  have := s4 hk
  simp only [nlOf, h1, hA]
  rw [hA] at this
  cases A with
  | none => simp [Value.ownBlock] at this
  | some a => rfl
theorem HSF.some_sub {C : Ctx} {Y : Nat → Prop} {m : Names} {w : World} {H H' : Heap} {Fr : Nat → Prop} (h : HSF C Y m w H Fr) (e : ∀ id b, getH H' id = some b → getH H id = some b) : HSF C Y m w H' Fr :=
  { h with
    blk := fun id b hb => h.blk id b (e id b hb)
    inj := fun id id' b b' pl pl' g hne hb hb' hm hm' hl => h.inj id id' b b' pl pl' g hne (e id b hb) (e id' b' hb') hm hm' hl }
theorem ACall.lit {f : Nat} {args : List PV} {Hs : Heap} {nid id T n : Nat} {cols : List Col} (h : ACall P f args Hs nid (.sl id 0 n) [(id, some (.arr T n cols))]) (hn : 0 < n) (ho : noOs cols = true) (hid : getH Hs id = none) :
    ACall P f args Hs nid (.lit false n cols) [] := fun C vs h1 h2 h3 h4 => by
  refine (h C vs h1 h2 h3 h4).imp fun v w' h => ?_
  obtain ⟨Y', m', r1, r2, r3⟩ := h
  obtain ⟨Y2, k1, k2, k3⟩ := freeze_core r2 [id]
  have hg : getH ([(id, some (.arr T n cols))] ++ Hs) id = some (.arr T n cols) := by simp [getH]
  have hr := k1 _ v r1
  have hnl := nn_of r2 hg hn
  simp only [lend, hg, List.contains_cons, List.contains_nil, beq_self_eq_true, Bool.or_false, ho, Bool.true_and, cond_true, hnl] at hr
  refine ⟨Y2, m', by simpa using hr, k2.some_sub (fun i b hb => ?_), ?_⟩
  · have hi : i ≠ id := by
      rintro rfl
      rw [List.nil_append, hid] at hb
      cases hb
    have e1 : (id == i) = false := by simpa using fun e => hi e.symm
    simp only [kill, List.map_cons, List.map_nil, List.cons_append, List.nil_append, getH, e1, cond_false] at hb ⊢
    exact hb
  · exact r3.trans k3
end Go.Proofs.YthcldfmlfjomfaaDoor
namespace Go.Proofs.YthcldfmlfjomfaaDoor
open Go.RowKit
theorem scp2 {b i j : Nat} {x y : ABlk} (hi : i < b) (hj : j < b) (hx : lowBlk b (some x) = true) (hy : lowBlk b (some y) = true) : Scoped b [(i, some x), (j, some y)] := by
  refine ⟨fun k hk => ?_, fun k z hz => ?_⟩
  · simp [keys] at hk; omega
  · simp only [getH] at hz
    by_cases e : (i == k) = true
    · simp only [e, cond_true, Option.some.injEq] at hz; subst hz; exact hx
    · simp only [Bool.not_eq_true] at e
      by_cases e2 : (j == k) = true
      · simp only [e, e2, cond_true, cond_false, Option.some.injEq] at hz; subst hz; exact hy
      · simp only [Bool.not_eq_true] at e2; simp [e, e2] at hz
end Go.Proofs.YthcldfmlfjomfaaDoor
namespace Go.Proofs.YthcldfmlfjomfaaDoor
def minTo (c : Nat → Int) (p : Nat → Bool) : Nat → Int
  | 0 => -1
  | k + 1 => if p k = true ∧ (minTo c p k < 0 ∨ c k < minTo c p k) then c k else minTo c p k
theorem minTo_none {c : Nat → Int} {p : Nat → Bool} : ∀ {k : Nat}, (∀ i, i < k → p i = false) → minTo c p k = -1
  | 0, _ => rfl
  | k + 1, h => by
    unfold minTo
    rw [if_neg (by rw [h k (by omega)]; simp)]
    exact minTo_none fun i hi => h i (by omega)
theorem minTo_some {c : Nat → Int} {p : Nat → Bool} : ∀ {k : Nat}, (∀ i, i < k → p i = true → 0 ≤ c i) → (∃ i, i < k ∧ p i = true) → 0 ≤ minTo c p k ∧ (∀ i, i < k → p i = true → minTo c p k ≤ c i) ∧ ∃ i, i < k ∧ p i = true ∧ minTo c p k = c i
  | 0, _, ⟨i, hi, _⟩ => absurd hi (by omega)
  | k + 1, hc, hex => by
    by_cases h0 : ∃ i, i < k ∧ p i = true
    · obtain ⟨h1, h2, j, hj, hpj, ej⟩ := minTo_some (fun i hi => hc i (by omega)) h0
      unfold minTo
      by_cases hk : p k = true ∧ (minTo c p k < 0 ∨ c k < minTo c p k)
      · rw [if_pos hk]
        have := hc k (by omega) hk.1
        refine ⟨this, fun i hi hp => ?_, k, by omega, hk.1, rfl⟩
        rcases (by omega : i < k ∨ i = k) with h | h
        · have := h2 i h hp; omega
        · subst h; omega
      · rw [if_neg hk]
        refine ⟨h1, fun i hi hp => ?_, j, by omega, hpj, ej⟩
        rcases (by omega : i < k ∨ i = k) with h | h
        · exact h2 i h hp
        · subst h
          have : ¬ c i < minTo c p i := fun h => hk ⟨hp, .inr h⟩
          omega
    · have hn : ∀ i, i < k → p i = false := fun i hi => by
        cases e : p i with
        | false => rfl
        | true => exact absurd ⟨i, hi, e⟩ h0
      obtain ⟨j, hj, hpj⟩ := hex
      obtain rfl : j = k := by
        rcases (by omega : j < k ∨ j = k) with h | h
        · exact absurd ⟨j, h, hpj⟩ h0
        · exact h
      unfold minTo
      rw [minTo_none hn, if_pos ⟨hpj, .inl (by omega)⟩]
      refine ⟨hc j (by omega) hpj, fun i hi hp => ?_, j, by omega, hpj, rfl⟩
      rcases (by omega : i < j ∨ i = j) with h | h
      · rw [hn i h] at hp; cases hp
      · subst h; exact Int.le_refl _
def zc (n was : Nat) : Nat := ((List.range n).filter fun i => !was.testBit i).length
theorem or_bit (was i j : Nat) : (was ||| 1 <<< i).testBit j = (was.testBit j || decide (j = i)) := by
  rw [Nat.testBit_or, Nat.shiftLeft_eq, Nat.one_mul, Nat.testBit_two_pow]
  congr 1
  rw [decide_eq_decide]
  exact eq_comm
theorem filter_drop : ∀ (l : List Nat) (p : Nat → Bool) (i : Nat), l.Nodup → i ∈ l → p i = true → (l.filter fun j => p j && !decide (j = i)).length + 1 = (l.filter p).length
  | a :: l, p, i, hn, hm, hp => by
    obtain ⟨h1, h2⟩ := List.nodup_cons.1 hn
    by_cases e : a = i
    · subst e
      have e2 : (l.filter fun j => p j && !decide (j = a)) = l.filter p := List.filter_congr fun j hj => by
        have : j ≠ a := fun e => h1 (e ▸ hj)
        simp [this]
      rw [List.filter_cons, List.filter_cons, if_neg (by simp), if_pos hp, e2]
      simp
    · have hm2 : i ∈ l := by
        rcases List.mem_cons.1 hm with h | h
        · exact absurd h.symm e
        · exact h
      have ih := filter_drop l p i h2 hm2 hp
      rw [List.filter_cons, List.filter_cons]
      cases ha : p a
      · rw [if_neg (by simp), if_neg (by simp)]; exact ih
      · rw [if_pos (by simp [e]), if_pos rfl]
        simp only [List.length_cons]
        omega
theorem zc_or {n was i : Nat} (hi : i < n) (h : was.testBit i = false) : zc n (was ||| 1 <<< i) + 1 = zc n was := by
  have := filter_drop (List.range n) (fun j => !was.testBit j) i List.nodup_range (List.mem_range.2 hi) (by simp [h])
  unfold zc
  rw [← this]
  congr 2
  refine List.filter_congr fun j _ => ?_
  rw [or_bit]
  simp
theorem zc_pos {n was : Nat} (h : 0 < zc n was) : ∃ i, i < n ∧ was.testBit i = false := by
  unfold zc at h
  obtain ⟨i, hi⟩ := List.exists_mem_of_length_pos h
  obtain ⟨h1, h2⟩ := List.mem_filter.1 hi
  exact ⟨i, List.mem_range.1 h1, by simpa using h2⟩
theorem zc_zero {n was : Nat} (h : zc n was = 0) : ∀ i, i < n → was.testBit i = true := fun i hi => by
  unfold zc at h
  have := List.eq_nil_of_length_eq_zero h
  rw [List.filter_eq_nil_iff] at this
  have := this i (List.mem_range.2 hi)
  simpa using this
theorem zc_full {n was : Nat} (hw : was < 2 ^ n) : zc n was = 0 ↔ was = 2 ^ n - 1 := by
  constructor
  · intro h
    have hz := zc_zero h
    refine Nat.eq_of_testBit_eq fun i => ?_
    rw [Nat.testBit_two_pow_sub_one]
    by_cases hi : i < n
    · rw [hz i hi]; simp [hi]
    · rw [Nat.testBit_lt_two_pow (Nat.lt_of_lt_of_le hw (Nat.pow_le_pow_right (by omega) (by omega)))]
      simp [hi]
  · intro h
    unfold zc
    rw [List.length_eq_zero_iff, List.filter_eq_nil_iff]
    intro i hi
    rw [h, Nat.testBit_two_pow_sub_one]
    simp [List.mem_range.1 hi]
theorem or_lt {n was i : Nat} (hw : was < 2 ^ n) (hi : i < n) : was ||| 1 <<< i < 2 ^ n := by
  refine Nat.or_lt_two_pow hw ?_
  rw [Nat.shiftLeft_eq, Nat.one_mul]
  exact Nat.pow_lt_pow_right (by omega) hi
section
variable (D : Nat → Nat → Int) (n : Nat)
def cntV : Nat → Nat → Nat → Int
  | 0, _, _ => 0
  | f + 1, was, last => minTo (fun i => D last i + cntV f (was ||| 1 <<< i) i) (fun i => !was.testBit i) n
def costV (was last : Nat) : Int := cntV D n (zc n was) was last
end
variable {D : Nat → Nat → Int} {n : Nat}
theorem cntV_bd {B : Int} (hD : ∀ i j, 0 ≤ D i j ∧ D i j ≤ B) : ∀ (f was last : Nat), zc n was = f → 0 ≤ cntV D n f was last ∧ cntV D n f was last ≤ B * f
  | 0, _, _, _ => by simp [cntV]
  | f + 1, was, last, h => by
    have hs : ∀ i, i < n → was.testBit i = false → 0 ≤ cntV D n f (was ||| 1 <<< i) i ∧ cntV D n f (was ||| 1 <<< i) i ≤ B * f := fun i hi hb =>
      cntV_bd hD f _ _ (by have := zc_or hi hb; omega)
    obtain ⟨j, hj, hb⟩ := zc_pos (n := n) (was := was) (by omega)
    obtain ⟨h1, _, i, hi, hp, e⟩ := minTo_some (c := fun i => D last i + cntV D n f (was ||| 1 <<< i) i) (p := fun i => !was.testBit i) (k := n) (fun i hi hp => by
      have := hs i hi (by simpa using hp)
      have := hD last i
      omega) ⟨j, hj, by simp [hb]⟩
    refine ⟨h1, ?_⟩
    have h2 := hs i hi (by simpa using hp)
    have h3 := hD last i
    show minTo (fun i => D last i + cntV D n f (was ||| 1 <<< i) i) (fun i => !was.testBit i) n ≤ _
    rw [e]
    push_cast
    rw [Int.mul_add, Int.mul_one]
    omega
theorem cost_full {was last : Nat} (h : zc n was = 0) : costV D n was last = 0 := by unfold costV; rw [h]; rfl
theorem cost_eq {was last : Nat} (h : 0 < zc n was) : costV D n was last = minTo (fun i => D last i + costV D n (was ||| 1 <<< i) i) (fun i => !was.testBit i) n := by
  unfold costV
  obtain ⟨f, hf⟩ : ∃ f, zc n was = f + 1 := ⟨zc n was - 1, by omega⟩
  rw [hf]
  show minTo (fun i => D last i + cntV D n f (was ||| 1 <<< i) i) (fun i => !was.testBit i) n = _
  have : ∀ k, k ≤ n → minTo (fun i => D last i + cntV D n f (was ||| 1 <<< i) i) (fun i => !was.testBit i) k = minTo (fun i => D last i + cntV D n (zc n (was ||| 1 <<< i)) (was ||| 1 <<< i) i) (fun i => !was.testBit i) k := by
    intro k
    induction k with
    | zero => intro _; rfl
    | succ k ih =>
      intro hk
      unfold minTo
      rw [ih (by omega)]
      cases hb : was.testBit k with
      | true => rfl
      | false =>
        have := zc_or (n := n) (show k < n by omega) hb
        rw [show zc n (was ||| 1 <<< k) = f by omega]
  exact this n (Nat.le_refl _)
theorem cost_bd {B : Int} (hD : ∀ i j, 0 ≤ D i j ∧ D i j ≤ B) (was last : Nat) : 0 ≤ costV D n was last ∧ costV D n was last ≤ B * (zc n was : Nat) := cntV_bd hD _ was last rfl
theorem cost_step {B : Int} (hD : ∀ i j, 0 ≤ D i j ∧ D i j ≤ B) {was last : Nat} (h : 0 < zc n was) :
    (∀ i, i < n → was.testBit i = false → costV D n was last ≤ D last i + costV D n (was ||| 1 <<< i) i) ∧ ∃ i, i < n ∧ was.testBit i = false ∧ costV D n was last = D last i + costV D n (was ||| 1 <<< i) i := by
  rw [cost_eq h]
  obtain ⟨j, hj, hb⟩ := zc_pos h
  obtain ⟨_, h2, i, hi, hp, e⟩ := minTo_some (c := fun i => D last i + costV D n (was ||| 1 <<< i) i) (p := fun i => !was.testBit i) (k := n) (fun i hi hp => by
    have := cost_bd hD (n := n) (was ||| 1 <<< i) i
    have := hD last i
    omega) ⟨j, hj, by simp [hb]⟩
  exact ⟨fun i hi hb => h2 i hi (by simp [hb]), i, hi, by simpa using hp, e⟩
def fstO (D : Nat → Nat → Int) (n : Nat) : Nat → Nat
  | 0 => 0
  | k + 1 => if costV D n (1 <<< k) k < costV D n (1 <<< fstO D n k) (fstO D n k) then k else fstO D n k
theorem fstO_lt (D : Nat → Nat → Int) (n : Nat) : ∀ k, 0 < k → fstO D n k < k
  | 0, h => absurd h (by omega)
  | 1, _ => by unfold fstO; split <;> simp [fstO]
  | k + 2, _ => by
    have := fstO_lt D n (k + 1) (by omega)
    unfold fstO
    split <;> omega
theorem fstO_le (D : Nat → Nat → Int) (n : Nat) : ∀ k i, i < k → costV D n (1 <<< fstO D n k) (fstO D n k) ≤ costV D n (1 <<< i) i
  | 0, i, h => absurd h (by omega)
  | k + 1, i, h => by
    unfold fstO
    split
    · rename_i hlt
      rcases (by omega : i < k ∨ i = k) with h1 | h1
      · have := fstO_le D n k i h1; omega
      · subst h1; exact Int.le_refl _
    · rename_i hlt
      rcases (by omega : i < k ∨ i = k) with h1 | h1
      · exact fstO_le D n k i h1
      · subst h1; omega
def stepsTo (D : Nat → Nat → Int) (g : Nat → Nat) : Nat → Int
  | 0 => 0
  | k + 1 => stepsTo D g k + D (g k) (g (k + 1))
theorem stepsTo_congr {D : Nat → Nat → Int} {g h : Nat → Nat} : ∀ {k : Nat}, (∀ i, i ≤ k → g i = h i) → stepsTo D g k = stepsTo D h k
  | 0, _ => rfl
  | k + 1, e => by
    unfold stepsTo
    rw [stepsTo_congr (k := k) fun i hi => e i (by omega), e k (by omega), e (k + 1) (by omega)]
def pathC (D : Nat → Nat → Int) (l : List Nat) : Int := stepsTo D (fun i => l.getD i 0) (l.length - 1)
theorem pathC_snoc (D : Nat → Nat → Int) {l : List Nat} (h : 0 < l.length) (i : Nat) : pathC D (l ++ [i]) = pathC D l + D (l.getD (l.length - 1) 0) i := by
  unfold pathC
  have e : (l ++ [i]).length - 1 = (l.length - 1) + 1 := by simp; omega
  have ha : ∀ j, j < l.length → (l ++ [i]).getD j 0 = l.getD j 0 := fun j hj => by
    rw [List.getD_eq_getElem?_getD, List.getD_eq_getElem?_getD, List.getElem?_append_left hj]
  have hb : (l ++ [i]).getD l.length 0 = i := by rw [List.getD_eq_getElem?_getD, List.getElem?_append_right (Nat.le_refl _)]; simp
  rw [e]
  show stepsTo D (fun j => (l ++ [i]).getD j 0) (l.length - 1) + D ((l ++ [i]).getD (l.length - 1) 0) ((l ++ [i]).getD (l.length - 1 + 1) 0) = _
  rw [stepsTo_congr (h := fun j => l.getD j 0) fun j hj => ha j (by omega), ha _ (by omega), show l.length - 1 + 1 = l.length by omega, hb]
structure OrdAt (D : Nat → Nat → Int) (n : Nat) (T : Int) (out : List Nat) (was last : Nat) : Prop where
  nd : out.Nodup
  ins : ∀ x ∈ out, x < n
  pos : 0 < out.length
  lst : last = out.getD (out.length - 1) 0
  bit : ∀ i, was.testBit i = decide (i ∈ out)
  lt : was < 2 ^ n
  zc : zc n was + out.length = n
  sum : pathC D out + costV D n was last = T
def nxtP (D : Nat → Nat → Int) (n was last i : Nat) : Bool := !was.testBit i && (D last i + costV D n (was ||| 1 <<< i) i == costV D n was last)
theorem OrdAt.next {D : Nat → Nat → Int} {n : Nat} {T : Int} {out : List Nat} {was last : Nat} (h : OrdAt D n T out was last) {i : Nat} (hi : i < n) (hp : nxtP D n was last i = true) : OrdAt D n T (out ++ [i]) (was ||| 1 <<< i) i := by
  unfold nxtP at hp
  rw [Bool.and_eq_true, beq_iff_eq] at hp
  have hb : was.testBit i = false := by simpa using hp.1
  have hni : i ∉ out := by
    have := h.bit i
    rw [hb] at this
    simpa using this.symm
  refine ⟨?_, fun x hx => ?_, by simp, ?_, fun j => ?_, or_lt h.lt hi, ?_, ?_⟩
  · rw [List.nodup_append]
    exact ⟨h.nd, by simp, fun a ha b hb e => by simp only [List.mem_singleton] at hb; subst hb; subst e; exact hni ha⟩
  · rcases List.mem_append.1 hx with hx | hx
    · exact h.ins x hx
    · simp only [List.mem_singleton] at hx; subst hx; exact hi
  · rw [List.length_append, List.length_singleton, Nat.add_sub_cancel, List.getD_eq_getElem?_getD, List.getElem?_append_right (Nat.le_refl _)]; simp
  · rw [or_bit, h.bit, ← Bool.decide_or, decide_eq_decide]; simp
  · have := zc_or hi hb
    have := h.zc
    rw [List.length_append, List.length_singleton]
    omega
  · rw [pathC_snoc D h.pos, ← h.lst]
    have := h.sum
    omega
theorem OrdAt.more {D : Nat → Nat → Int} {n : Nat} {T B : Int} (hD : ∀ i j, 0 ≤ D i j ∧ D i j ≤ B) {out : List Nat} {was last : Nat} (h : OrdAt D n T out was last) (hl : out.length < n) : ∃ i, i < n ∧ nxtP D n was last i = true := by
  have := h.zc
  obtain ⟨_, i, hi, hb, e⟩ := cost_step hD (n := n) (was := was) (last := last) (by omega)
  refine ⟨i, hi, ?_⟩
  unfold nxtP
  rw [hb, e]
  simp
theorem OrdAt.done {D : Nat → Nat → Int} {n : Nat} {T : Int} {out : List Nat} {was last : Nat} (h : OrdAt D n T out was last) (hl : out.length = n) : pathC D out = T := by
  have h1 := h.zc
  have h2 := h.sum
  rw [cost_full (by omega)] at h2
  omega
theorem zc_one {n i : Nat} (hi : i < n) : zc n (1 <<< i) + 1 = n := by
  have := zc_or (n := n) (was := 0) hi (by simp)
  rw [Nat.zero_or] at this
  rw [this]
  unfold zc
  rw [List.filter_eq_self.2 (by simp), List.length_range]
theorem ordAt_first (D : Nat → Nat → Int) {n i : Nat} (hi : i < n) : OrdAt D n (costV D n (1 <<< i) i) [i] (1 <<< i) i where
  nd := by simp
  ins := fun x hx => by simp only [List.mem_singleton] at hx; subst hx; exact hi
  pos := by simp
  lst := rfl
  bit := fun j => by
    rw [Nat.shiftLeft_eq, Nat.one_mul, Nat.testBit_two_pow, decide_eq_decide]
    simp [eq_comm]
  lt := by rw [Nat.shiftLeft_eq, Nat.one_mul]; exact Nat.pow_lt_pow_right (by omega) hi
  zc := zc_one hi
  sum := by show (0 : Int) + _ = _; omega
theorem mask_or (k : Nat) : (2 ^ (k + 1) - 1) ||| 1 <<< (k + 1) = 2 ^ (k + 2) - 1 := by
  refine Nat.eq_of_testBit_eq fun i => ?_
  rw [or_bit, Nat.testBit_two_pow_sub_one, Nat.testBit_two_pow_sub_one, ← Bool.decide_or, decide_eq_decide]
  omega
theorem cost_given {D : Nat → Nat → Int} {B : Int} (hD : ∀ i j, 0 ≤ D i j ∧ D i j ≤ B) {n : Nat} : ∀ (m k : Nat), k + m + 1 = n → costV D n (2 ^ (k + 1) - 1) k + stepsTo D id k ≤ stepsTo D id (n - 1)
  | 0, k, h => by
    have e : zc n (2 ^ (k + 1) - 1) = 0 := (zc_full (by have := Nat.two_pow_pos (k + 1); rw [show n = k + 1 by omega]; omega)).2 (by rw [show n = k + 1 by omega])
    rw [cost_full e, show n - 1 = k by omega]
    omega
  | m + 1, k, h => by
    have ih := cost_given hD (n := n) m (k + 1) (by omega)
    have hz : 0 < zc n (2 ^ (k + 1) - 1) := by
      rcases Nat.eq_zero_or_pos (zc n (2 ^ (k + 1) - 1)) with h0 | h0
      · have := zc_zero h0 (k + 1) (by omega)
        rw [Nat.testBit_two_pow_sub_one] at this
        simp at this
      · exact h0
    have hs := (cost_step hD (n := n) (was := 2 ^ (k + 1) - 1) (last := k) hz).1 (k + 1) (by omega) (by rw [Nat.testBit_two_pow_sub_one]; simp)
    rw [mask_or] at hs
    have e3 : (2 ^ (k + 1 + 1) - 1 : Nat) = 2 ^ (k + 2) - 1 := rfl
    rw [e3] at ih
    have e : stepsTo D id (k + 1) = stepsTo D id k + D k (k + 1) := rfl
    omega
theorem order_least {D : Nat → Nat → Int} {B : Int} (hD : ∀ i j, 0 ≤ D i j ∧ D i j ≤ B) {n : Nat} (hn : 0 < n) : costV D n (1 <<< fstO D n n) (fstO D n n) ≤ stepsTo D id (n - 1) := by
  have h1 := fstO_le D n n 0 hn
  have h2 := cost_given hD (n := n) (n - 1) 0 (by omega)
  have e : (1 <<< 0 : Nat) = 2 ^ (0 + 1) - 1 := rfl
  rw [e] at h1
  have e2 : stepsTo D id 0 = 0 := rfl
  omega
end Go.Proofs.YthcldfmlfjomfaaDoor
namespace Go.Proofs.YthcldfmlfjomfaaDoor
abbrev BestO := Option (List Nat × Int)
def leO (b : BestO) (t : Int) : Prop := ∃ l s, b = some (l, s) ∧ s ≤ t
def cutO (b : BestO) (sum : Int) : Bool := match b with
  | some (_, s) => decide (s ≤ sum)
  | none => false
theorem cutO_iff {b : BestO} {t : Int} : cutO b t = true ↔ leO b t := by
  unfold cutO leO
  cases b with
  | none => simp
  | some x =>
    obtain ⟨l, s⟩ := x
    rw [decide_eq_true_iff]
    exact ⟨fun h => ⟨l, s, rfl, h⟩, fun ⟨l', s', e, h⟩ => by injection e with e; injection e with _ e; omega⟩
section
variable (D : Nat → Nat → Int) (n : Nat)
def stepO (l : List Nat) (i : Nat) : Int := if l.length = 0 then 0 else D (l.getD (l.length - 1) 0) i
def ovGo : Nat → List Nat → Int → BestO → BestO
  | 0, _, _, b => b
  | f + 1, l, sum, b => if cutO b sum = true then b else if l.length = n then some (l, sum) else
    (List.range n).foldl (fun b i => if l.contains i = true then b else ovGo f (l ++ [i]) (sum + stepO D l i) b) b
def ovTo (f : Nat) (l : List Nat) (sum : Int) (b : BestO) (k : Nat) : BestO :=
  (List.range k).foldl (fun b i => if l.contains i = true then b else ovGo D n f (l ++ [i]) (sum + stepO D l i) b) b
theorem ovTo_succ (f : Nat) (l : List Nat) (sum : Int) (b : BestO) (k : Nat) : ovTo D n f l sum b (k + 1) =
    if l.contains k = true then ovTo D n f l sum b k else ovGo D n f (l ++ [k]) (sum + stepO D l k) (ovTo D n f l sum b k) := by
  simp [ovTo, List.range_succ]
def nxtI (was last : Nat) : Nat := ((List.range n).find? fun i => nxtP D n was last i).getD 0
def goO : Nat → Nat → Nat → List Nat → List Nat
  | 0, _, _, out => out
  | f + 1, was, last, out => goO f (was ||| 1 <<< nxtI D n was last) (nxtI D n was last) (out ++ [nxtI D n was last])
end
variable {D : Nat → Nat → Int} {n : Nat}
theorem ovGo_cut {f : Nat} {l : List Nat} {sum : Int} {b : BestO} (h : leO b sum) : ovGo D n f l sum b = b := by
  cases f with
  | zero => rfl
  | succ f => unfold ovGo; rw [if_pos (cutO_iff.2 h)]
theorem ovGo_full {f : Nat} {l : List Nat} {sum : Int} {b : BestO} (h : ¬ leO b sum) (hn : l.length = n) : ovGo D n (f + 1) l sum b = some (l, sum) := by
  unfold ovGo; rw [if_neg (fun e => h (cutO_iff.1 e)), if_pos hn]
theorem ovGo_more {f : Nat} {l : List Nat} {sum : Int} {b : BestO} (h : ¬ leO b sum) (hn : l.length ≠ n) : ovGo D n (f + 1) l sum b = ovTo D n f l sum b n := by
  unfold ovGo; rw [if_neg (fun e => h (cutO_iff.1 e)), if_neg hn]; rfl
theorem nxtI_eq {was last j : Nat} (hj : j < n) (h : nxtP D n was last j = true) (h0 : ∀ i, i < j → nxtP D n was last i = false) : nxtI D n was last = j := by
  have : (List.range n).find? (fun i => nxtP D n was last i) = some j := by
    rw [List.find?_range_eq_some]
    exact ⟨h, List.mem_range.2 hj, fun i hi => by rw [h0 i hi]; rfl⟩
  unfold nxtI
  rw [this]
  rfl
structure LoopO (op : Nat → Bool) (t : Nat → Int) (c : Nat → List Nat) (b : BestO) (k : Nat) (b' : BestO) : Prop where
  same : (∀ i, i < k → op i = true → leO b (t i)) → b' = b
  new : ¬ (∀ i, i < k → op i = true → leO b (t i)) → ∃ j, j < k ∧ op j = true ∧ (∀ i, i < k → op i = true → t j ≤ t i) ∧ (∀ i, i < j → op i = true → t j < t i) ∧ ¬ leO b (t j) ∧ b' = some (c j, t j)
theorem leO_mono {b : BestO} {s t : Int} (h : leO b s) (hst : s ≤ t) : leO b t := by
  obtain ⟨l, v, e, hv⟩ := h
  exact ⟨l, v, e, by omega⟩
theorem loopO_step {op : Nat → Bool} {t : Nat → Int} {c : Nat → List Nat} {b b' b2 : BestO} {k : Nat} (h : LoopO op t c b k b') (hk : op k = true) (h1 : leO b' (t k) → b2 = b') (h2 : ¬ leO b' (t k) → b2 = some (c k, t k)) : LoopO op t c b (k + 1) b2 := by
  by_cases hA : ∀ i, i < k → op i = true → leO b (t i)
  · have e := h.same hA
    subst e
    by_cases hb : leO b' (t k)
    · refine ⟨fun _ => h1 hb, fun hn => absurd (fun i hi ho => ?_) hn⟩
      rcases (by omega : i < k ∨ i = k) with hi | hi
      · exact hA i hi ho
      · subst hi; exact hb
    · refine ⟨fun ha => absurd (ha k (by omega) hk) hb, fun _ => ⟨k, by omega, hk, fun i hi ho => ?_, fun i hi ho => ?_, hb, h2 hb⟩⟩
      · rcases (by omega : i < k ∨ i = k) with hi | hi
        · rcases Int.lt_or_le (t i) (t k) with hlt | hle
          · exact absurd (leO_mono (hA i hi ho) (Int.le_of_lt hlt)) hb
          · exact hle
        · subst hi; exact Int.le_refl _
      · rcases Int.lt_or_le (t k) (t i) with hlt | hle
        · exact hlt
        · exact absurd (leO_mono (hA i hi ho) hle) hb
  · obtain ⟨j, hj, hoj, hmin, hlt, hbj, e⟩ := h.new hA
    have hnA : ¬ (∀ i, i < k + 1 → op i = true → leO b (t i)) := fun ha => hA fun i hi ho => ha i (by omega) ho
    refine ⟨fun ha => absurd ha hnA, fun _ => ?_⟩
    by_cases hjk : t j ≤ t k
    · refine ⟨j, by omega, hoj, fun i hi ho => ?_, hlt, hbj, ?_⟩
      · rcases (by omega : i < k ∨ i = k) with hi | hi
        · exact hmin i hi ho
        · subst hi; exact hjk
      · rw [h1 (by rw [e]; exact ⟨_, _, rfl, hjk⟩), e]
    · refine ⟨k, by omega, hk, fun i hi ho => ?_, fun i hi ho => ?_, fun hb => hbj (leO_mono hb (by omega)), ?_⟩
      · rcases (by omega : i < k ∨ i = k) with hi | hi
        · have := hmin i hi ho; omega
        · subst hi; exact Int.le_refl _
      · have := hmin i hi ho; omega
      · refine h2 fun hb => ?_
        obtain ⟨l, v, e2, hv⟩ := hb
        rw [e] at e2
        injection e2 with e2
        injection e2 with _ e2
        omega
theorem loopO_skip {op : Nat → Bool} {t : Nat → Int} {c : Nat → List Nat} {b b' : BestO} {k : Nat} (h : LoopO op t c b k b') (hk : op k = false) : LoopO op t c b (k + 1) b' := by
  have hiff : ∀ i, i < k + 1 → op i = true → i < k := fun i hi ho => by
    rcases (by omega : i < k ∨ i = k) with h | h
    · exact h
    · subst h; rw [hk] at ho; cases ho
  refine ⟨fun ha => h.same fun i hi ho => ha i (by omega) ho, fun hn => ?_⟩
  obtain ⟨j, hj, hoj, hmin, hlt, hbj, e⟩ := h.new fun ha => hn fun i hi ho => ha i (hiff i hi ho) ho
  exact ⟨j, by omega, hoj, fun i hi ho => hmin i (hiff i hi ho) ho, hlt, hbj, e⟩
theorem ovGo_node {B : Int} (hD : ∀ i j, 0 ≤ D i j ∧ D i j ≤ B) : ∀ (f : Nat) (l : List Nat) (was last : Nat) (T : Int) (b : BestO), OrdAt D n T l was last → l.length + f = n + 1 → 0 < f →
    (leO b T → ovGo D n f l (pathC D l) b = b) ∧ (¬ leO b T → ovGo D n f l (pathC D l) b = some (goO D n (n - l.length) was last l, T))
  | 0, _, _, _, _, _, _, _, h0 => absurd h0 (by omega)
  | f + 1, l, was, last, T, b, hO, hl, _ => by
    have hcb := cost_bd hD (n := n) was last
    have hsum := hO.sum
    by_cases hcut : leO b (pathC D l)
    · rw [ovGo_cut hcut]
      exact ⟨fun _ => rfl, fun h => absurd (leO_mono hcut (by omega)) h⟩
    · by_cases hn : l.length = n
      · rw [ovGo_full hcut hn, hO.done hn, Nat.sub_eq_zero_of_le (by omega)]
        rw [hO.done hn] at hcut
        exact ⟨fun h => absurd h hcut, fun _ => rfl⟩
      · rw [ovGo_more hcut hn]
        have hln : l.length < n := by omega
        have hz : 0 < zc n was := by have := hO.zc; omega
        obtain ⟨hle, i0, hi0, hb0, he0⟩ := cost_step hD (n := n) (was := was) (last := last) hz
        have hlast : ∀ i, stepO D l i = D last i := fun i => by
          unfold stepO
          rw [if_neg (by have := hO.pos; omega), ← hO.lst]
        have hcont : ∀ i, l.contains i = was.testBit i := fun i => by
          rw [hO.bit, Bool.eq_iff_iff, List.contains_iff_mem, decide_eq_true_iff]
        have hloop : ∀ k, k ≤ n → LoopO (fun i => !was.testBit i) (fun i => pathC D l + D last i + costV D n (was ||| 1 <<< i) i) (fun i => goO D n (n - (l.length + 1)) (was ||| 1 <<< i) i (l ++ [i])) b k (ovTo D n f l (pathC D l) b k) := by
          intro k
          induction k with
          | zero => exact fun _ => ⟨fun _ => rfl, fun h => absurd (fun i hi => absurd hi (by omega)) h⟩
          | succ k ih =>
            intro hk
            have ih := ih (by omega)
            rw [ovTo_succ, hcont]
            cases hb : was.testBit k with
            | true => rw [if_pos rfl]; exact loopO_skip ih (by simp [hb])
            | false =>
              rw [if_neg (by simp)]
              have hni : k ∉ l := fun hm => by rw [← List.contains_iff_mem, hcont, hb] at hm; cases hm
              have hOk : OrdAt D n (pathC D l + D last k + costV D n (was ||| 1 <<< k) k) (l ++ [k]) (was ||| 1 <<< k) k := by
                refine ⟨?_, fun x hx => ?_, by simp, ?_, fun j => ?_, or_lt hO.lt (by omega), ?_, ?_⟩
                · rw [List.nodup_append]
                  exact ⟨hO.nd, by simp, fun a ha b hb e => by simp only [List.mem_singleton] at hb; subst hb; subst e; exact hni ha⟩
                · rcases List.mem_append.1 hx with hx | hx
                  · exact hO.ins x hx
                  · simp only [List.mem_singleton] at hx; subst hx; omega
                · rw [List.length_append, List.length_singleton, Nat.add_sub_cancel, List.getD_eq_getElem?_getD, List.getElem?_append_right (Nat.le_refl _)]; simp
                · rw [or_bit, hO.bit, ← Bool.decide_or, decide_eq_decide]; simp
                · have := zc_or (n := n) (show k < n by omega) hb
                  have := hO.zc
                  rw [List.length_append, List.length_singleton]
                  omega
                · rw [pathC_snoc D hO.pos, ← hO.lst]
              have hnode := ovGo_node hD f (l ++ [k]) (was ||| 1 <<< k) k _ (ovTo D n f l (pathC D l) b k) hOk (by simp; omega) (by omega)
              have hp : pathC D (l ++ [k]) = pathC D l + stepO D l k := by rw [pathC_snoc D hO.pos, hlast, ← hO.lst]
              rw [hp, List.length_append, List.length_singleton] at hnode
              exact loopO_step ih (by simp [hb]) hnode.1 hnode.2
        have hfin := hloop n (Nat.le_refl _)
        have hTi : ∀ i, i < n → was.testBit i = false → T ≤ pathC D l + D last i + costV D n (was ||| 1 <<< i) i := fun i hi hb => by
          have := hle i hi hb
          omega
        constructor
        · intro hbT
          exact hfin.same fun i hi ho => leO_mono hbT (hTi i hi (by simpa using ho))
        · intro hbT
          obtain ⟨j, hj, hoj, hmin, hlt, hbj, e⟩ := hfin.new fun ha => hbT (leO_mono (ha i0 hi0 (by simp [hb0])) (by omega))
          have hbj : was.testBit j = false := by simpa using hoj
          have h1 := hmin i0 hi0 (by simp [hb0])
          have h2 := hTi j hj hbj
          have htj : pathC D l + D last j + costV D n (was ||| 1 <<< j) j = T := by omega
          have hnx : nxtI D n was last = j := by
            refine nxtI_eq hj ?_ fun i hi => ?_
            · unfold nxtP
              rw [hbj, Bool.and_eq_true, beq_iff_eq]
              exact ⟨rfl, by omega⟩
            · unfold nxtP
              cases hbi : was.testBit i with
              | true => rfl
              | false =>
                have := hlt i hi (by simp [hbi])
                rw [Bool.not_false, Bool.true_and, beq_eq_false_iff_ne]
                omega
          rw [e, htj]
          obtain ⟨m, hm⟩ : ∃ m, n - l.length = m + 1 := ⟨n - l.length - 1, by omega⟩
          rw [hm, show n - (l.length + 1) = m by omega]
          show _ = some (goO D n m (was ||| 1 <<< nxtI D n was last) (nxtI D n was last) (l ++ [nxtI D n was last]), T)
          rw [hnx]
theorem fstO_first (D : Nat → Nat → Int) (n : Nat) : ∀ k i, i < fstO D n k → fstO D n k < k → costV D n (1 <<< fstO D n k) (fstO D n k) < costV D n (1 <<< i) i
  | 0, i, h, h2 => absurd h2 (by omega)
  | k + 1, i, h, h2 => by
    unfold fstO at h ⊢
    split at h
    · rename_i hlt
      rw [if_pos hlt]
      have := fstO_le D n k i h
      omega
    · rename_i hlt
      rw [if_neg hlt]
      by_cases hk : fstO D n k < k
      · exact fstO_first D n k i h hk
      · cases k with
        | zero => simp [fstO] at h
        | succ k => exact absurd (fstO_lt D n (k + 1) (by omega)) hk
theorem ov_all {B : Int} (hD : ∀ i j, 0 ≤ D i j ∧ D i j ≤ B) (hn : 0 < n) : ovGo D n (n + 1) [] 0 none = some (goO D n (n - 1) (1 <<< fstO D n n) (fstO D n n) [fstO D n n], costV D n (1 <<< fstO D n n) (fstO D n n)) := by
  rw [ovGo_more (by rintro ⟨l, s, e, _⟩; cases e) (by simp; omega)]
  have hloop : ∀ k, k ≤ n → LoopO (fun _ => true) (fun i => costV D n (1 <<< i) i) (fun i => goO D n (n - 1) (1 <<< i) i [i]) none k (ovTo D n n [] 0 none k) := by
    intro k
    induction k with
    | zero => exact fun _ => ⟨fun _ => rfl, fun h => absurd (fun i hi => absurd hi (by omega)) h⟩
    | succ k ih =>
      intro hk
      have ih := ih (by omega)
      rw [ovTo_succ, if_neg (by simp)]
      have hnode := ovGo_node hD n [k] (1 <<< k) k _ (ovTo D n n [] 0 none k) (ordAt_first D (show k < n by omega)) (by simp; omega) hn
      exact loopO_step ih rfl hnode.1 hnode.2
  obtain ⟨j, hj, _, hmin, hlt, _, e⟩ := (hloop n (Nat.le_refl _)).new fun ha => by
    obtain ⟨l, s, e, _⟩ := ha 0 hn rfl
    cases e
  have hf := fstO_lt D n n hn
  have ej : j = fstO D n n := by
    rcases Nat.lt_trichotomy j (fstO D n n) with h | h | h
    · have h1 := fstO_first D n n j h hf
      have h2 := hmin _ hf rfl
      omega
    · exact h
    · have h1 := fstO_le D n n j hj
      have h2 := hlt _ h rfl
      omega
  rw [e, ej]
end Go.Proofs.YthcldfmlfjomfaaDoor
namespace Go.Proofs.YthcldfmlfjomfaaDoor
end Go.Proofs.YthcldfmlfjomfaaDoor
namespace Go.Proofs.YthcldfmlfjomfaaDoor
def hamK (a b : List UInt8) (k : Nat) : Nat := ((List.range k).filter fun i => !(a.getD i 0 == b.getD i 0)).length
theorem hamK_succ (a b : List UInt8) (k : Nat) : hamK a b (k + 1) = if (a.getD k 0 == b.getD k 0) = true then hamK a b k else hamK a b k + 1 := by
  unfold hamK
  rw [List.range_succ, List.filter_append]
  cases h : a.getD k 0 == b.getD k 0
  · rw [List.filter_cons, if_pos (by rw [h]; rfl)]; simp
  · rw [List.filter_cons, if_neg (by rw [h]; simp)]; simp
theorem hamK_le (a b : List UInt8) (k : Nat) : hamK a b k ≤ k := by
  unfold hamK
  have := List.length_filter_le (fun i => !(a.getD i 0 == b.getD i 0)) (List.range k)
  rwa [List.length_range] at this
theorem hamK_comm (a b : List UInt8) (k : Nat) : hamK a b k = hamK b a k := by
  unfold hamK
  congr 1
  refine List.filter_congr fun i _ => ?_
  congr 1
  rw [Bool.eq_iff_iff, beq_iff_eq, beq_iff_eq]
  exact eq_comm
def dV (v : List (List UInt8)) (i j : Nat) : Int := (hamK (v.getD i []) (v.getD j []) (v.getD i []).length : Nat)
theorem dV_bd {v : List (List UInt8)} {n : Nat} (h : ∀ s ∈ v, s.length = n) (i j : Nat) : 0 ≤ dV v i j ∧ dV v i j ≤ n := by
  have hl : (v.getD i []).length ≤ n := by
    rw [List.getD_eq_getElem?_getD]
    cases e : v[i]? with
    | none => simp
    | some s => simp only [Option.getD_some]; rw [h s (List.mem_of_getElem? e)]; exact Nat.le_refl _
  have := hamK_le (v.getD i []) (v.getD j []) (v.getD i []).length
  unfold dV
  omega
def chgTo (n : Nat) (l : List (List UInt8)) : Nat → Nat
  | 0 => 0
  | k + 1 => chgTo n l k + hamK (l.getD (k + 1) []) (l.getD k []) n
def inOrd (v : List (List UInt8)) (o : List Nat) : List (List UInt8) := o.map fun i => v.getD i []
theorem chg_eq {v : List (List UInt8)} {n : Nat} (h : ∀ s ∈ v, s.length = n) {o : List Nat} (ho : ∀ x ∈ o, x < v.length) : ∀ k, k + 1 ≤ o.length → ((chgTo n (inOrd v o) k : Nat) : Int) = stepsTo (dV v) (fun i => o.getD i 0) k
  | 0, _ => rfl
  | k + 1, hk => by
    have ih := chg_eq h ho k (by omega)
    have hat : ∀ i, i < o.length → (inOrd v o).getD i [] = v.getD (o.getD i 0) [] := fun i hi => by
      unfold inOrd
      rw [List.getD_eq_getElem?_getD, List.getElem?_map, List.getElem?_eq_getElem hi]
      simp only [Option.map_some, Option.getD_some]
      rw [List.getD_eq_getElem?_getD (l := o), List.getElem?_eq_getElem hi]
      rfl
    have hlen : (v.getD (o.getD k 0) []).length = n := by
      have hx := ho (o.getD k 0) (by rw [List.getD_eq_getElem?_getD, List.getElem?_eq_getElem (by omega : k < o.length)]; exact List.getElem_mem _)
      rw [List.getD_eq_getElem?_getD (l := v), List.getElem?_eq_getElem hx]
      exact h _ (List.getElem_mem hx)
    show ((chgTo n (inOrd v o) k + hamK ((inOrd v o).getD (k + 1) []) ((inOrd v o).getD k []) n : Nat) : Int) = stepsTo (dV v) (fun i => o.getD i 0) k + dV v (o.getD k 0) (o.getD (k + 1) 0)
    rw [Int.natCast_add, ih, hat _ (by omega), hat _ (by omega)]
    unfold dV
    rw [hlen, hamK_comm]
theorem chg_given {v : List (List UInt8)} {n : Nat} (h : ∀ s ∈ v, s.length = n) : ∀ k, k + 1 ≤ v.length → ((chgTo n v k : Nat) : Int) = stepsTo (dV v) id k
  | 0, _ => rfl
  | k + 1, hk => by
    have ih := chg_given h k (by omega)
    have hlen : (v.getD k []).length = n := by
      rw [List.getD_eq_getElem?_getD, List.getElem?_eq_getElem (by omega : k < v.length)]
      exact h _ (List.getElem_mem _)
    show ((chgTo n v k + hamK (v.getD (k + 1) []) (v.getD k []) n : Nat) : Int) = stepsTo (dV v) id k + dV v k (k + 1)
    rw [Int.natCast_add, ih]
    unfold dV
    rw [hlen, hamK_comm]
def orderO (v : List (List UInt8)) : List Nat := goO (dV v) v.length (v.length - 1) (1 <<< fstO (dV v) v.length v.length) (fstO (dV v) v.length v.length) [fstO (dV v) v.length v.length]
def sumO (v : List (List UInt8)) : Int := costV (dV v) v.length (1 <<< fstO (dV v) v.length v.length) (fstO (dV v) v.length v.length)
theorem goO_at {D : Nat → Nat → Int} {n : Nat} {T B : Int} (hD : ∀ i j, 0 ≤ D i j ∧ D i j ≤ B) : ∀ (f : Nat) (out : List Nat) (was last : Nat), OrdAt D n T out was last → out.length + f = n → ∃ was' last', OrdAt D n T (goO D n f was last out) was' last' ∧ (goO D n f was last out).length = n
  | 0, out, was, last, h, hl => ⟨was, last, h, by show out.length = n; omega⟩
  | f + 1, out, was, last, h, hl => by
    obtain ⟨i, hi, hp⟩ := h.more hD (by omega)
    have hx : nxtI D n was last < n ∧ nxtP D n was last (nxtI D n was last) = true := by
      unfold nxtI
      cases e : (List.range n).find? fun i => nxtP D n was last i with
      | none => exact absurd hp (by simpa using List.find?_eq_none.1 e i (List.mem_range.2 hi))
      | some j => exact ⟨List.mem_range.1 (List.mem_of_find?_eq_some e), by have := List.find?_some e; exact this⟩
    exact goO_at hD f _ _ _ (h.next hx.1 hx.2) (by rw [List.length_append, List.length_singleton]; omega)
theorem order_facts {v : List (List UInt8)} {n : Nat} (h : ∀ s ∈ v, s.length = n) (h0 : 0 < v.length) : (orderO v).length = v.length ∧ (orderO v).Nodup ∧ (∀ x ∈ orderO v, x < v.length) ∧ ((chgTo n (inOrd v (orderO v)) (v.length - 1) : Nat) : Int) = sumO v ∧ sumO v ≤ (chgTo n v (v.length - 1) : Nat) := by
  have hD := dV_bd h
  have hf := fstO_lt (dV v) v.length v.length h0
  obtain ⟨w, l, hO, hl⟩ := goO_at hD (v.length - 1) _ _ _ (ordAt_first (dV v) hf) (by rw [List.length_singleton]; omega)
  have hO2 : OrdAt (dV v) v.length (sumO v) (orderO v) w l := hO
  have hl2 : (orderO v).length = v.length := hl
  refine ⟨hl2, hO2.nd, hO2.ins, ?_, ?_⟩
  · rw [chg_eq h hO2.ins _ (by omega), ← hO2.done hl2]
    unfold pathC
    rw [hl2]
  · rw [chg_given h _ (by omega)]
    exact order_least hD h0
end Go.Proofs.YthcldfmlfjomfaaDoor
namespace Go.Proofs.YthcldfmlfjomfaaDoor
open Go.RowKit
theorem ofInt_nat64 {k : IntKind} (hk : k.bits = 64) (a : Nat) (ha : a < 4611686018427387904) : (BitVec.ofInt k.bits (a : Int)).toNat = a := by
  rw [BitVec.toNat_ofInt, hk]
  have : ((a : Int) % (2 ^ 64 : Nat)) = a := Int.emod_eq_of_lt (by omega) (by omega)
  rw [this]
  rfl
theorem and_lt62 {a b : Nat} (ha : a < 4611686018427387904) : a &&& b < 4611686018427387904 := Nat.lt_of_le_of_lt Nat.and_le_left ha
theorem or_lt62 {a b : Nat} (ha : a < 4611686018427387904) (hb : b < 4611686018427387904) : a ||| b < 4611686018427387904 := Nat.or_lt_two_pow (n := 62) ha hb
theorem i64_nat {a : Nat} (ha : a < 4611686018427387904) : IntKind.i64.wrap (a : Int) = a := IntWalk.i64_in _ (by omega)
theorem and64 (a b : Nat) (ha : a < 4611686018427387904) (hb : b < 4611686018427387904) : IntKind.i64.wrap (((BitVec.ofInt IntKind.i64.bits (a : Int)) &&& (BitVec.ofInt IntKind.i64.bits (b : Int))).toNat : Int) = ((a &&& b : Nat) : Int) := by
  rw [BitVec.toNat_and, ofInt_nat64 rfl a ha, ofInt_nat64 rfl b hb, i64_nat (and_lt62 ha)]
theorem or64 (a b : Nat) (ha : a < 4611686018427387904) (hb : b < 4611686018427387904) : IntKind.i64.wrap (((BitVec.ofInt IntKind.i64.bits (a : Int)) ||| (BitVec.ofInt IntKind.i64.bits (b : Int))).toNat : Int) = ((a ||| b : Nat) : Int) := by
  rw [BitVec.toNat_or, ofInt_nat64 rfl a ha, ofInt_nat64 rfl b hb, i64_nat (or_lt62 ha hb)]
theorem shl64 (i : Nat) (hi : i < 62) : IntKind.i64.wrap (1 * 2 ^ (min i IntKind.i64.bits)) = ((1 <<< i : Nat) : Int) := by
  have e : min i IntKind.i64.bits = i := Nat.min_eq_left (by show i ≤ 64; omega)
  rw [e, Int.one_mul, Nat.shiftLeft_eq, Nat.one_mul]
  have h : (2 : Nat) ^ i < 4611686018427387904 := Nat.pow_lt_pow_right (a := 2) (by omega) (show i < 62 from hi)
  have := i64_nat h
  push_cast at this ⊢
  exact this
theorem shr64 (a i : Nat) (hi : i < 62) : (a : Int).fdiv (2 ^ (min i IntKind.i64.bits)) = ((a >>> i : Nat) : Int) := by
  have e : min i IntKind.i64.bits = i := Nat.min_eq_left (by show i ≤ 64; omega)
  rw [e, Nat.shiftRight_eq_div_pow, Int.fdiv_eq_ediv_of_nonneg _ (by exact Int.le_of_lt (Int.pow_pos (by omega)))]
  push_cast
  rfl
theorem bit64 (a i : Nat) : ((a >>> i) &&& 1 : Nat) = if a.testBit i = true then 1 else 0 := by
  rw [Nat.and_one_is_mod, Nat.testBit_eq_decide_div_mod_eq, Nat.shiftRight_eq_div_pow]
  rcases Nat.mod_two_eq_zero_or_one (a / 2 ^ i) with h | h <;> simp [h]
theorem unset64 (a i : Nat) (ha : a < 4611686018427387904) (hi : i < 62) : (IntKind.i64.wrap (((BitVec.ofInt IntKind.i64.bits ((a : Int).fdiv (2 ^ (min i IntKind.i64.bits)))) &&& (BitVec.ofInt IntKind.i64.bits 1)).toNat : Int) == 0) = !a.testBit i := by
  rw [shr64 a i hi]
  have h : a >>> i < 4611686018427387904 := by rw [Nat.shiftRight_eq_div_pow]; exact Nat.lt_of_le_of_lt (Nat.div_le_self _ _) ha
  have := and64 (a >>> i) 1 h (by omega)
  rw [show ((1 : Nat) : Int) = 1 from rfl] at this
  rw [this, bit64]
  cases a.testBit i <;> simp
end Go.Proofs.YthcldfmlfjomfaaDoor
namespace Go.Proofs.YthcldfmlfjomfaaDoor
open Go.RowKit
end Go.Proofs.YthcldfmlfjomfaaDoor
namespace Go.Proofs.YthcldfmlfjomfaaDoor
def BOk (n : Nat) (b : BestO) : Prop := ∀ l s, b = some (l, s) → l.length = n ∧ 0 ≤ s ∧ s ≤ 10000
section
variable {D : Nat → Nat → Int} {n : Nat}
theorem stepO_bd (hD : ∀ i j, 0 ≤ D i j ∧ D i j ≤ 100) (l : List Nat) (i : Nat) : 0 ≤ stepO D l i ∧ stepO D l i ≤ 100 := by
  unfold stepO
  split
  · omega
  · exact hD _ _
theorem ovGo_ok (hD : ∀ i j, 0 ≤ D i j ∧ D i j ≤ 100) : ∀ (f : Nat) (l : List Nat) (sum : Int) (b : BestO), 0 ≤ sum → sum + 100 * (f : Int) ≤ 10000 → BOk n b → BOk n (ovGo D n f l sum b)
  | 0, _, _, _, _, _, hb => hb
  | f + 1, l, sum, b, h0, h1, hb => by
    by_cases hc : cutO b sum = true
    · rw [ovGo_cut (cutO_iff.1 hc)]; exact hb
    have hc' : ¬ leO b sum := fun h => hc (cutO_iff.2 h)
    by_cases hn : l.length = n
    · rw [ovGo_full hc' hn]
      intro l' s e
      injection e with e
      injection e with e1 e2
      subst e1; subst e2
      exact ⟨hn, h0, by push_cast at h1; omega⟩
    · rw [ovGo_more hc' hn]
      have : ∀ k, BOk n (ovTo D n f l sum b k) := by
        intro k
        induction k with
        | zero => exact hb
        | succ k ih =>
          rw [ovTo_succ]
          split
          · exact ih
          · have := stepO_bd hD l k
            exact ovGo_ok hD f _ _ _ (by omega) (by push_cast at h1; omega) ih
      exact this n
theorem ovTo_ok (hD : ∀ i j, 0 ≤ D i j ∧ D i j ≤ 100) {f : Nat} {l : List Nat} {sum : Int} {b : BestO} (h0 : 0 ≤ sum) (h1 : sum + 100 * (f : Int) + 100 ≤ 10000) (hb : BOk n b) (k : Nat) : BOk n (ovTo D n f l sum b k) := by
  induction k with
  | zero => exact hb
  | succ k ih =>
    rw [ovTo_succ]
    split
    · exact ih
    · have := stepO_bd hD l k
      exact ovGo_ok hD f _ _ _ (by omega) (by omega) ih
end
end Go.Proofs.YthcldfmlfjomfaaDoor
namespace Go.Proofs.YthcldfmlfjomfaaDoor
open Go.RowKit
end Go.Proofs.YthcldfmlfjomfaaDoor
namespace Go.Proofs.YthcldfmlfjomfaaDoor
open Go.RowKit Go.Sort
end Go.Proofs.YthcldfmlfjomfaaDoor
namespace Go.Proofs.YthcldfmlfjomfaaDoor
open Go.RowKit Go.Sort
end Go.Proofs.YthcldfmlfjomfaaDoor
