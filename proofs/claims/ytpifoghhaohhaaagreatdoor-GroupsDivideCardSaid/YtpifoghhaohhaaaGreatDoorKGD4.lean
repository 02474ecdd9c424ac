/-
  Numbers in some order, plainly. No program stands in this text.
-/
import Derived.Test.YtpifoghhaohhaaaGreatDoorKGD3
import Derived.Shelf.GgSortFunc.RowK
import Derived.Shelf.SlSortCmp.InsertionK
import Derived.Shelf.Sort.Plain
set_option linter.unusedVariables false
set_option linter.unusedSimpArgs false
namespace Go.Proofs.YtpifoghhaohhaaaGreatDoor
def swpL (l : List Int) (i k : Nat) : List Int := (l.set i (l.getD k 0)).set k (l.getD i 0)
theorem swp_len (l : List Int) (i k : Nat) : (swpL l i k).length = l.length := by simp [swpL]
theorem swp_perm {l : List Int} {i k : Nat} (hi : i < l.length) (hk : k < l.length) : (swpL l i k).Perm l := by
  rw [List.perm_iff_count]
  intro a
  unfold swpL
  have e1 : l.getD k 0 = l[k] := by simp [List.getD_eq_getElem?_getD, hk]
  have e2 : l.getD i 0 = l[i] := by simp [List.getD_eq_getElem?_getD, hi]
  rw [e1, e2, List.count_set (by simpa using hk), List.count_set hi, List.getElem_set]
  have h1 : l[i] = a → 0 < l.count a := fun h => List.count_pos_iff.2 (h ▸ List.getElem_mem hi)
  have h2 : l[k] = a → 0 < l.count a := fun h => List.count_pos_iff.2 (h ▸ List.getElem_mem hk)
  by_cases hik : i = k
  · subst hik
    by_cases h : l[i] = a
    · have := h1 h
      simp only [h, beq_self_eq_true, if_true]
      omega
    · simp [h]
  · by_cases ha : l[i] = a <;> by_cases hb : l[k] = a <;> simp [hik, ha, hb] <;> simp_all <;> omega
def ordV (A : List Int) : Nat → Nat → List Int → List Int
  | 0, _, l => l
  | i + 1, p, l => ordV A i (p + 1) (swpL l (i + 1) (nextV A p ((i : Int) + 2)).toNat)
def rngL (n : Nat) : List Int := (List.range n).map Int.ofNat
theorem rng_len (n : Nat) : (rngL n).length = n := by simp [rngL]
theorem rng_succ (n : Nat) : rngL (n + 1) = rngL n ++ [(n : Int)] := by simp [rngL, List.range_succ]
theorem rng_mem {n : Nat} {x : Int} : x ∈ rngL n ↔ 0 ≤ x ∧ x < n := by
  unfold rngL
  rw [List.mem_map]
  constructor
  · rintro ⟨k, hk, rfl⟩
    have := List.mem_range.1 hk
    simp only [Int.ofNat_eq_natCast]
    omega
  · rintro ⟨h0, h1⟩
    exact ⟨x.toNat, List.mem_range.2 (by omega), by simp only [Int.ofNat_eq_natCast]; omega⟩
theorem rng_nodup (n : Nat) : (rngL n).Nodup := by
  unfold rngL
  rw [List.nodup_iff_pairwise_ne, List.pairwise_map]
  exact List.Pairwise.imp (fun h e => h (Int.ofNat.inj e)) List.nodup_range
def orderV (A : List Int) (p n : Nat) : List Int := ordV A (n - 1) p (rngL n)
theorem ord_perm (A : List Int) : ∀ (i p : Nat) (l : List Int), (i = 0 ∨ i < l.length) → (ordV A i p l).Perm l
  | 0, p, l, _ => List.Perm.refl _
  | i + 1, p, l, h => by
    have hb := nextV_bd A p (n := (i : Int) + 2) (by omega)
    have hp := swp_perm (l := l) (i := i + 1) (k := (nextV A p ((i : Int) + 2)).toNat) (by omega) (by omega)
    unfold ordV
    exact (ord_perm A i (p + 1) _ (by rw [swp_len]; omega)).trans hp
theorem order_perm (A : List Int) (p n : Nat) : (orderV A p n).Perm (rngL n) := ord_perm A _ _ _ (by rw [rng_len]; omega)
theorem order_len (A : List Int) (p n : Nat) : (orderV A p n).length = n := (order_perm A p n).length_eq.trans (rng_len n)
end Go.Proofs.YtpifoghhaohhaaaGreatDoor
namespace Go.Proofs.YtpifoghhaohhaaaGreatDoor
open Go.RowKit Go.Sort
theorem putRow_setRow (w : World) (blk off : Nat) (F cur : Array Value) (T : TypeId) (fz : Nat × Nat) (h : w.heap[blk]? = some (.cells cur T fz)) (hsz : off + F.size ≤ cur.size) :
    putRow id w blk off F = w.setRow blk (splice cur.toList off F.toList).toArray := by
  have e : putCells id off F cur = (splice cur.toList off F.toList).toArray := by
    apply Array.ext_getElem?
    intro k
    have h2 := splice_get F.toList cur.toList off k
    have h3 : ((splice cur.toList off F.toList).toArray)[k]? = (splice cur.toList off F.toList)[k]? := by simp
    rw [h3, h2]
    unfold putCells
    rw [Array.getElem?_mapIdx]
    by_cases hk : k < cur.size
    · rw [Array.getElem?_eq_getElem hk]
      simp only [Option.map_some, Array.length_toList]
      by_cases hc : off ≤ k ∧ k < off + F.size
      · rw [if_pos hc, if_pos ⟨hc.1, hc.2, hk⟩, getElem!_pos F (k - off) (by omega), Array.getElem?_toList, Array.getElem?_eq_getElem (by omega)]
        rfl
      · rw [if_neg hc, if_neg (fun hh => hc ⟨hh.1, hh.2.1⟩), Array.getElem?_toList, Array.getElem?_eq_getElem hk]
    · rw [Array.getElem?_eq_none (by omega)]
      simp only [Option.map_none, Array.length_toList]
      rw [if_neg (by omega), Array.getElem?_toList, Array.getElem?_eq_none (by omega)]
  unfold putRow World.setRow
  rw [mapBlock_congr w blk (putCells id off F) (fun _ => (splice cur.toList off F.toList).toArray) (fun c e' fr h' => by
    rw [h] at h'
    injection h' with h'
    injection h' with h1 h2 h3
    subst h1
    exact e)]
  unfold mapBlock
  rfl
end Go.Proofs.YtpifoghhaohhaaaGreatDoor
namespace Go.Proofs.YtpifoghhaohhaaaGreatDoor
open Go.RowKit Go.Sort
def arrSW (T : Nat) (l : List (List UInt8)) : Option ABlk := some (.arr T l.length [.s fun i => l.getD i []])
def flatS (l : List (List UInt8)) : Array Value := (l.map encStr).toArray
theorem flatS_get (l : List (List UInt8)) {i : Nat} (hi : i < l.length) : (flatS l).toList[i]? = some (.string ⟨(l.getD i []).toArray⟩) := by
  simp only [flatS, List.getElem?_map, List.getElem?_eq_getElem hi, Option.map_some, List.getD_eq_getElem?_getD, Option.getD_some]
theorem putRow_flat (w : World) (blk off : Nat) (l : List (List UInt8)) : putRow encStr w blk off l.toArray = putRow id w blk off (flatS l) := by
  unfold putRow
  congr 1
  funext c
  unfold putCells
  apply Array.ext_getElem?
  intro k
  rw [Array.getElem?_mapIdx, Array.getElem?_mapIdx]
  congr 1
  funext x
  have hs : (flatS l).size = l.toArray.size := by simp [flatS]
  rw [hs]
  by_cases h : off ≤ k ∧ k < off + l.toArray.size
  · rw [if_pos h, if_pos h]
    have hk : k - off < l.length := by have := h.2; simp at this; omega
    rw [getElem!_pos _ (k - off) (by simpa using hk), getElem!_pos _ (k - off) (by rw [hs]; simpa using hk)]
    simp [flatS]
  · rw [if_neg h, if_neg h]
theorem acall_sortedS {P : Program} {f : Nat} {fn : Func} {T : Nat} {l l' : List (List UInt8)} (ix nid : Nat) (hf : P.funcs[f]? = some fn) (h1 : (fn.name == "runtime.NumGoroutine") = false) (h2 : fn.body.isNone = false)
    (hT : T ≠ TS) (hpos : 0 < l.length) (hlen : l'.length = l.length)
    (h : ∀ (w : World) (blk off cap : Nat), Holds encStr w blk off l.toArray → blk < w.heap.size → Calls P f #[.slice (some ⟨blk, off, none⟩) l.length cap] w fun e w' => e = .returned (.tuple #[]) ∧ ∃ n os, w' = grow (putRow encStr (Sort.ahead w n) blk off l'.toArray) os) :
    ACall P f [.sl ix 0 l.length] [(ix, arrSW T l)] nid (.tup []) [(ix, arrSW T l')] := by
  intro C vs hb hl hrep hs
  obtain ⟨v0, rfl⟩ : ∃ v0, vs = [v0] := by
    match vs, hl with
    | [a], _ => exact ⟨a, rfl⟩
  have r0 := hrep 0 _ _ rfl rfl
  have hgb : getH [(ix, arrSW T l)] ix = some (.arr T l.length [.s fun i => l.getD i []]) := by simp [getH, arrSW]
  obtain ⟨pl', hm', hbs, hlies⟩ := hs.blk ix _ hgb
  cases r0 with
  | @sl _ _ _ pl A B c cap hm hh hl0 h0 hB hB0 hle hc =>
  rw [hm] at hm'
  injection hm' with hm'
  subst hm'
  obtain ⟨hBA, hcc⟩ := h0 rfl
  have hBv := hB (by omega)
  rw [Nat.zero_mul, Nat.add_zero] at hBv
  have hbs' := hbs
  obtain ⟨xs, cap2, s1, s2, s3, s4, s5, s6, s7⟩ := hbs'
  have hol := s4 hpos
  have hs2 : pl.sz = 1 := s2
  have hcells := s3.cells hol
  have hxl : xs.length = l.length * 1 := s3.1
  have hblt := s3.lt pl.blk hol
  have hFs : (flatS l').toList.length = l.length * 1 := by simp [flatS, hlen]
  obtain ⟨cur, hcur, hcsz, Y', hY', hev⟩ := HSF.setArr nid hs (cols' := [.s fun i => l'.getD i []]) hm hgb hpos 0 (flatS l').toList (by
      intro v hv
      obtain ⟨t, ht, rfl⟩ := List.getElem_of_mem hv
      have ht' : t < l'.length := by rw [hFs] at ht; omega
      have hg := flatS_get l' (i := t) ht'
      rw [List.getElem?_eq_getElem ht] at hg; injection hg with hg; rw [hg]; rfl)
    (by rw [hFs]; simp) rfl
    (by
      intro a k c' ha hk _ _
      have hg := flatS_get l' (i := a) (by omega)
      match k, hk with
      | 0, hk => injection hk with hk; subst hk; exact ⟨_, by simpa using hg, .s⟩)
    (by
      intro a k c' ha hk hn
      exfalso
      apply hn
      rw [hFs]
      have : k < 1 := (List.getElem?_eq_some_iff.1 hk).1
      simp only [List.length_cons, List.length_nil]
      omega)
  have hex := hcur.exact hT
  have hold : Holds encStr C.w0 pl.blk pl.o l.toArray := by
    intro j hj
    have hj' : j < l.length := by simpa using hj
    obtain ⟨v, e1, e2⟩ := s7 j 0 _ hj' rfl
    cases e2
    have key : xs[j]? = some (encStr (l.toArray)[j]!) := by
      rw [getElem!_pos _ j hj]
      have : (l.toArray)[j] = l.getD j [] := by simp [List.getElem?_eq_getElem hj']
      rw [this]
      simpa using e1
    exact ⟨by rw [hcells j _ key], by simp [World.frozen?, hex]⟩
  have hcall := h C.w0 pl.blk pl.o c hold hblt
  refine .inl ⟨fn, hf, h1, h2, ?_⟩
  have hargs : ([Value.slice B l.length c] : List Value).toArray = #[.slice (some ⟨pl.blk, pl.o, none⟩) l.length c] := by
    rw [hBv]
  rw [hargs]
  refine hcall.mono fun e w' ⟨he, n, os, hw⟩ => ⟨_, he, Y', C.m0, .tup rfl (fun i p v hp => by simp at hp), ?_, ?_⟩
  all_goals
    have hgr : (C.w0.setRow pl.blk (splice cur.toList (pl.o + 0) (flatS l').toList).toArray).grownBy w' none := by
      rw [hw, putRow_flat]
      have e1 : putRow id (Sort.ahead C.w0 n) pl.blk pl.o (flatS l') = Sort.ahead (putRow id C.w0 pl.blk pl.o (flatS l')) n := rfl
      rw [e1, putRow_setRow C.w0 pl.blk pl.o _ cur T (0, 0) hex (by rw [Array.length_toList] at hcsz; simpa using hcsz)]
      exact ⟨rfl, rfl, rfl, by simp [grow, Sort.ahead], fun k hk _ => by simp only [grow, Sort.ahead, Nat.add_zero] at hk ⊢; rw [Array.getElem?_append_left hk]⟩
    obtain ⟨q1, q2⟩ := hY'.push (Fr' := fun id => nid + 4 ≤ id) (fun id hid => ⟨by omega, by omega⟩) hgr
  · exact q1.same (fun i => by by_cases hi : ix = i <;> simp [getH, arrSW, hi, hlen])
  · exact hev.trans q2
end Go.Proofs.YtpifoghhaohhaaaGreatDoor
