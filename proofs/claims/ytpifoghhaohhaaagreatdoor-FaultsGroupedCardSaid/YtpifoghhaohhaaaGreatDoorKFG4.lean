/-
  Families of named arrays: names one behind the other, as a part of the heap.
-/
import Derived.Test.YtpifoghhaohhaaaGreatDoorKFG3
set_option linter.unusedVariables false
set_option linter.unusedSimpArgs false
namespace Go.Proofs.YtpifoghhaohhaaaGreatDoor
open Go.RowKit
def famN (F : Nat) (f : Nat → ABlk) : Nat → Heap
  | 0 => []
  | n + 1 => (F + n, some (f n)) :: famN F f n
theorem getH_famN (F : Nat) (f : Nat → ABlk) : ∀ (n i : Nat), getH (famN F f n) i = if F ≤ i ∧ i < F + n then some (f (i - F)) else none
  | 0, i => by rw [if_neg (by omega)]; rfl
  | n + 1, i => by
    simp only [famN, getH]
    by_cases h : F + n = i
    · subst h
      rw [if_pos ⟨by omega, by omega⟩, Nat.add_sub_cancel_left]
      simp
    · have e : (F + n == i) = false := by simpa using h
      rw [e]
      simp only [cond_false]
      rw [getH_famN F f n i]
      by_cases h2 : F ≤ i ∧ i < F + n
      · rw [if_pos h2, if_pos ⟨h2.1, by omega⟩]
      · rw [if_neg h2, if_neg (fun e => h2 ⟨e.1, by omega⟩)]
theorem famN_at {F n k : Nat} (f : Nat → ABlk) (h : k < n) : getH (famN F f n) (F + k) = some (f k) := by
  rw [getH_famN, if_pos ⟨by omega, by omega⟩, Nat.add_sub_cancel_left]
theorem famN_live (F : Nat) (f : Nat → ABlk) : ∀ (n id : Nat), id ∈ liveIds (famN F f n) ↔ F ≤ id ∧ id < F + n
  | 0, id => by simp only [famN, liveIds, List.not_mem_nil, false_iff]; omega
  | n + 1, id => by
    simp only [famN, liveIds, List.mem_cons]
    rw [famN_live F f n id]
    omega
theorem Cov.fam {s1 s2 : Slots} {n1 n2 b : Nat} {H : Heap} (Y : Heap) (F n : Nat) (f : Nat → ABlk) (ren nils : List (Nat × Nat)) (h1 : b ≤ n2) (h2 : inRange b n2 ren = true) (h3 : inRange b n2 nils = true) (h4 : apart ren nils (liveIds Y) = true)
    (h5 : (liveIds Y).all (fun id => decide (id < n2)) = true) (h5' : F + n ≤ n2) (h6 : ∀ j, j < n → nilSz nils (F + j) = none ∧ onBlk (getH H (srcOf ren (F + j))) fun c => BlkCov n2 ren nils c (f j))
    (h7 : HeapCov n2 ren nils H Y) (h8 : ∀ j j', j < n → j' < n → j ≠ j' → srcOf ren (F + j) ≠ srcOf ren (F + j')) (h9 : ∀ id, id ∈ liveIds Y → nilSz nils id = none → ∀ j, j < n → srcOf ren id ≠ srcOf ren (F + j))
    (h10 : SlotsCov n2 ren nils s1 s2) : Cov ⟨s1, H, n1, b⟩ ⟨s2, Y ++ famN F f n, n2, b⟩ := by
  refine Cov.mk ren nils rfl h1 h2 h3 ?_ ?_ ?_ h10
  · show apart ren nils (liveIds (Y ++ famN F f n)) = true
    rw [liveIds_app]
    refine apart_of fun id id' k1 k2 hne n1 n2 => ?_
    rcases List.mem_append.1 k1 with k1 | k1 <;> rcases List.mem_append.1 k2 with k2 | k2
    · exact apart_spec h4 id id' k1 k2 hne n1 n2
    · obtain ⟨a, b⟩ := (famN_live F f n id').1 k2
      have := h9 id k1 n1 (id' - F) (by omega)
      rwa [show F + (id' - F) = id' by omega] at this
    · obtain ⟨a, b⟩ := (famN_live F f n id).1 k1
      have := h9 id' k2 n2 (id - F) (by omega)
      rw [show F + (id - F) = id by omega] at this
      exact this.symm
    · obtain ⟨a, b⟩ := (famN_live F f n id).1 k1
      obtain ⟨a', b'⟩ := (famN_live F f n id').1 k2
      have := h8 (id - F) (id' - F) (by omega) (by omega) (by omega)
      rwa [show F + (id - F) = id by omega, show F + (id' - F) = id' by omega] at this
  · show (liveIds (Y ++ famN F f n)).all _ = true
    rw [liveIds_app, List.all_append, h5, Bool.true_and, List.all_eq_true]
    intro id hid
    obtain ⟨a, b⟩ := (famN_live F f n id).1 hid
    simp only [decide_eq_true_eq]
    omega
  · intro id x hx
    replace hx : getH (Y ++ famN F f n) id = some x := hx
    rw [getH_appC] at hx
    cases hk : (keys Y).contains id
    · rw [hk] at hx
      simp only [cond_false] at hx
      rw [getH_famN] at hx
      split at hx
      · rename_i hr
        injection hx with hx
        subst hx
        obtain ⟨a, c⟩ := h6 (id - F) (by omega)
        rw [show F + (id - F) = id by omega] at a c
        rw [a]
        exact c
      · cases hx
    · rw [hk] at hx
      simp only [cond_true] at hx
      exact HeapCov.get h7 hx
theorem srcOf_off : ∀ {l : List (Nat × Nat)} {id : Nat}, (∀ x ∈ l, x.1 ≠ id) → srcOf l id = id
  | [], id, h => rfl
  | (a, c) :: l, id, h => by
    have : (a == id) = false := by simpa using h (a, c) (by simp)
    simp only [srcOf, this, cond_false]
    exact srcOf_off fun x hx => h x (by simp [hx])
theorem nilSz_off : ∀ {l : List (Nat × Nat)} {id : Nat}, (∀ x ∈ l, x.1 ≠ id) → nilSz l id = none
  | [], id, h => rfl
  | (a, c) :: l, id, h => by
    have : (a == id) = false := by simpa using h (a, c) (by simp)
    simp only [nilSz, this, cond_false]
    exact nilSz_off fun x hx => h x (by simp [hx])
theorem getH_skip : ∀ {Z : Heap} {X : Heap} {id : Nat}, (∀ k ∈ keys Z, k ≠ id) → getH (Z ++ X) id = getH X id
  | [], X, id, h => rfl
  | (a, c) :: Z, X, id, h => by
    have : (a == id) = false := by simpa using h a (by simp [keys])
    simp only [List.cons_append, getH, this, cond_false]
    exact getH_skip fun k hk => h k (by simp only [keys, List.map_cons, List.mem_cons] at hk ⊢; exact .inr hk)
theorem getH_ne {k : Nat} {c : Option ABlk} {H : Heap} {id : Nat} (h : k ≠ id) : getH ((k, c) :: H) id = getH H id := by
  have : (k == id) = false := by simpa using h
  simp only [getH, this, cond_false]
theorem Cov.famSet {s1 s2 : Slots} {n1 n2 b : Nat} (Z Y : Heap) (F m m' k d : Nat) (f f' : Nat → ABlk) (ren0 nils : List (Nat × Nat)) (c : ABlk) (h1 : b ≤ n2) (h2 : inRange b n2 ((F + k, d) :: ren0) = true) (h3 : inRange b n2 nils = true)
    (h4 : apart ((F + k, d) :: ren0) nils (liveIds Y) = true) (h5 : (liveIds Y).all (fun id => decide (id < n2)) = true) (h5' : F + m' ≤ n2) (hk : k < m') (hZ : ∀ id ∈ keys Z, id = F + k ∨ id < F ∨ F + m' ≤ id)
    (hr : ∀ x ∈ ren0, x.1 < F ∨ F + m' ≤ x.1) (hn : ∀ x ∈ nils, x.1 < F ∨ F + m' ≤ x.1) (hd : getH Z d = some c) (hdF : d < F ∨ F + m' ≤ d) (hc : BlkCov n2 ((F + k, d) :: ren0) nils c (f' k))
    (hf : ∀ j, j < m' → j ≠ k → j < m ∧ BlkCov n2 ((F + k, d) :: ren0) nils (f j) (f' j)) (h7 : HeapCov n2 ((F + k, d) :: ren0) nils (Z ++ famN F f m) Y)
    (hY : ∀ id ∈ liveIds Y, nilSz nils id = none → srcOf ((F + k, d) :: ren0) id ≠ d ∧ (srcOf ((F + k, d) :: ren0) id < F ∨ F + m' ≤ srcOf ((F + k, d) :: ren0) id)) (h10 : SlotsCov n2 ((F + k, d) :: ren0) nils s1 s2) :
    Cov ⟨s1, Z ++ famN F f m, n1, b⟩ ⟨s2, Y ++ famN F f' m', n2, b⟩ := by
  have src : ∀ j, j < m' → srcOf ((F + k, d) :: ren0) (F + j) = if j = k then d else F + j := fun j hj => by
    by_cases e : j = k
    · subst e; rw [if_pos rfl]; simp [srcOf]
    · rw [if_neg e]
      have : (F + k == F + j) = false := by simp; omega
      simp only [srcOf, this, cond_false]
      exact srcOf_off fun x hx => by have := hr x hx; omega
  refine Cov.fam Y F m' f' _ nils h1 h2 h3 h4 h5 h5' (fun j hj => ⟨nilSz_off fun x hx => by have := hn x hx; omega, ?_⟩) h7 (fun j j' hj hj' hne => ?_) (fun id hid hnl j hj => ?_) h10
  · rw [src j hj]
    by_cases e : j = k
    · subst e
      rw [if_pos rfl, getH_appC, getH_key hd]
      simp only [cond_true]
      rw [hd]
      exact hc
    · rw [if_neg e]
      obtain ⟨a, q⟩ := hf j hj e
      rw [getH_skip (fun i hi => by have := hZ i hi; omega), famN_at f a]
      exact q
  · rw [src j hj, src j' hj']
    split <;> split <;> omega
  · obtain ⟨a, q⟩ := hY id hid hnl
    rw [src j hj]
    split
    · exact a
    · omega
theorem Cov.famSet' {s1 s2 : Slots} {n1 n2 b : Nat} (Z Y : Heap) (F m m' k d : Nat) (f f' : Nat → ABlk) (ren ren0 nils : List (Nat × Nat)) (hren : ren = (F + k, d) :: ren0) (c : ABlk) (h1 : b ≤ n2) (h2 : inRange b n2 ren = true) (h3 : inRange b n2 nils = true)
    (h4 : apart ren nils (liveIds Y) = true) (h5 : (liveIds Y).all (fun id => decide (id < n2)) = true) (h5' : F + m' ≤ n2) (hk : k < m') (hZ : ∀ id ∈ keys Z, id = F + k ∨ id < F ∨ F + m' ≤ id)
    (hr : ∀ x ∈ ren0, x.1 < F ∨ F + m' ≤ x.1) (hn : ∀ x ∈ nils, x.1 < F ∨ F + m' ≤ x.1) (hd : getH Z d = some c) (hdF : d < F ∨ F + m' ≤ d) (hc : BlkCov n2 ren nils c (f' k))
    (hf : ∀ j, j < m' → j ≠ k → j < m ∧ BlkCov n2 ren nils (f j) (f' j)) (h7 : HeapCov n2 ren nils (Z ++ famN F f m) Y)
    (hY : ∀ id ∈ liveIds Y, nilSz nils id = none → srcOf ren id ≠ d ∧ (srcOf ren id < F ∨ F + m' ≤ srcOf ren id)) (h10 : SlotsCov n2 ren nils s1 s2) :
    Cov ⟨s1, Z ++ famN F f m, n1, b⟩ ⟨s2, Y ++ famN F f' m', n2, b⟩ := by
  subst hren
  exact Cov.famSet Z Y F m m' k d f f' ren0 nils c h1 h2 h3 h4 h5 h5' hk hZ hr hn hd hdF hc hf h7 hY h10
theorem Cov.famSame {s1 s2 : Slots} {n1 n2 b : Nat} (Z Y : Heap) (F m : Nat) (f : Nat → ABlk) (ren nils : List (Nat × Nat)) (hZ : ∀ id ∈ keys Z, id < F ∨ F + m ≤ id) (hr : ∀ x ∈ ren, x.1 < F ∨ F + m ≤ x.1) (hn : ∀ x ∈ nils, x.1 < F ∨ F + m ≤ x.1)
    (hs : ∀ j, j < m → BlkCov n2 ren nils (f j) (f j)) (hY : ∀ id ∈ liveIds Y, nilSz nils id = none → srcOf ren id < F ∨ F + m ≤ srcOf ren id) (hF : F + m ≤ n2)
    (h : b ≤ n2 ∧ inRange b n2 ren = true ∧ inRange b n2 nils = true ∧ apart ren nils (liveIds Y) = true ∧ (liveIds Y).all (fun id => decide (id < n2)) = true ∧ HeapCov n2 ren nils (Z ++ famN F f m) Y ∧ SlotsCov n2 ren nils s1 s2) :
    Cov ⟨s1, Z ++ famN F f m, n1, b⟩ ⟨s2, Y ++ famN F f m, n2, b⟩ := by
  have src : ∀ j, j < m → srcOf ren (F + j) = F + j := fun j hj => srcOf_off fun x hx => by have := hr x hx; omega
  refine Cov.fam Y F m f ren nils h.1 h.2.1 h.2.2.1 h.2.2.2.1 h.2.2.2.2.1 hF (fun j hj => ⟨nilSz_off fun x hx => by have := hn x hx; omega, ?_⟩) h.2.2.2.2.2.1 (fun j j' hj hj' hne => ?_) (fun id hid hnl j hj => ?_) h.2.2.2.2.2.2
  · rw [src j hj, getH_skip (fun i hi => by have := hZ i hi; omega), famN_at f hj]
    exact hs j hj
  · rw [src j hj, src j' hj']; omega
  · rw [src j hj]
    have := hY id hid hnl
    omega
end Go.Proofs.YtpifoghhaohhaaaGreatDoor
namespace Go.Proofs.YtpifoghhaohhaaaGreatDoor
section
variable (K N : Nat → List UInt8)
def newK (i : Nat) : Bool := (List.range i).all fun j => !(K j == K i)
def fsts (n : Nat) : List Nat := (List.range n).filter (newK K)
def grpAt (n f : Nat) : List (List UInt8) := ((List.range n).filter fun j => K j == K f).map N
def grps (n : Nat) : List (List (List UInt8)) := (fsts K n).map fun f => grpAt K N n f
end
variable {K N : Nat → List UInt8}
theorem fsts_lt {n f : Nat} (h : f ∈ fsts K n) : f < n := List.mem_range.1 (List.mem_filter.1 h).1
theorem fsts_len (n : Nat) : (fsts K n).length ≤ n := by
  have := List.length_filter_le (newK K) (List.range n)
  rw [List.length_range] at this
  exact this
theorem fsts_new {i : Nat} (h : newK K i = true) : fsts K (i + 1) = fsts K i ++ [i] := by
  unfold fsts
  rw [List.range_succ, List.filter_append]
  simp [h]
theorem fsts_old {i : Nat} (h : newK K i = false) : fsts K (i + 1) = fsts K i := by
  unfold fsts
  rw [List.range_succ, List.filter_append]
  simp [h]
theorem newK_ne {i j : Nat} (h : newK K i = true) (hj : j < i) : K j ≠ K i := by
  have := List.all_eq_true.1 h j (List.mem_range.2 hj)
  simpa using this
theorem grpAt_ne {i f : Nat} (h : K i ≠ K f) : grpAt K N (i + 1) f = grpAt K N i f := by
  unfold grpAt
  rw [List.range_succ, List.filter_append]
  simp [h]
theorem grpAt_eq {i f : Nat} (h : K i = K f) : grpAt K N (i + 1) f = grpAt K N i f ++ [N i] := by
  unfold grpAt
  rw [List.range_succ, List.filter_append, List.map_append]
  simp [h]
theorem grpAt_none {i : Nat} (h : newK K i = true) : grpAt K N i i = [] := by
  unfold grpAt
  rw [List.map_eq_nil_iff, List.filter_eq_nil_iff]
  intro j hj
  have := newK_ne h (List.mem_range.1 hj)
  simpa using this
theorem fsts_has : ∀ (n j : Nat), j < n → ∃ f ∈ fsts K n, K f = K j
  | 0, j, h => by omega
  | n + 1, j, h => by
    cases hn : newK K n
    · rw [fsts_old hn]
      rcases (by omega : j < n ∨ j = n) with hj | hj
      · exact fsts_has n j hj
      · subst hj
        have : ∃ k ∈ List.range j, ¬ (!(K k == K j)) = true := by
          unfold newK at hn
          have := List.all_eq_false.1 hn
          exact this
        obtain ⟨k, hk, he⟩ := this
        have he : K k = K j := by simpa using he
        obtain ⟨f, hf, e⟩ := fsts_has j k (List.mem_range.1 hk)
        exact ⟨f, hf, e.trans he⟩
    · rw [fsts_new hn]
      rcases (by omega : j < n ∨ j = n) with hj | hj
      · obtain ⟨f, hf, e⟩ := fsts_has n j hj
        exact ⟨f, by simp [hf], e⟩
      · exact ⟨n, by simp, by rw [hj]⟩
theorem fsts_inj {n f g : Nat} (hf : f ∈ fsts K n) (hg : g ∈ fsts K n) (e : K f = K g) : f = g := by
  have h1 := (List.mem_filter.1 hf).2
  have h2 := (List.mem_filter.1 hg).2
  rcases Nat.lt_trichotomy f g with h | h | h
  · exact absurd e (newK_ne h2 h)
  · exact h
  · exact absurd e.symm (newK_ne h1 h)
theorem fsts_nodup (n : Nat) : (fsts K n).Nodup := List.Nodup.sublist List.filter_sublist List.nodup_range
def posK (K : Nat → List UInt8) (n : Nat) (s : List UInt8) : Nat := (fsts K n).findIdx fun f => K f == s
theorem posK_lt {n j : Nat} (hj : j < n) : posK K n (K j) < (fsts K n).length := by
  obtain ⟨f, hf, e⟩ := fsts_has (K := K) n j hj
  exact List.findIdx_lt_length_of_exists ⟨f, hf, by simp [e]⟩
theorem posK_at {n : Nat} {s : List UInt8} (h : posK K n s < (fsts K n).length) : K ((fsts K n).getD (posK K n s) 0) = s := by
  have := List.findIdx_getElem (p := fun f => K f == s) (xs := fsts K n) (w := h)
  rw [List.getD_eq_getElem?_getD, List.getElem?_eq_getElem h]
  exact beq_iff_eq.1 this
theorem posK_new {i : Nat} (h : newK K i = true) (s : List UInt8) : posK K (i + 1) s = if (∃ j, j < i ∧ K j = s) then posK K i s else if K i = s then (fsts K i).length else (fsts K i).length + 1 := by
  unfold posK
  rw [fsts_new h, List.findIdx_append]
  by_cases hs : ∃ j, j < i ∧ K j = s
  · obtain ⟨j, hj, rfl⟩ := hs
    have := posK_lt (K := K) hj
    unfold posK at this
    rw [if_pos this, if_pos ⟨j, hj, rfl⟩]
  · have h1 : ¬ (fsts K i).findIdx (fun f => K f == s) < (fsts K i).length := by
      intro h1
      have h2 := List.findIdx_getElem (w := h1)
      exact hs ⟨_, fsts_lt (List.getElem_mem h1), by simpa using h2⟩
    rw [if_neg h1, if_neg hs]
    by_cases e : K i = s
    · rw [if_pos e]; simp [List.findIdx_cons, e]
    · have e' : (K i == s) = false := by simpa using e
      rw [if_neg e]; simp [List.findIdx_cons, e', Nat.add_comm]
theorem new_iff {i : Nat} : newK K i = false ↔ ∃ j, j < i ∧ K j = K i := by
  unfold newK
  rw [List.all_eq_false]
  constructor
  · rintro ⟨k, hk, he⟩
    exact ⟨k, List.mem_range.1 hk, by simpa using he⟩
  · rintro ⟨k, hk, he⟩
    exact ⟨k, List.mem_range.2 hk, by simp [he]⟩
theorem grps_len (n : Nat) : (grps K N n).length = (fsts K n).length := by simp [grps]
theorem grps_get {n p : Nat} (hp : p < (fsts K n).length) : (grps K N n).getD p [] = grpAt K N n ((fsts K n).getD p 0) := by
  unfold grps
  rw [List.getD_eq_getElem?_getD, List.getElem?_map, List.getElem?_eq_getElem hp, List.getD_eq_getElem?_getD, List.getElem?_eq_getElem hp]
  rfl
theorem fsts_mem {n p : Nat} (hp : p < (fsts K n).length) : (fsts K n).getD p 0 ∈ fsts K n := by
  rw [List.getD_eq_getElem?_getD, List.getElem?_eq_getElem hp]
  exact List.getElem_mem hp
theorem fsts_pos {n p q : Nat} (hp : p < (fsts K n).length) (hq : q < (fsts K n).length) (e : K ((fsts K n).getD p 0) = K ((fsts K n).getD q 0)) : p = q := by
  have h := fsts_inj (fsts_mem hp) (fsts_mem hq) e
  rw [List.getD_eq_getElem?_getD, List.getElem?_eq_getElem hp, List.getD_eq_getElem?_getD, List.getElem?_eq_getElem hq] at h
  simp only [Option.getD_some] at h
  rcases Nat.lt_trichotomy p q with h1 | h1 | h1
  · exact absurd h (List.pairwise_iff_getElem.1 (fsts_nodup n) p q hp hq h1)
  · exact h1
  · exact absurd h.symm (List.pairwise_iff_getElem.1 (fsts_nodup n) q p hq hp h1)
theorem grps_old {i : Nat} (h : newK K i = false) {p : Nat} (hp : p < (fsts K i).length) : (grps K N (i + 1)).getD p [] = if p = posK K i (K i) then (grps K N i).getD p [] ++ [N i] else (grps K N i).getD p [] := by
  obtain ⟨j, hj, e⟩ := new_iff.1 h
  have hq : posK K i (K i) < (fsts K i).length := by rw [← e]; exact posK_lt hj
  have hk := posK_at hq
  rw [grps_get (by rw [fsts_old h]; exact hp), grps_get hp, fsts_old h]
  by_cases hpq : p = posK K i (K i)
  · rw [if_pos hpq]
    subst hpq
    exact grpAt_eq hk.symm
  · rw [if_neg hpq]
    refine grpAt_ne fun e2 => hpq (fsts_pos hp hq ?_)
    rw [hk, e2]
theorem grps_new {i : Nat} (h : newK K i = true) : grps K N (i + 1) = grps K N i ++ [[N i]] := by
  unfold grps
  rw [fsts_new h, List.map_append]
  congr 1
  · refine List.map_congr_left fun f hf => grpAt_ne fun e => newK_ne h (fsts_lt hf) e.symm
  · simp only [List.map_cons, List.map_nil, grpAt_eq rfl, grpAt_none h, List.nil_append]
theorem grps_full (n : Nat) : ∀ g ∈ grps K N n, g ≠ [] := by
  intro g hg
  unfold grps at hg
  obtain ⟨f, hf, rfl⟩ := List.mem_map.1 hg
  unfold grpAt
  rw [Ne, List.map_eq_nil_iff, List.filter_eq_nil_iff]
  intro h
  exact h f (List.mem_range.2 (fsts_lt hf)) (by simp)
theorem grps_short (n p : Nat) : ((grps K N n).getD p []).length ≤ n := by
  by_cases hp : p < (fsts K n).length
  · rw [grps_get hp]
    unfold grpAt
    rw [List.length_map]
    have := List.length_filter_le (fun j => K j == K ((fsts K n).getD p 0)) (List.range n)
    rwa [List.length_range] at this
  · rw [List.getD_eq_getElem?_getD, List.getElem?_eq_none (by rw [grps_len]; omega)]
    simp
def toldV (L : List (List UInt8)) (T : List Int) : List UInt8 := joinW (T.map fun t => L.getD t.toNat [])
theorem told_eq {A B : List (List UInt8)} {T : List Int} (hA : ∀ t ∈ T, (32 : UInt8) ∉ A.getD t.toNat []) (hB : ∀ t ∈ T, (32 : UInt8) ∉ B.getD t.toNat []) : toldV A T = toldV B T ↔ ∀ t ∈ T, A.getD t.toNat [] = B.getD t.toNat [] := by
  constructor
  · intro h
    cases T with
    | nil => intro t ht; cases ht
    | cons a T =>
      have h2 := congrArg wrd h
      unfold toldV at h2
      rw [wrd_join _ (by simp) (fun x hx => by obtain ⟨t, ht, rfl⟩ := List.mem_map.1 hx; exact hA t ht), wrd_join _ (by simp) (fun x hx => by obtain ⟨t, ht, rfl⟩ := List.mem_map.1 hx; exact hB t ht)] at h2
      exact List.map_inj_left.1 h2
  · intro h
    unfold toldV
    congr 1
    exact List.map_congr_left h
end Go.Proofs.YtpifoghhaohhaaaGreatDoor
namespace Go.Proofs.YtpifoghhaohhaaaGreatDoor
def swpL (l : List Int) (i k : Nat) : List Int := (l.set i (l.getD k 0)).set k (l.getD i 0)
theorem swp_len (l : List Int) (i k : Nat) : (swpL l i k).length = l.length := by simp [swpL]
theorem swp_perm {l : List Int} {i k : Nat} (hi : i < l.length) (hk : k < l.length) : (swpL l i k).Perm l := by
  rw [List.perm_iff_count]
  intro a
  unfold swpL
  have e1 : l.getD k 0 = l[k] := by simp [List.getD_eq_getElem?_getD, hk]
  have e2 : l.getD i 0 = l[i] := by simp [List.getD_eq_getElem?_getD, hi]
  rw [e1, e2, List.count_set (by simpa using hk), List.count_set hi, List.getElem_set]
  have h1 : l[i] = a → 0 < l.count a := fun h => List.count_pos_iff.2 (h ▸ List.getElem_mem hi)
  have h2 : l[k] = a → 0 < l.count a := fun h => List.count_pos_iff.2 (h ▸ List.getElem_mem hk)
  by_cases hik : i = k
  · subst hik
    by_cases h : l[i] = a
    · have := h1 h
      simp only [h, beq_self_eq_true, if_true]
      omega
    · simp [h]
  · by_cases ha : l[i] = a <;> by_cases hb : l[k] = a <;> simp [hik, ha, hb] <;> simp_all <;> omega
def ordV (A : List Int) : Nat → Nat → List Int → List Int
  | 0, _, l => l
  | i + 1, p, l => ordV A i (p + 1) (swpL l (i + 1) (nextV A p ((i : Int) + 2)).toNat)
def rngL (n : Nat) : List Int := (List.range n).map Int.ofNat
theorem rng_len (n : Nat) : (rngL n).length = n := by simp [rngL]
theorem rng_succ (n : Nat) : rngL (n + 1) = rngL n ++ [(n : Int)] := by simp [rngL, List.range_succ]
def orderV (A : List Int) (p n : Nat) : List Int := ordV A (n - 1) p (rngL n)
theorem ord_perm (A : List Int) : ∀ (i p : Nat) (l : List Int), (i = 0 ∨ i < l.length) → (ordV A i p l).Perm l
  | 0, p, l, _ => List.Perm.refl _
  | i + 1, p, l, h => by
    have hb := nextV_bd A p (n := (i : Int) + 2) (by omega)
    have hp := swp_perm (l := l) (i := i + 1) (k := (nextV A p ((i : Int) + 2)).toNat) (by omega) (by omega)
    unfold ordV
    exact (ord_perm A i (p + 1) _ (by rw [swp_len]; omega)).trans hp
theorem order_perm (A : List Int) (p n : Nat) : (orderV A p n).Perm (rngL n) := ord_perm A _ _ _ (by rw [rng_len]; omega)
theorem order_len (A : List Int) (p n : Nat) : (orderV A p n).length = n := (order_perm A p n).length_eq.trans (rng_len n)
end Go.Proofs.YtpifoghhaohhaaaGreatDoor
