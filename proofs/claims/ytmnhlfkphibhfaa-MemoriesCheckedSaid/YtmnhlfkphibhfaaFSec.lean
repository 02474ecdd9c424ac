/-
  Sectors of a memory as plain functions: the sector of an address, its window, words erased, operations applied. No program stands in this text.
-/
import Derived.Test.YtmnhlfkphibhfaaFOps
namespace Go.Proofs.Ytmnhlfkphibhfaa

/-- the words of the first k sectors -/
def pre (l : List Int) (k : Nat) : Int := sumI (l.take k)
theorem pre_succ {l : List Int} {k : Nat} {x : Int} (h : l[k]? = some x) : pre l (k + 1) = pre l k + x := by unfold pre; rw [take_snoc h, sumI_snoc]
theorem pre_zero (l : List Int) : pre l 0 = 0 := rfl
theorem pre_all (l : List Int) : pre l l.length = sumI l := by unfold pre; rw [List.take_length]
theorem pre_mono {l : List Int} (hv : Within 1 4096 l) {j k : Nat} (h : j ≤ k) : pre l j ≤ pre l k := by
  induction k with
  | zero =>
    obtain rfl : j = 0 := by omega
    exact Int.le_refl _
  | succ k ih =>
    rcases Nat.lt_or_ge j (k + 1) with hj | hj
    · refine Int.le_trans (ih (by omega)) ?_
      rcases Nat.lt_or_ge k l.length with hk | hk
      · obtain ⟨x, hx⟩ := get_some l hk
        have := hv.get hx
        rw [pre_succ hx]; omega
      · unfold pre; rw [List.take_of_length_le hk, List.take_of_length_le (by omega)]; exact Int.le_refl _
    · obtain rfl : j = k + 1 := by omega
      exact Int.le_refl _
theorem pre_bd {l : List Int} (hv : Within 1 4096 l) (hn : l.length ≤ 20) (k : Nat) : 0 ≤ pre l k ∧ pre l k ≤ 81920 := by
  have h := sumI_bd (l.take k) (hv.take k)
  have : (l.take k).length ≤ 20 := by rw [List.length_take]; omega
  unfold pre
  omega
theorem pre_le {l : List Int} (hv : Within 1 4096 l) (k : Nat) : pre l k ≤ sumI l := by
  rcases Nat.le_total k l.length with h | h
  · rw [← pre_all]; exact pre_mono hv h
  · unfold pre; rw [List.take_of_length_le h]; exact Int.le_refl _
/-- s is the sector of address a -/
def IsSec (l : List Int) (a : Int) (s : Nat) : Prop := s < l.length ∧ pre l s ≤ a ∧ a < pre l (s + 1)
theorem isSec_unique {l : List Int} (hv : Within 1 4096 l) {a : Int} {s t : Nat} (h : IsSec l a s) (k : IsSec l a t) : s = t := by
  rcases Nat.lt_trichotomy s t with hl | rfl | hl
  · have := pre_mono hv (show s + 1 ≤ t from hl)
    have := h.2.2; have := k.2.1
    omega
  · rfl
  · have := pre_mono hv (show t + 1 ≤ s from hl)
    have := k.2.2; have := h.2.1
    omega
/-- the sector of an address, looked for among the first k -/
def secGo (l : List Int) (a : Int) : Nat → Nat
  | 0 => 0
  | k + 1 => if a < pre l k then secGo l a k else k
def secOf (l : List Int) (a : Int) : Nat := secGo l a l.length
theorem secGo_spec (l : List Int) (a : Int) (h0 : 0 ≤ a) : ∀ k, k ≤ l.length → 0 < k → a < pre l k → secGo l a k < k ∧ pre l (secGo l a k) ≤ a ∧ a < pre l (secGo l a k + 1) := by
  intro k
  induction k with
  | zero => intro _ h; omega
  | succ k ih =>
    intro hk _ ha
    unfold secGo
    split
    · rename_i h1
      rcases Nat.eq_zero_or_pos k with rfl | hp
      · rw [pre_zero] at h1; omega
      · have := ih (by omega) hp h1
        omega
    · exact ⟨by omega, by omega, ha⟩
theorem secOf_is {l : List Int} {a : Int} (h0 : 0 ≤ a) (h1 : a < sumI l) : IsSec l a (secOf l a) := by
  have hp : 0 < l.length := by
    rcases Nat.eq_zero_or_pos l.length with h | h
    · have := List.eq_nil_of_length_eq_zero h
      subst this
      simp [sumI] at h1; omega
    · exact h
  have := secGo_spec l a h0 l.length (Nat.le_refl _) hp (by rw [pre_all]; exact h1)
  exact ⟨this.1, this.2.1, this.2.2⟩
theorem secOf_eq {l : List Int} (hv : Within 1 4096 l) {a : Int} (h0 : 0 ≤ a) {s : Nat} (h : IsSec l a s) : secOf l a = s := by
  have h1 : a < sumI l := by have := h.2.2; have := pre_le hv (s + 1); omega
  exact isSec_unique hv (secOf_is h0 h1) h
/-- there is such an address -/
def isAddr (l : List Int) (a : Int) : Bool := !outB a 0 (sumI l - 1)
/-- words with sector s erased -/
def eraseV (l : List Int) (ws : List Int) (s : Nat) : List Int := ws.mapIdx fun i x => if pre l s ≤ i ∧ (i : Int) < pre l (s + 1) then 65535 else x
theorem eraseV_len (l ws : List Int) (s : Nat) : (eraseV l ws s).length = ws.length := by simp [eraseV]
theorem eraseV_get (l ws : List Int) (s : Nat) {i : Nat} {x : Int} (h : ws[i]? = some x) : (eraseV l ws s)[i]? = some (if pre l s ≤ i ∧ (i : Int) < pre l (s + 1) then 65535 else x) := by
  simp [eraseV, List.getElem?_mapIdx, h]
theorem eraseV_within {l ws : List Int} {s : Nat} (h : Within 0 65535 ws) : Within 0 65535 (eraseV l ws s) := by
  intro x hx
  obtain ⟨i, hi, rfl⟩ := List.mem_mapIdx.1 hx
  have := h _ (List.getElem_mem hi)
  split <;> omega
/-- the bits that both have -/
def andI (a b : Int) : Int := ((a.toNat &&& b.toNat : Nat) : Int)
theorem andI_bd {a b : Int} (ha : 0 ≤ a ∧ a ≤ 65535) : 0 ≤ andI a b ∧ andI a b ≤ 65535 := by
  have := Nat.and_le_left (n := a.toNat) (m := b.toNat)
  unfold andI
  omega
def opV (l : List Int) (ws : List Int) (x : FOp) : List Int :=
  if x.k = 1 then eraseV l ws x.a.toNat else ws.set x.a.toNat (andI (ws.getD x.a.toNat 0) x.v)
def applyV (l : List Int) (ws : List Int) : List FOp → List Int
  | [] => ws
  | x :: r => applyV l (opV l ws x) r
theorem applyV_snoc (l ws : List Int) (r : List FOp) (x : FOp) : applyV l ws (r ++ [x]) = opV l (applyV l ws r) x := by
  induction r generalizing ws with
  | nil => rfl
  | cons y r ih => exact ih (opV l ws y)
theorem opV_len (l ws : List Int) (x : FOp) : (opV l ws x).length = ws.length := by unfold opV; split <;> simp [eraseV_len]
theorem applyV_len (l ws : List Int) (r : List FOp) : (applyV l ws r).length = ws.length := by
  induction r generalizing ws with
  | nil => rfl
  | cons y r ih => exact (ih (opV l ws y)).trans (opV_len l ws y)
theorem getD_within {ws : List Int} (h : Within 0 65535 ws) (i : Nat) : 0 ≤ ws.getD i 0 ∧ ws.getD i 0 ≤ 65535 := by
  rw [List.getD_eq_getElem?_getD]
  cases hg : ws[i]? with
  | none => simp
  | some y => exact h y (mem_of_get hg)
theorem opV_within {l ws : List Int} {x : FOp} (h : Within 0 65535 ws) : Within 0 65535 (opV l ws x) := by
  unfold opV
  split
  · exact eraseV_within h
  · intro y hy
    rcases List.mem_or_eq_of_mem_set hy with h1 | h1
    · exact h y h1
    · subst h1; exact andI_bd (getD_within h _)
theorem applyV_within {l ws : List Int} {r : List FOp} (h : Within 0 65535 ws) : Within 0 65535 (applyV l ws r) := by
  induction r generalizing ws with
  | nil => exact h
  | cons y r ih => exact ih (opV_within h)
theorem within_of_imageFault {l ws : List Int} (h : imageFault l ws = 0) : (ws.length : Int) = sumI l ∧ Within 0 65535 ws := by
  unfold imageFault at h
  split at h
  · contradiction
  · refine ⟨by omega, fun x hx => ?_⟩
    have := firstBad_all h x hx
    simp only [wordBad, outB, decide_eq_true_eq] at this
    split at this
    · contradiction
    · omega
/-- an operation that is right -/
structure OpOk (l : List Int) (x : FOp) : Prop where
  kind : x.k = 1 ∨ x.k = 2
  er : x.k = 1 → 0 ≤ x.a ∧ x.a < l.length
  pr : x.k = 2 → 0 ≤ x.a ∧ x.a < sumI l ∧ 0 ≤ x.v ∧ x.v ≤ 65535
theorem ok_of_opsFault {l : List Int} {xs : List FOp} (h : opsFault l xs = 0) : xs.length ≤ 50000 ∧ ∀ x ∈ xs, OpOk l x := by
  unfold opsFault at h
  split at h
  · contradiction
  · refine ⟨by omega, fun x hx => ?_⟩
    have := firstBad_all h x hx
    simp only [opFault, outB, decide_eq_true_eq] at this
    split at this
    · rename_i h1
      split at this
      · contradiction
      · exact ⟨.inl h1, fun _ => by omega, fun h2 => by omega⟩
    · split at this
      · rename_i h1 h2
        split at this
        · contradiction
        · split at this
          · contradiction
          · exact ⟨.inr h2, fun h3 => by omega, fun _ => by omega⟩
      · contradiction

/-- words with those from a on and before b erased -/
def eraseTo (ws : List Int) (a b : Int) : List Int := ws.mapIdx fun i x => if a ≤ i ∧ (i : Int) < b then 65535 else x
theorem eraseV_to (l ws : List Int) (s : Nat) : eraseV l ws s = eraseTo ws (pre l s) (pre l (s + 1)) := rfl
theorem eraseTo_len (ws : List Int) (a b : Int) : (eraseTo ws a b).length = ws.length := by simp [eraseTo]
theorem eraseTo_same (ws : List Int) (a : Int) : eraseTo ws a a = ws := by
  apply List.ext_getElem?
  intro i
  simp only [eraseTo, List.getElem?_mapIdx]
  cases ws[i]? with
  | none => rfl
  | some x => simp only [Option.map_some]; rw [if_neg (by omega)]
theorem eraseTo_step (ws : List Int) (a : Int) (j : Nat) (h : a ≤ j) : eraseTo ws a ((j : Int) + 1) = (eraseTo ws a j).set j 65535 := by
  apply List.ext_getElem?
  intro i
  simp only [eraseTo, List.getElem?_mapIdx, List.getElem?_set, List.length_mapIdx]
  by_cases hij : j = i
  · subst hij
    rw [if_pos rfl]
    cases hw : ws[j]? with
    | none =>
      rw [if_neg (by rw [List.getElem?_eq_none_iff] at hw; omega)]
      rfl
    | some x =>
      have := (List.getElem?_eq_some_iff.1 hw).1
      rw [if_pos this]
      simp only [Option.map_some]
      rw [if_pos (by omega)]
  · rw [if_neg hij]
    cases ws[i]? with
    | none => rfl
    | some x =>
      simp only [Option.map_some]
      by_cases hc : a ≤ i ∧ (i : Int) < j
      · rw [if_pos hc, if_pos (by omega)]
      · rw [if_neg hc, if_neg (by omega)]
/-- the erasing of the reference: word by word, by the sector of its address -/
def eraseBy (l ws : List Int) (s k : Nat) : List Int := ws.mapIdx fun i x => if secOf l i = s ∧ i < k then 65535 else x
theorem eraseBy_len (l ws : List Int) (s k : Nat) : (eraseBy l ws s k).length = ws.length := by simp [eraseBy]
theorem eraseBy_zero (l ws : List Int) (s : Nat) : eraseBy l ws s 0 = ws := by
  apply List.ext_getElem?
  intro i
  simp only [eraseBy, List.getElem?_mapIdx]
  cases ws[i]? with
  | none => rfl
  | some x => simp
theorem eraseBy_hit (l ws : List Int) (s k : Nat) (h : secOf l k = s) : eraseBy l ws s (k + 1) = (eraseBy l ws s k).set k 65535 := by
  apply List.ext_getElem?
  intro i
  simp only [eraseBy, List.getElem?_mapIdx, List.getElem?_set, List.length_mapIdx]
  by_cases hij : k = i
  · subst hij
    rw [if_pos rfl]
    cases hw : ws[k]? with
    | none =>
      rw [if_neg (by rw [List.getElem?_eq_none_iff] at hw; omega)]
      rfl
    | some x =>
      have := (List.getElem?_eq_some_iff.1 hw).1
      rw [if_pos this]
      simp only [Option.map_some]
      rw [if_pos ⟨h, by omega⟩]
  · rw [if_neg hij]
    cases ws[i]? with
    | none => rfl
    | some x =>
      simp only [Option.map_some]
      by_cases hc : secOf l i = s ∧ i < k
      · rw [if_pos hc, if_pos ⟨hc.1, by omega⟩]
      · rw [if_neg hc, if_neg (fun h2 => hc ⟨h2.1, by omega⟩)]
theorem eraseBy_miss (l ws : List Int) (s k : Nat) (h : secOf l k ≠ s) : eraseBy l ws s (k + 1) = eraseBy l ws s k := by
  apply List.ext_getElem?
  intro i
  simp only [eraseBy, List.getElem?_mapIdx]
  cases ws[i]? with
  | none => rfl
  | some x =>
    simp only [Option.map_some]
    by_cases hc : secOf l i = s ∧ i < k
    · rw [if_pos hc, if_pos ⟨hc.1, by omega⟩]
    · rw [if_neg hc, if_neg (fun h2 => hc ⟨h2.1, by
        rcases Nat.lt_or_ge i k with h3 | h3
        · exact h3
        · obtain rfl : i = k := by omega
          exact absurd h2.1 h⟩)]
theorem eraseBy_all {l ws : List Int} (hv : Within 1 4096 l) (hw : (ws.length : Int) = sumI l) {s : Nat} (hs : s < l.length) : eraseBy l ws s ws.length = eraseV l ws s := by
  apply List.ext_getElem?
  intro i
  simp only [eraseBy, eraseV, List.getElem?_mapIdx]
  cases hx : ws[i]? with
  | none => rfl
  | some x =>
    have hi := (List.getElem?_eq_some_iff.1 hx).1
    simp only [Option.map_some]
    by_cases hc : pre l s ≤ i ∧ (i : Int) < pre l (s + 1)
    · rw [if_pos hc, if_pos ⟨secOf_eq hv (by omega) ⟨hs, hc.1, hc.2⟩, hi⟩]
    · rw [if_neg hc, if_neg (fun h2 => hc ?_)]
      have := secOf_is (l := l) (a := (i : Int)) (by omega) (by omega)
      rw [h2.1] at this
      exact this.2

/-- what is wrong with a memory, words and operations -/
def applyFault (l ws : List Int) (xs : List FOp) : Int := firstBad (fun x => x) [checkImage l ws, checkOps l xs]
def applyR (l ws : List Int) (xs : List FOp) : List Int := if applyFault l ws xs = 0 then applyV l ws xs else []
theorem applyFault_ok {l ws : List Int} {xs : List FOp} (h : applyFault l ws xs = 0) : FlashOk l ∧ (ws.length : Int) = sumI l ∧ Within 0 65535 ws ∧ xs.length ≤ 50000 ∧ ∀ x ∈ xs, OpOk l x := by
  have h1 := firstBad_all h (checkImage l ws) (by simp)
  have h2 := firstBad_all h (checkOps l xs) (by simp)
  unfold checkImage at h1
  unfold checkOps at h2
  split at h1
  · rename_i h0
    rw [if_pos h0] at h2
    have h3 := within_of_imageFault h1
    have h4 := ok_of_opsFault h2
    exact ⟨flashFault_ok h0, h3.1, h3.2, h4.1, h4.2⟩
  · contradiction
end Go.Proofs.Ytmnhlfkphibhfaa
