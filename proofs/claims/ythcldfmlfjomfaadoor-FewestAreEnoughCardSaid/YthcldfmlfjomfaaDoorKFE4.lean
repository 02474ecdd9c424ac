/-
  An order in which as little changes as can be: plainly. No program stands in this text.
-/
import Derived.Test.YthcldfmlfjomfaaDoorKFE3
import Derived.IntWalk
set_option linter.unusedVariables false
set_option linter.unusedSimpArgs false
namespace Go.Proofs.YthcldfmlfjomfaaDoor
def minTo (c : Nat → Int) (p : Nat → Bool) : Nat → Int
  | 0 => -1
  | k + 1 => if p k = true ∧ (minTo c p k < 0 ∨ c k < minTo c p k) then c k else minTo c p k
theorem minTo_none {c : Nat → Int} {p : Nat → Bool} : ∀ {k : Nat}, (∀ i, i < k → p i = false) → minTo c p k = -1
  | 0, _ => rfl
  | k + 1, h => by
    unfold minTo
    rw [if_neg (by rw [h k (by omega)]; simp)]
    exact minTo_none fun i hi => h i (by omega)
theorem minTo_some {c : Nat → Int} {p : Nat → Bool} : ∀ {k : Nat}, (∀ i, i < k → p i = true → 0 ≤ c i) → (∃ i, i < k ∧ p i = true) → 0 ≤ minTo c p k ∧ (∀ i, i < k → p i = true → minTo c p k ≤ c i) ∧ ∃ i, i < k ∧ p i = true ∧ minTo c p k = c i
  | 0, _, ⟨i, hi, _⟩ => absurd hi (by omega)
  | k + 1, hc, hex => by
    by_cases h0 : ∃ i, i < k ∧ p i = true
    · obtain ⟨h1, h2, j, hj, hpj, ej⟩ := minTo_some (fun i hi => hc i (by omega)) h0
      unfold minTo
      by_cases hk : p k = true ∧ (minTo c p k < 0 ∨ c k < minTo c p k)
      · rw [if_pos hk]
        have := hc k (by omega) hk.1
        refine ⟨this, fun i hi hp => ?_, k, by omega, hk.1, rfl⟩
        rcases (by omega : i < k ∨ i = k) with h | h
        · have := h2 i h hp; omega
        · subst h; omega
      · rw [if_neg hk]
        refine ⟨h1, fun i hi hp => ?_, j, by omega, hpj, ej⟩
        rcases (by omega : i < k ∨ i = k) with h | h
        · exact h2 i h hp
        · subst h
          have : ¬ c i < minTo c p i := fun h => hk ⟨hp, .inr h⟩
          omega
    · have hn : ∀ i, i < k → p i = false := fun i hi => by
        cases e : p i with
        | false => rfl
        | true => exact absurd ⟨i, hi, e⟩ h0
      obtain ⟨j, hj, hpj⟩ := hex
      obtain rfl : j = k := by
        rcases (by omega : j < k ∨ j = k) with h | h
        · exact absurd ⟨j, h, hpj⟩ h0
        · exact h
      unfold minTo
      rw [minTo_none hn, if_pos ⟨hpj, .inl (by omega)⟩]
      refine ⟨hc j (by omega) hpj, fun i hi hp => ?_, j, by omega, hpj, rfl⟩
      rcases (by omega : i < j ∨ i = j) with h | h
      · rw [hn i h] at hp; cases hp
      · subst h; exact Int.le_refl _
def zc (n was : Nat) : Nat := ((List.range n).filter fun i => !was.testBit i).length
theorem or_bit (was i j : Nat) : (was ||| 1 <<< i).testBit j = (was.testBit j || decide (j = i)) := by
  rw [Nat.testBit_or, Nat.shiftLeft_eq, Nat.one_mul, Nat.testBit_two_pow]
  congr 1
  rw [decide_eq_decide]
  exact eq_comm
theorem filter_drop : ∀ (l : List Nat) (p : Nat → Bool) (i : Nat), l.Nodup → i ∈ l → p i = true → (l.filter fun j => p j && !decide (j = i)).length + 1 = (l.filter p).length
  | a :: l, p, i, hn, hm, hp => by
    obtain ⟨h1, h2⟩ := List.nodup_cons.1 hn
    by_cases e : a = i
    · subst e
      have e2 : (l.filter fun j => p j && !decide (j = a)) = l.filter p := List.filter_congr fun j hj => by
        have : j ≠ a := fun e => h1 (e ▸ hj)
        simp [this]
      rw [List.filter_cons, List.filter_cons, if_neg (by simp), if_pos hp, e2]
      simp
    · have hm2 : i ∈ l := by
        rcases List.mem_cons.1 hm with h | h
        · exact absurd h.symm e
        · exact h
      have ih := filter_drop l p i h2 hm2 hp
      rw [List.filter_cons, List.filter_cons]
      cases ha : p a
      · rw [if_neg (by simp), if_neg (by simp)]; exact ih
      · rw [if_pos (by simp [e]), if_pos rfl]
        simp only [List.length_cons]
        omega
theorem zc_or {n was i : Nat} (hi : i < n) (h : was.testBit i = false) : zc n (was ||| 1 <<< i) + 1 = zc n was := by
  have := filter_drop (List.range n) (fun j => !was.testBit j) i List.nodup_range (List.mem_range.2 hi) (by simp [h])
  unfold zc
  rw [← this]
  congr 2
  refine List.filter_congr fun j _ => ?_
  rw [or_bit]
  simp
theorem zc_pos {n was : Nat} (h : 0 < zc n was) : ∃ i, i < n ∧ was.testBit i = false := by
  unfold zc at h
  obtain ⟨i, hi⟩ := List.exists_mem_of_length_pos h
  obtain ⟨h1, h2⟩ := List.mem_filter.1 hi
  exact ⟨i, List.mem_range.1 h1, by simpa using h2⟩
theorem or_lt {n was i : Nat} (hw : was < 2 ^ n) (hi : i < n) : was ||| 1 <<< i < 2 ^ n := by
  refine Nat.or_lt_two_pow hw ?_
  rw [Nat.shiftLeft_eq, Nat.one_mul]
  exact Nat.pow_lt_pow_right (by omega) hi
section
variable (D : Nat → Nat → Int) (n : Nat)
def cntV : Nat → Nat → Nat → Int
  | 0, _, _ => 0
  | f + 1, was, last => minTo (fun i => D last i + cntV f (was ||| 1 <<< i) i) (fun i => !was.testBit i) n
def costV (was last : Nat) : Int := cntV D n (zc n was) was last
end
variable {D : Nat → Nat → Int} {n : Nat}
theorem cntV_bd {B : Int} (hD : ∀ i j, 0 ≤ D i j ∧ D i j ≤ B) : ∀ (f was last : Nat), zc n was = f → 0 ≤ cntV D n f was last ∧ cntV D n f was last ≤ B * f
  | 0, _, _, _ => by simp [cntV]
  | f + 1, was, last, h => by
    have hs : ∀ i, i < n → was.testBit i = false → 0 ≤ cntV D n f (was ||| 1 <<< i) i ∧ cntV D n f (was ||| 1 <<< i) i ≤ B * f := fun i hi hb =>
      cntV_bd hD f _ _ (by have := zc_or hi hb; omega)
    obtain ⟨j, hj, hb⟩ := zc_pos (n := n) (was := was) (by omega)
    obtain ⟨h1, _, i, hi, hp, e⟩ := minTo_some (c := fun i => D last i + cntV D n f (was ||| 1 <<< i) i) (p := fun i => !was.testBit i) (k := n) (fun i hi hp => by
      have := hs i hi (by simpa using hp)
      have := hD last i
      omega) ⟨j, hj, by simp [hb]⟩
    refine ⟨h1, ?_⟩
    have h2 := hs i hi (by simpa using hp)
    have h3 := hD last i
    show minTo (fun i => D last i + cntV D n f (was ||| 1 <<< i) i) (fun i => !was.testBit i) n ≤ _
    rw [e]
    push_cast
    rw [Int.mul_add, Int.mul_one]
    omega
theorem cost_full {was last : Nat} (h : zc n was = 0) : costV D n was last = 0 := by unfold costV; rw [h]; rfl
theorem cost_eq {was last : Nat} (h : 0 < zc n was) : costV D n was last = minTo (fun i => D last i + costV D n (was ||| 1 <<< i) i) (fun i => !was.testBit i) n := by
  unfold costV
  obtain ⟨f, hf⟩ : ∃ f, zc n was = f + 1 := ⟨zc n was - 1, by omega⟩
  rw [hf]
  show minTo (fun i => D last i + cntV D n f (was ||| 1 <<< i) i) (fun i => !was.testBit i) n = _
  have : ∀ k, k ≤ n → minTo (fun i => D last i + cntV D n f (was ||| 1 <<< i) i) (fun i => !was.testBit i) k = minTo (fun i => D last i + cntV D n (zc n (was ||| 1 <<< i)) (was ||| 1 <<< i) i) (fun i => !was.testBit i) k := by
    intro k
    induction k with
    | zero => intro _; rfl
    | succ k ih =>
      intro hk
      unfold minTo
      rw [ih (by omega)]
      cases hb : was.testBit k with
      | true => rfl
      | false =>
        have := zc_or (n := n) (show k < n by omega) hb
        rw [show zc n (was ||| 1 <<< k) = f by omega]
  exact this n (Nat.le_refl _)
theorem cost_bd {B : Int} (hD : ∀ i j, 0 ≤ D i j ∧ D i j ≤ B) (was last : Nat) : 0 ≤ costV D n was last ∧ costV D n was last ≤ B * (zc n was : Nat) := cntV_bd hD _ was last rfl
theorem cost_step {B : Int} (hD : ∀ i j, 0 ≤ D i j ∧ D i j ≤ B) {was last : Nat} (h : 0 < zc n was) :
    (∀ i, i < n → was.testBit i = false → costV D n was last ≤ D last i + costV D n (was ||| 1 <<< i) i) ∧ ∃ i, i < n ∧ was.testBit i = false ∧ costV D n was last = D last i + costV D n (was ||| 1 <<< i) i := by
  rw [cost_eq h]
  obtain ⟨j, hj, hb⟩ := zc_pos h
  obtain ⟨_, h2, i, hi, hp, e⟩ := minTo_some (c := fun i => D last i + costV D n (was ||| 1 <<< i) i) (p := fun i => !was.testBit i) (k := n) (fun i hi hp => by
    have := cost_bd hD (n := n) (was ||| 1 <<< i) i
    have := hD last i
    omega) ⟨j, hj, by simp [hb]⟩
  exact ⟨fun i hi hb => h2 i hi (by simp [hb]), i, hi, by simpa using hp, e⟩
def stepsTo (D : Nat → Nat → Int) (g : Nat → Nat) : Nat → Int
  | 0 => 0
  | k + 1 => stepsTo D g k + D (g k) (g (k + 1))
theorem stepsTo_congr {D : Nat → Nat → Int} {g h : Nat → Nat} : ∀ {k : Nat}, (∀ i, i ≤ k → g i = h i) → stepsTo D g k = stepsTo D h k
  | 0, _ => rfl
  | k + 1, e => by
    unfold stepsTo
    rw [stepsTo_congr (k := k) fun i hi => e i (by omega), e k (by omega), e (k + 1) (by omega)]
def pathC (D : Nat → Nat → Int) (l : List Nat) : Int := stepsTo D (fun i => l.getD i 0) (l.length - 1)
theorem pathC_snoc (D : Nat → Nat → Int) {l : List Nat} (h : 0 < l.length) (i : Nat) : pathC D (l ++ [i]) = pathC D l + D (l.getD (l.length - 1) 0) i := by
  unfold pathC
  have e : (l ++ [i]).length - 1 = (l.length - 1) + 1 := by simp; omega
  have ha : ∀ j, j < l.length → (l ++ [i]).getD j 0 = l.getD j 0 := fun j hj => by
    rw [List.getD_eq_getElem?_getD, List.getD_eq_getElem?_getD, List.getElem?_append_left hj]
  have hb : (l ++ [i]).getD l.length 0 = i := by rw [List.getD_eq_getElem?_getD, List.getElem?_append_right (Nat.le_refl _)]; simp
  rw [e]
  show stepsTo D (fun j => (l ++ [i]).getD j 0) (l.length - 1) + D ((l ++ [i]).getD (l.length - 1) 0) ((l ++ [i]).getD (l.length - 1 + 1) 0) = _
  rw [stepsTo_congr (h := fun j => l.getD j 0) fun j hj => ha j (by omega), ha _ (by omega), show l.length - 1 + 1 = l.length by omega, hb]
structure OrdAt (D : Nat → Nat → Int) (n : Nat) (T : Int) (out : List Nat) (was last : Nat) : Prop where
  nd : out.Nodup
  ins : ∀ x ∈ out, x < n
  pos : 0 < out.length
  lst : last = out.getD (out.length - 1) 0
  bit : ∀ i, was.testBit i = decide (i ∈ out)
  lt : was < 2 ^ n
  zc : zc n was + out.length = n
  sum : pathC D out + costV D n was last = T
def nxtP (D : Nat → Nat → Int) (n was last i : Nat) : Bool := !was.testBit i && (D last i + costV D n (was ||| 1 <<< i) i == costV D n was last)
theorem OrdAt.next {D : Nat → Nat → Int} {n : Nat} {T : Int} {out : List Nat} {was last : Nat} (h : OrdAt D n T out was last) {i : Nat} (hi : i < n) (hp : nxtP D n was last i = true) : OrdAt D n T (out ++ [i]) (was ||| 1 <<< i) i := by
  unfold nxtP at hp
  rw [Bool.and_eq_true, beq_iff_eq] at hp
  have hb : was.testBit i = false := by simpa using hp.1
  have hni : i ∉ out := by
    have := h.bit i
    rw [hb] at this
    simpa using this.symm
  refine ⟨?_, fun x hx => ?_, by simp, ?_, fun j => ?_, or_lt h.lt hi, ?_, ?_⟩
  · rw [List.nodup_append]
    exact ⟨h.nd, by simp, fun a ha b hb e => by simp only [List.mem_singleton] at hb; subst hb; subst e; exact hni ha⟩
  · rcases List.mem_append.1 hx with hx | hx
    · exact h.ins x hx
    · simp only [List.mem_singleton] at hx; subst hx; exact hi
  · rw [List.length_append, List.length_singleton, Nat.add_sub_cancel, List.getD_eq_getElem?_getD, List.getElem?_append_right (Nat.le_refl _)]; simp
  · rw [or_bit, h.bit, ← Bool.decide_or, decide_eq_decide]; simp
  · have := zc_or hi hb
    have := h.zc
    rw [List.length_append, List.length_singleton]
    omega
  · rw [pathC_snoc D h.pos, ← h.lst]
    have := h.sum
    omega
theorem OrdAt.more {D : Nat → Nat → Int} {n : Nat} {T B : Int} (hD : ∀ i j, 0 ≤ D i j ∧ D i j ≤ B) {out : List Nat} {was last : Nat} (h : OrdAt D n T out was last) (hl : out.length < n) : ∃ i, i < n ∧ nxtP D n was last i = true := by
  have := h.zc
  obtain ⟨_, i, hi, hb, e⟩ := cost_step hD (n := n) (was := was) (last := last) (by omega)
  refine ⟨i, hi, ?_⟩
  unfold nxtP
  rw [hb, e]
  simp
theorem OrdAt.done {D : Nat → Nat → Int} {n : Nat} {T : Int} {out : List Nat} {was last : Nat} (h : OrdAt D n T out was last) (hl : out.length = n) : pathC D out = T := by
  have h1 := h.zc
  have h2 := h.sum
  rw [cost_full (by omega)] at h2
  omega
end Go.Proofs.YthcldfmlfjomfaaDoor
namespace Go.Proofs.YthcldfmlfjomfaaDoor
section
variable (D : Nat → Nat → Int) (n : Nat)
end
variable {D : Nat → Nat → Int} {n : Nat}
end Go.Proofs.YthcldfmlfjomfaaDoor
namespace Go.Proofs.YthcldfmlfjomfaaDoor
end Go.Proofs.YthcldfmlfjomfaaDoor
namespace Go.Proofs.YthcldfmlfjomfaaDoor
def inOrd (v : List (List UInt8)) (o : List Nat) : List (List UInt8) := o.map fun i => v.getD i []
end Go.Proofs.YthcldfmlfjomfaaDoor
namespace Go.Proofs.YthcldfmlfjomfaaDoor
open Go.RowKit
end Go.Proofs.YthcldfmlfjomfaaDoor
