/-
  The flash memories, words and operations that a stream makes, as plain functions. No program stands in this text.
-/
import Derived.Test.YtmnhlfkphibhfaaFPlain
import Derived.Test.YtmnhlfkphibhfaaGen
namespace Go.Proofs.Ytmnhlfkphibhfaa

def secs0 (L : List Int) (p : Nat) : List Int := (List.range (rangeV L p 1 4).toNat).map fun i => rangeV L (p + 1 + i) 1 5
def secs1 (L : List Int) (p : Nat) : List Int × Nat :=
  if flipV L (p + 1 + (secs0 L p).length) 20 then
    ((secs0 L p).set (pickI L (p + 1 + (secs0 L p).length + 1) (secs0 L p).length) (pickV L (p + 1 + (secs0 L p).length + 2) [0, -1, 4096, 4097]), p + 1 + (secs0 L p).length + 3)
  else (secs0 L p, p + 1 + (secs0 L p).length + 1)
def flashOfV (L : List Int) (p : Nat) : List Int × Nat :=
  if flipV L (secs1 L p).2 40 then ([], (secs1 L p).2 + 1) else ((secs1 L p).1, (secs1 L p).2 + 1)
theorem secs0_len (L : List Int) (p : Nat) : 1 ≤ (secs0 L p).length ∧ (secs0 L p).length ≤ 4 := by
  have := rangeV_bd L p (lo := 1) (hi := 4) (by decide)
  simp only [secs0, List.length_map, List.length_range]
  omega
theorem secs0_bd (L : List Int) (p : Nat) : Within (-1) 4097 (secs0 L p) := by
  intro x hx
  obtain ⟨i, _, rfl⟩ := List.mem_map.1 hx
  have := rangeV_bd L (p + 1 + i) (lo := 1) (hi := 5) (by decide)
  omega
theorem Within.set {lo hi : Int} {l : List Int} (h : Within lo hi l) (k : Nat) {x : Int} (hx : lo ≤ x ∧ x ≤ hi) : Within lo hi (l.set k x) := fun y hy => by
  rcases List.mem_or_eq_of_mem_set hy with h1 | h1
  · exact h y h1
  · subst h1; exact hx
theorem secs1_bd (L : List Int) (p : Nat) : (secs1 L p).1.length ≤ 4 ∧ Within (-1) 4097 (secs1 L p).1 ∧ (secs1 L p).2 ≤ p + 8 := by
  have h1 := secs0_len L p
  have h2 := secs0_bd L p
  have h3 := pickV_bd L (p + 1 + (secs0 L p).length + 2) (l := [0, -1, 4096, 4097]) (lo := -1) (hi := 4097) (by simp) (by decide)
  unfold secs1
  split
  · exact ⟨by simp; omega, h2.set _ h3, by simp only; omega⟩
  · exact ⟨h1.2, h2, by simp only; omega⟩
theorem flashOfV_bd (L : List Int) (p : Nat) : (flashOfV L p).1.length ≤ 4 ∧ Within (-1) 4097 (flashOfV L p).1 ∧ (flashOfV L p).2 ≤ p + 9 := by
  have h := secs1_bd L p
  unfold flashOfV
  split
  · exact ⟨by simp, (fun x hx => by cases hx), by simp only; omega⟩
  · exact ⟨h.1, h.2.1, by simp only; omega⟩

def sumMax : List Int → Int
  | [] => 0
  | x :: l => max x 0 + sumMax l
theorem sumMax_snoc (l : List Int) (x : Int) : sumMax (l ++ [x]) = sumMax l + max x 0 := by
  induction l with
  | nil => simp [sumMax]
  | cons a l ih => simp only [List.cons_append, sumMax, ih]; omega
theorem sumMax_bd (l : List Int) (h : Within (-1) 4097 l) : 0 ≤ sumMax l ∧ sumMax l ≤ 4097 * l.length := by
  induction l with
  | nil => simp [sumMax]
  | cons a l ih =>
    have h1 := ih (fun x hx => h x (by simp [hx]))
    have h2 := h a (by simp)
    simp only [sumMax, List.length_cons, Int.natCast_add, Int.mul_add]
    omega
def word1 (L : List Int) (p : Nat) : Int := pickV L (p + 1) [65535, 65535, 0, 1, 3, 65534, nextV L p 65536]
def words0 (L : List Int) (p m : Nat) : List Int := (List.range m).map fun i => word1 L (p + 2 * i)
def words1 (L : List Int) (p m : Nat) : List Int × Nat :=
  if m = 0 then (words0 L p m, p + 2 * m) else
  if flipV L (p + 2 * m) 20 then ((words0 L p m).set (pickI L (p + 2 * m + 1) m) (pickV L (p + 2 * m + 2) [-1, 65536]), p + 2 * m + 3) else (words0 L p m, p + 2 * m + 1)
def wordMany (secs : List Int) : Nat := (min (sumMax secs) 40).toNat
def wordListV (L : List Int) (p : Nat) (secs : List Int) : List Int × Nat :=
  if flipV L (words1 L p (wordMany secs)).2 30 then ((words1 L p (wordMany secs)).1 ++ [0], (words1 L p (wordMany secs)).2 + 1)
  else ((words1 L p (wordMany secs)).1, (words1 L p (wordMany secs)).2 + 1)
theorem words0_len (L : List Int) (p m : Nat) : (words0 L p m).length = m := by simp [words0]
theorem words0_get (L : List Int) (p : Nat) {m k : Nat} (h : k < m) : (words0 L p m)[k]? = some (word1 L (p + 2 * k)) := by simp [words0, h]
theorem word1_bd (L : List Int) (p : Nat) : 0 ≤ word1 L p ∧ word1 L p ≤ 65535 := by
  have h := nextV_bd L p (n := 65536) (by decide)
  unfold word1
  refine pickV_bd L (p + 1) (by simp) ?_
  intro x hx
  simp only [List.mem_cons, List.not_mem_nil, or_false] at hx
  rcases hx with rfl | rfl | rfl | rfl | rfl | rfl | rfl <;> omega
theorem words1_bd (L : List Int) (p m : Nat) (hm : m ≤ 40) : (words1 L p m).1.length = m ∧ Within (-1) 65536 (words1 L p m).1 ∧ (words1 L p m).2 ≤ p + 83 := by
  have h2 : Within (-1) 65536 (words0 L p m) := by
    intro x hx
    obtain ⟨i, _, rfl⟩ := List.mem_map.1 hx
    have := word1_bd L (p + 2 * i)
    omega
  have h3 := pickV_bd L (p + 2 * m + 2) (l := [-1, 65536]) (lo := -1) (hi := 65536) (by simp) (by decide)
  unfold words1
  split
  · exact ⟨words0_len _ _ _, h2, by simp only; omega⟩
  · split
    · exact ⟨by simp [words0_len], h2.set _ h3, by simp only; omega⟩
    · exact ⟨words0_len _ _ _, h2, by simp only; omega⟩
theorem wordMany_le (secs : List Int) : wordMany secs ≤ 40 := by unfold wordMany; omega
theorem wordListV_bd (L : List Int) (p : Nat) (secs : List Int) : (wordListV L p secs).1.length ≤ 41 ∧ Within (-1) 65536 (wordListV L p secs).1 ∧ (wordListV L p secs).2 ≤ p + 84 := by
  have h := words1_bd L p (wordMany secs) (wordMany_le secs)
  have hm := wordMany_le secs
  unfold wordListV
  split
  · refine ⟨by simp only [List.length_append, List.length_singleton]; omega, ?_, by simp only; omega⟩
    intro x hx
    rcases List.mem_append.1 hx with h1 | h1
    · exact h.2.1 x h1
    · simp at h1; omega
  · exact ⟨by simp only; omega, h.2.1, by simp only; omega⟩
end Go.Proofs.Ytmnhlfkphibhfaa
