/-
  The stream's draws as plain functions of the numbers and of how many have been drawn. No program stands in this text.
-/
import Derived.Test.YtmnhlfkphibhfaaBase
namespace Go.Proofs.Ytmnhlfkphibhfaa

def below (x n : Int) : Int := if n < 1 then 0 else x % n
/-- the draw behind p draws, reduced below n -/
def nextV (L : List Int) (p : Nat) (n : Int) : Int :=
  if L.length = 0 then below (((p : Int) + 1) * 7919) n
  else below (below (L.getD (p % L.length) 0) 1073741824 + (p : Int) / (L.length : Int) * (7919 + (p : Int) % (L.length : Int))) n
theorem below_bd (x : Int) {n : Int} (h : 1 ≤ n) : 0 ≤ below x n ∧ below x n < n := by
  unfold below
  rw [if_neg (by omega)]
  exact ⟨Int.emod_nonneg _ (by omega), Int.emod_lt_of_pos _ (by omega)⟩
theorem nextV_bd (L : List Int) (p : Nat) {n : Int} (h : 1 ≤ n) : 0 ≤ nextV L p n ∧ nextV L p n < n := by
  unfold nextV
  split <;> exact below_bd _ h
def flipV (L : List Int) (p : Nat) (n : Int) : Bool := nextV L p n == 0
def rangeV (L : List Int) (p : Nat) (lo hi : Int) : Int := lo + nextV L p (hi - lo + 1)
theorem rangeV_bd (L : List Int) (p : Nat) {lo hi : Int} (h : lo ≤ hi) : lo ≤ rangeV L p lo hi ∧ rangeV L p lo hi ≤ hi := by
  have := nextV_bd L p (n := hi - lo + 1) (by omega)
  unfold rangeV
  omega
/-- the place that a pick takes -/
def pickI (L : List Int) (p : Nat) (n : Nat) : Nat := (nextV L p n).toNat
theorem pickI_lt (L : List Int) (p : Nat) {n : Nat} (h : 0 < n) : pickI L p n < n := by
  have := nextV_bd L p (n := (n : Int)) (by omega)
  unfold pickI
  omega
def pickV (L : List Int) (p : Nat) (l : List Int) : Int := l.getD (pickI L p l.length) 0
theorem pickV_mem (L : List Int) (p : Nat) {l : List Int} (h : 0 < l.length) : pickV L p l ∈ l := by
  have := pickI_lt L p h
  unfold pickV
  rw [List.getD_eq_getElem?_getD, List.getElem?_eq_getElem this]
  exact List.getElem_mem _
theorem pickV_bd (L : List Int) (p : Nat) {l : List Int} {lo hi : Int} (h : 0 < l.length) (hb : ∀ x ∈ l, lo ≤ x ∧ x ≤ hi) : lo ≤ pickV L p l ∧ pickV L p l ≤ hi := hb _ (pickV_mem L p h)
def oddV (L : List Int) (p : Nat) (lo hi : Int) : Int × Nat :=
  if flipV L p 12 then (pickV L (p + 1) [lo - 1, hi + 1, lo, hi, -1099511627776, 1099511627776], p + 2) else (rangeV L (p + 1) lo hi, p + 2)
theorem round_bd (p n : Nat) (hn : 0 < n) (hp : p ≤ 1099511627776) : 0 ≤ (p : Int) / (n : Int) * (7919 + (p : Int) % (n : Int)) ∧ (p : Int) / (n : Int) * (7919 + (p : Int) % (n : Int)) ≤ 8708132091985920 := by
  have h : ((p : Int) / (n : Int) * (7919 + (p : Int) % (n : Int))) = ((p / n * (7919 + p % n) : Nat) : Int) := by
    rw [Int.natCast_mul, Int.natCast_add, Int.natCast_ediv, Int.natCast_emod]; rfl
  rw [h]
  have h1 : p / n * (p % n) ≤ p := Nat.le_trans (Nat.mul_le_mul_left _ (Nat.le_of_lt (Nat.mod_lt _ hn))) (Nat.div_mul_le_self p n)
  have h2 : p / n ≤ p := Nat.div_le_self _ _
  have h3 : p / n * (7919 + p % n) = 7919 * (p / n) + p / n * (p % n) := by rw [Nat.mul_add, Nat.mul_comm (p / n) 7919]
  omega
end Go.Proofs.Ytmnhlfkphibhfaa
