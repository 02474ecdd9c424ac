/-
  Plain functions on lists of integers that the flash memory's functions compute, and small laws about them. No program stands in this text.
-/
import Derived.Test.YtmnhlfkphibhfaaBase
namespace Go.Proofs.Ytmnhlfkphibhfaa

def sumI : List Int → Int
  | [] => 0
  | x :: l => x + sumI l
theorem sumI_snoc (l : List Int) (x : Int) : sumI (l ++ [x]) = sumI l + x := by
  induction l with
  | nil => simp [sumI]
  | cons a l ih => simp only [List.cons_append, sumI, ih]; omega
theorem sumI_append (l m : List Int) : sumI (l ++ m) = sumI l + sumI m := by
  induction l with
  | nil => simp [sumI]
  | cons a l ih => simp only [List.cons_append, sumI, ih]; omega
theorem sumI_bd {lo hi : Int} (l : List Int) (h : Within lo hi l) : lo * l.length ≤ sumI l ∧ sumI l ≤ hi * l.length := by
  induction l with
  | nil => simp [sumI]
  | cons a l ih =>
    have h1 := ih (fun x hx => h x (by simp [hx]))
    have h2 := h a (by simp)
    simp only [sumI, List.length_cons, Int.natCast_add, Int.mul_add]
    omega
def outB (x lo hi : Int) : Bool := decide (x < lo ∨ hi < x)
/-- the first fault of a list's elements -/
def firstBad {α : Type} (f : α → Int) : List α → Int
  | [] => 0
  | x :: l => if f x = 0 then firstBad f l else f x
theorem firstBad_append {α : Type} (f : α → Int) (l m : List α) (h : firstBad f l = 0) : firstBad f (l ++ m) = firstBad f m := by
  induction l with
  | nil => rfl
  | cons a l ih =>
    simp only [firstBad] at h
    split at h
    · rename_i h0
      simp only [List.cons_append, firstBad, h0, if_true]
      exact ih h
    · contradiction
theorem firstBad_hit {α : Type} {f : α → Int} {l : List α} {k : Nat} {x : α} (hx : l[k]? = some x) (h : firstBad f (l.take k) = 0) (hf : f x ≠ 0) : firstBad f l = f x := by
  have hk : k < l.length := (List.getElem?_eq_some_iff.1 hx).1
  have e : l = l.take k ++ x :: l.drop (k + 1) := by
    rw [(List.getElem?_eq_some_iff.1 hx).2.symm, ← List.drop_eq_getElem_cons hk, List.take_append_drop]
  rw [e, firstBad_append f _ _ h]
  simp [firstBad, hf]
theorem firstBad_step {α : Type} {f : α → Int} {l : List α} {k : Nat} {x : α} (hx : l[k]? = some x) (h : firstBad f (l.take k) = 0) (hf : f x = 0) : firstBad f (l.take (k + 1)) = 0 := by
  rw [take_snoc hx, firstBad_append f _ _ h]
  simp [firstBad, hf]
theorem firstBad_all {α : Type} {f : α → Int} {l : List α} (h : firstBad f l = 0) : ∀ x ∈ l, f x = 0 := by
  induction l with
  | nil => intro x hx; cases hx
  | cons a l ih =>
    simp only [firstBad] at h
    split at h
    · rename_i h0
      intro x hx
      rcases List.mem_cons.1 hx with rfl | hx
      · exact h0
      · exact ih h x hx
    · contradiction
def secBad (x : Int) : Int := if outB x 1 4096 = true then 1 else 0
def wordBad (x : Int) : Int := if outB x 0 65535 = true then 1 else 0
/-- what is wrong with a memory -/
def flashFault (l : List Int) : Int :=
  if l.length = 0 then 8 else if 20 < l.length then 2 else if firstBad secBad l ≠ 0 then 1 else if 4096 < sumI l then 2 else 0
structure FlashOk (l : List Int) : Prop where
  pos : 0 < l.length
  len : l.length ≤ 20
  wit : Within 1 4096 l
  sum : sumI l ≤ 4096
theorem within_of_secBad {l : List Int} (h : firstBad secBad l = 0) : Within 1 4096 l := fun x hx => by
  have := firstBad_all h x hx
  simp only [secBad, outB, decide_eq_true_eq] at this
  split at this
  · contradiction
  · omega
theorem flashFault_ok {l : List Int} (h : flashFault l = 0) : FlashOk l := by
  unfold flashFault at h
  split at h; · contradiction
  split at h; · contradiction
  split at h; · contradiction
  rename_i h3
  split at h; · contradiction
  exact ⟨by omega, by omega, within_of_secBad (Decidable.not_not.1 h3), by omega⟩
theorem flashFault_mk {l : List Int} (h1 : l.length ≠ 0) (h2 : l.length ≤ 20) (h3 : firstBad secBad l = 0) : flashFault l = if 4096 < sumI l then 2 else 0 := by
  unfold flashFault
  rw [if_neg h1, if_neg (by omega), if_neg (by simp [h3])]
def imageFault (secs ws : List Int) : Int := if (ws.length : Int) ≠ sumI secs then 3 else firstBad wordBad ws
def checkImage (secs ws : List Int) : Int := if flashFault secs = 0 then imageFault secs ws else flashFault secs
end Go.Proofs.Ytmnhlfkphibhfaa
