/-
  Plans as a plain function. No program stands in this text.
-/
import Derived.Test.YtmnhlfkphibhfaaFSec
namespace Go.Proofs.Ytmnhlfkphibhfaa

/-- a word that lacks a bit -/
def lackI (n w : Int) : Bool := !(andI n w == w)
def lackTo (now want : List Int) (a m : Nat) : Bool := (List.range m).any fun j => lackI (now.getD (a + j) 0) (want.getD (a + j) 0)
theorem lackTo_zero (now want : List Int) (a : Nat) : lackTo now want a 0 = false := rfl
theorem lackTo_succ (now want : List Int) (a m : Nat) : lackTo now want a (m + 1) = (lackTo now want a m || lackI (now.getD (a + m) 0) (want.getD (a + m) 0)) := by
  simp [lackTo, List.range_succ]
theorem lackTo_hit {now want : List Int} {a m n : Nat} (h : m < n) (hl : lackI (now.getD (a + m) 0) (want.getD (a + m) 0) = true) : lackTo now want a n = true := by
  simp only [lackTo, List.any_eq_true, List.mem_range]
  exact ⟨m, h, hl⟩
def progTo (now want : List Int) (a : Nat) : Nat → List FOp
  | 0 => []
  | m + 1 => progTo now want a m ++ (if now.getD (a + m) 0 = want.getD (a + m) 0 then [] else [⟨2, ((a + m : Nat) : Int), want.getD (a + m) 0⟩])
theorem progTo_same {now want : List Int} {a m : Nat} (h : now.getD (a + m) 0 = want.getD (a + m) 0) : progTo now want a (m + 1) = progTo now want a m := by
  simp only [progTo]; rw [if_pos h, List.append_nil]
theorem progTo_diff {now want : List Int} {a m : Nat} (h : now.getD (a + m) 0 ≠ want.getD (a + m) 0) : progTo now want a (m + 1) = progTo now want a m ++ [⟨2, ((a + m : Nat) : Int), want.getD (a + m) 0⟩] := by
  simp only [progTo]; rw [if_neg h]
theorem progTo_len (now want : List Int) (a m : Nat) : (progTo now want a m).length ≤ m := by
  induction m with
  | zero => simp [progTo]
  | succ m ih => simp only [progTo, List.length_append]; split <;> simp <;> omega
/-- what is done to sector s: the words then, and the operations -/
def planNow (l now want : List Int) (s : Nat) : List Int := if lackTo now want (pre l s).toNat ((pre l (s + 1)).toNat - (pre l s).toNat) = true then eraseV l now s else now
def planOps (l now want : List Int) (s : Nat) : List FOp :=
  (if lackTo now want (pre l s).toNat ((pre l (s + 1)).toNat - (pre l s).toNat) = true then [⟨1, (s : Int), 0⟩] else []) ++ progTo (planNow l now want s) want (pre l s).toNat ((pre l (s + 1)).toNat - (pre l s).toNat)
def planTo (l now want : List Int) : Nat → List FOp × List Int
  | 0 => ([], now)
  | s + 1 => ((planTo l now want s).1 ++ planOps l (planTo l now want s).2 want s, planNow l (planTo l now want s).2 want s)
theorem planNow_len (l now want : List Int) (s : Nat) : (planNow l now want s).length = now.length := by unfold planNow; split <;> simp [eraseV_len]
theorem planTo_len (l now want : List Int) (s : Nat) : (planTo l now want s).2.length = now.length := by
  induction s with
  | zero => rfl
  | succ s ih => simp only [planTo]; rw [planNow_len, ih]
theorem planNow_within {l now want : List Int} (h : Within 0 65535 now) (s : Nat) : Within 0 65535 (planNow l now want s) := by
  unfold planNow; split
  · exact eraseV_within h
  · exact h
theorem planTo_within {l now want : List Int} (h : Within 0 65535 now) (s : Nat) : Within 0 65535 (planTo l now want s).2 := by
  induction s with
  | zero => exact h
  | succ s ih => exact planNow_within ih s
theorem planOps_len {l : List Int} (hv : Within 1 4096 l) (now want : List Int) (s : Nat) : ((planOps l now want s).length : Int) ≤ 1 + (pre l (s + 1) - pre l s) := by
  have h1 := progTo_len (planNow l now want s) want (pre l s).toNat ((pre l (s + 1)).toNat - (pre l s).toNat)
  have h2 := pre_mono hv (show s ≤ s + 1 by omega)
  have h3 := pre_mono hv (show 0 ≤ s by omega)
  rw [pre_zero] at h3
  unfold planOps
  rw [List.length_append]
  split <;> simp only [List.length_singleton, List.length_nil] <;> omega
theorem planTo_ops_len {l : List Int} (hv : Within 1 4096 l) (now want : List Int) (s : Nat) : ((planTo l now want s).1.length : Int) ≤ s + pre l s := by
  induction s with
  | zero => simp [planTo, pre_zero]
  | succ s ih =>
    have := planOps_len hv (planTo l now want s).2 want s
    simp only [planTo, List.length_append]
    omega
def planFault (l now want : List Int) : Int := firstBad (fun x => x) [checkImage l now, checkImage l want]
def planR (l now want : List Int) : List FOp := if planFault l now want = 0 then (planTo l now want l.length).1 else []
theorem planFault_ok {l now want : List Int} (h : planFault l now want = 0) : FlashOk l ∧ ((now.length : Int) = sumI l ∧ Within 0 65535 now) ∧ (want.length : Int) = sumI l ∧ Within 0 65535 want := by
  have h1 := firstBad_all h (checkImage l now) (by simp)
  have h2 := firstBad_all h (checkImage l want) (by simp)
  unfold checkImage at h1 h2
  split at h1
  · rename_i h0
    rw [if_pos h0] at h2
    exact ⟨flashFault_ok h0, within_of_imageFault h1, within_of_imageFault h2⟩
  · contradiction
end Go.Proofs.Ytmnhlfkphibhfaa
