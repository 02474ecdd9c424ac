/-
  A long region in two parts: what the first part left is known of the names that are told, and nothing else.
-/
import Derived.Test.YtmgfcjblclanmaaDoorEDO3
set_option linter.unusedVariables false
set_option linter.unusedSimpArgs false
namespace Go.Proofs.YtmgfcjblclanmaaDoor
open Go.RowKit
variable {P : Program}
def shiftL (k : Nat) (l : List (AIn × List Nat)) : List (AIn × List Nat) := l.map fun p => (p.1, p.2.map fun j => j - k)
theorem freeOf_pre {pre recs : List Rec1} {q : Rec1} : ∀ {fr : List Nat}, (∀ j ∈ fr, pre.length ≤ j) → freeOf (pre ++ recs) q fr = freeOf recs q (fr.map fun j => j - pre.length)
  | [], h => rfl
  | j :: fr, h => by
    have h1 := h j List.mem_cons_self
    rw [List.map_cons]
    unfold freeOf
    rw [List.getElem?_append_right h1, freeOf_pre (fun x hx => h x (List.mem_cons_of_mem _ hx))]
theorem runAny_pre {pre : List Rec1} : ∀ (l : List (AIn × List Nat)) (recs : List Rec1) (s : Slots) (H : Heap) (n : Nat) {K : Slots → Heap → Nat → Prop}, (∀ p ∈ l, ∀ j ∈ p.2, pre.length ≤ j) → runAny P l (pre ++ recs) s H n K = runAny P (shiftL pre.length l) recs s H n K
  | [], recs, s, H, n, K, h => rfl
  | (⟨d, g, op⟩, fr) :: l, recs, s, H, n, K, h => by
    have h1 : ∀ j ∈ fr, pre.length ≤ j := h _ List.mem_cons_self
    have ih := fun recs s H n => runAny_pre l recs s H n (K := K) (fun p hp => h p (List.mem_cons_of_mem _ hp))
    unfold shiftL at ih ⊢
    rw [List.map_cons]
    match g with
    | none => simp only [runAny, List.append_assoc, freeOf_pre h1, ih]
    | some (j, true) => simp only [runAny, List.append_assoc, freeOf_pre h1, ih]
    | some (j, false) => simp only [runAny, List.append_assoc, freeOf_pre h1, ih]
theorem runAny_split {l2 : List (AIn × List Nat)} : ∀ (l : List (AIn × List Nat)) (recs : List Rec1) (s : Slots) (H : Heap) (n : Nat) {K : Slots → Heap → Nat → Prop}, runAny P l recs s H n (fun s H n => ∀ r, r.length = recs.length + l.length → runAny P l2 r s H n K) → runAny P (l ++ l2) recs s H n K
  | [], recs, s, H, n, K, k => k recs rfl
  | (⟨d, g, op⟩, fr) :: l, recs, s, H, n, K, k => by
    have ih : ∀ q s H n, runAny P l (recs ++ [q]) s H n (fun s H n => ∀ r, r.length = recs.length + (l.length + 1) → runAny P l2 r s H n K) → runAny P (l ++ l2) (recs ++ [q]) s H n K := fun q s H n k => runAny_split l (recs ++ [q]) s H n (runAny_mono l _ _ _ _ (fun s H n hk r hr => hk r (by rw [hr, List.length_append, List.length_cons, List.length_nil]; omega)) k)
    rw [List.cons_append]
    match g with
    | none =>
      simp only [runAny, List.length_cons] at k ⊢
      exact opX_mono (fun v u r hk => ⟨hk.1, ih _ _ _ _ hk.2⟩) op k
    | some (j, true) =>
      simp only [runAny, List.length_cons] at k ⊢
      exact onGrd_mono (fun b hk => split2_mono (fun hk => opX_mono (fun v u r hk => ⟨hk.1, ih _ _ _ _ hk.2⟩) op hk) (fun hk => ⟨hk.1, ih _ _ _ _ hk.2⟩) hk) (fun hk => ⟨hk.1, ih _ _ _ _ hk.2⟩) k
    | some (j, false) =>
      simp only [runAny, List.length_cons] at k ⊢
      exact onGrd_mono (fun b hk => split2_mono (fun hk => ⟨hk.1, ih _ _ _ _ hk.2⟩) (fun hk => opX_mono (fun v u r hk => ⟨hk.1, ih _ _ _ _ hk.2⟩) op hk) hk) (fun hk => ⟨hk.1, ih _ _ _ _ hk.2⟩) k
def RCut (P : Program) (l : List (AIn × List Nat)) (s : Slots) (H : Heap) (n : Nat) (K : Slots → Heap → Nat → Prop) (_ : Tag K) : Prop := runAny P l [] s H n K
theorem RCut.go (ns : List Nat) {l : List (AIn × List Nat)} {s : Slots} {H : Heap} {n : Nat} {K : Slots → Heap → Nat → Prop} {t : Tag K} (h : ∀ s1 : Slots, (∀ i ∈ ns, getS s1 i = getS s i) → RAny P l [] s1 H n K .mk) : RCut P l s H n K t := by
  have := h s fun _ _ => rfl
  rw [RAny_eq] at this
  exact this
theorem runAny_cut (k : Nat) {l : List (AIn × List Nat)} {s : Slots} {H : Heap} {n : Nat} {K : Slots → Heap → Nat → Prop} (hl : k ≤ l.length) (hd : ((l.drop k).all fun p => p.2.all fun j => decide (k ≤ j)) = true) (h : RAny P (l.take k) [] s H n (fun s H n => RCut P (shiftL k (l.drop k)) s H n K .mk) .mk) : runAny P l [] s H n K := by
  rw [RAny_eq] at h
  rw [← List.take_append_drop k l]
  refine runAny_split (l.take k) [] s H n (runAny_mono _ _ _ _ _ (fun s H n hk r hr => ?_) h)
  have hr : r.length = k := by rw [hr, List.length_take, List.length_nil]; omega
  have h2 := runAny_pre (P := P) (pre := r) (l.drop k) [] s H n (K := K) (fun p hp j hj => by
    have := List.all_eq_true.1 (List.all_eq_true.1 hd p hp) j hj
    rw [hr]; exact of_decide_eq_true this)
  rw [List.append_nil] at h2
  rw [h2, hr]
  exact hk
theorem RCut.again (k : Nat) (ns : List Nat) {l : List (AIn × List Nat)} {s : Slots} {H : Heap} {n : Nat} {K : Slots → Heap → Nat → Prop} {t : Tag K} (hl : k ≤ l.length) (hd : ((l.drop k).all fun p => p.2.all fun j => decide (k ≤ j)) = true) (h : ∀ s1 : Slots, (∀ i ∈ ns, getS s1 i = getS s i) → RAny P (l.take k) [] s1 H n (fun s H n => RCut P (shiftL k (l.drop k)) s H n K .mk) .mk) : RCut P l s H n K t := runAny_cut k hl hd (h s fun _ _ => rfl)
theorem Run.cut (k : Nat) {l : List (AIn × List Nat)} {s : Slots} {H : Heap} {n b : Nat} {R : ST → Prop} {Q : AEx → ST → Prop} {t : Tag (seqK R Q)} (hl : k ≤ l.length) (hd : ((l.drop k).all fun p => p.2.all fun j => decide (k ≤ j)) = true) (h : RAny P (l.take k) [] s H n (fun s H n => RCut P (shiftL k (l.drop k)) s H n (fun s H n => R ⟨s, H, n, b⟩) .mk) .mk) : Run P (.any l) ⟨s, H, n, b⟩ (seqK R Q) t := by
  rw [Run_eq]
  exact runAny_cut k hl hd h
theorem Run.whole {l : List (AIn × List Nat)} {s : Slots} {H : Heap} {n b : Nat} {R : ST → Prop} {Q : AEx → ST → Prop} {t : Tag (seqK R Q)} (h : RAny P l [] s H n (fun s H n => R ⟨s, H, n, b⟩) .mk) : Run P (.any l) ⟨s, H, n, b⟩ (seqK R Q) t := by
  rw [Run_eq]
  rw [RAny_eq] at h
  exact h
end Go.Proofs.YtmgfcjblclanmaaDoor
