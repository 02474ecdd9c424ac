/-
  What the library's Clone and Equal of slices of ints compute.
-/
import Derived.Test.YtmnhlfkphibhfaaFlashOf
namespace Go.Proofs.Ytmnhlfkphibhfaa
open Go.RowKit
set_option linter.unusedVariables false
set_option linter.unusedSimpArgs false

theorem Own.empty (w : World) (t : TypeId) (sz : Nat) {base : Nat} (hb : base ≤ w.heap.size) : Own (w.alloc (.cells #[] t)) base t sz (some ⟨w.heap.size, 0, none⟩) 0 0 [] :=
  World.ownsRow_made w #[] 0 hb (Nat.zero_le _) (by simp)

set_option maxHeartbeats 400000 in
theorem cloneInts_any (A : Option Addr) (c : Nat) (l : List Int) (w : World) (hr : RowV w A (ints l)) (hm : l.length * 8 ≤ 140737488355328) :
    Calls Try.prog 66 #[.slice A l.length c] w fun e w' => ∃ D d, e = .returned (.slice D l.length d) ∧ Own w' w.heap.size 3 1 D l.length d (ints l) ∧ Below w.heap.size w w' := by
  have hn := fun w' A n c => Lib.run_eql_slice_nil (P := Try.prog) w' 22 3 A n c 0 0 Try.underlying22
  rcases A with _ | a
  · have h0 : l = [] := by
      rcases l with _ | ⟨x, l⟩
      · rfl
      · obtain ⟨b, o, h, _⟩ := hr.int (k := 0) (x := x) rfl
        cases h
    subst h0
    go_enter Try.func66, Try.ntmps66
    go_wp2
    go_ret
    exact ⟨none, 0, rfl, Own.nil _ _ _ _, Below.refl _ _⟩
  · go_enter Try.func66, Try.ntmps66
    go_wp2_with (at_builtin; refine wpList_app _ rfl _ _ _ rfl w.heap.size 3 (.int .i64 0) 1 8 Try.underlying22 info_int rfl (by omega) (some ⟨w.heap.size, 0, none⟩) 0 0 [] rfl (Own.empty w _ _ (Nat.le_refl _)) (some a) l.length c (ints l) rfl (by simp [ints]) (hr.alloc _) (oneCell_ints l) (by unfold maxLen; omega) (by omega) (by simp) ?_; intro D d w1 hO hg _)
    go_ret
    rw [List.nil_append, Nat.zero_add] at hO
    exact ⟨D, d, rfl, hO, ((Below.refl _ _).alloc (Nat.le_refl _) _).grown hg (by simp) (fun g hg' => by simp [ablk] at hg'; omega)⟩

set_option maxHeartbeats 400000 in
theorem equalInts_any (A : Option Addr) (c : Nat) (l : List Int) (B : Option Addr) (d : Nat) (m : List Int) (w : World) (hr : RowV w A (ints l)) (hs : RowV w B (ints m)) (hl : l.length ≤ 9223372036854775807) :
    Calls Try.prog 23 #[.slice A l.length c, .slice B m.length d] w fun e w' => e = .returned (.bool (decide (l = m))) ∧ Below w.heap.size w w' := by
  by_cases hlen : l.length = m.length
  · have hlen' : ((l.length : Int) != (m.length : Int)) = false := by rw [bne_eq_false_iff_eq]; omega
    have HL := Lib.hid hlen
    go_enter Try.func23, Try.ntmps23
    have hlm : m.length ≤ l.length := by omega
    have hml : l.length ≤ m.length := by omega
    clear hlen
    go_wp2_with fail
    go_loopg [5, 13] l.length (fun gm _ i wr => ∃ k, k + gm = l.length ∧ i = .int .i64 (k : Nat) ∧ Hid (l.take k = m.take k) ∧ Below w.heap.size w wr)
    case atStart => exact ⟨0, by omega, rfl, rfl, Below.refl _ _⟩
    case round =>
      obtain ⟨k, hkm, rfl, HT, hb⟩ := hrel
      by_cases hlt : k < l.length
      · obtain ⟨x, hx⟩ := get_some l hlt
        obtain ⟨y, hy⟩ := get_some m (k := k) (by omega)
        obtain ⟨b, o, rfl, hc⟩ := (hr.belowS hb).int hx
        obtain ⟨b', o', rfl, hc'⟩ := (hs.belowS hb).int hy
        have H := Lib.hid (And.intro hx hy); clear hx hy
        have hk1 : (k : Int) < (l.length : Int) := by omega
        have hk2 : (k : Int) < (m.length : Int) := by omega
        have hk0 : (0 : Int) ≤ (k : Int) := by omega
        by_cases hxy : x = y
        · have hxy' : (x != y) = false := by rw [bne_eq_false_iff_eq]; exact hxy
          have HXY := Lib.hid hxy; clear hxy
          go_wp2_with fail
          go_quiet (fail)
          go_wp2_with fail
          go_roundg (gk - 1)
          case measure => omega
          case rel => exact ⟨k + 1, by omega, by go_num, (by show _ = _; rw [take_snoc H.out.1, take_snoc H.out.2, HT.out, HXY.out]), hb.trans ⟨rfl, rfl, rfl, Nat.le_refl _, fun _ _ => rfl⟩⟩
        · have hxy' : (x != y) = true := by rw [bne_iff_ne]; exact hxy
          have HXY := Lib.hid hxy; clear hxy
          go_wp2_with fail
          go_quiet (fail)
          go_wp2_with fail
          go_ret
          refine ⟨ret_bool ?_, hb.trans ⟨rfl, rfl, rfl, Nat.le_refl _, fun _ _ => rfl⟩⟩
          refine (decide_eq_false (fun e => ?_)).symm
          have h1 := H.out.1
          rw [e, H.out.2] at h1
          injection h1 with h1
          exact HXY.out h1.symm
      · go_wp2_with fail
        go_ret
        refine ⟨ret_bool ?_, hb⟩
        refine (decide_eq_true ?_).symm
        have := HT.out
        rwa [List.take_of_length_le (by omega), List.take_of_length_le (by omega)] at this
  · have hlen' : ((l.length : Int) != (m.length : Int)) = true := by rw [bne_iff_ne]; omega
    go_enter Try.func23, Try.ntmps23
    go_wp2_with fail
    go_ret
    exact ⟨ret_bool (decide_eq_false (fun e => hlen (by rw [e]))).symm, Below.refl _ _⟩
end Go.Proofs.Ytmnhlfkphibhfaa
