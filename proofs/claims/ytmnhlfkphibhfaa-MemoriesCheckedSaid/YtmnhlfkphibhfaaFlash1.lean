/-
  What the small functions of the flash memory and of its reference compute: the number of words, what is wrong with a memory, the sector of an address.
-/
import Derived.Test.YtmnhlfkphibhfaaChecked
import Derived.Test.YtmnhlfkphibhfaaFPlain
import Derived.Deep.QuietTactic
import Derived.BigQuiet
import Derived.Outline
import Derived.Deep.LoopGhost
namespace Go.Proofs.Ytmnhlfkphibhfaa
open Go.RowKit
set_option linter.unusedVariables false

theorem in_any (x lo hi : Int) (w : World) : Calls Try.prog 60 #[.int .i64 x, .int .i64 lo, .int .i64 hi] w fun e w' => e = .returned (.bool (!outB x lo hi)) ∧ w = w' := by
  by_cases h1 : lo ≤ x
  · go_enter Try.func60, Try.ntmps60
    go_wp2
    go_ret
    refine ⟨ret_bool ?_, rfl⟩
    rw [Bool.eq_iff_iff]; simp [outB]; omega
  · have h1' : decide (lo ≤ x) = false := by simpa using h1
    go_enter Try.func60, Try.ntmps60
    go_wp2
    go_ret
    refine ⟨ret_bool ?_, rfl⟩
    simp [outB]; omega
theorem out_any (x lo hi : Int) (w : World) : Calls Try.prog 62 #[.int .i64 x, .int .i64 lo, .int .i64 hi] w fun e w' => e = .returned (.bool (outB x lo hi)) ∧ w = w' := by
  by_cases h1 : x < lo
  · go_enter Try.func62, Try.ntmps62
    go_wp2
    go_ret
    refine ⟨ret_bool ?_, rfl⟩
    simp [outB]; omega
  · have h1' : decide (x < lo) = false := by simpa using h1
    go_enter Try.func62, Try.ntmps62
    go_wp2
    go_ret
    refine ⟨ret_bool ?_, rfl⟩
    rw [Bool.eq_iff_iff]; simp [outB]; omega

theorem sum_step {l : List Int} {k : Nat} {x : Int} (h : l[k]? = some x) : sumI (l.take (k + 1)) = sumI (l.take k) + x := by rw [take_snoc h, sumI_snoc]
theorem sum_pre {l : List Int} (hv : Within 1 4096 l) (hn : l.length ≤ 20) (k : Nat) : 0 ≤ sumI (l.take k) ∧ sumI (l.take k) ≤ 81920 := by
  have h := sumI_bd (l.take k) (hv.take k)
  have : (l.take k).length ≤ 20 := by rw [List.length_take]; omega
  omega

set_option maxHeartbeats 400000 in
theorem wordsOf_any (A : Option Addr) (cap : Nat) (l : List Int) (w : World) (hr : RowV w A (ints l)) (hv : Within 1 4096 l) (hn : l.length ≤ 20) :
    Calls Try.prog 61 #[.agg #[.slice A l.length cap]] w fun e w' => e = .returned (.int .i64 (sumI l)) ∧ Below w.heap.size w w' := by
  go_enter Try.func61, Try.ntmps61
  go_wp2
  go_loop [3, 5, 9] (fun s _ i => ∃ k : Nat, k ≤ l.length ∧ i = .int .i64 k ∧ s = .int .i64 (sumI (l.take k))) (fun _ _ i => l.length - (intOf i).toNat)
  case atStart => exact ⟨0, Nat.zero_le _, rfl, rfl⟩
  case round =>
    obtain ⟨k, hk, rfl, rfl⟩ := hrel
    have hp := sum_pre hv hn k
    by_cases hlt : k < l.length
    · obtain ⟨x, hx⟩ := get_some l hlt
      obtain ⟨b, o, rfl, hc⟩ := (hr.alloc (.cells #[.slice A l.length cap] 27)).int hx
      have hbd := hv.get hx
      have HX := Lib.hid hx; clear hx
      go_wp2
      go_round
      case rel => exact ⟨k + 1, by omega, by go_num, int_eq (by rw [sum_step HX.out])⟩
      case measure => simp [intOf]; omega
    · go_wp2
      go_ret
      exact ⟨ret_i64 (by rw [List.take_of_length_le (by omega)]), (Below.refl _ _).alloc (Nat.le_refl _) _⟩


set_option maxHeartbeats 400000 in
theorem size_any (A : Option Addr) (cap : Nat) (l : List Int) (w : World) (hr : RowV w A (ints l)) (hv : Within 1 4096 l) (hn : l.length ≤ 20) :
    Calls Try.prog 63 #[.agg #[.slice A l.length cap]] w fun e w' => e = .returned (.int .i64 (sumI l)) ∧ Below w.heap.size w w' := by
  go_enter Try.func63, Try.ntmps63
  go_wp2
  go_loop [3, 5, 9] (fun s _ i => ∃ k : Nat, k ≤ l.length ∧ i = .int .i64 k ∧ s = .int .i64 (sumI (l.take k))) (fun _ _ i => l.length - (intOf i).toNat)
  case atStart => exact ⟨0, Nat.zero_le _, rfl, rfl⟩
  case round =>
    obtain ⟨k, hk, rfl, rfl⟩ := hrel
    have hp := sum_pre hv hn k
    by_cases hlt : k < l.length
    · obtain ⟨x, hx⟩ := get_some l hlt
      obtain ⟨b, o, rfl, hc⟩ := (hr.alloc (.cells #[.slice A l.length cap] 27)).int hx
      have hbd := hv.get hx
      have HX := Lib.hid hx; clear hx
      go_wp2
      go_round
      case rel => exact ⟨k + 1, by omega, by go_num, int_eq (by rw [sum_step HX.out])⟩
      case measure => simp [intOf]; omega
    · go_wp2
      go_ret
      exact ⟨ret_i64 (by rw [List.take_of_length_le (by omega)]), (Below.refl _ _).alloc (Nat.le_refl _) _⟩


set_option maxHeartbeats 400000 in
theorem flashFault_any (A : Option Addr) (cap : Nat) (l : List Int) (w : World) (hr : RowV w A (ints l)) (hm : l.length ≤ 9223372036854775807) :
    Calls Try.prog 13 #[.agg #[.slice A l.length cap]] w fun e w' => e = .returned (.int .i64 (flashFault l)) ∧ Below w.heap.size w w' := by
  by_cases h1 : l.length = 0
  · have h1' : ((l.length : Int) == 0) = true := beq_iff_eq.2 (by omega)
    go_enter Try.func13, Try.ntmps13
    go_wp2
    go_ret
    exact ⟨ret_i64 (by unfold flashFault; rw [if_pos h1]), (Below.refl _ _).alloc (Nat.le_refl _) _⟩
  · have h1' : ((l.length : Int) == 0) = false := beq_eq_false_iff_ne.2 (by omega)
    by_cases h2 : 20 < l.length
    · have h2' : (20 : Int) < (l.length : Int) := by omega
      go_enter Try.func13, Try.ntmps13
      go_wp2
      go_ret
      exact ⟨ret_i64 (by unfold flashFault; rw [if_neg h1, if_pos h2]), (Below.refl _ _).alloc (Nat.le_refl _) _⟩
    · have h2' : decide ((20 : Int) < (l.length : Int)) = false := decide_eq_false (by omega)
      have h2n : l.length ≤ 20 := by omega
      go_enter Try.func13, Try.ntmps13
      go_wp2_with fail
      go_loop [4, 18] (fun _ i => ∃ k : Nat, k ≤ l.length ∧ i = .int .i64 k ∧ Hid (firstBad secBad (l.take k) = 0)) (fun _ i => l.length - (intOf i).toNat)
      case atStart => exact ⟨0, Nat.zero_le _, rfl, rfl⟩
      case round =>
        obtain ⟨k, hk, rfl, HB⟩ := hrel
        by_cases hlt : k < l.length
        · obtain ⟨x, hx⟩ := get_some l hlt
          obtain ⟨b, o, rfl, hc⟩ := (hr.alloc (.cells #[.slice A l.length cap] 27)).int hx
          have HX := Lib.hid hx; clear hx
          cases hb : outB x 1 4096
          · have HO := Lib.hid hb; clear hb
            go_wp2_with (go_at_call 60; refine (in_any _ _ _ _).mono ?_; rintro e w' ⟨rfl, rfl⟩; rw [HO.out])
            go_round
            case rel => exact ⟨k + 1, by omega, by go_num, firstBad_step HX.out HB.out (by unfold secBad; rw [HO.out]; rfl)⟩
            case measure => simp [intOf]; omega
          · have HO := Lib.hid hb; clear hb
            go_wp2_with (go_at_call 60; refine (in_any _ _ _ _).mono ?_; rintro e w' ⟨rfl, rfl⟩; rw [HO.out])
            go_ret
            have e1 : secBad x = 1 := by unfold secBad; rw [HO.out]; rfl
            exact ⟨ret_i64 (by unfold flashFault; rw [if_neg h1, if_neg (by omega), firstBad_hit HX.out HB.out (by rw [e1]; decide), e1]; rfl), (Below.refl _ _).alloc (Nat.le_refl _) _⟩
        · have hall : firstBad secBad l = 0 := by have := HB.out; rwa [List.take_of_length_le (by omega)] at this
          have hin := within_of_secBad hall
          have HA := Lib.hid hall; clear hall
          go_wp2_with fail
          refine (wordsOf_any A cap l _ (hr.alloc _) hin h2n).mono ?_
          rintro e w1 ⟨rfl, hb1⟩
          by_cases h4 : 4096 < sumI l
          · go_wp2_with fail
            go_ret
            exact ⟨ret_i64 (by rw [flashFault_mk h1 h2n HA.out, if_pos h4]), ((Below.refl _ _).alloc (Nat.le_refl _) _).trans (hb1.mono (by simp))⟩
          · have h4' : decide ((4096 : Int) < sumI l) = false := decide_eq_false h4
            go_wp2_with fail
            go_ret
            exact ⟨ret_i64 (by rw [flashFault_mk h1 h2n HA.out, if_neg (by omega)]), ((Below.refl _ _).alloc (Nat.le_refl _) _).trans (hb1.mono (by simp))⟩

set_option maxHeartbeats 400000 in
theorem checkFlash_any (A : Option Addr) (cap : Nat) (l : List Int) (w : World) (hr : RowV w A (ints l)) (hm : l.length ≤ 9223372036854775807) :
    Calls Try.prog 16 #[.agg #[.slice A l.length cap]] w fun e w' => e = .returned (.int .i64 (flashFault l)) ∧ Below w.heap.size w w' := by
  by_cases h1 : l.length = 0
  · have h1' : ((l.length : Int) == 0) = true := beq_iff_eq.2 (by omega)
    go_enter Try.func16, Try.ntmps16
    go_wp2
    go_ret
    exact ⟨ret_i64 (by unfold flashFault; rw [if_pos h1]), (Below.refl _ _).alloc (Nat.le_refl _) _⟩
  · have h1' : ((l.length : Int) == 0) = false := beq_eq_false_iff_ne.2 (by omega)
    by_cases h2 : 20 < l.length
    · have h2' : (20 : Int) < (l.length : Int) := by omega
      go_enter Try.func16, Try.ntmps16
      go_wp2
      go_ret
      exact ⟨ret_i64 (by unfold flashFault; rw [if_neg h1, if_pos h2]), (Below.refl _ _).alloc (Nat.le_refl _) _⟩
    · have h2' : decide ((20 : Int) < (l.length : Int)) = false := decide_eq_false (by omega)
      have h2n : l.length ≤ 20 := by omega
      go_enter Try.func16, Try.ntmps16
      go_wp2_with fail
      go_loop [4, 18] (fun _ i => ∃ k : Nat, k ≤ l.length ∧ i = .int .i64 k ∧ Hid (firstBad secBad (l.take k) = 0)) (fun _ i => l.length - (intOf i).toNat)
      case atStart => exact ⟨0, Nat.zero_le _, rfl, rfl⟩
      case round =>
        obtain ⟨k, hk, rfl, HB⟩ := hrel
        by_cases hlt : k < l.length
        · obtain ⟨x, hx⟩ := get_some l hlt
          obtain ⟨b, o, rfl, hc⟩ := (hr.alloc (.cells #[.slice A l.length cap] 27)).int hx
          have HX := Lib.hid hx; clear hx
          cases hb : outB x 1 4096
          · have HO := Lib.hid hb; clear hb
            go_wp2_with (go_at_call 62; refine (out_any _ _ _ _).mono ?_; rintro e w' ⟨rfl, rfl⟩; rw [HO.out])
            go_round
            case rel => exact ⟨k + 1, by omega, by go_num, firstBad_step HX.out HB.out (by unfold secBad; rw [HO.out]; rfl)⟩
            case measure => simp [intOf]; omega
          · have HO := Lib.hid hb; clear hb
            go_wp2_with (go_at_call 62; refine (out_any _ _ _ _).mono ?_; rintro e w' ⟨rfl, rfl⟩; rw [HO.out])
            go_ret
            have e1 : secBad x = 1 := by unfold secBad; rw [HO.out]; rfl
            exact ⟨ret_i64 (by unfold flashFault; rw [if_neg h1, if_neg (by omega), firstBad_hit HX.out HB.out (by rw [e1]; decide), e1]; rfl), (Below.refl _ _).alloc (Nat.le_refl _) _⟩
        · have hall : firstBad secBad l = 0 := by have := HB.out; rwa [List.take_of_length_le (by omega)] at this
          have hin := within_of_secBad hall
          have HA := Lib.hid hall; clear hall
          go_wp2_with fail
          refine (size_any A cap l _ (hr.alloc _) hin h2n).mono ?_
          rintro e w1 ⟨rfl, hb1⟩
          by_cases h4 : 4096 < sumI l
          · go_wp2_with fail
            go_ret
            exact ⟨ret_i64 (by rw [flashFault_mk h1 h2n HA.out, if_pos h4]), ((Below.refl _ _).alloc (Nat.le_refl _) _).trans (hb1.mono (by simp))⟩
          · have h4' : decide ((4096 : Int) < sumI l) = false := decide_eq_false h4
            go_wp2_with fail
            go_ret
            exact ⟨ret_i64 (by rw [flashFault_mk h1 h2n HA.out, if_neg (by omega)]), ((Below.refl _ _).alloc (Nat.le_refl _) _).trans (hb1.mono (by simp))⟩
end Go.Proofs.Ytmnhlfkphibhfaa
