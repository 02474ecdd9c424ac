/-
  What the checks of a memory's words and of operations compute.
-/
import Derived.Test.YtmnhlfkphibhfaaFlash1
import Derived.Test.YtmnhlfkphibhfaaFOps
import Derived.Deep.RegionHeld3
import Derived.Deep.DrawnRows
namespace Go.Proofs.Ytmnhlfkphibhfaa
open Go.RowKit
set_option linter.unusedVariables false
set_option linter.unusedSimpArgs false
attribute [local go_sem ↓] Go.wp_at_zero Go.wp_at_succ

theorem imageFault_len {secs ws : List Int} (h : (ws.length : Int) = sumI secs) : imageFault secs ws = firstBad wordBad ws := by unfold imageFault; rw [if_neg (by simpa using h)]

set_option maxHeartbeats 400000 in
theorem imageFault_any (A : Option Addr) (cap : Nat) (l : List Int) (B : Option Addr) (c : Nat) (ws : List Int) (w : World) (hr : RowV w A (ints l)) (hv : Within 1 4096 l) (hn : l.length ≤ 20)
    (hws : RowV w B (ints ws)) (hwl : ws.length ≤ 9223372036854775807) :
    Calls Try.prog 54 #[.agg #[.slice A l.length cap], .slice B ws.length c] w fun e w' => e = .returned (.int .i64 (imageFault l ws)) ∧ Below w.heap.size w w' := by
  by_cases h1 : (ws.length : Int) = sumI l
  · have h1' : ((ws.length : Int) != sumI l) = false := by rw [bne_eq_false_iff_eq]; exact h1
    have H1 := Lib.hid h1; clear h1
    go_enter Try.func54, Try.ntmps54
    go_wp2_with fail
    refine (wordsOf_any A cap l _ (hr.alloc _) hv hn).mono ?_
    rintro e w1 ⟨rfl, hb1⟩
    have hb1' : Below w.heap.size w w1 := ((Below.refl _ _).alloc (Nat.le_refl _) _).trans (hb1.mono (by simp))
    have hws1 := hws.belowS hb1'
    clear hb1
    go_wp2_with fail
    go_loop [6, 14] (fun _ i => ∃ k : Nat, k ≤ ws.length ∧ i = .int .i64 k ∧ Hid (firstBad wordBad (ws.take k) = 0)) (fun _ i => ws.length - (intOf i).toNat)
    case atStart => exact ⟨0, Nat.zero_le _, rfl, rfl⟩
    case round =>
      obtain ⟨k, hk, rfl, HB⟩ := hrel
      by_cases hlt : k < ws.length
      · obtain ⟨x, hx⟩ := get_some ws hlt
        obtain ⟨b, o, rfl, hc⟩ := hws1.int hx
        have HX := Lib.hid hx; clear hx
        cases hb : outB x 0 65535
        · have HO := Lib.hid hb; clear hb
          go_wp2_with (go_at_call 60; refine (in_any _ _ _ _).mono ?_; rintro e w' ⟨rfl, rfl⟩; rw [HO.out])
          go_round
          case rel => exact ⟨k + 1, by omega, by go_num, firstBad_step HX.out HB.out (by unfold wordBad; rw [HO.out]; rfl)⟩
          case measure => simp [intOf]; omega
        · have HO := Lib.hid hb; clear hb
          go_wp2_with (go_at_call 60; refine (in_any _ _ _ _).mono ?_; rintro e w' ⟨rfl, rfl⟩; rw [HO.out])
          go_ret
          have e1 : wordBad x = 1 := by unfold wordBad; rw [HO.out]; rfl
          exact ⟨ret_i64 (by rw [imageFault_len H1.out, firstBad_hit HX.out HB.out (by rw [e1]; decide), e1]), hb1'⟩
      · go_wp2_with fail
        go_ret
        exact ⟨ret_i64 (by rw [imageFault_len H1.out]; have := HB.out; rw [List.take_of_length_le (by omega)] at this; exact this.symm), hb1'⟩
  · have h1' : ((ws.length : Int) != sumI l) = true := by rw [bne_iff_ne]; exact h1
    have H1 := Lib.hid h1; clear h1
    go_enter Try.func54, Try.ntmps54
    go_wp2_with fail
    refine (wordsOf_any A cap l _ (hr.alloc _) hv hn).mono ?_
    rintro e w1 ⟨rfl, hb1⟩
    go_wp2_with fail
    go_ret
    exact ⟨ret_i64 (by unfold imageFault; rw [if_pos (by simpa using H1.out)]), ((Below.refl _ _).alloc (Nat.le_refl _) _).trans (hb1.mono (by simp))⟩

set_option maxHeartbeats 400000 in
theorem checkImage_any (A : Option Addr) (cap : Nat) (l : List Int) (B : Option Addr) (c : Nat) (ws : List Int) (w : World) (hr : RowV w A (ints l)) (hm : l.length ≤ 9223372036854775807)
    (hws : RowV w B (ints ws)) (hwl : ws.length ≤ 9223372036854775807) :
    Calls Try.prog 17 #[.agg #[.slice A l.length cap], .slice B ws.length c] w fun e w' => e = .returned (.int .i64 (checkImage l ws)) ∧ Below w.heap.size w w' := by
  by_cases h0 : flashFault l = 0
  · have ok := flashFault_ok h0
    have hv := ok.wit
    have hn := ok.len
    have h0' : (flashFault l != 0) = false := by rw [bne_eq_false_iff_eq]; exact h0
    have ec : checkImage l ws = imageFault l ws := by unfold checkImage; rw [if_pos h0]
    have EC := Lib.hid ec; clear ec
    have H0 := Lib.hid h0; clear h0
    by_cases h1 : (ws.length : Int) = sumI l
    · have h1' : ((ws.length : Int) != sumI l) = false := by rw [bne_eq_false_iff_eq]; exact h1
      have H1 := Lib.hid h1; clear h1
      go_enter Try.func17, Try.ntmps17
      go_wp2_with fail
      refine (checkFlash_any A cap l _ (hr.alloc _) hm).mono ?_
      rintro e w0 ⟨rfl, hb0⟩
      have hb0' : Below w.heap.size w w0 := ((Below.refl _ _).alloc (Nat.le_refl _) _).trans (hb0.mono (by simp))
      have hF0 : Blk w0 w.heap.size 27 #[.slice A l.length cap] := (Blk.new w _ _).belowS hb0
      have cF0 := hF0.cell 0 rfl
      clear hb0
      go_wp2_with fail
      refine (size_any A cap l _ (hr.belowS hb0') hv hn).mono ?_
      rintro e w1 ⟨rfl, hb1⟩
      have hb1' : Below w.heap.size w w1 := hb0'.trans (hb1.mono hb0'.size)
      have hws1 := hws.belowS hb1'
      clear hb1 hF0 cF0
      go_wp2_with fail
      go_loop [7, 20] (fun _ i => ∃ k : Nat, k ≤ ws.length ∧ i = .int .i64 k ∧ Hid (firstBad wordBad (ws.take k) = 0)) (fun _ i => ws.length - (intOf i).toNat)
      case atStart => exact ⟨0, Nat.zero_le _, rfl, rfl⟩
      case round =>
        obtain ⟨k, hk, rfl, HB⟩ := hrel
        by_cases hlt : k < ws.length
        · obtain ⟨x, hx⟩ := get_some ws hlt
          obtain ⟨b, o, rfl, hc⟩ := hws1.int hx
          have HX := Lib.hid hx; clear hx
          cases hb : outB x 0 65535
          · have HO := Lib.hid hb; clear hb
            go_wp2_with (go_at_call 62; refine (out_any _ _ _ _).mono ?_; rintro e w' ⟨rfl, rfl⟩; rw [HO.out])
            go_round
            case rel => exact ⟨k + 1, by omega, by go_num, firstBad_step HX.out HB.out (by unfold wordBad; rw [HO.out]; rfl)⟩
            case measure => simp [intOf]; omega
          · have HO := Lib.hid hb; clear hb
            go_wp2_with (go_at_call 62; refine (out_any _ _ _ _).mono ?_; rintro e w' ⟨rfl, rfl⟩; rw [HO.out])
            go_ret
            have e1 : wordBad x = 1 := by unfold wordBad; rw [HO.out]; rfl
            exact ⟨ret_i64 (by rw [EC.out, imageFault_len H1.out, firstBad_hit HX.out HB.out (by rw [e1]; decide), e1]), hb1'⟩
        · go_wp2_with fail
          go_ret
          exact ⟨ret_i64 (by rw [EC.out, imageFault_len H1.out]; have := HB.out; rw [List.take_of_length_le (by omega)] at this; exact this.symm), hb1'⟩
    · have h1' : ((ws.length : Int) != sumI l) = true := by rw [bne_iff_ne]; exact h1
      have H1 := Lib.hid h1; clear h1
      go_enter Try.func17, Try.ntmps17
      go_wp2_with fail
      refine (checkFlash_any A cap l _ (hr.alloc _) hm).mono ?_
      rintro e w0 ⟨rfl, hb0⟩
      have hb0' : Below w.heap.size w w0 := ((Below.refl _ _).alloc (Nat.le_refl _) _).trans (hb0.mono (by simp))
      have hF0 : Blk w0 w.heap.size 27 #[.slice A l.length cap] := (Blk.new w _ _).belowS hb0
      have cF0 := hF0.cell 0 rfl
      clear hb0
      go_wp2_with fail
      refine (size_any A cap l _ (hr.belowS hb0') hv hn).mono ?_
      rintro e w1 ⟨rfl, hb1⟩
      go_wp2_with fail
      go_ret
      exact ⟨ret_i64 (by rw [EC.out]; unfold imageFault; rw [if_pos (by simpa using H1.out)]), hb0'.trans (hb1.mono hb0'.size)⟩
  · have h0' : (flashFault l != 0) = true := by rw [bne_iff_ne]; exact h0
    have ec : checkImage l ws = flashFault l := by unfold checkImage; rw [if_neg h0]
    have EC := Lib.hid ec; clear ec
    clear h0
    go_enter Try.func17, Try.ntmps17
    go_wp2_with fail
    refine (checkFlash_any A cap l _ (hr.alloc _) hm).mono ?_
    rintro e w0 ⟨rfl, hb0⟩
    go_wp2_with fail
    go_ret
    exact ⟨ret_i64 EC.out.symm, ((Below.refl _ _).alloc (Nat.le_refl _) _).trans (hb0.mono (by simp))⟩
end Go.Proofs.Ytmnhlfkphibhfaa
