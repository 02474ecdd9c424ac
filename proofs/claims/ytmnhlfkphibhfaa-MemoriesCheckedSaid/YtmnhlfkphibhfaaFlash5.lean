/-
  What the functions on sectors compute: the sector of an address and its window.
-/
import Derived.Test.YtmnhlfkphibhfaaFlash3
import Derived.Test.YtmnhlfkphibhfaaFSec
namespace Go.Proofs.Ytmnhlfkphibhfaa
open Go.RowKit
set_option linter.unusedVariables false
set_option linter.unusedSimpArgs false

theorem isAddr_true {l : List Int} {a : Int} (h0 : 0 ≤ a) (h1 : a < sumI l) : isAddr l a = true := by simp [isAddr, outB]; omega
theorem isAddr_false {l : List Int} {a : Int} (h : ¬ (0 ≤ a ∧ a < sumI l)) : isAddr l a = false := by simp [isAddr, outB]; omega

/-- what SectorAt gives -/
def sectorAtV (l : List Int) (a : Int) : Int × Int × Bool := if isAddr l a = true then ((secOf l a : Int), pre l (secOf l a), true) else (0, 0, false)
theorem sectorAtV_yes {l : List Int} {a : Int} (h : isAddr l a = true) : sectorAtV l a = ((secOf l a : Int), pre l (secOf l a), true) := by unfold sectorAtV; rw [if_pos h]
theorem sectorAtV_no {l : List Int} {a : Int} (h : isAddr l a = false) : sectorAtV l a = (0, 0, false) := by unfold sectorAtV; rw [h]; rfl

set_option maxHeartbeats 1000000 in
theorem sectorAt_any (A : Option Addr) (cap : Nat) (l : List Int) (a : Int) (w : World) (hr : RowV w A (ints l)) (hv : Within 1 4096 l) (hn : l.length ≤ 20) :
    Calls Try.prog 20 #[.agg #[.slice A l.length cap], .int .i64 a] w fun e w' =>
      e = .returned (.tuple #[.int .i64 (sectorAtV l a).1, .int .i64 (sectorAtV l a).2.1, .bool (sectorAtV l a).2.2]) ∧ Below w.heap.size w w' := by
  go_enter Try.func20, Try.ntmps20
  go_wp2
  go_loop [7, 8, 9, 13] (fun f _ _ i => ∃ k : Nat, k ≤ l.length ∧ i = .int .i64 k ∧ f = .int .i64 (pre l k) ∧ Hid (0 ≤ a → pre l k ≤ a)) (fun _ _ _ i => l.length - (intOf i).toNat)
  case atStart => exact ⟨0, Nat.zero_le _, rfl, rfl, fun h => by rw [pre_zero]; exact h⟩
  case round =>
    obtain ⟨k, hk, rfl, rfl, HP⟩ := hrel
    have hp := pre_bd hv hn k
    by_cases hlt : k < l.length
    · obtain ⟨x, hx⟩ := get_some l hlt
      obtain ⟨b, o, rfl, hc⟩ := (hr.alloc (.cells #[.slice A l.length cap] 27)).int hx
      have hbd := hv.get hx
      have hs := pre_succ hx
      have HS := Lib.hid hs; clear hs
      clear hx
      cases hb : outB a (pre l k) (pre l k + x - 1)
      · have h1 : pre l k ≤ a ∧ a < pre l k + x := by simp only [outB, decide_eq_false_iff_not] at hb; omega
        have hsec : IsSec l a k := ⟨hlt, h1.1, by rw [HS.out]; exact h1.2⟩
        have h0 : 0 ≤ a := by omega
        have hse := secOf_eq hv h0 hsec
        have hadr := isAddr_true h0 (by have := pre_le hv (k + 1); have := hsec.2.2; omega : a < sumI l)
        have hv1 := sectorAtV_yes hadr
        rw [hse] at hv1
        have H := Lib.hid hv1; clear hse hadr hsec h1 hv1
        have HO := Lib.hid hb; clear hb
        go_wp2_with (go_at_call 60; refine (in_any _ _ _ _).mono ?_; rintro e w' ⟨rfl, rfl⟩; rw [HO.out])
        go_ret3
        rw [H.out]
        exact ⟨rfl, (Below.refl _ _).alloc (Nat.le_refl _) _⟩
      · have h1 : 0 ≤ a → pre l k + x ≤ a := by
          intro h0
          have := HP.out h0
          simp only [outB, decide_eq_true_eq] at hb; omega
        have H1 := Lib.hid h1; clear h1
        have HO := Lib.hid hb; clear hb
        go_wp2_with (go_at_call 60; refine (in_any _ _ _ _).mono ?_; rintro e w' ⟨rfl, rfl⟩; rw [HO.out])
        go_round
        case rel => exact ⟨k + 1, by omega, by go_num, int_eq HS.out.symm, fun h => by rw [HS.out]; exact H1.out h⟩
        case measure => simp [intOf]; omega
    · have hadr : isAddr l a = false := isAddr_false (fun h => by
        have := HP.out h.1
        obtain rfl : k = l.length := by omega
        rw [pre_all] at this; omega)
      have H := Lib.hid (sectorAtV_no hadr); clear hadr
      go_wp2
      go_ret3
      rw [H.out]
      exact ⟨rfl, (Below.refl _ _).alloc (Nat.le_refl _) _⟩

set_option maxHeartbeats 1000000 in
theorem sectorOf_any (A : Option Addr) (cap : Nat) (l : List Int) (a : Int) (w : World) (hr : RowV w A (ints l)) (hv : Within 1 4096 l) (hn : l.length ≤ 20) (h0 : 0 ≤ a) (h1 : a < sumI l) :
    Calls Try.prog 64 #[.agg #[.slice A l.length cap], .int .i64 a] w fun e w' =>
      e = .returned (.tuple #[.int .i64 (secOf l a : Int), .int .i64 (pre l (secOf l a))]) ∧ Below w.heap.size w w' := by
  have hsec := secOf_is h0 h1
  go_enter Try.func64, Try.ntmps64
  go_wp2
  go_loop [4, 5] (fun s f => ∃ k : Nat, k < l.length ∧ s = .int .i64 k ∧ f = .int .i64 (pre l k) ∧ pre l k ≤ a) (fun s _ => l.length - (intOf s).toNat)
  case atStart => exact ⟨0, by have := hsec.1; omega, rfl, rfl, by rw [pre_zero]; exact h0⟩
  case round =>
    obtain ⟨k, hk, rfl, rfl, hpa⟩ := hrel
    have hp := pre_bd hv hn k
    obtain ⟨x, hx⟩ := get_some l hk
    obtain ⟨b, o, rfl, hc⟩ := (hr.alloc (.cells #[.slice A l.length cap] 27)).int hx
    have hbd := hv.get hx
    have hs := pre_succ hx
    have HS := Lib.hid hs; clear hs
    clear hx
    by_cases hle : pre l k + x ≤ a
    · have hk1 : k + 1 < l.length := by
        rcases Nat.lt_or_ge (k + 1) l.length with h | h
        · exact h
        · have : k + 1 = l.length := by omega
          have hh := HS.out
          rw [this, pre_all] at hh; omega
      go_wp2
      go_round
      case rel => exact ⟨k + 1, hk1, by go_num, int_eq HS.out.symm, by rw [HS.out]; exact hle⟩
      case measure => simp [intOf]; omega
    · have hse := secOf_eq hv h0 (s := k) ⟨hk, hpa, by rw [HS.out]; omega⟩
      have H := Lib.hid hse; clear hse
      go_wp2
      go_ret2
      rw [H.out]
      exact ⟨rfl, (Below.refl _ _).alloc (Nat.le_refl _) _⟩

/-- what SectorOf gives -/
def sectorOfV (l : List Int) (a : Int) : Int × Int × Int :=
  if flashFault l = 0 then (if isAddr l a = true then ((secOf l a : Int), pre l (secOf l a), 0) else (0, 0, 1)) else (0, 0, flashFault l)

set_option maxHeartbeats 1000000 in
theorem SectorOf_any (A : Option Addr) (cap : Nat) (l : List Int) (a : Int) (w : World) (hr : RowV w A (ints l)) (hm : l.length ≤ 9223372036854775807) :
    Calls Try.prog 19 #[.agg #[.slice A l.length cap], .int .i64 a] w fun e w' =>
      e = .returned (.tuple #[.int .i64 (sectorOfV l a).1, .int .i64 (sectorOfV l a).2.1, .int .i64 (sectorOfV l a).2.2]) ∧ Below w.heap.size w w' := by
  by_cases hf0 : flashFault l = 0
  · have ok := flashFault_ok hf0
    have hv := ok.wit
    have hn := ok.len
    have hsm := ok.sum
    have hsz := sumI_bd l hv
    have hf0' : (flashFault l != 0) = false := by rw [bne_eq_false_iff_eq]; exact hf0
    have ev : sectorOfV l a = if isAddr l a = true then ((secOf l a : Int), pre l (secOf l a), 0) else (0, 0, 1) := by unfold sectorOfV; rw [if_pos hf0]
    have EV := Lib.hid ev; clear ev hf0
    cases ho : outB a 0 (sumI l - 1)
    · have h01 : 0 ≤ a ∧ a < sumI l := by simp only [outB, decide_eq_false_iff_not] at ho; omega
      have hadr := isAddr_true h01.1 h01.2
      have HA := Lib.hid hadr; clear hadr
      have HO := Lib.hid ho; clear ho
      go_enter Try.func19, Try.ntmps19
      go_wp2_with fail
      refine (checkFlash_any A cap l _ (hr.alloc _) hm).mono ?_
      rintro e w0 ⟨rfl, hb0⟩
      have hb0' : Below w.heap.size w w0 := ((Below.refl _ _).alloc (Nat.le_refl _) _).trans (hb0.mono (by simp))
      have hF0 : Blk w0 w.heap.size 27 #[.slice A l.length cap] := (Blk.new w _ _).belowS hb0
      have cF0 := hF0.cell 0 rfl
      clear hb0
      go_wp2_with fail
      refine (size_any A cap l _ (hr.belowS hb0') hv hn).mono ?_
      rintro e w1 ⟨rfl, hb1⟩
      have hb1' : Below w.heap.size w w1 := hb0'.trans (hb1.mono hb0'.size)
      have cF1 := (hF0.belowS hb1).cell 0 rfl
      clear hb1
      go_wp2_with (go_at_call 62; refine (out_any _ _ _ _).mono ?_; rintro e w' ⟨rfl, rfl⟩; rw [HO.out])
      refine (sectorOf_any A cap l a _ (hr.belowS hb1') hv hn h01.1 h01.2).mono ?_
      rintro e w2 ⟨rfl, hb2⟩
      go_wp2
      go_ret3
      rw [EV.out, HA.out]
      exact ⟨rfl, hb1'.trans (hb2.mono hb1'.size)⟩
    · have hadr : isAddr l a = false := by unfold isAddr; rw [ho]; rfl
      have HA := Lib.hid hadr; clear hadr
      have HO := Lib.hid ho; clear ho
      go_enter Try.func19, Try.ntmps19
      go_wp2_with fail
      refine (checkFlash_any A cap l _ (hr.alloc _) hm).mono ?_
      rintro e w0 ⟨rfl, hb0⟩
      have hb0' : Below w.heap.size w w0 := ((Below.refl _ _).alloc (Nat.le_refl _) _).trans (hb0.mono (by simp))
      have hF0 : Blk w0 w.heap.size 27 #[.slice A l.length cap] := (Blk.new w _ _).belowS hb0
      have cF0 := hF0.cell 0 rfl
      clear hb0
      go_wp2_with fail
      refine (size_any A cap l _ (hr.belowS hb0') hv hn).mono ?_
      rintro e w1 ⟨rfl, hb1⟩
      go_wp2_with (go_at_call 62; refine (out_any _ _ _ _).mono ?_; rintro e w' ⟨rfl, rfl⟩; rw [HO.out])
      go_ret3
      rw [EV.out, HA.out]
      exact ⟨rfl, hb0'.trans (hb1.mono hb0'.size)⟩
  · have hf0' : (flashFault l != 0) = true := by rw [bne_iff_ne]; exact hf0
    have ev : sectorOfV l a = (0, 0, flashFault l) := by unfold sectorOfV; rw [if_neg hf0]
    have EV := Lib.hid ev; clear ev hf0
    go_enter Try.func19, Try.ntmps19
    go_wp2_with fail
    refine (checkFlash_any A cap l _ (hr.alloc _) hm).mono ?_
    rintro e w0 ⟨rfl, hb0⟩
    go_wp2_with fail
    go_ret3
    rw [EV.out]
    exact ⟨rfl, ((Below.refl _ _).alloc (Nat.le_refl _) _).trans (hb0.mono (by simp))⟩
end Go.Proofs.Ytmnhlfkphibhfaa
