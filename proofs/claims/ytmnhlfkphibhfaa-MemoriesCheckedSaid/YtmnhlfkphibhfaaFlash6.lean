/-
  What the erasing of a sector computes: the window of a sector, the program's erase, the reference's erased.
-/
import Derived.Test.YtmnhlfkphibhfaaSlices
import Derived.Test.YtmnhlfkphibhfaaFlash5
namespace Go.Proofs.Ytmnhlfkphibhfaa
open Go.RowKit
set_option linter.unusedVariables false
set_option linter.unusedSimpArgs false

set_option maxRecDepth 100000 in
set_option maxHeartbeats 1000000 in
theorem window_any (A : Option Addr) (cap : Nat) (l : List Int) (s : Nat) (w : World) (hr : RowV w A (ints l)) (hv : Within 1 4096 l) (hn : l.length ≤ 20) (hc : l.length ≤ cap) (hs : s < l.length) :
    Calls Try.prog 73 #[.agg #[.slice A l.length cap], .int .i64 s] w fun e w' => e = .returned (.agg #[.int .i64 (pre l s), .int .i64 (pre l (s + 1))]) ∧ Below w.heap.size w w' := by
  obtain ⟨x0, hx0⟩ := get_some l hs
  have hbd0 := hv.get hx0
  have hs1 := pre_succ hx0
  obtain ⟨b, o, rfl, _⟩ := hr.int hx0
  have hcs : ¬ cap = 0 := by omega
  have hsi : (s : Int) < (l.length : Int) := by omega
  have hps := pre_bd hv hn s
  have hr2 := (hr.alloc (.cells #[.slice (some ⟨b, o, none⟩) l.length cap] 27)).alloc (.cells #[.int .i64 0, .int .i64 0] 67)
  obtain ⟨b', o', he, hc0⟩ := hr2.int hx0
  injection he with he; injection he with he1 he2
  subst he1; subst he2
  have HX0 := Lib.hid hx0; clear hx0
  have HS1 := Lib.hid hs1; clear hs1
  go_enter Try.func73, Try.ntmps73
  go_wp2_with fail
  go_loop [5, 7, 13] (fun f _ i => ∃ k : Nat, k ≤ s ∧ i = .int .i64 k ∧ f = .int .i64 (pre l k)) (fun _ _ i => s - (intOf i).toNat)
  case atStart => exact ⟨0, Nat.zero_le _, rfl, rfl⟩
  case round =>
    obtain ⟨k, hk, rfl, rfl⟩ := hrel
    have hp := pre_bd hv hn k
    by_cases hlt : k < s
    · obtain ⟨x, hx⟩ := get_some l (k := k) (by omega)
      obtain ⟨b', o', he, hcx⟩ := hr2.int hx
      injection he with he; injection he with he1 he2
      subst he1; subst he2
      have hbd := hv.get hx
      have hs := pre_succ hx
      have HS := Lib.hid hs; clear hs hx
      go_wp2
      go_round
      case rel => exact ⟨k + 1, by omega, by go_num, int_eq HS.out.symm⟩
      case measure => simp [intOf]; omega
    · obtain rfl : k = s := by omega
      go_wp2
      refine bodyPost_ret (v := .agg #[.int .i64 (pre l k), .int .i64 (pre l k + x0)]) (by simp [results, Try.results73, go_sem]) rfl ?_
      rw [HS1.out]
      exact ⟨rfl, ((Below.refl _ _).alloc (Nat.le_refl _) _).alloc (by simp) _⟩

set_option maxRecDepth 100000 in
set_option maxHeartbeats 1000000 in
theorem erase_any (A : Option Addr) (cap : Nat) (l : List Int) (s : Nat) (W : Option Addr) (d : Nat) (ws : List Int) (base : Nat) (w : World) (hr : RowV w A (ints l)) (hv : Within 1 4096 l) (hn : l.length ≤ 20) (hc : l.length ≤ cap) (hs : s < l.length)
    (hO : Own w base 3 1 W ws.length d (ints ws)) (hw : pre l (s + 1) ≤ ws.length) :
    Calls Try.prog 67 #[.agg #[.slice A l.length cap], .slice W ws.length d, .int .i64 s] w fun e w' => e = .returned (.tuple #[]) ∧ Own w' base 3 1 W ws.length d (ints (eraseV l ws s)) ∧ w.grownBy w' (ablk W) := by
  obtain ⟨x0, hx0⟩ := get_some l hs
  have hbd0 := hv.get hx0
  have hs1 := pre_succ hx0
  have hps := pre_bd hv hn s
  have hps1 := pre_bd hv hn (s + 1)
  obtain ⟨y0, hy0⟩ := get_some ws (k := 0) (by omega)
  obtain ⟨g, o, rfl, _⟩ := hO.row.int hy0
  obtain rfl := hO.zero
  have hgl := hO.low g rfl
  obtain ⟨a, ha⟩ : ∃ a : Nat, pre l s = a := ⟨(pre l s).toNat, by omega⟩
  obtain ⟨z, hz⟩ : ∃ z : Nat, pre l (s + 1) = z := ⟨(pre l (s + 1)).toNat, by omega⟩
  have haz : a < z := by omega
  have hzw : z ≤ ws.length := by omega
  have hz8 : z ≤ 81920 := by omega
  have HA := Lib.hid ha; have HZ := Lib.hid hz
  clear hx0 hs1 hy0 ha hz
  go_enter Try.func67, Try.ntmps67
  go_wp2_with fail
  refine (window_any A cap l s _ (hr.alloc _) hv hn hc hs).mono ?_
  rintro e w1 ⟨rfl, hb1⟩
  have hg1 : w.grownBy w1 (some g) := grown_trans (grown_alloc (grown_refl w _) _) (grown_below hb1 _)
  have hO1 : Own w1 base 3 1 (some ⟨g, 0, none⟩) ws.length d (ints ws) := (hO.alloc _).keptAll hb1
  have hz1 : w.heap.size < w1.heap.size := by have := hb1.size; simp at this; omega
  clear hb1
  rw [HA.out, HZ.out]
  have hX1 := Blk.new w1 67 #[.int .i64 (a : Int), .int .i64 (z : Int)]
  have hO2 := hO1.alloc (.cells #[.int .i64 (a : Int), .int .i64 (z : Int)] 67)
  have hg2 := grown_alloc hg1 (.cells #[.int .i64 (a : Int), .int .i64 (z : Int)] 67)
  go_wp2_with fail
  go_loopg [7] (z - a) (fun m i wr => ∃ k, a ≤ k ∧ k + m = z ∧ i = .int .i64 (k : Nat) ∧ Own wr base 3 1 (some ⟨g, 0, none⟩) ws.length d (ints (eraseTo ws a k)) ∧ Blk wr w1.heap.size 67 #[.int .i64 (a : Int), .int .i64 (z : Int)] ∧ w.grownBy wr (some g))
  case atStart => exact ⟨a, Nat.le_refl _, by omega, rfl, by rw [eraseTo_same]; exact hO2, hX1, hg2⟩
  case round =>
    obtain ⟨k, hak, hkm, rfl, hOk, hX, hg⟩ := hrel
    clear hX1 hO2 hg2
    have cX := hX.cell 1 rfl
    by_cases hlt : k < z
    · obtain ⟨u, hu⟩ := get_some (eraseTo ws a k) (k := k) (by rw [eraseTo_len]; omega)
      have cW := hOk.cell0 (i := k) (u := .int .i64 u) (by simp [ints, hu])
      have fW := hOk.frozen k
      clear hu
      go_wp2
      go_roundg (gk - 1)
      case measure => omega
      case rel =>
        refine ⟨k + 1, by omega, by omega, by go_num, ?_, hX.far (by simp; omega) _, grown_set hg (.inl rfl) _⟩
        have := hOk.set0 k (.int .i64 65535)
        rw [show ((k + 1 : Nat) : Int) = (k : Int) + 1 from by omega, eraseTo_step ws a k (by omega), ints, List.map_set]
        exact this
    · obtain rfl : k = z := by omega
      go_wp2
      go_end0
      exact ⟨rfl, by rw [eraseV_to, HA.out, HZ.out]; exact hOk, hg⟩

set_option maxRecDepth 100000 in
set_option maxHeartbeats 1000000 in
theorem erased_any (A : Option Addr) (cap : Nat) (l : List Int) (s : Nat) (W : Option Addr) (d : Nat) (ws : List Int) (w : World) (hr : RowV w A (ints l)) (hv : Within 1 4096 l) (hn : l.length ≤ 20) (hs : s < l.length)
    (hws : RowV w W (ints ws)) (hw : (ws.length : Int) = sumI l) :
    Calls Try.prog 68 #[.agg #[.slice A l.length cap], .slice W ws.length d, .int .i64 s] w fun e w' => ∃ D c, e = .returned (.slice D ws.length c) ∧ Own w' w.heap.size 3 1 D ws.length c (ints (eraseV l ws s)) ∧ Below w.heap.size w w' := by
  have hsb := sumI_bd l hv
  have hwl : ws.length ≤ 81920 := by omega
  have HW := Lib.hid hw; clear hw
  go_enter Try.func68, Try.ntmps68
  go_wp2_with fail
  refine (cloneInts_any W d ws _ (hws.alloc _) (by omega)).mono ?_
  rintro e w1 ⟨D, c, rfl, hO1, hb1⟩
  have hb1' : Below w.heap.size w w1 := ((Below.refl _ _).alloc (Nat.le_refl _) _).trans (hb1.mono (by simp))
  have hF1 : Blk w1 w.heap.size 27 #[.slice A l.length cap] := (Blk.new w _ _).belowS hb1
  have hO1' := hO1.mono (b := w.heap.size + 1) (by simp)
  clear hb1 hO1
  go_wp2_with fail
  go_loopg [8, 9, 10, 11, 16] ws.length (fun m _ _ _ _ i wr => ∃ k, k + m = ws.length ∧ i = .int .i64 (k : Nat) ∧ Own wr (w.heap.size + 1) 3 1 D ws.length c (ints (eraseBy l ws s k)) ∧ Blk wr w.heap.size 27 #[.slice A l.length cap] ∧ Below w.heap.size w wr)
  case atStart => exact ⟨0, by omega, rfl, by rw [eraseBy_zero]; exact hO1', hF1, hb1'⟩
  case round =>
    obtain ⟨k, hkm, rfl, hO, hF, hb⟩ := hrel
    clear hO1' hF1 hb1'
    by_cases hlt : k < ws.length
    · have cF := hF.cell 0 rfl
      have hadr : isAddr l k = true := isAddr_true (by omega) (by have := HW.out; omega)
      have hsv := sectorAtV_yes hadr
      have HSV := Lib.hid hsv; clear hsv hadr
      obtain ⟨u, hu⟩ := get_some (eraseBy l ws s k) (k := k) (by rw [eraseBy_len]; exact hlt)
      obtain ⟨g, o, rfl, _⟩ := hO.row.int hu
      obtain rfl := hO.zero
      have hgl := hO.low g rfl
      have hui : (ints (eraseBy l ws s k))[k]? = some (.int .i64 u) := by simp [ints, hu]
      have HU := Lib.hid hui; clear hui hu
      go_wp2_with fail
      refine (sectorAt_any A cap l k _ (hr.belowS hb) hv hn).mono ?_
      rintro e w2 ⟨rfl, hb2⟩
      rw [HSV.out]
      have hO2 := hO.keptAll hb2
      have hF2 := hF.belowS hb2
      have hb2' := hb.trans (hb2.mono hb.size)
      have cW := hO2.cell0 HU.out
      have fW := hO2.frozen k
      clear hb2 hO hF hb cF
      by_cases hsec : secOf l k = s
      · have hsec' : ((secOf l k : Int) == (s : Int)) = true := beq_iff_eq.2 (by omega)
        have HSEC := Lib.hid hsec; clear hsec
        go_wp2
        go_roundg (gk - 1)
        case measure => omega
        case rel =>
          refine ⟨k + 1, by omega, by go_num, ?_, hF2.far (by simp; omega) _, hb2'.setCell (by simp; omega) _⟩
          have := hO2.set0 k (.int .i64 65535)
          rw [eraseBy_hit l ws s k HSEC.out, ints, List.map_set]
          exact this
      · have hsec' : ((secOf l k : Int) == (s : Int)) = false := beq_eq_false_iff_ne.2 (by omega)
        have HSEC := Lib.hid hsec; clear hsec
        go_wp2
        go_roundg (gk - 1)
        case measure => omega
        case rel => exact ⟨k + 1, by omega, by go_num, by rw [eraseBy_miss l ws s k HSEC.out]; exact hO2, hF2, hb2'⟩
    · obtain rfl : k = ws.length := by omega
      go_wp2
      go_ret
      exact ⟨D, c, rfl, by rw [← eraseBy_all hv HW.out hs]; exact hO.mono (by omega), hb⟩
end Go.Proofs.Ytmnhlfkphibhfaa
