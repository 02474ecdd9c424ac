/-
  What Apply and its reference compute.
-/
import Derived.Test.YtmnhlfkphibhfaaFlash6
import Derived.Test.YtmnhlfkphibhfaaFlash4
import Derived.Laws.BitsAllLaws
import Derived.Laws.BitsLemmas
import Derived.Deep.RegionWith
namespace Go.Proofs.Ytmnhlfkphibhfaa
open Go.RowKit
set_option linter.unusedVariables false
set_option linter.unusedSimpArgs false
attribute [local go_sem ↓] Go.wp_at_zero Go.wp_at_succ

theorem ofInt_nat64 (a : Nat) (ha : a < 9223372036854775808) : (BitVec.ofInt 64 (a : Int)).toNat = a := by
  rw [BitVec.ofInt_natCast, BitVec.toNat_ofNat]; exact Nat.mod_eq_of_lt (by omega)
theorem and_i64 {a b : Int} (ha0 : 0 ≤ a) (ha : a ≤ 9223372036854775807) (hb0 : 0 ≤ b) (hb : b ≤ 9223372036854775807) : bits .and .i64 a b = andI a b := by
  obtain ⟨m, rfl⟩ := Int.eq_ofNat_of_zero_le ha0
  obtain ⟨n, rfl⟩ := Int.eq_ofNat_of_zero_le hb0
  have hx : m &&& n < 2 ^ 63 := Nat.and_lt_two_pow _ (by omega)
  show IntKind.i64.wrap ((BitVec.ofInt 64 (m : Int) &&& BitVec.ofInt 64 (n : Int)).toNat : Int) = _
  rw [BitVec.toNat_and, ofInt_nat64 m (by omega), ofInt_nat64 n (by omega), IntKind.wrap_i64]
  unfold andI
  simp only [Int.toNat_natCast]
  omega

theorem applyV_step {l ws : List Int} {xs : List FOp} {k : Nat} {x : FOp} (h : xs[k]? = some x) : applyV l ws (xs.take (k + 1)) = opV l (applyV l ws (xs.take k)) x := by rw [take_snoc h, applyV_snoc]
theorem opV_er {l ws : List Int} {x : FOp} (h : x.k = 1) : opV l ws x = eraseV l ws x.a.toNat := by unfold opV; rw [if_pos h]
theorem opV_pr {l ws : List Int} {x : FOp} (h : x.k ≠ 1) {u : Int} (hu : ws[x.a.toNat]? = some u) : opV l ws x = ws.set x.a.toNat (andI u x.v) := by
  unfold opV; rw [if_neg h, List.getD_eq_getElem?_getD, hu]; rfl

set_option maxRecDepth 100000 in
set_option maxHeartbeats 2000000 in
theorem appliedTo_any (A : Option Addr) (cap : Nat) (l : List Int) (W : Option Addr) (d : Nat) (ws : List Int) (B : Option Addr) (c : Nat) (xs : List FOp) (w : World) (hr : RowV w A (ints l)) (ok : FlashOk l)
    (hws : RowV w W (ints ws)) (hw : (ws.length : Int) = sumI l) (hwi : Within 0 65535 ws) (hxs : RowV w B (ops xs)) (hxl : xs.length ≤ 50000) (hok : ∀ x ∈ xs, OpOk l x) :
    Calls Try.prog 24 #[.agg #[.slice A l.length cap], .slice W ws.length d, .slice B xs.length c] w fun e w' => ∃ D n, e = .returned (.slice D ws.length n) ∧ Own w' w.heap.size 3 1 D ws.length n (ints (applyV l ws xs)) ∧ Below w.heap.size w w' := by
  have hv := ok.wit
  have hn := ok.len
  have hsm := ok.sum
  have hwl : ws.length ≤ 4096 := by omega
  have HW := Lib.hid hw; clear hw
  go_enter Try.func24, Try.ntmps24
  go_wp2_with fail
  refine (cloneInts_any W d ws _ (hws.alloc _) (by omega)).mono ?_
  rintro e w1 ⟨D, n, rfl, hO1, hb1⟩
  have hb1' : Below w.heap.size w w1 := ((Below.refl _ _).alloc (Nat.le_refl _) _).trans (hb1.mono (by simp))
  have hF1 : Blk w1 w.heap.size 27 #[.slice A l.length cap] := (Blk.new w _ _).belowS hb1
  have hO1' := hO1.mono (b := w.heap.size + 1) (by simp)
  clear hb1 hO1
  go_wp2_with fail
  go_loopg [7, 9, 14] xs.length (fun m v _ i wr => ∃ k D n, k + m = xs.length ∧ i = .int .i64 (k : Nat) ∧ v = .slice D ws.length n ∧ Own wr (w.heap.size + 1) 3 1 D ws.length n (ints (applyV l ws (xs.take k))) ∧ Blk wr w.heap.size 27 #[.slice A l.length cap] ∧ Below w.heap.size w wr)
  case atStart => exact ⟨0, D, n, by omega, rfl, rfl, hO1', hF1, hb1'⟩
  case round =>
    obtain ⟨k, D, n, hkm, rfl, rfl, hO, hF, hb⟩ := hrel
    clear hO1' hF1 hb1'
    by_cases hlt : k < xs.length
    · obtain ⟨x, hx⟩ := get_some xs hlt
      have hxo := hok x (mem_of_get hx)
      obtain ⟨b, o, rfl, hc0, hc1, hc2⟩ := (hxs.belowS hb).op hx
      have hstep := applyV_step (l := l) (ws := ws) hx
      have hlen : (applyV l ws (xs.take k)).length = ws.length := applyV_len _ _ _
      have hwk : Within 0 65535 (applyV l ws (xs.take k)) := applyV_within hwi
      have HSTEP := Lib.hid hstep; clear hstep hx
      obtain ⟨cur, hcur⟩ : ∃ cur, applyV l ws (xs.take k) = cur := ⟨_, rfl⟩
      rw [hcur] at hO hlen hwk HSTEP
      clear hcur
      have HLEN := Lib.hid hlen; clear hlen
      have hF2 := hF.alloc (.cells #[.int .i64 x.k, .int .i64 x.a, .int .i64 x.v] 63)
      have hX2 := Blk.new wr 63 #[.int .i64 x.k, .int .i64 x.a, .int .i64 x.v]
      have hO2 := hO.alloc (.cells #[.int .i64 x.k, .int .i64 x.a, .int .i64 x.v] 63)
      have hb2 : Below w.heap.size w (wr.alloc (.cells #[.int .i64 x.k, .int .i64 x.a, .int .i64 x.v] 63)) := hb.alloc hb.size _
      have cF2 := hF2.cell 0 rfl
      by_cases k1 : x.k = 1
      · have e2 : (x.k == 1) = true := beq_iff_eq.2 k1
        have ha := hxo.er k1
        obtain ⟨sN, hsN⟩ : ∃ sN : Nat, x.a = sN := ⟨x.a.toNat, by omega⟩
        have hsl : sN < l.length := by omega
        have hop : opV l cur x = eraseV l cur sN := by rw [opV_er k1, hsN]; rfl
        have HOP := Lib.hid hop; clear hop
        have HSN := Lib.hid hsN; clear hsN k1 ha hxo
        go_wp2_with fail
        rw [HSN.out]
        have hOl : Own (wr.alloc (.cells #[.int .i64 x.k, .int .i64 x.a, .int .i64 x.v] 63)) (w.heap.size + 1) 3 1 D cur.length n (ints cur) := by rw [HLEN.out]; exact hO2
        rw [HSN.out] at hOl hb2 hF2
        have herase := erased_any A cap l sN D n cur _ (hr.belowS hb2) hv hn hsl hOl.row (by rw [HLEN.out]; exact HW.out)
        rw [HLEN.out] at herase
        refine herase.mono ?_
        rintro e w3 ⟨D3, n3, rfl, hO3, hb3⟩
        have hF3 := hF2.belowS hb3
        have hb3' := hb2.trans (hb3.mono hb2.size)
        have hO3' := hO3.mono (b := w.heap.size + 1) (by have := hb.size; have := hF.lt; simp; omega)
        clear hb3 hO3 hb2 herase
        go_wp2_with fail
        go_roundg (gk - 1)
        case measure => omega
        case rel => exact ⟨k + 1, D3, n3, by omega, by go_num, rfl, by rw [HSTEP.out, HOP.out]; exact hO3', hF3, hb3'⟩
      · have e2 : (x.k == 1) = false := beq_eq_false_iff_ne.2 k1
        have ha := hxo.pr (by have := hxo.kind; omega)
        have hal : x.a.toNat < ws.length := by have := HW.out; omega
        obtain ⟨u, hu⟩ := get_some cur (k := x.a.toNat) (by rw [HLEN.out]; exact hal)
        have hub := hwk.get hu
        have hop : opV l cur x = cur.set x.a.toNat (andI u x.v) := opV_pr k1 hu
        have HOP := Lib.hid hop; clear hop
        obtain ⟨g, o', rfl, _⟩ := hO2.row.int hu
        obtain rfl := hO2.zero
        have hgl := hO2.low g rfl
        have hui : (ints cur)[x.a.toNat]? = some (.int .i64 u) := by simp [ints, hu]
        have hcW := hO2.cell0 hui
        have hfW := hO2.frozen x.a.toNat
        have hand : bits .and .i64 u x.v = andI u x.v := and_i64 hub.1 (by omega) ha.2.2.1 (by omega)
        have c0 := hX2.cell 0 rfl
        have c1 := hX2.cell 1 rfl
        have c2 := hX2.cell 2 rfl
        have ha0 : (0 : Int) ≤ x.a := ha.1
        have hal' : x.a < (ws.length : Int) := by have := HW.out; omega
        clear hui hu hub
        clear k1 ha hxo
        go_wp2_with fail
        go_region
        all_goals
          go_wp2_with fail
          go_roundg (gk - 1)
          case measure => omega
          case rel =>
            refine ⟨k + 1, some ⟨g, 0, none⟩, n, by omega, by go_num, rfl, ?_, ?_, ?_⟩
            · rw [HSTEP.out, HOP.out, ints, List.map_set]
              exact hO2.drew.set0 x.a.toNat _
            · exact hF2.drew.far (by simp; omega) _
            · exact hb2.drew.setCell (by simp; omega) _
    · obtain rfl : k = xs.length := by omega
      go_wp2_with fail
      go_ret
      exact ⟨D, n, rfl, by have := hO; rw [List.take_length] at this; exact this.mono (by omega), hb⟩
end Go.Proofs.Ytmnhlfkphibhfaa
