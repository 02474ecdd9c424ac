/-
  What Apply computes.
-/
import Derived.Test.YtmnhlfkphibhfaaFlash7
namespace Go.Proofs.Ytmnhlfkphibhfaa
open Go.RowKit
set_option linter.unusedVariables false
set_option linter.unusedSimpArgs false
attribute [local go_sem ↓] Go.wp_at_zero Go.wp_at_succ

set_option maxRecDepth 100000 in
set_option maxHeartbeats 2000000 in
theorem apply_any (A : Option Addr) (cap : Nat) (l : List Int) (W : Option Addr) (d : Nat) (ws : List Int) (B : Option Addr) (c : Nat) (xs : List FOp) (w : World) (hr : RowV w A (ints l)) (hm : l.length ≤ cap) (hcap : cap ≤ 9223372036854775807)
    (hws : RowV w W (ints ws)) (hwl : ws.length * 8 ≤ 140737488355328) (hxs : RowV w B (ops xs)) (hxl : xs.length ≤ 9223372036854775807) (hxo : ∀ x ∈ xs, IntsOk x) :
    Calls Try.prog 21 #[.agg #[.slice A l.length cap], .slice W ws.length d, .slice B xs.length c] w fun e w' => ∃ D n, e = .returned (.tuple #[.slice D (applyR l ws xs).length n, .int .i64 (applyFault l ws xs)]) ∧ Own w' w.heap.size 3 1 D (applyR l ws xs).length n (ints (applyR l ws xs)) ∧ Below w.heap.size w w' := by
  have hF0 := Blk.new w 27 #[.slice A l.length cap]
  have hb0 : Below w.heap.size w (w.alloc (.cells #[.slice A l.length cap] 27)) := (Below.refl _ _).alloc (Nat.le_refl _) _
  obtain ⟨fi, hfi⟩ : ∃ f, checkImage l ws = f := ⟨_, rfl⟩
  obtain ⟨fo, hfo⟩ : ∃ f, checkOps l xs = f := ⟨_, rfl⟩
  obtain ⟨ff, hff⟩ : ∃ f, applyFault l ws xs = f := ⟨_, rfl⟩
  have hfirst : firstBad (fun x => x) [fi, fo] = ff := by rw [← hfi, ← hfo]; exact hff
  have HFI := Lib.hid hfi; have HFO := Lib.hid hfo; have HFIRST := Lib.hid hfirst
  by_cases hz : ff = 0
  · have hz' : (ff != 0) = false := by rw [bne_eq_false_iff_eq]; exact hz
    obtain ⟨ok, hw, hwi, hx5, hok⟩ := applyFault_ok (hff.trans hz)
    have hres : applyR l ws xs = applyV l ws xs := by unfold applyR; rw [if_pos (hff.trans hz)]
    rw [hres, hff]
    have hfin := applyV_len l ws xs
    have HFIN := Lib.hid hfin
    have hv := ok.wit
    have hn := ok.len
    have hsm := ok.sum
    have hwl4 : ws.length ≤ 4096 := by omega
    have HW := Lib.hid hw; have HZ := Lib.hid hz
    clear hfi hfo hff hfirst hz hw hres hfin
    go_enter Try.func21, Try.ntmps21
    go_wp2_with fail
    go_region_held3 (fun w' => w'.cell? ⟨w.heap.size, 0, none⟩ = some (.slice A l.length cap))
      (first
        | exact hF0.drew.cell 0 rfl
        | exact hF3.cell 0 rfl
        | exact hF2.cell 0 rfl
        | exact (hF2.alloc _).cell 0 rfl
        | exact hF1.cell 0 rfl)
      ((first
        | (go_at_call 17; refine (checkImage_any A cap l W d ws _ (hr.belowS hb0.drew) (by omega) (hws.belowS hb0.drew) (by omega)).mono ?_; rintro e w1 ⟨rfl, hb1⟩; rw [HFI.out]; have hF1 := hF0.drew.belowS hb1; have hb1' := hb0.drew.trans (hb1.mono hb0.drew.size))
        | (go_at_call 18; refine (checkOps_any A cap l B c xs _ (hr.belowS hb1') (by omega) (hxs.belowS hb1') hxl hxo).mono ?_; rintro e w2 ⟨rfl, hb2⟩; rw [HFO.out]; have hF2 := hF1.belowS hb2; have hb2' := hb1'.trans (hb2.mono hb1'.size))
        | (go_at_call 65; refine (first_any (some ⟨w2.heap.size, 0, none⟩) 2 [fi, fo] _ (RowV.new w2 33 #[.int .i64 fi, .int .i64 fo]) (by simp)).mono ?_; rintro e w3 ⟨rfl, hw3⟩; rw [HFIRST.out]; have hF3 := hF2.alloc (.cells #[.int .i64 fi, .int .i64 fo] 33); have hb3' := hb2'.alloc hb2'.size (.cells #[.int .i64 fi, .int .i64 fo] 33); rw [hw3] at hF3 hb3')))
    go_wp2_with fail
    refine (cloneInts_any W d ws _ (hws.belowS hb3') (by omega)).mono ?_
    rintro e w4 ⟨D, n, rfl, hO4, hb4⟩
    have hF4 := hF3.belowS hb4
    have hb4' := hb3'.trans (hb4.mono hb3'.size)
    have hO4' := hO4.mono (b := w.heap.size + 1) (by have := hF3.lt; omega)
    clear hO4 hb4
    go_wp2_with fail
    go_loopg [11, 27] xs.length (fun m _ i wr => ∃ k, k + m = xs.length ∧ i = .int .i64 (k : Nat) ∧ Own wr (w.heap.size + 1) 3 1 D ws.length n (ints (applyV l ws (xs.take k))) ∧ Blk wr w.heap.size 27 #[.slice A l.length cap] ∧ Below w.heap.size w wr)
    case atStart => exact ⟨0, by omega, rfl, hO4', hF4, hb4'⟩
    case round =>
      obtain ⟨k, hkm, rfl, hO, hF, hb⟩ := hrel
      clear hO4' hF4 hb4' hF3 hb3' hF2 hb2' hF1 hb1'
      by_cases hlt : k < xs.length
      · obtain ⟨x, hx⟩ := get_some xs hlt
        have hxo := hok x (mem_of_get hx)
        obtain ⟨b, o, rfl, hc0, hc1, hc2⟩ := (hxs.belowS hb).op hx
        have hstep := applyV_step (l := l) (ws := ws) hx
        have hlen : (applyV l ws (xs.take k)).length = ws.length := applyV_len _ _ _
        have hwk : Within 0 65535 (applyV l ws (xs.take k)) := applyV_within hwi
        have HSTEP := Lib.hid hstep; clear hstep hx
        obtain ⟨cur, hcur⟩ : ∃ cur, applyV l ws (xs.take k) = cur := ⟨_, rfl⟩
        rw [hcur] at hO hlen hwk HSTEP
        clear hcur
        have HLEN := Lib.hid hlen; clear hlen
        have hF2 := hF.alloc (.cells #[.int .i64 x.k, .int .i64 x.a, .int .i64 x.v] 63)
        have hX2 := Blk.new wr 63 #[.int .i64 x.k, .int .i64 x.a, .int .i64 x.v]
        have hO2 := hO.alloc (.cells #[.int .i64 x.k, .int .i64 x.a, .int .i64 x.v] 63)
        have hb2 : Below w.heap.size w (wr.alloc (.cells #[.int .i64 x.k, .int .i64 x.a, .int .i64 x.v] 63)) := hb.alloc hb.size _
        have cF2 := hF2.cell 0 rfl
        by_cases k1 : x.k = 1
        · have e2 : (x.k == 1) = true := beq_iff_eq.2 k1
          have ha := hxo.er k1
          obtain ⟨sN, hsN⟩ : ∃ sN : Nat, x.a = sN := ⟨x.a.toNat, by omega⟩
          have hsl : sN < l.length := by omega
          have hop : opV l cur x = eraseV l cur sN := by rw [opV_er k1, hsN]; rfl
          have HOP := Lib.hid hop; clear hop
          have HSN := Lib.hid hsN; clear hsN k1 ha hxo
          go_wp2_with fail
          rw [HSN.out]
          have hOl : Own (wr.alloc (.cells #[.int .i64 x.k, .int .i64 x.a, .int .i64 x.v] 63)) (w.heap.size + 1) 3 1 D cur.length n (ints cur) := by rw [HLEN.out]; exact hO2
          rw [HSN.out] at hOl hb2 hF2 hO2
          have herase := erase_any A cap l sN D n cur (w.heap.size + 1) _ (hr.belowS hb2) hv hn hm hsl hOl (by rw [HLEN.out, HW.out]; exact pre_le hv _)
          rw [HLEN.out] at herase
          refine herase.mono ?_
          rintro e w3 ⟨rfl, hO3, hg3⟩
          have hF3 := hF2.grown hg3 (fun e => by have := hO2.low _ e.symm; omega)
          have hb3' : Below w.heap.size w w3 := hb2.grown hg3 hb2.size (fun g hg => by have := hO2.low _ hg; omega)
          clear hg3 hb2 herase
          go_wp2_with fail
          go_roundg (gk - 1)
          case measure => omega
          case rel => exact ⟨k + 1, by omega, by go_num, by rw [HSTEP.out, HOP.out]; exact hO3, hF3, hb3'⟩
        · have e2 : (x.k == 1) = false := beq_eq_false_iff_ne.2 k1
          have ha := hxo.pr (by have := hxo.kind; omega)
          have hal : x.a.toNat < ws.length := by have := HW.out; omega
          obtain ⟨u, hu⟩ := get_some cur (k := x.a.toNat) (by rw [HLEN.out]; exact hal)
          have hub := hwk.get hu
          have hop : opV l cur x = cur.set x.a.toNat (andI u x.v) := opV_pr k1 hu
          have HOP := Lib.hid hop; clear hop
          obtain ⟨g, o', rfl, _⟩ := hO2.row.int hu
          obtain rfl := hO2.zero
          have hgl := hO2.low g rfl
          have hui : (ints cur)[x.a.toNat]? = some (.int .i64 u) := by simp [ints, hu]
          have hcW := hO2.cell0 hui
          have hfW := hO2.frozen x.a.toNat
          have hand : bits .and .i64 u x.v = andI u x.v := and_i64 hub.1 (by omega) ha.2.2.1 (by omega)
          have c0 := hX2.cell 0 rfl
          have c1 := hX2.cell 1 rfl
          have c2 := hX2.cell 2 rfl
          have ha0 : (0 : Int) ≤ x.a := ha.1
          have hal' : x.a < (ws.length : Int) := by have := HW.out; omega
          clear hui hu hub k1 ha hxo
          go_wp2_with fail
          go_region
          all_goals
            go_wp2_with fail
            go_roundg (gk - 1)
            case measure => omega
            case rel =>
              refine ⟨k + 1, by omega, by go_num, ?_, ?_, ?_⟩
              · rw [HSTEP.out, HOP.out, ints, List.map_set]
                exact hO2.drew.set0 x.a.toNat _
              · exact hF2.drew.far (by simp; omega) _
              · exact hb2.drew.setCell (by simp; omega) _
      · obtain rfl : k = xs.length := by omega
        go_wp2_with fail
        go_ret2
        rw [HZ.out, HFIN.out]
        exact ⟨D, n, rfl, by have := hO; rw [List.take_length] at this; exact this.mono (by omega), hb⟩
  · have hz' : (ff != 0) = true := by rw [bne_iff_ne]; exact hz
    have hres : applyR l ws xs = [] := by unfold applyR; rw [if_neg (by rw [hff]; exact hz)]
    rw [hres, hff]
    clear hfi hfo hff hfirst hz hres
    go_enter Try.func21, Try.ntmps21
    go_wp2_with fail
    go_region_held3 (fun w' => w'.cell? ⟨w.heap.size, 0, none⟩ = some (.slice A l.length cap))
      (first
        | exact hF0.drew.cell 0 rfl
        | exact hF3.cell 0 rfl
        | exact hF2.cell 0 rfl
        | exact (hF2.alloc _).cell 0 rfl
        | exact hF1.cell 0 rfl)
      ((first
        | (go_at_call 17; refine (checkImage_any A cap l W d ws _ (hr.belowS hb0.drew) (by omega) (hws.belowS hb0.drew) (by omega)).mono ?_; rintro e w1 ⟨rfl, hb1⟩; rw [HFI.out]; have hF1 := hF0.drew.belowS hb1; have hb1' := hb0.drew.trans (hb1.mono hb0.drew.size))
        | (go_at_call 18; refine (checkOps_any A cap l B c xs _ (hr.belowS hb1') (by omega) (hxs.belowS hb1') hxl hxo).mono ?_; rintro e w2 ⟨rfl, hb2⟩; rw [HFO.out]; have hF2 := hF1.belowS hb2; have hb2' := hb1'.trans (hb2.mono hb1'.size))
        | (go_at_call 65; refine (first_any (some ⟨w2.heap.size, 0, none⟩) 2 [fi, fo] _ (RowV.new w2 33 #[.int .i64 fi, .int .i64 fo]) (by simp)).mono ?_; rintro e w3 ⟨rfl, hw3⟩; rw [HFIRST.out]; have hF3 := hF2.alloc (.cells #[.int .i64 fi, .int .i64 fo] 33); have hb3' := hb2'.alloc hb2'.size (.cells #[.int .i64 fi, .int .i64 fo] 33); rw [hw3] at hF3 hb3')))
    go_wp2_with fail
    go_ret2
    exact ⟨none, 0, rfl, Own.nil _ _ _ _, hb3'⟩
end Go.Proofs.Ytmnhlfkphibhfaa
