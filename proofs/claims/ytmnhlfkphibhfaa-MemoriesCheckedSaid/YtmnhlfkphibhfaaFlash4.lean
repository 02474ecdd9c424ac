/-
  What the program's check of operations computes.
-/
import Derived.Test.YtmnhlfkphibhfaaFlash3
namespace Go.Proofs.Ytmnhlfkphibhfaa
open Go.RowKit
set_option linter.unusedVariables false
set_option linter.unusedSimpArgs false
attribute [local go_sem ↓] Go.wp_at_zero Go.wp_at_succ

set_option maxRecDepth 100000 in
set_option maxHeartbeats 1000000 in
theorem checkOps_any (A : Option Addr) (cap : Nat) (l : List Int) (B : Option Addr) (c : Nat) (xs : List FOp) (w : World) (hr : RowV w A (ints l)) (hm : l.length ≤ 9223372036854775807)
    (hxs : RowV w B (ops xs)) (hxl : xs.length ≤ 9223372036854775807) (hok : ∀ x ∈ xs, IntsOk x) :
    Calls Try.prog 18 #[.agg #[.slice A l.length cap], .slice B xs.length c] w fun e w' => e = .returned (.int .i64 (checkOps l xs)) ∧ Below w.heap.size w w' := by
  by_cases hf0 : flashFault l = 0
  · have ok := flashFault_ok hf0
    have hv := ok.wit
    have hn := ok.len
    have hf0' : (flashFault l != 0) = false := by rw [bne_eq_false_iff_eq]; exact hf0
    have ec0 : checkOps l xs = opsFault l xs := by unfold checkOps; rw [if_pos hf0]
    have EC0 := Lib.hid ec0; clear ec0
    have HF0 := Lib.hid hf0; clear hf0
    by_cases h1 : 50000 < xs.length
    · have h1' : (50000 : Int) < (xs.length : Int) := by omega
      go_enter Try.func18, Try.ntmps18
      go_wp2_with fail
      refine (checkFlash_any A cap l _ (hr.alloc _) hm).mono ?_
      rintro e w0 ⟨rfl, hb0⟩
      go_wp2_with fail
      go_ret
      exact ⟨ret_i64 (by rw [EC0.out]; unfold opsFault; rw [if_pos h1]), ((Below.refl _ _).alloc (Nat.le_refl _) _).trans (hb0.mono (by simp))⟩
    · have h1' : decide ((50000 : Int) < (xs.length : Int)) = false := decide_eq_false (by omega)
      have ec : checkOps l xs = firstBad (opFault l.length (sumI l)) xs := by rw [EC0.out]; unfold opsFault; rw [if_neg h1]
      have EC := Lib.hid ec; clear ec EC0
      go_enter Try.func18, Try.ntmps18
      go_wp2_with fail
      refine (checkFlash_any A cap l _ (hr.alloc _) hm).mono ?_
      rintro e w0 ⟨rfl, hb0⟩
      have hb0' : Below w.heap.size w w0 := ((Below.refl _ _).alloc (Nat.le_refl _) _).trans (hb0.mono (by simp))
      have hF0 : Blk w0 w.heap.size 27 #[.slice A l.length cap] := (Blk.new w _ _).belowS hb0
      clear hb0
      go_wp2_with fail
      go_loopg [7, 18] xs.length (fun m _ i wr => ∃ k, k + m = xs.length ∧ i = .int .i64 (k : Nat) ∧ Hid (firstBad (opFault l.length (sumI l)) (xs.take k) = 0) ∧ Below w.heap.size w wr ∧ Blk wr w.heap.size 27 #[.slice A l.length cap])
      case atStart => exact ⟨0, by omega, rfl, rfl, hb0', hF0⟩
      case round =>
        obtain ⟨k, hkm, rfl, HB, hb, hF⟩ := hrel
        clear hb0' hF0
        by_cases hlt : k < xs.length
        · obtain ⟨x, hx⟩ := get_some xs hlt
          have hi := hok x (mem_of_get hx)
          obtain ⟨b, o, rfl, hc0, hc1, hc2⟩ := (hxs.belowS hb).op hx
          have hsz := sumI_bd l hv
          have HX := Lib.hid hx; clear hx
          have hF1 := hF.alloc (.cells #[.int .i64 x.k, .int .i64 x.a, .int .i64 x.v] 63)
          have hX1 := Blk.new wr 63 #[.int .i64 x.k, .int .i64 x.a, .int .i64 x.v]
          have cF1 := hF1.cell 0 rfl
          have hbx : Below w.heap.size w (wr.alloc (.cells #[.int .i64 x.k, .int .i64 x.a, .int .i64 x.v] 63)) := hb.alloc hb.size _
          by_cases k1 : x.k = 1
          · have e2 : (x.k == 1) = true := beq_iff_eq.2 k1
            cases ho : outB x.a 0 ((l.length : Int) - 1)
            · by_cases hv0 : x.v = 0
              · have e4 : (x.v != 0) = false := by rw [bne_eq_false_iff_eq]; exact hv0
                have ef : opFault l.length (sumI l) x = 0 := by unfold opFault; rw [if_pos k1, ho, if_neg (by decide), if_pos hv0]
                have EF := Lib.hid ef; clear ef
                have HO := Lib.hid ho; clear ho
                clear k1 hv0
                go_wp2_with (go_at_call 62; refine (out_any _ _ _ _).mono ?_; rintro e w' ⟨rfl, rfl⟩; rw [HO.out])
                go_roundg (gk - 1)
                case measure => omega
                case rel => exact ⟨k + 1, by omega, by go_num, firstBad_step HX.out HB.out EF.out, hbx, hF1⟩
              · have e4 : (x.v != 0) = true := by rw [bne_iff_ne]; exact hv0
                have ef : opFault l.length (sumI l) x = 3 := by unfold opFault; rw [if_pos k1, ho, if_neg (by decide), if_neg hv0]
                have EF := Lib.hid ef; clear ef
                have HO := Lib.hid ho; clear ho
                clear k1 hv0
                go_wp2_with (go_at_call 62; refine (out_any _ _ _ _).mono ?_; rintro e w' ⟨rfl, rfl⟩; rw [HO.out])
                go_ret
                exact ⟨ret_i64 (by rw [EC.out, firstBad_hit HX.out HB.out (by rw [EF.out]; decide), EF.out]), hbx⟩
            · have ef : opFault l.length (sumI l) x = 1 := by unfold opFault; rw [if_pos k1, ho, if_pos rfl]
              have EF := Lib.hid ef; clear ef
              have HO := Lib.hid ho; clear ho
              clear k1
              go_wp2_with (go_at_call 62; refine (out_any _ _ _ _).mono ?_; rintro e w' ⟨rfl, rfl⟩; rw [HO.out])
              go_ret
              exact ⟨ret_i64 (by rw [EC.out, firstBad_hit HX.out HB.out (by rw [EF.out]; decide), EF.out]), hbx⟩
          · have e2 : (x.k == 1) = false := beq_eq_false_iff_ne.2 k1
            by_cases k2 : x.k = 2
            · have e3 : (x.k == 2) = true := beq_iff_eq.2 k2
              cases ho : outB x.a 0 (sumI l - 1)
              · cases hp : outB x.v 0 65535
                · have ef : opFault l.length (sumI l) x = 0 := by unfold opFault; rw [if_neg k1, if_pos k2, ho, hp]; rfl
                  have EF := Lib.hid ef; clear ef
                  have HO := Lib.hid ho; clear ho
                  have HP := Lib.hid hp; clear hp
                  clear k1 k2
                  have hwr : IntKind.i64.wrap (sumI l - 1) = sumI l - 1 := IntWalk.i64_in _ (by omega)
                  go_wp2_with fail
                  go_region_held3 (fun w' => w'.cell? ⟨wr.heap.size, 0, none⟩ = some (.int .i64 x.k) ∧ w'.cell? ⟨wr.heap.size, 1, none⟩ = some (.int .i64 x.a) ∧ w'.cell? ⟨wr.heap.size, 2, none⟩ = some (.int .i64 x.v) ∧ w'.cell? ⟨w.heap.size, 0, none⟩ = some (.slice A l.length cap))
                    (first
                      | exact S4_of hX1.drew hF1.drew
                      | exact S4_of hX2 hF2)
                    ((first
                      | (go_at_call 63; refine (size_any A cap l _ (hr.belowS hbx.drew) hv hn).mono ?_; rintro e w2 ⟨rfl, hb2⟩; have hX2 := hX1.drew.belowS hb2; have hF2 := hF1.drew.belowS hb2; have hbx2 := hbx.drew.trans (hb2.mono hbx.drew.size))
                      | (go_at_call 62; refine (out_any _ _ _ _).mono ?_; rintro e w3 ⟨rfl, hw3⟩; subst hw3; first | rw [HO.out] | rw [HP.out])))
                  go_wp2_with fail
                  go_roundg (gk - 1)
                  case measure => omega
                  case rel => exact ⟨k + 1, by omega, by go_num, firstBad_step HX.out HB.out EF.out, hbx2, hF2⟩
                · have ef : opFault l.length (sumI l) x = 1 := by unfold opFault; rw [if_neg k1, if_pos k2, ho, hp]; rfl
                  have EF := Lib.hid ef; clear ef
                  have HO := Lib.hid ho; clear ho
                  have HP := Lib.hid hp; clear hp
                  clear k1 k2
                  have hwr : IntKind.i64.wrap (sumI l - 1) = sumI l - 1 := IntWalk.i64_in _ (by omega)
                  go_wp2_with fail
                  go_region_held3 (fun w' => w'.cell? ⟨wr.heap.size, 0, none⟩ = some (.int .i64 x.k) ∧ w'.cell? ⟨wr.heap.size, 1, none⟩ = some (.int .i64 x.a) ∧ w'.cell? ⟨wr.heap.size, 2, none⟩ = some (.int .i64 x.v) ∧ w'.cell? ⟨w.heap.size, 0, none⟩ = some (.slice A l.length cap))
                    (first
                      | exact S4_of hX1.drew hF1.drew
                      | exact S4_of hX2 hF2)
                    ((first
                      | (go_at_call 63; refine (size_any A cap l _ (hr.belowS hbx.drew) hv hn).mono ?_; rintro e w2 ⟨rfl, hb2⟩; have hX2 := hX1.drew.belowS hb2; have hF2 := hF1.drew.belowS hb2; have hbx2 := hbx.drew.trans (hb2.mono hbx.drew.size))
                      | (go_at_call 62; refine (out_any _ _ _ _).mono ?_; rintro e w3 ⟨rfl, hw3⟩; subst hw3; first | rw [HO.out] | rw [HP.out])))
                  go_wp2_with fail
                  go_ret
                  exact ⟨ret_i64 (by rw [EC.out, firstBad_hit HX.out HB.out (by rw [EF.out]; decide), EF.out]), hbx2⟩
              · have ef : opFault l.length (sumI l) x = 1 := by unfold opFault; rw [if_neg k1, if_pos k2, ho]; rfl
                have EF := Lib.hid ef; clear ef
                have HO := Lib.hid ho; clear ho
                clear k1 k2
                have hwr : IntKind.i64.wrap (sumI l - 1) = sumI l - 1 := IntWalk.i64_in _ (by omega)
                go_wp2_with fail
                refine wp_region_G 11 (fun w' => w'.cell? ⟨wr.heap.size, 0, none⟩ = some (.int .i64 x.k) ∧ w'.cell? ⟨wr.heap.size, 1, none⟩ = some (.int .i64 x.a) ∧ w'.cell? ⟨wr.heap.size, 2, none⟩ = some (.int .i64 x.v) ∧ w'.cell? ⟨w.heap.size, 0, none⟩ = some (.slice A l.length cap)) (by kernel_rfl) (S4_of hX1.drew hF1.drew) (fun hHeld => ?_)
                -- BEGIN REGION 17 (by program: gen_checkops.py)
                refine wpAnyG_take0 (i := 0) (v := ?qv1) rfl (by kernel_rfl) (by kernel_rfl) (by kernel_rfl) (fun _ _ _ h => h) (Or.inl ⟨by rfl, ?qy1⟩) ?qr1
                case qy1 => (intro w _; go_simp; try with_reducible rfl)
                try simp only [Act.put, List.setIfInBounds_toArray, List.set_cons_zero, List.set_cons_succ]
                refine wpAnyG_take (i := 1) (v := ?qv2) rfl (by kernel_rfl) (by kernel_rfl) (by kernel_rfl) (by kernel_rfl) (fun _ _ _ h => h) (Or.inl ⟨by rfl, ?qy2⟩) (by assumption) ?qr2
                case qy2 => (intro w hSw; (try dsimp only at hSw); go_simp; try with_reducible rfl)
                try simp only [Act.put, List.setIfInBounds_toArray, List.set_cons_zero, List.set_cons_succ]
                refine wpAnyG_take (i := 2) (v := ?qv3) rfl (by kernel_rfl) (by kernel_rfl) (by kernel_rfl) (by kernel_rfl) (fun _ _ _ h => h) (Or.inl ⟨by rfl, ?qy3⟩) (by assumption) ?qr3
                case qy3 => (intro w hSw; (try dsimp only at hSw); go_simp; try with_reducible rfl)
                try simp only [Act.put, List.setIfInBounds_toArray, List.set_cons_zero, List.set_cons_succ]
                refine wpAnyG_ready (rs := [3]) (by kernel_rfl) (by simp) (AllReadyG.cons rfl (fun K hK => ?_) AllReadyG.nil)
                · go_simp
                  refine (size_any A cap l _ (hr.belowS hbx.drew) hv hn).mono ?_
                  rintro e w2 ⟨rfl, hb2⟩
                  have hX2 := hX1.drew.belowS hb2
                  have hF2 := hF1.drew.belowS hb2
                  have hbx2 := hbx.drew.trans (hb2.mono hbx.drew.size)
                  refine hK.out _ _ (S4_of hX2 hF2) ?_
                  clear hK K
                  try simp only [Act.put, List.setIfInBounds_toArray, List.set_cons_zero, List.set_cons_succ]
                  refine wpAnyG_take0 (i := 4) (v := ?qv4) rfl (by kernel_rfl) (by kernel_rfl) (by kernel_rfl) (fun _ _ _ h => h) (Or.inl ⟨by rfl, ?qy4⟩) ?qr4
                  case qy4 => (intro w _; go_simp; try with_reducible rfl)
                  try simp only [Act.put, List.setIfInBounds_toArray, List.set_cons_zero, List.set_cons_succ]
                  refine wpAnyG_ready (rs := [5]) (by kernel_rfl) (by simp) (AllReadyG.cons rfl (fun K hK => ?_) AllReadyG.nil)
                  · go_simp
                    refine (out_any _ _ _ _).mono ?_
                    rintro e w3 ⟨rfl, hw3⟩
                    subst hw3
                    rw [HO.out]
                    refine hK.out _ _ (S4_of hX2 hF2) ?_
                    clear hK K
                    try simp only [Act.put, List.setIfInBounds_toArray, List.set_cons_zero, List.set_cons_succ]
                    refine wpAnyG_ready (rs := [6]) (by kernel_rfl) (by simp) (AllReadyG.cons rfl (fun K hK => ?_) AllReadyG.nil)
                    · go_simp
                      refine hK.out _ _ (S4_of hX2 hF2) ?_
                      clear hK K
                      try simp only [Act.put, List.setIfInBounds_toArray, List.set_cons_zero, List.set_cons_succ]
                      refine wpAnyG_ready (rs := [7]) (by kernel_rfl) (by simp) (AllReadyG.cons rfl (fun K hK => ?_) AllReadyG.nil)
                      · go_simp
                        refine hK.out _ _ (S4_of hX2 hF2) ?_
                        clear hK K
                        try simp only [Act.put, List.setIfInBounds_toArray, List.set_cons_zero, List.set_cons_succ]
                        refine wpAnyG_ready (rs := [8]) (by kernel_rfl) (by simp) (AllReadyG.cons rfl (fun K hK => ?_) AllReadyG.nil)
                        · go_simp
                          refine hK.out _ _ (S4_of hX2 hF2) ?_
                          clear hK K
                          try simp only [Act.put, List.setIfInBounds_toArray, List.set_cons_zero, List.set_cons_succ]
                          refine wpAnyG_ready (rs := [9]) (by kernel_rfl) (by simp) (AllReadyG.cons rfl (fun K hK => ?_) AllReadyG.nil)
                          · go_simp
                            refine hK.out _ _ (S4_of hX2 hF2) ?_
                            clear hK K
                            try simp only [Act.put, List.setIfInBounds_toArray, List.set_cons_zero, List.set_cons_succ]
                            refine wpAnyG_ready (rs := [10]) (by kernel_rfl) (by simp) (AllReadyG.cons rfl (fun K hK => ?_) AllReadyG.nil)
                            · go_simp
                              refine hK.out _ _ (S4_of hX2 hF2) ?_
                              clear hK K
                              try simp only [Act.put, List.setIfInBounds_toArray, List.set_cons_zero, List.set_cons_succ]
                              refine wpAnyG_done (by kernel_rfl) ?_ _
                              go_wp2_with fail
                              go_ret
                              exact ⟨ret_i64 (by rw [EC.out, firstBad_hit HX.out HB.out (by rw [EF.out]; decide), EF.out]), hbx2⟩
                -- END REGION 17
            · have e3 : (x.k == 2) = false := beq_eq_false_iff_ne.2 k2
              have ef : opFault l.length (sumI l) x = 4 := by unfold opFault; rw [if_neg k1, if_neg k2]
              have EF := Lib.hid ef; clear ef
              clear k1 k2
              go_wp2_with fail
              go_ret
              exact ⟨ret_i64 (by rw [EC.out, firstBad_hit HX.out HB.out (by rw [EF.out]; decide), EF.out]), hbx⟩
        · go_wp2_with fail
          go_ret
          exact ⟨ret_i64 (by rw [EC.out]; have := HB.out; rw [List.take_of_length_le (by omega)] at this; exact this.symm), hb⟩
  · have hf0' : (flashFault l != 0) = true := by rw [bne_iff_ne]; exact hf0
    have ec : checkOps l xs = flashFault l := by unfold checkOps; rw [if_neg hf0]
    have EC := Lib.hid ec; clear ec
    clear hf0
    go_enter Try.func18, Try.ntmps18
    go_wp2_with fail
    refine (checkFlash_any A cap l _ (hr.alloc _) hm).mono ?_
    rintro e w0 ⟨rfl, hb0⟩
    go_wp2_with fail
    go_ret
    exact ⟨ret_i64 EC.out.symm, ((Below.refl _ _).alloc (Nat.le_refl _) _).trans (hb0.mono (by simp))⟩
end Go.Proofs.Ytmnhlfkphibhfaa
