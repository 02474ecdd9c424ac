/-
  What the stream's FlashOf makes: the plain function 'flashOfV' of the stream's numbers.
-/
import Derived.Test.YtmnhlfkphibhfaaStream
import Derived.Test.YtmnhlfkphibhfaaFGen
import Derived.Deep.RegionHeld3
import Derived.Deep.RegionLaw
import Derived.Deep.DrawnRows
import Derived.Deep.DeepFit
namespace Go.Proofs.Ytmnhlfkphibhfaa
open Go.RowKit
set_option linter.unusedVariables false
attribute [local go_sem ↓] Go.wp_at_zero Go.wp_at_succ

theorem info_int : (Try.prog.info? 3).map (fun i => (i.zero, i.size, i.bytes)) = some (some (.int .i64 0), 1, 8) := by kernel_rfl
theorem cellF {w : World} {g : Nat} {t : TypeId} {v : Value} (h : Blk w g t #[v]) : w.cell? ⟨g, 0, none⟩ = some v ∧ w.frozen? ⟨g, 0, none⟩ = false := ⟨h.cell 0 rfl, h.frozen 0⟩
theorem S_of {w : World} {F g o i n c base sz : Nat} {t e : TypeId} {v u : Value} {xs : List Value} (hF : Blk w F t #[v]) (hO : Own w base e sz (some ⟨g, o, none⟩) n c xs) (hx : xs[i]? = some u) :
    w.cell? ⟨F, 0, none⟩ = some v ∧ w.cell? ⟨g, o + i, none⟩ = some u ∧ w.frozen? ⟨g, o + i, none⟩ = false := ⟨hF.cell 0 rfl, hO.cell hx, hO.frozen _⟩
theorem secs0_get (L : List Int) (p : Nat) {k : Nat} (h : k < (secs0 L p).length) : (secs0 L p)[k]? = some (rangeV L (p + 1 + k) 1 5) := by
  unfold secs0 at h ⊢
  simp only [List.length_map, List.length_range] at h
  simp [h]

set_option maxRecDepth 100000 in
set_option maxHeartbeats 1000000 in
theorem flashOf_any (s : Nat) (A : Option Addr) (cap : Nat) (L : List Int) (p : Nat) (w : World) (h : Strm w s A cap L p) (hp : p ≤ 1099511620000) :
    Calls Try.prog 9 #[.pointer (some ⟨s, 0, none⟩)] w fun e w' =>
      ∃ B c, e = .returned (.agg #[.slice B (flashOfV L p).1.length c]) ∧ Own w' w.heap.size 3 1 B (flashOfV L p).1.length c (ints (flashOfV L p).1) ∧ Strm w' s A cap L (flashOfV L p).2 ∧ w.grownBy w' (some s) := by
  have hsl := h.blk.lt
  have hlen := secs0_len L p
  obtain ⟨n, hn⟩ : ∃ n, (secs0 L p).length = n := ⟨_, rfl⟩
  have hrn : rangeV L p 1 4 = (n : Int) := by
    have := rangeV_bd L p (lo := 1) (hi := 4) (by decide)
    rw [← hn]
    simp only [secs0, List.length_map, List.length_range]
    omega
  rw [hn] at hlen
  have HRN := Lib.hid hrn; clear hrn
  have HN := Lib.hid hn; clear hn
  go_enter Try.func9, Try.ntmps9
  go_wp2_with fail
  refine (range_any s A cap L p 1 4 _ ((h.alloc _).alloc _) (by omega) (by omega) (by omega) (by omega) (by omega)).mono ?_
  rintro e w1 ⟨rfl, hS1, hg1⟩
  have hg1' : w.grownBy w1 (some s) := grown_trans (grown_alloc (grown_alloc (grown_refl w _) _) _) hg1
  have hz1 : w.heap.size + 2 ≤ w1.heap.size := by have := hg1.size; simp at this; omega
  have hR1 : Blk w1 w.heap.size 27 #[.slice none 0 0] := ((Blk.new w _ _).alloc _).grown hg1 (by simp; omega)
  have hF1 : Blk w1 (w.heap.size + 1) 27 #[.slice none 0 0] := by
    have := Blk.new (w.alloc (.cells #[.slice none 0 0] 27)) 27 #[.slice none 0 0]
    simp at this
    exact this.grown hg1 (by simp; omega)
  clear hg1
  rw [HRN.out]
  go_wp2_with fail
  go_loopg [6] n (fun m i wr => ∃ k B c, k + m = n ∧ i = .int .i64 (k : Nat) ∧ Blk wr w.heap.size 27 #[.slice none 0 0] ∧ Blk wr (w.heap.size + 1) 27 #[.slice B k c] ∧
    Own wr (w.heap.size + 2) 3 1 B k c (ints ((secs0 L p).take k)) ∧ Strm wr s A cap L (p + 1 + k) ∧ w.grownBy wr (some s) ∧ w.heap.size + 2 ≤ wr.heap.size)
  case atStart => exact ⟨0, none, 0, by omega, rfl, hR1, hF1, by simpa [ints] using Own.nil _ _ _ _, hS1, hg1', hz1⟩
  case round =>
    obtain ⟨k, B, c, hkn, rfl, hR, hF, hown, hS, hg, hz⟩ := hrel
    clear hR1 hF1 hS1 hg1' hz1
    by_cases hlt : k < n
    · go_wp2_with fail
      have hc0 := (cellF hF).1
      have hf0 := (cellF hF).2
      go_region_law (first
          | (refine step_app _ (by rfl) _ _ _ (by rfl) (w.heap.size + 2) 3 (.int .i64 0) 1 8 Try.underlying22 info_int rfl (by omega) B k c _ (by rfl) ((hown.drew.keptLow hg2 (by omega)).alloc _) _ 1 1 [.int .i64 (rangeV L (p + 1 + k) 1 5)] (by rfl) (by rfl) (RowV.new w2 _ _) (by simp [Value.oneCell']) (by unfold maxLen; omega) (by omega) (by simp; omega) ?_
             intro B3 c3 w3 hown3 hg3 hat3
             have hF3 := (hF2.alloc (.cells #[.int .i64 (rangeV L (p + 1 + k) 1 5)] 3)).grown hg3 (fun e => by have := hown.low _ e.symm; omega)
             have hgT : w.grownBy w3 (some s) := grown_own (grown_alloc (grown_trans (grown_drew hg) hg2) _) ((hown.drew.keptLow hg2 (by omega)).alloc _) (by omega) hg3
             have hSb := (hS2.blk.alloc (.cells #[.int .i64 (rangeV L (p + 1 + k) 1 5)] 3)).grown hg3 (fun e => by have := hown.low _ e.symm; omega)
             have hR3 := ((hR.drew.grown hg2 (by simp; omega)).alloc (.cells #[.int .i64 (rangeV L (p + 1 + k) 1 5)] 3)).grown hg3 (fun e => by have := hown.low _ e.symm; omega)
             have hz3 : w.heap.size + 2 ≤ w3.heap.size := by have := hg3.size; simp at this; omega
             have hc3 := (cellF hF3).1
             have hf3 := (cellF hF3).2)
          | (go_simp; go_at_call 30; refine (range_any s A cap L (p + 1 + k) 1 5 _ hS.drew (by omega) (by omega) (by omega) (by omega) (by omega)).mono ?_; rintro e w2 ⟨rfl, hS2, hg2⟩; have hF2 := hF.drew.grown hg2 (by simp; omega); have hz2 : w.heap.size + 2 ≤ w2.heap.size := Nat.le_trans hz hg2.size; have hc2 := (cellF hF2).1; have hc2a := fun o => (cellF (hF2.alloc o)).1))
      all_goals
        clear hc0 hf0 hc2 hc2a hc3 hf3
        go_wp2_with fail
        go_roundg (gk - 1)
        case measure => omega
        case rel =>
          refine ⟨k + 1, B3, c3, by omega, by go_num, hR3.far (by simp) _, by simpa using hF3.set 0 (.slice B3 (k + 1) c3), ?_, ?_, grown_setNew hgT (by simp) _, by simpa [World.setCell] using hz3⟩
          · rw [take_snoc (secs0_get L p (by rw [HN.out]; exact hlt)), ints_snoc]
            exact hown3.kept (grown_set (grown_refl w3 (some (w.heap.size + 1))) (.inl rfl) _) (fun g hA e => by injection e with e; have := (hown3.low g hA).1; omega)
          · exact Strm.re h (by have := hSb.far (p := ⟨w.heap.size + 1, 0, none⟩) (by simp; omega) (.slice B3 (k + 1) c3); rw [show p + 1 + (k + 1) = p + 1 + k + 1 from by omega]; exact this) (grown_setNew hgT (by simp) _)
    · have hk : k = n := by omega
      subst hk
      have htk : (secs0 L p).take k = secs0 L p := List.take_of_length_le (by rw [HN.out]; exact Nat.le_refl _)
      rw [htk] at hown
      clear htk
      cases hfl : flipV L (p + 1 + k) 20
      · have HFL := Lib.hid hfl; clear hfl
        go_wp2_with fail
        refine (flip_any _ _ _ _ _ _ _ hS (by omega) (by omega)).mono ?_
        rintro e w2 ⟨rfl, hS2, hg2⟩
        rw [HFL.out]
        obtain ⟨l, hle⟩ : ∃ l, secs0 L p = l := ⟨_, rfl⟩
        obtain ⟨q, hqe⟩ : ∃ q, p + 1 + k + 1 = q := ⟨_, rfl⟩
        have e1 : secs1 L p = (l, q) := by unfold secs1; rw [HN.out, HFL.out, ← hle, ← hqe]; rfl
        have E1 := Lib.hid e1; clear e1
        have hl : l.length = k := by rw [← hle]; exact HN.out
        have hR2 := hR.grown hg2 (by simp; omega)
        have hF2 := hF.grown hg2 (by simp; omega)
        have hO2 := hown.keptLow hg2 (by omega)
        have hgT := grown_trans hg hg2
        have hz2 := Nat.le_trans hz hg2.size
        clear hS hR hF hown hg hz hg2
        rw [hle] at hO2
        have hSt := hS2; rw [hqe] at hSt
        have hRt := hR2; have hFt := hF2; have hOt := hO2; have hgt := hgT; have hzt := hz2
        have hq : q ≤ p + 20 := by omega
        clear hle hqe hS2 hR2 hF2 hO2 hgT hz2
        go_wp2_with fail
        -- the tail: the world wt, the sectors l, the place q
        cases hf40 : flipV L q 40
        · have e2 : flashOfV L p = (l, q + 1) := by unfold flashOfV; rw [E1.out]; simp only; rw [hf40]; rfl
          have HF40 := Lib.hid hf40; clear hf40
          refine (flip_any _ _ _ _ _ _ _ hSt (by omega) (by omega)).mono ?_
          rintro e w6 ⟨rfl, hS6, hg6⟩
          rw [HF40.out]
          have hF6 := hFt.grown hg6 (by simp; omega)
          have hR6 := hRt.grown hg6 (by simp; omega)
          have hO6 := hOt.keptLow hg6 (by omega)
          have hT6 := grown_trans hgt hg6
          have cF6 := hF6.cell 0 rfl
          have cR6 := hR6.cell 0 rfl
          have fR6 := hR6.frozen 0
          have E2 := Lib.hid e2; clear e2
          go_wp2
          refine bodyPost_ret (v := .agg #[.slice B k c]) (by have hx := (hR6.set 0 (.slice B k c)).cell 0 rfl; simp [results, Try.results9, go_sem, hx]) rfl ?_
          rw [E2.out]
          simp only [hl]
          refine ⟨B, c, rfl, (hO6.kept (grown_set (grown_refl w6 (some w.heap.size)) (.inl rfl) _) (fun g hA e => by injection e with e; have := (hO6.low g hA).1; omega)).mono (by omega), ?_, grown_setNew hT6 (by simp) _⟩
          exact Strm.re h (hS6.blk.far (p := ⟨w.heap.size, 0, none⟩) (by simp; omega) _) (grown_setNew hT6 (by simp) _)
        · have e2 : flashOfV L p = ([], q + 1) := by unfold flashOfV; rw [E1.out]; simp only; rw [hf40]; rfl
          have HF40 := Lib.hid hf40; clear hf40
          refine (flip_any _ _ _ _ _ _ _ hSt (by omega) (by omega)).mono ?_
          rintro e w6 ⟨rfl, hS6, hg6⟩
          rw [HF40.out]
          have hF6 := hFt.grown hg6 (by simp; omega)
          have hR6 := hRt.grown hg6 (by simp; omega)
          have hT6 := grown_trans hgt hg6
          have cF6 := hF6.cell 0 rfl
          have fF6 := hF6.frozen 0
          have cR6 := hR6.cell 0 rfl
          have fR6 := hR6.frozen 0
          have E2 := Lib.hid e2; clear e2
          go_wp2
          refine bodyPost_ret (v := .agg #[.slice none 0 0]) (by have hx := ((hR6.far (p := ⟨w.heap.size + 1, 0, none⟩) (by simp) (.slice none 0 0)).set 0 (.slice none 0 0)).cell 0 rfl; simp [results, Try.results9, go_sem, hx]) rfl ?_
          rw [E2.out]
          refine ⟨none, 0, rfl, Own.nil _ _ _ _, ?_, grown_setNew (grown_setNew hT6 (by simp) _) (by simp) _⟩
          exact Strm.re h ((hS6.blk.far (p := ⟨w.heap.size + 1, 0, none⟩) (by simp; omega) _).far (p := ⟨w.heap.size, 0, none⟩) (by simp; omega) _) (grown_setNew (grown_setNew hT6 (by simp) _) (by simp) _)

      · have HFL := Lib.hid hfl; clear hfl
        go_wp2_with fail
        refine (flip_any _ _ _ _ _ _ _ hS (by omega) (by omega)).mono ?_
        rintro e w2 ⟨rfl, hS2, hg2⟩
        rw [HFL.out]
        have hR2 := hR.grown hg2 (by simp; omega)
        have hF2 := hF.grown hg2 (by simp; omega)
        have hO2 := hown.keptLow hg2 (by omega)
        have hgT := grown_trans hg hg2
        have hz2 := Nat.le_trans hz hg2.size
        clear hS hR hF hown hg hz hg2
        have hi := pickI_lt L (p + 1 + k + 1) (n := k) (by omega)
        obtain ⟨i, hie⟩ : ∃ i, pickI L (p + 1 + k + 1) k = i := ⟨_, rfl⟩
        have hni : nextV L (p + 1 + k + 1) (k : Int) = (i : Int) := by
          have := nextV_bd L (p + 1 + k + 1) (n := (k : Int)) (by omega)
          unfold pickI at hie; omega
        rw [hie] at hi
        have HIE := Lib.hid hie; clear hie
        have HNI := Lib.hid hni; clear hni
        obtain ⟨x, hx⟩ := get_some (secs0 L p) (k := i) (by rw [HN.out]; exact hi)
        obtain ⟨g, o, rfl, hcx⟩ := hO2.row.int hx
        have hgl := hO2.low g rfl
        have hxi : (ints (secs0 L p))[i]? = some (.int .i64 x) := by simp [ints, hx]
        have HXI := Lib.hid hxi; clear hxi
        have HX := Lib.hid hx; clear hx
        have hi1 : (i : Int) < (k : Int) := by omega
        have hi2 : (0 : Int) ≤ (i : Int) := by omega
        go_wp2_with fail
        go_region_held3 (fun w' => w'.cell? ⟨w.heap.size + 1, 0, none⟩ = some (.slice (some ⟨g, o, none⟩) k c))
          (first
            | exact hF2.drew.cell 0 rfl
            | exact (hF2.drew.alloc _).cell 0 rfl
            | exact hF4.cell 0 rfl
            | exact hF3.cell 0 rfl
            | exact (hF3.alloc _).cell 0 rfl
            | exact (hF4.far (p := ⟨g, o + i, none⟩) (by simp; omega) _).cell 0 rfl)
          ((first
            | (go_at_call 26; refine (next_any s A cap L (p + 1 + k + 1) k _ (by first | exact hS2.drew | exact hS2.drew.alloc _) (by omega) (by omega)).mono ?_; rintro e w3 ⟨rfl, hS3, hg3⟩; rw [HNI.out]; have hg3' : w2.grownBy w3 (some s) := (by first | exact grown_trans (grown_drew (grown_refl w2 _)) hg3 | exact grown_trans (grown_alloc (grown_drew (grown_refl w2 _)) _) hg3); have hF3 := hF2.grown hg3' (by simp; omega); have hO3 := hO2.keptLow hg3' (by omega))
            | (go_at_call 12; refine (pick_any s A cap L (p + 1 + k + 1 + 1) [0, -1, 4096, 4097] _ _ _ (by first | exact hS3.alloc _ | exact hS3) (by omega) (by first | exact RowV.new w3 _ _ | exact (RowV.new w2.drew _ _).grown hg3 (by intro r e; injection e with e; subst e; exact Off.new hS2.blk.lt)) (by first | exact Off.new hS3.blk.lt | exact Off.new (w := w2.drew) hS2.blk.lt) (by simp) (by simp)).mono ?_; rintro e w4 ⟨rfl, hS4, hg4⟩; have hg4' : w3.grownBy w4 (some s) := (by first | exact hg4 | exact grown_trans (grown_alloc (grown_refl w3 _) _) hg4); have hF4 := hF3.grown hg4' (by simp; omega); have hO4 := hO3.keptLow hg4' (by omega); have hc4 := hO4.cell HXI.out; have hf4 := hO4.frozen (o + i))))
        all_goals go_wp2_with fail
        all_goals
          have hOt := hO4.set i (.int .i64 (pickV L (p + 1 + k + 1 + 1) [0, -1, 4096, 4097]))
          have hSt := hS4.blk.far (p := ⟨g, o + i, none⟩) (by simp; omega) (.int .i64 (pickV L (p + 1 + k + 1 + 1) [0, -1, 4096, 4097]))
          have hg4T := grown_setNew (p := ⟨g, o + i, none⟩) (grown_trans hgT (grown_trans hg3' hg4')) (by simp; omega) (.int .i64 (pickV L (p + 1 + k + 1 + 1) [0, -1, 4096, 4097]))
          have hFt := hF4.far (p := ⟨g, o + i, none⟩) (by simp; omega) (.int .i64 (pickV L (p + 1 + k + 1 + 1) [0, -1, 4096, 4097]))
          have hRt := ((hR2.grown hg3' (by simp; omega)).grown hg4' (by simp; omega)).far (p := ⟨g, o + i, none⟩) (by simp; omega) (.int .i64 (pickV L (p + 1 + k + 1 + 1) [0, -1, 4096, 4097]))
          generalize w4.setCell ⟨g, o + i, none⟩ (.int .i64 (pickV L (p + 1 + k + 1 + 1) [0, -1, 4096, 4097])) = wt at *
          obtain ⟨q, hqe⟩ : ∃ q, p + 1 + k + 1 + 1 + 1 = q := ⟨_, rfl⟩
          obtain ⟨l, hle⟩ : ∃ l, (secs0 L p).set i (pickV L (p + 1 + k + 1 + 1) [0, -1, 4096, 4097]) = l := ⟨_, rfl⟩
          have e1 : secs1 L p = (l, q) := by unfold secs1; rw [HN.out, HFL.out, if_pos rfl, HIE.out, ← hle, ← hqe]
          have hl : l.length = k := by rw [← hle, List.length_set]; exact HN.out
          have hOt' : Own wt (w.heap.size + 2) 3 1 (some ⟨g, o, none⟩) k c (ints l) := by rw [← hle, ints, List.map_set]; exact hOt
          rw [hqe] at hSt
          have hgt := hg4T
          have hSt := Strm.re h hSt hgt
          have hOt := hOt'
          have E1 := Lib.hid e1; clear e1
          have hq : q ≤ p + 20 := by omega
          have hzt := hz2
          clear hle hqe
          obtain ⟨B, hB⟩ : ∃ B, (some ⟨g, o, none⟩ : Option Addr) = B := ⟨_, rfl⟩
          rw [hB] at hOt hFt
          try rw [hB]
          clear hO4 hOt' hF4 hS4 hg3' hg4' hF3 hO3 hS3 hg3 hg4 hcx hc4 hf4 hgl hS2 hR2 hgT hO2 hF2 HXI HX HIE HNI hi1 hi2

          -- the tail: the world wt, the sectors l, the place q
          cases hf40 : flipV L q 40
          · have e2 : flashOfV L p = (l, q + 1) := by unfold flashOfV; rw [E1.out]; simp only; rw [hf40]; rfl
            have HF40 := Lib.hid hf40; clear hf40
            refine (flip_any _ _ _ _ _ _ _ hSt (by omega) (by omega)).mono ?_
            rintro e w6 ⟨rfl, hS6, hg6⟩
            rw [HF40.out]
            have hF6 := hFt.grown hg6 (by simp; omega)
            have hR6 := hRt.grown hg6 (by simp; omega)
            have hO6 := hOt.keptLow hg6 (by omega)
            have hT6 := grown_trans hgt hg6
            have cF6 := hF6.cell 0 rfl
            have cR6 := hR6.cell 0 rfl
            have fR6 := hR6.frozen 0
            have E2 := Lib.hid e2; clear e2
            go_wp2
            refine bodyPost_ret (v := .agg #[.slice B k c]) (by have hx := (hR6.set 0 (.slice B k c)).cell 0 rfl; simp [results, Try.results9, go_sem, hx]) rfl ?_
            rw [E2.out]
            simp only [hl]
            refine ⟨B, c, rfl, (hO6.kept (grown_set (grown_refl w6 (some w.heap.size)) (.inl rfl) _) (fun g hA e => by injection e with e; have := (hO6.low g hA).1; omega)).mono (by omega), ?_, grown_setNew hT6 (by simp) _⟩
            exact Strm.re h (hS6.blk.far (p := ⟨w.heap.size, 0, none⟩) (by simp; omega) _) (grown_setNew hT6 (by simp) _)
          · have e2 : flashOfV L p = ([], q + 1) := by unfold flashOfV; rw [E1.out]; simp only; rw [hf40]; rfl
            have HF40 := Lib.hid hf40; clear hf40
            refine (flip_any _ _ _ _ _ _ _ hSt (by omega) (by omega)).mono ?_
            rintro e w6 ⟨rfl, hS6, hg6⟩
            rw [HF40.out]
            have hF6 := hFt.grown hg6 (by simp; omega)
            have hR6 := hRt.grown hg6 (by simp; omega)
            have hT6 := grown_trans hgt hg6
            have cF6 := hF6.cell 0 rfl
            have fF6 := hF6.frozen 0
            have cR6 := hR6.cell 0 rfl
            have fR6 := hR6.frozen 0
            have E2 := Lib.hid e2; clear e2
            go_wp2
            refine bodyPost_ret (v := .agg #[.slice none 0 0]) (by have hx := ((hR6.far (p := ⟨w.heap.size + 1, 0, none⟩) (by simp) (.slice none 0 0)).set 0 (.slice none 0 0)).cell 0 rfl; simp [results, Try.results9, go_sem, hx]) rfl ?_
            rw [E2.out]
            refine ⟨none, 0, rfl, Own.nil _ _ _ _, ?_, grown_setNew (grown_setNew hT6 (by simp) _) (by simp) _⟩
            exact Strm.re h ((hS6.blk.far (p := ⟨w.heap.size + 1, 0, none⟩) (by simp; omega) _).far (p := ⟨w.heap.size, 0, none⟩) (by simp; omega) _) (grown_setNew (grown_setNew hT6 (by simp) _) (by simp) _)
end Go.Proofs.Ytmnhlfkphibhfaa
