/-
  What the stream's WordList makes: the plain function 'wordListV' of the stream's numbers and of a memory's sectors.
-/
import Derived.Test.YtmnhlfkphibhfaaFlashOf
namespace Go.Proofs.Ytmnhlfkphibhfaa
open Go.RowKit
set_option linter.unusedVariables false
attribute [local go_sem ↓] Go.wp_at_zero Go.wp_at_succ

theorem smax_step {l : List Int} {k : Nat} {x : Int} (h : l[k]? = some x) : sumMax (l.take (k + 1)) = sumMax (l.take k) + max x 0 := by rw [take_snoc h, sumMax_snoc]
theorem smax_pre {l : List Int} (hv : Within (-1) 4097 l) (hn : l.length ≤ 4) (k : Nat) : 0 ≤ sumMax (l.take k) ∧ sumMax (l.take k) ≤ 16388 := by
  have h := sumMax_bd (l.take k) (hv.take k)
  have : (l.take k).length ≤ 4 := by rw [List.length_take]; omega
  omega

set_option maxRecDepth 100000 in
set_option maxHeartbeats 1000000 in
theorem wordList_any (s : Nat) (A : Option Addr) (cap : Nat) (L : List Int) (p : Nat) (secs : List Int) (B : Option Addr) (c : Nat) (w : World) (hS0 : Strm w s A cap L p) (hp : p ≤ 1099511620000)
    (hr : RowV w B (ints secs)) (hB : Off B s) (hv : Within (-1) 4097 secs) (hn : secs.length ≤ 4) :
    Calls Try.prog 10 #[.pointer (some ⟨s, 0, none⟩), .agg #[.slice B secs.length c]] w fun e w' =>
      ∃ D d, e = .returned (.slice D (wordListV L p secs).1.length d) ∧ Own w' w.heap.size 3 1 D (wordListV L p secs).1.length d (ints (wordListV L p secs).1) ∧ Strm w' s A cap L (wordListV L p secs).2 ∧ w.grownBy w' (some s) := by
  have hsl := hS0.blk.lt
  have hmany := wordMany_le secs
  obtain ⟨m, hm⟩ : ∃ m, wordMany secs = m := ⟨_, rfl⟩
  rw [hm] at hmany
  have hmin : min (sumMax secs) 40 = (m : Int) := by
    have := (smax_pre hv hn secs.length).1
    rw [List.take_length] at this
    unfold wordMany at hm; omega
  have HMIN := Lib.hid hmin; clear hmin
  have HM := Lib.hid hm; clear hm
  go_enter Try.func10, Try.ntmps10
  go_wp2
  go_loop [5, 7, 12] (fun n _ i => ∃ k : Nat, k ≤ secs.length ∧ i = .int .i64 k ∧ n = .int .i64 (sumMax (secs.take k))) (fun _ _ i => secs.length - (intOf i).toNat)
  case atStart => exact ⟨0, Nat.zero_le _, rfl, rfl⟩
  case round =>
    obtain ⟨k, hk, rfl, rfl⟩ := hrel
    have hpm := smax_pre hv hn k
    by_cases hlt : k < secs.length
    · obtain ⟨x, hx⟩ := get_some secs hlt
      obtain ⟨b, o, rfl, hc⟩ := (hr.alloc (.cells #[.slice B secs.length c] 27)).int hx
      have hbd := hv.get hx
      have hmx : 0 ≤ max x 0 ∧ max x 0 ≤ 4097 := by omega
      have HX := Lib.hid hx; clear hx
      go_wp2
      go_round
      case rel => exact ⟨k + 1, by omega, by go_num, int_eq (by rw [smax_step HX.out]; omega)⟩
      case measure => simp [intOf]; omega
    · have hfull : secs.take k = secs := List.take_of_length_le (by omega)
      rw [hfull] at *
      clear hfull
      obtain ⟨sm, hsm⟩ : ∃ sm, sumMax secs = sm := ⟨_, rfl⟩
      have hsm2 : Hid ((sm ≤ (m : Int) ∨ 40 ≤ m) ∧ (m : Int) ≤ sm) := by have := HMIN.out; show _ ∧ _; omega
      rw [hsm]
      clear hsm HMIN
      go_wp2_with fail
      all_goals
        have hq := hsm2.out
        clear hsm2
        have hq2 : (sm ≤ 40 ∧ sm = (m : Int)) ∨ (40 < sm ∧ 40 ≤ m) := by omega
        clear hq
        rcases hq2 with ⟨ha, hm2⟩ | ⟨ha, hm2⟩ <;> first | (exfalso; omega) | skip
        try subst hm2
        clear ha h
        go_loopg [8, 23] m (fun gm v i wr => ∃ k D d, k + gm = m ∧ i = .int .i64 (k : Nat) ∧ v = .slice D k d ∧ Own wr w.heap.size 3 1 D k d (ints ((words0 L p m).take k)) ∧ Strm wr s A cap L (p + 2 * k) ∧ w.grownBy wr (some s) ∧ w.heap.size + 1 ≤ wr.heap.size)
        case atStart => exact ⟨0, none, 0, by omega, rfl, rfl, by simpa [ints] using Own.nil _ _ _ _, hS0.alloc _, grown_alloc (grown_refl w _) _, by simp⟩
        case round =>
          obtain ⟨k, D, d, hkm, rfl, rfl, hO, hS, hg, hz⟩ := hrel
          by_cases hlt : k < m
          · go_wp2_with fail
            refine (next_any s A cap L (p + 2 * k) 65536 _ hS (by omega) (by omega)).mono ?_
            rintro e w2 ⟨rfl, hS2, hg2⟩
            go_wp2_with fail
            refine (pick_any s A cap L (p + 2 * k + 1) [65535, 65535, 0, 1, 3, 65534, nextV L (p + 2 * k) 65536] _ _ _ (hS2.alloc _) (by omega) (RowV.new w2 _ _) (Off.new hS2.blk.lt) (by simp) (by simp)).mono ?_
            rintro e w3 ⟨rfl, hS3, hg3⟩
            have hg23 := grown_trans hg2 (grown_trans (World.grownBy_alloc w2 _ _) hg3)
            have hO3 := hO.keptLow hg23 hsl
            have hT3 := grown_trans hg hg23
            have hz3 := Nat.le_trans hz hg23.size
            clear hg2 hg3 hg23
            have hw1 : pickV L (p + 2 * k + 1) [65535, 65535, 0, 1, 3, 65534, nextV L (p + 2 * k) 65536] = word1 L (p + 2 * k) := rfl
            rw [hw1]
            clear hw1
            obtain ⟨x, hx⟩ : ∃ x, word1 L (p + 2 * k) = x := ⟨_, rfl⟩
            rw [hx]
            have HX := Lib.hid hx; clear hx
            go_wp2_with (at_builtin; refine wpList_app _ rfl _ _ _ rfl w.heap.size 3 (.int .i64 0) 1 8 Try.underlying22 info_int rfl (by omega) D k d _ rfl (hO3.alloc _) _ 1 1 [.int .i64 x] rfl rfl (RowV.new w3 _ _) (by simp [Value.oneCell']) (by unfold maxLen; omega) (by omega) (by simp; omega) ?_; intro D4 d4 w4 hO4 hg4 _)
            have hT4 : w.grownBy w4 (some s) := grown_own (grown_alloc hT3 _) (hO3.alloc _) (Nat.le_refl _) hg4
            have hS4 : Strm w4 s A cap L (p + 2 * k + 1 + 1) := Strm.re hS0 ((hS3.blk.alloc (.cells #[.int .i64 x] 3)).grown hg4 (fun e => by have := (hO3.low _ e.symm).1; omega)) hT4
            have hz4 : w.heap.size + 1 ≤ w4.heap.size := by have := hg4.size; simp at this; omega
            go_roundg (gk - 1)
            case measure => omega
            case rel => 
              refine ⟨k + 1, D4, d4, by omega, by go_num, rfl, ?_, ?_, hT4, hz4⟩
              · rw [take_snoc (words0_get L p hlt), ints_snoc, HX.out]; exact hO4
              · rw [show p + 2 * (k + 1) = p + 2 * k + 1 + 1 from by omega]; exact hS4
          · obtain rfl : k = m := by omega
            have htk : (words0 L p k).take k = words0 L p k := List.take_of_length_le (by rw [words0_len]; exact Nat.le_refl _)
            rw [htk] at hO
            clear htk
            clear hpm hk hlt
            by_cases hk0 : k = 0
            · subst hk0
              try (exfalso; omega)
              all_goals
                have h00 : decide ((0 : Int) < ((0 : Nat) : Int)) = false := by decide
                go_wp2_with fail
                obtain ⟨l, hle⟩ : ∃ l, words0 L p 0 = l := ⟨_, rfl⟩
                obtain ⟨q, hqe⟩ : ∃ q, p + 2 * 0 = q := ⟨_, rfl⟩
                have e1 : words1 L p 0 = (l, q) := by unfold words1; rw [if_pos rfl, hle, hqe]
                have hl : l.length = 0 := by rw [← hle, words0_len]
                have hSt := hS; have hOt := hO; have hgt := hg
                rw [hqe] at hSt; rw [hle] at hOt
                clear hle
                have E1 := Lib.hid e1; clear e1
                have hq : q ≤ p + 200 := by omega
                cases hf30 : flipV L q 30
                · have e2 : wordListV L p secs = (l, q + 1) := by unfold wordListV; rw [HM.out, E1.out]; simp only; rw [hf30]; rfl
                  have HF30 := Lib.hid hf30; clear hf30
                  have E2 := Lib.hid e2; clear e2
                  refine (flip_any _ _ _ _ _ _ _ hSt (by omega) (by omega)).mono ?_
                  rintro e w6 ⟨rfl, hS6, hg6⟩
                  rw [HF30.out]
                  go_wp2_with fail
                  go_ret
                  rw [E2.out]
                  simp only [hl]
                  exact ⟨D, d, rfl, hOt.keptLow hg6 hsl, hS6, grown_trans hgt hg6⟩
                · have e2 : wordListV L p secs = (l ++ [0], q + 1) := by unfold wordListV; rw [HM.out, E1.out]; simp only; rw [hf30]; rfl
                  have HF30 := Lib.hid hf30; clear hf30
                  have E2 := Lib.hid e2; clear e2
                  refine (flip_any _ _ _ _ _ _ _ hSt (by omega) (by omega)).mono ?_
                  rintro e w6 ⟨rfl, hS6, hg6⟩
                  rw [HF30.out]
                  have hO6 := hOt.keptLow hg6 hsl
                  have hT6 := grown_trans hgt hg6
                  go_wp2_with (at_builtin; refine wpList_app _ rfl _ _ _ rfl w.heap.size 3 (.int .i64 0) 1 8 Try.underlying22 info_int rfl (by omega) D 0 d _ rfl (hO6.alloc _) _ 1 1 [.int .i64 0] rfl rfl (RowV.new w6 _ _) (by simp [Value.oneCell']) (by unfold maxLen; omega) (by omega) (by have := hT6.size; simp; omega) ?_; intro D7 d7 w7 hO7 hg7 _)
                  have hT7 : w.grownBy w7 (some s) := grown_own (grown_alloc hT6 _) (hO6.alloc _) (Nat.le_refl _) hg7
                  have hS7 : Strm w7 s A cap L (q + 1) := Strm.re hS0 ((hS6.blk.alloc (.cells #[.int .i64 0] 3)).grown hg7 (fun e => by have := (hO6.low _ e.symm).1; omega)) hT7
                  go_ret
                  rw [E2.out]
                  simp only [List.length_append, List.length_singleton, hl]
                  exact ⟨D7, d7, rfl, by rw [ints_snoc]; exact hO7, hS7, hT7⟩
            · cases hf20 : flipV L (p + 2 * k) 20
              · have HF := Lib.hid hf20; clear hf20
                have hkp : (0 : Int) < (k : Int) := by omega
                go_wp2_with fail
                refine (flip_any _ _ _ _ _ _ _ hS (by omega) (by omega)).mono ?_
                rintro e w2 ⟨rfl, hS2, hg2⟩
                rw [HF.out]
                go_wp2_with fail
                obtain ⟨l, hle⟩ : ∃ l, words0 L p k = l := ⟨_, rfl⟩
                obtain ⟨q, hqe⟩ : ∃ q, p + 2 * k + 1 = q := ⟨_, rfl⟩
                have e1 : words1 L p k = (l, q) := by unfold words1; rw [if_neg hk0, HF.out, hle, hqe]; rfl
                have hl : l.length = k := by rw [← hle, words0_len]
                have hSt := hS2; have hOt := hO.keptLow hg2 hsl; have hgt := grown_trans hg hg2
                rw [hqe] at hSt; rw [hle] at hOt
                clear hle
                have E1 := Lib.hid e1; clear e1
                have hq : q ≤ p + 200 := by omega
                cases hf30 : flipV L q 30
                · have e2 : wordListV L p secs = (l, q + 1) := by unfold wordListV; rw [HM.out, E1.out]; simp only; rw [hf30]; rfl
                  have HF30 := Lib.hid hf30; clear hf30
                  have E2 := Lib.hid e2; clear e2
                  refine (flip_any _ _ _ _ _ _ _ hSt (by omega) (by omega)).mono ?_
                  rintro e w6 ⟨rfl, hS6, hg6⟩
                  rw [HF30.out]
                  go_wp2_with fail
                  go_ret
                  rw [E2.out]
                  simp only [hl]
                  exact ⟨D, d, rfl, hOt.keptLow hg6 hsl, hS6, grown_trans hgt hg6⟩
                · have e2 : wordListV L p secs = (l ++ [0], q + 1) := by unfold wordListV; rw [HM.out, E1.out]; simp only; rw [hf30]; rfl
                  have HF30 := Lib.hid hf30; clear hf30
                  have E2 := Lib.hid e2; clear e2
                  refine (flip_any _ _ _ _ _ _ _ hSt (by omega) (by omega)).mono ?_
                  rintro e w6 ⟨rfl, hS6, hg6⟩
                  rw [HF30.out]
                  have hO6 := hOt.keptLow hg6 hsl
                  have hT6 := grown_trans hgt hg6
                  go_wp2_with (at_builtin; refine wpList_app _ rfl _ _ _ rfl w.heap.size 3 (.int .i64 0) 1 8 Try.underlying22 info_int rfl (by omega) D k d _ rfl (hO6.alloc _) _ 1 1 [.int .i64 0] rfl rfl (RowV.new w6 _ _) (by simp [Value.oneCell']) (by unfold maxLen; omega) (by omega) (by have := hT6.size; simp; omega) ?_; intro D7 d7 w7 hO7 hg7 _)
                  have hT7 : w.grownBy w7 (some s) := grown_own (grown_alloc hT6 _) (hO6.alloc _) (Nat.le_refl _) hg7
                  have hS7 : Strm w7 s A cap L (q + 1) := Strm.re hS0 ((hS6.blk.alloc (.cells #[.int .i64 0] 3)).grown hg7 (fun e => by have := (hO6.low _ e.symm).1; omega)) hT7
                  go_ret
                  rw [E2.out]
                  simp only [List.length_append, List.length_singleton, hl]
                  exact ⟨D7, d7, rfl, by rw [ints_snoc]; exact hO7, hS7, hT7⟩
              · have HF := Lib.hid hf20; clear hf20
                have hkp : (0 : Int) < (k : Int) := by omega
                have hi := pickI_lt L (p + 2 * k + 1) (n := k) (by omega)
                obtain ⟨i, hie⟩ : ∃ i, pickI L (p + 2 * k + 1) k = i := ⟨_, rfl⟩
                have hni : nextV L (p + 2 * k + 1) (k : Int) = (i : Int) := by
                  have := nextV_bd L (p + 2 * k + 1) (n := (k : Int)) (by omega)
                  unfold pickI at hie; omega
                rw [hie] at hi
                have HIE := Lib.hid hie; clear hie
                have HNI := Lib.hid hni; clear hni
                obtain ⟨x, hx⟩ := get_some (words0 L p k) (k := i) (by rw [words0_len]; exact hi)
                have hxi : (ints (words0 L p k))[i]? = some (.int .i64 x) := by simp [ints, hx]
                clear hx
                obtain ⟨g, o, rfl, _⟩ := hO.row i _ hxi
                have hgl := hO.low g rfl
                have HXI := Lib.hid hxi; clear hxi
                go_wp2_with fail
                refine (flip_any _ _ _ _ _ _ _ hS (by omega) (by omega)).mono ?_
                rintro e w2 ⟨rfl, hS2, hg2⟩
                rw [HF.out]
                go_wp2_with fail
                refine (next_any _ _ _ _ _ _ _ hS2 (by omega) (by omega)).mono ?_
                rintro e w3 ⟨rfl, hS3, hg3⟩
                rw [HNI.out]
                go_wp2_with fail
                refine (pick_any s A cap L (p + 2 * k + 1 + 1) [-1, 65536] _ _ _ (hS3.alloc _) (by omega) (RowV.new w3 _ _) (Off.new hS3.blk.lt) (by simp) (by simp)).mono ?_
                rintro e w4 ⟨rfl, hS4, hg4⟩
                have hg5 := grown_trans (grown_trans hg2 hg3) (grown_trans (World.grownBy_alloc w3 _ _) hg4)
                have hO4 := hO.keptLow hg5 hsl
                have hc4 := hO4.cell HXI.out
                have hf4 := hO4.frozen (o + i)
                have hT4 := grown_trans hg hg5
                clear hg2 hg3 hg4 hg5
                go_wp2_with fail
                have hOt := hO4.set i (.int .i64 (pickV L (p + 2 * k + 1 + 1) [-1, 65536]))
                have hgt := grown_setNew (p := ⟨g, o + i, none⟩) hT4 (by simp; omega) (.int .i64 (pickV L (p + 2 * k + 1 + 1) [-1, 65536]))
                have hSt := Strm.re hS0 (hS4.blk.far (p := ⟨g, o + i, none⟩) (by simp; omega) (.int .i64 (pickV L (p + 2 * k + 1 + 1) [-1, 65536]))) hgt
                generalize w4.setCell ⟨g, o + i, none⟩ (.int .i64 (pickV L (p + 2 * k + 1 + 1) [-1, 65536])) = wt at *
                obtain ⟨q, hqe⟩ : ∃ q, p + 2 * k + 1 + 1 + 1 = q := ⟨_, rfl⟩
                obtain ⟨l, hle⟩ : ∃ l, (words0 L p k).set i (pickV L (p + 2 * k + 1 + 1) [-1, 65536]) = l := ⟨_, rfl⟩
                have e1 : words1 L p k = (l, q) := by unfold words1; rw [if_neg hk0, HF.out, if_pos rfl, HIE.out, ← hle, ← hqe]
                have hl : l.length = k := by rw [← hle, List.length_set, words0_len]
                have hOt' : Own wt w.heap.size 3 1 (some ⟨g, o, none⟩) k d (ints l) := by rw [← hle, ints, List.map_set]; exact hOt
                rw [hqe] at hSt
                clear hOt
                have hOt := hOt'
                obtain ⟨D, hD⟩ : ∃ D, (some ⟨g, o, none⟩ : Option Addr) = D := ⟨_, rfl⟩
                rw [hD] at hOt
                try rw [hD]
                clear hle hOt' hO4 hc4 hf4 hS4 hT4 hS3 hS2 HNI HIE HXI hgl hO
                have E1 := Lib.hid e1; clear e1
                have hq : q ≤ p + 200 := by omega
                cases hf30 : flipV L q 30
                · have e2 : wordListV L p secs = (l, q + 1) := by unfold wordListV; rw [HM.out, E1.out]; simp only; rw [hf30]; rfl
                  have HF30 := Lib.hid hf30; clear hf30
                  have E2 := Lib.hid e2; clear e2
                  refine (flip_any _ _ _ _ _ _ _ hSt (by omega) (by omega)).mono ?_
                  rintro e w6 ⟨rfl, hS6, hg6⟩
                  rw [HF30.out]
                  go_wp2_with fail
                  go_ret
                  rw [E2.out]
                  simp only [hl]
                  exact ⟨D, d, rfl, hOt.keptLow hg6 hsl, hS6, grown_trans hgt hg6⟩
                · have e2 : wordListV L p secs = (l ++ [0], q + 1) := by unfold wordListV; rw [HM.out, E1.out]; simp only; rw [hf30]; rfl
                  have HF30 := Lib.hid hf30; clear hf30
                  have E2 := Lib.hid e2; clear e2
                  refine (flip_any _ _ _ _ _ _ _ hSt (by omega) (by omega)).mono ?_
                  rintro e w6 ⟨rfl, hS6, hg6⟩
                  rw [HF30.out]
                  have hO6 := hOt.keptLow hg6 hsl
                  have hT6 := grown_trans hgt hg6
                  go_wp2_with (at_builtin; refine wpList_app _ rfl _ _ _ rfl w.heap.size 3 (.int .i64 0) 1 8 Try.underlying22 info_int rfl (by omega) D k d _ rfl (hO6.alloc _) _ 1 1 [.int .i64 0] rfl rfl (RowV.new w6 _ _) (by simp [Value.oneCell']) (by unfold maxLen; omega) (by omega) (by have := hT6.size; simp; omega) ?_; intro D7 d7 w7 hO7 hg7 _)
                  have hT7 : w.grownBy w7 (some s) := grown_own (grown_alloc hT6 _) (hO6.alloc _) (Nat.le_refl _) hg7
                  have hS7 : Strm w7 s A cap L (q + 1) := Strm.re hS0 ((hS6.blk.alloc (.cells #[.int .i64 0] 3)).grown hg7 (fun e => by have := (hO6.low _ e.symm).1; omega)) hT7
                  go_ret
                  rw [E2.out]
                  simp only [List.length_append, List.length_singleton, hl]
                  exact ⟨D7, d7, rfl, by rw [ints_snoc]; exact hO7, hS7, hT7⟩
end Go.Proofs.Ytmnhlfkphibhfaa
