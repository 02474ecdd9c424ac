/-
  What the stream's OpList makes: the plain function 'opListV' of the stream's numbers and of how many sectors there are.
-/
import Derived.Test.YtmnhlfkphibhfaaWordList
import Derived.Test.YtmnhlfkphibhfaaFOps
import Derived.Test.YtmnhlfkphibhfaaRegion
namespace Go.Proofs.Ytmnhlfkphibhfaa
open Go.RowKit
set_option linter.unusedVariables false
set_option linter.unusedSimpArgs false
attribute [local go_sem ↓] Go.wp_at_zero Go.wp_at_succ

theorem info_op : (Try.prog.info? 63).map (fun i => (i.zero, i.size, i.bytes)) = some (some (.agg #[.int .i64 0, .int .i64 0, .int .i64 0]), 3, 24) := by kernel_rfl

theorem S3_of {w : World} {base : Nat} {e : TypeId} {n c g i : Nat} {xs : List Value} {u0 u1 u2 : Value} (h : Own w base e 3 (some ⟨g, 0, none⟩) n c xs) (hi : xs[i * 3]? = some u0 ∧ xs[i * 3 + 1]? = some u1 ∧ xs[i * 3 + 2]? = some u2) :
    w.cell? ⟨g, i * 3, none⟩ = some u0 ∧ w.cell? ⟨g, i * 3 + 1, none⟩ = some u1 ∧ w.cell? ⟨g, i * 3 + 2, none⟩ = some u2 ∧
    w.frozen? ⟨g, i * 3, none⟩ = false ∧ w.frozen? ⟨g, i * 3 + 1, none⟩ = false ∧ w.frozen? ⟨g, i * 3 + 2, none⟩ = false :=
  ⟨h.cell0 hi.1, h.cell0 hi.2.1, h.cell0 hi.2.2, h.frozen _, h.frozen _, h.frozen _⟩

set_option maxRecDepth 100000 in
set_option maxHeartbeats 1000000 in
theorem opList_any (s : Nat) (A : Option Addr) (cap : Nat) (L : List Int) (p : Nat) (n : Nat) (B : Option Addr) (c : Nat) (w : World) (hS0 : Strm w s A cap L p) (hp : p ≤ 1099511620000) (hn : n ≤ 1000) :
    Calls Try.prog 11 #[.pointer (some ⟨s, 0, none⟩), .agg #[.slice B n c]] w fun e w' =>
      ∃ D d, e = .returned (.slice D (opListV L p n).1.length d) ∧ Own w' w.heap.size 63 3 D (opListV L p n).1.length d (ops (opListV L p n).1) ∧ Strm w' s A cap L (opListV L p n).2 ∧ w.grownBy w' (some s) := by
  have hsl := hS0.blk.lt
  have hmany := opMany_le L p
  obtain ⟨m, hm⟩ : ∃ m, opMany L p = m := ⟨_, rfl⟩
  have hrm : rangeV L p 0 8 = (m : Int) := by
    have := rangeV_bd L p (lo := 0) (hi := 8) (by decide)
    unfold opMany at hm; omega
  rw [hm] at hmany
  have HM := Lib.hid hm; clear hm
  have HRM := Lib.hid hrm; clear hrm
  go_enter Try.func11, Try.ntmps11
  go_wp2_with fail
  refine (range_any s A cap L p 0 8 _ (hS0.alloc _) (by omega) (by omega) (by omega) (by omega) (by omega)).mono ?_
  rintro e w1 ⟨rfl, hS1, hg1⟩
  have hg1' : w.grownBy w1 (some s) := grown_trans (grown_alloc (grown_refl w _) _) hg1
  have hz1 : w.heap.size + 1 ≤ w1.heap.size := by have := hg1.size; simp at this; omega
  have hF1 : Blk w1 w.heap.size 27 #[.slice B n c] := (Blk.new w _ _).grown hg1 (by simp; omega)
  clear hg1
  rw [HRM.out]
  go_wp2_with fail
  go_loopg [5, 9] m (fun gm v i wr => ∃ k D d q, k + gm = m ∧ i = .int .i64 (k : Nat) ∧ v = .slice D k d ∧ Own wr w.heap.size 63 3 D k d (ops (opsTo L (p + 1) n k).1) ∧ Strm wr s A cap L q ∧ Hid ((opsTo L (p + 1) n k).2 = q) ∧ q ≤ p + 1 + 3 * k ∧ w.grownBy wr (some s) ∧ w.heap.size + 1 ≤ wr.heap.size ∧ Blk wr w.heap.size 27 #[.slice B n c])
  case atStart => exact ⟨0, none, 0, p + 1, by omega, rfl, rfl, Own.nil _ _ _ _, hS1, rfl, by omega, hg1', hz1, hF1⟩
  case round =>
    obtain ⟨k, D, d, q, hkm, rfl, rfl, hO, hS, HQ, hq, hg, hz, hF⟩ := hrel
    clear hS1 hg1' hz1 hF1
    by_cases hlt : k < m
    · cases hfl : flipV L q 3
      · have HF := Lib.hid hfl; clear hfl
        go_wp2_with fail
        refine (flip_any _ _ _ _ _ _ _ hS (by omega) (by omega)).mono ?_
        rintro e w2 ⟨rfl, hS2, hg2⟩
        rw [HF.out]
        go_wp2_with fail
        refine (next_any _ _ _ _ _ _ _ hS2 (by omega) (by omega)).mono ?_
        rintro e w3 ⟨rfl, hS3, hg3⟩
        obtain ⟨xa, hxa⟩ : ∃ xa, nextV L (q + 1) 4 = xa := ⟨_, rfl⟩
        rw [hxa]
        have HXA := Lib.hid hxa; clear hxa
        go_wp2_with fail
        refine (pick_any s A cap L (q + 1 + 1) [0, 1, 65535, 65534, 240] _ _ _ (hS3.alloc _) (by omega) (RowV.new w3 _ _) (Off.new hS3.blk.lt) (by simp) (by simp)).mono ?_
        rintro e w4 ⟨rfl, hS4, hg4⟩
        obtain ⟨xv, hxv⟩ : ∃ xv, pickV L (q + 1 + 1) [0, 1, 65535, 65534, 240] = xv := ⟨_, rfl⟩
        rw [hxv]
        have HXV := Lib.hid hxv; clear hxv
        have hgr := grown_trans (grown_trans hg2 hg3) (grown_trans (World.grownBy_alloc w3 _ _) hg4)
        have hO4 := hO.keptLow hgr hsl
        have hT4 := grown_trans hg hgr
        have hF4 := hF.grown hgr (by simp; omega)
        clear hg2 hg3 hg4 hgr
        go_wp2_with (at_builtin; refine wpList_app _ rfl _ _ _ rfl w.heap.size 63 (.agg #[.int .i64 0, .int .i64 0, .int .i64 0]) 3 24 Try.underlying30 info_op rfl (by omega) D k d _ rfl (hO4.alloc _) _ 1 1 (FOp.cells ⟨2, xa, xv⟩) rfl rfl (RowV.new w4 _ _) (by simp [FOp.cells, Value.oneCell']) (by unfold maxLen; omega) (by omega) (by have := hT4.size; simp; omega) ?_; intro D5 d5 w5 hO5 hg5 _)
        have hT5 : w.grownBy w5 (some s) := grown_own (grown_alloc hT4 _) (hO4.alloc _) (Nat.le_refl _) hg5
        have hS5 : Strm w5 s A cap L (q + 3) := Strm.re hS0 ((hS4.blk.alloc (.cells (FOp.cells ⟨2, xa, xv⟩).toArray 63)).grown hg5 (fun e => by have := (hO4.low _ e.symm).1; omega)) hT5
        have hF5 := (hF4.alloc (.cells (FOp.cells ⟨2, xa, xv⟩).toArray 63)).grown hg5 (fun e => (hO4.alloc (.cells (FOp.cells ⟨2, xa, xv⟩).toArray 63)).ne_blk (hF4.alloc _) (by decide) e.symm)
        have hz5 : w.heap.size + 1 ≤ w5.heap.size := by have := hg5.size; have := hT4.size; simp at *; omega
        go_roundg (gk - 1)
        case measure => omega
        case rel =>
          have ho : opAt L q n = (⟨2, xa, xv⟩, q + 3) := by unfold opAt; rw [HF.out, HXA.out, HXV.out]; rfl
          refine ⟨k + 1, D5, d5, q + 3, by omega, by go_num, rfl, ?_, hS5, ?_, by omega, hT5, hz5, hF5⟩
          · simp only [opsTo]; rw [HQ.out, ho, ops_snoc]; exact hO5
          · show _ = _; simp only [opsTo]; rw [HQ.out, ho]
      · have HF := Lib.hid hfl; clear hfl
        rcases (show n = 0 ∨ n = 1 ∨ 2 ≤ n from by omega) with rfl | rfl | hn2
        · go_wp2_with fail
          refine (flip_any _ _ _ _ _ _ _ hS (by omega) (by omega)).mono ?_
          rintro e w2 ⟨rfl, hS2, hg2⟩
          rw [HF.out]
          have hF2 := hF.grown hg2 (by simp; omega)
          have cF2 := hF2.cell 0 rfl
          go_wp2_with fail
          refine (next_any _ _ _ _ _ 1 _ hS2 (by omega) (by omega)).mono ?_
          rintro e w3 ⟨rfl, hS3, hg3⟩
          obtain ⟨xa, hxa⟩ : ∃ xa, nextV L (q + 1) 1 = xa := ⟨_, rfl⟩
          rw [hxa]
          have HXA := Lib.hid hxa; clear hxa
          have hgr := grown_trans hg2 hg3
          have hO4 := hO.keptLow hgr hsl
          have hT4 := grown_trans hg hgr
          have hF4 := hF.grown hgr (by simp; omega)
          clear hg2 hg3 hgr cF2 hF2
          go_wp2_with (at_builtin; refine wpList_app _ rfl _ _ _ rfl w.heap.size 63 (.agg #[.int .i64 0, .int .i64 0, .int .i64 0]) 3 24 Try.underlying30 info_op rfl (by omega) D k d _ rfl (hO4.alloc _) _ 1 1 (FOp.cells ⟨1, xa, 0⟩) rfl rfl (RowV.new w3 _ _) (by simp [FOp.cells, Value.oneCell']) (by unfold maxLen; omega) (by omega) (by have := hT4.size; simp; omega) ?_; intro D5 d5 w5 hO5 hg5 _)
          have hT5 : w.grownBy w5 (some s) := grown_own (grown_alloc hT4 _) (hO4.alloc _) (Nat.le_refl _) hg5
          have hS5 : Strm w5 s A cap L (q + 2) := Strm.re hS0 ((hS3.blk.alloc (.cells (FOp.cells ⟨1, xa, 0⟩).toArray 63)).grown hg5 (fun e => by have := (hO4.low _ e.symm).1; omega)) hT5
          have hF5 := (hF4.alloc (.cells (FOp.cells ⟨1, xa, 0⟩).toArray 63)).grown hg5 (fun e => (hO4.alloc (.cells (FOp.cells ⟨1, xa, 0⟩).toArray 63)).ne_blk (hF4.alloc _) (by decide) e.symm)
          have hz5 : w.heap.size + 1 ≤ w5.heap.size := by have := hg5.size; have := hT4.size; simp at *; omega
          go_roundg (gk - 1)
          case measure => omega
          case rel =>
            have ho : opAt L q 0 = (⟨1, xa, 0⟩, q + 2) := by unfold opAt; rw [HF.out, if_pos rfl, show max 1 ((0 : Nat) : Int) = 1 from by omega, HXA.out]
            refine ⟨k + 1, D5, d5, q + 2, by omega, by go_num, rfl, ?_, hS5, ?_, by omega, hT5, hz5, hF5⟩
            · simp only [opsTo]; rw [HQ.out, ho, ops_snoc]; exact hO5
            · show _ = _; simp only [opsTo]; rw [HQ.out, ho]
        · go_wp2_with fail
          refine (flip_any _ _ _ _ _ _ _ hS (by omega) (by omega)).mono ?_
          rintro e w2 ⟨rfl, hS2, hg2⟩
          rw [HF.out]
          have hF2 := hF.grown hg2 (by simp; omega)
          have cF2 := hF2.cell 0 rfl
          go_wp2_with fail
          refine (next_any _ _ _ _ _ 1 _ hS2 (by omega) (by omega)).mono ?_
          rintro e w3 ⟨rfl, hS3, hg3⟩
          obtain ⟨xa, hxa⟩ : ∃ xa, nextV L (q + 1) 1 = xa := ⟨_, rfl⟩
          rw [hxa]
          have HXA := Lib.hid hxa; clear hxa
          have hgr := grown_trans hg2 hg3
          have hO4 := hO.keptLow hgr hsl
          have hT4 := grown_trans hg hgr
          have hF4 := hF.grown hgr (by simp; omega)
          clear hg2 hg3 hgr cF2 hF2
          go_wp2_with (at_builtin; refine wpList_app _ rfl _ _ _ rfl w.heap.size 63 (.agg #[.int .i64 0, .int .i64 0, .int .i64 0]) 3 24 Try.underlying30 info_op rfl (by omega) D k d _ rfl (hO4.alloc _) _ 1 1 (FOp.cells ⟨1, xa, 0⟩) rfl rfl (RowV.new w3 _ _) (by simp [FOp.cells, Value.oneCell']) (by unfold maxLen; omega) (by omega) (by have := hT4.size; simp; omega) ?_; intro D5 d5 w5 hO5 hg5 _)
          have hT5 : w.grownBy w5 (some s) := grown_own (grown_alloc hT4 _) (hO4.alloc _) (Nat.le_refl _) hg5
          have hS5 : Strm w5 s A cap L (q + 2) := Strm.re hS0 ((hS3.blk.alloc (.cells (FOp.cells ⟨1, xa, 0⟩).toArray 63)).grown hg5 (fun e => by have := (hO4.low _ e.symm).1; omega)) hT5
          have hF5 := (hF4.alloc (.cells (FOp.cells ⟨1, xa, 0⟩).toArray 63)).grown hg5 (fun e => (hO4.alloc (.cells (FOp.cells ⟨1, xa, 0⟩).toArray 63)).ne_blk (hF4.alloc _) (by decide) e.symm)
          have hz5 : w.heap.size + 1 ≤ w5.heap.size := by have := hg5.size; have := hT4.size; simp at *; omega
          go_roundg (gk - 1)
          case measure => omega
          case rel =>
            have ho : opAt L q 1 = (⟨1, xa, 0⟩, q + 2) := by unfold opAt; rw [HF.out, if_pos rfl, show max 1 ((1 : Nat) : Int) = 1 from by omega, HXA.out]
            refine ⟨k + 1, D5, d5, q + 2, by omega, by go_num, rfl, ?_, hS5, ?_, by omega, hT5, hz5, hF5⟩
            · simp only [opsTo]; rw [HQ.out, ho, ops_snoc]; exact hO5
            · show _ = _; simp only [opsTo]; rw [HQ.out, ho]
        · go_wp2_with fail
          refine (flip_any _ _ _ _ _ _ _ hS (by omega) (by omega)).mono ?_
          rintro e w2 ⟨rfl, hS2, hg2⟩
          rw [HF.out]
          have hF2 := hF.grown hg2 (by simp; omega)
          have cF2 := hF2.cell 0 rfl
          go_wp2_with fail
          refine (next_any _ _ _ _ _ (n : Int) _ hS2 (by omega) (by omega)).mono ?_
          rintro e w3 ⟨rfl, hS3, hg3⟩
          obtain ⟨xa, hxa⟩ : ∃ xa, nextV L (q + 1) (n : Int) = xa := ⟨_, rfl⟩
          rw [hxa]
          have HXA := Lib.hid hxa; clear hxa
          have hgr := grown_trans hg2 hg3
          have hO4 := hO.keptLow hgr hsl
          have hT4 := grown_trans hg hgr
          have hF4 := hF.grown hgr (by simp; omega)
          clear hg2 hg3 hgr cF2 hF2
          go_wp2_with (at_builtin; refine wpList_app _ rfl _ _ _ rfl w.heap.size 63 (.agg #[.int .i64 0, .int .i64 0, .int .i64 0]) 3 24 Try.underlying30 info_op rfl (by omega) D k d _ rfl (hO4.alloc _) _ 1 1 (FOp.cells ⟨1, xa, 0⟩) rfl rfl (RowV.new w3 _ _) (by simp [FOp.cells, Value.oneCell']) (by unfold maxLen; omega) (by omega) (by have := hT4.size; simp; omega) ?_; intro D5 d5 w5 hO5 hg5 _)
          have hT5 : w.grownBy w5 (some s) := grown_own (grown_alloc hT4 _) (hO4.alloc _) (Nat.le_refl _) hg5
          have hS5 : Strm w5 s A cap L (q + 2) := Strm.re hS0 ((hS3.blk.alloc (.cells (FOp.cells ⟨1, xa, 0⟩).toArray 63)).grown hg5 (fun e => by have := (hO4.low _ e.symm).1; omega)) hT5
          have hF5 := (hF4.alloc (.cells (FOp.cells ⟨1, xa, 0⟩).toArray 63)).grown hg5 (fun e => (hO4.alloc (.cells (FOp.cells ⟨1, xa, 0⟩).toArray 63)).ne_blk (hF4.alloc _) (by decide) e.symm)
          have hz5 : w.heap.size + 1 ≤ w5.heap.size := by have := hg5.size; have := hT4.size; simp at *; omega
          go_roundg (gk - 1)
          case measure => omega
          case rel =>
            have ho : opAt L q n = (⟨1, xa, 0⟩, q + 2) := by unfold opAt; rw [HF.out, if_pos rfl, show max 1 ((n : Nat) : Int) = (n : Int) from by omega, HXA.out]
            refine ⟨k + 1, D5, d5, q + 2, by omega, by go_num, rfl, ?_, hS5, ?_, by omega, hT5, hz5, hF5⟩
            · simp only [opsTo]; rw [HQ.out, ho, ops_snoc]; exact hO5
            · show _ = _; simp only [opsTo]; rw [HQ.out, ho]
    · obtain rfl : k = m := by omega
      obtain ⟨l, hle⟩ : ∃ l, (opsTo L (p + 1) n k).1 = l := ⟨_, rfl⟩
      have hl : l.length = k := by rw [← hle, opsTo_len]
      rw [hle] at hO
      have HL := Lib.hid hle; clear hle
      by_cases hk0 : k = 0
      · subst hk0
        have h00 : decide ((0 : Int) < ((0 : Nat) : Int)) = false := by decide
        have e1 : opListV L p n = (l, q) := by unfold opListV; rw [HM.out, if_pos rfl, ← HL.out, ← HQ.out]
        have E1 := Lib.hid e1; clear e1
        go_wp2_with fail
        go_ret
        rw [E1.out]
        simp only [hl]
        exact ⟨D, d, rfl, hO, hS, hg⟩
      · have hkp : (0 : Int) < (k : Int) := by omega
        cases hf : flipV L q 15
        · have e1 : opListV L p n = (l, q + 1) := by unfold opListV; rw [HM.out, if_neg hk0, HQ.out, HL.out, hf]; rfl
          have E1 := Lib.hid e1; clear e1
          have HF := Lib.hid hf; clear hf
          go_wp2_with fail
          refine (flip_any _ _ _ _ _ _ _ hS (by omega) (by omega)).mono ?_
          rintro e w2 ⟨rfl, hS2, hg2⟩
          rw [HF.out]
          go_wp2_with fail
          go_ret
          rw [E1.out]
          simp only [hl]
          exact ⟨D, d, rfl, hO.keptLow hg2 hsl, hS2, grown_trans hg hg2⟩
        · have hi := pickI_lt L (q + 1) (n := k) (by omega)
          obtain ⟨i, hie⟩ : ∃ i, pickI L (q + 1) k = i := ⟨_, rfl⟩
          have hni : nextV L (q + 1) (k : Int) = (i : Int) := by
            have := nextV_bd L (q + 1) (n := (k : Int)) (by omega)
            unfold pickI at hie; omega
          rw [hie] at hi
          obtain ⟨x, hx⟩ := get_some l (k := i) (by rw [hl]; exact hi)
          obtain ⟨c0, c1, c2⟩ := ops_get l hx
          have e1 : opListV L p n = (l.set i (spoilOp L (q + 2) x), q + 6) := by
            unfold opListV; rw [HM.out, if_neg hk0, HQ.out, HL.out, hf, if_pos rfl, hie, List.getD_eq_getElem?_getD, hx]; rfl
          have E1 := Lib.hid e1; clear e1
          have HF := Lib.hid hf; clear hf
          clear hie hx
          have HNI := Lib.hid hni; clear hni
          obtain ⟨g, o, rfl, _⟩ := hO.row _ _ c0
          obtain rfl := hO.zero
          have hgl := hO.low g rfl
          have C := Lib.hid (And.intro c0 (And.intro c1 c2)); clear c0 c1 c2
          go_wp2_with fail
          refine (flip_any _ _ _ _ _ _ _ hS (by omega) (by omega)).mono ?_
          rintro e w2 ⟨rfl, hS2, hg2⟩
          rw [HF.out]
          go_wp2_with fail
          refine (next_any _ _ _ _ _ _ _ hS2 (by omega) (by omega)).mono ?_
          rintro e w3 ⟨rfl, hS3, hg3⟩
          rw [HNI.out]
          have hgr := grown_trans hg2 hg3
          have hO3 := hO.keptLow hgr hsl
          have hT3 := grown_trans hg hgr
          clear hO hS hg hS2 hg2 hg3 hgr
          go_wp2_with fail
          refine wp_region_G 19 (fun w' => w'.cell? ⟨g, i * 3, none⟩ = some (.int .i64 x.k) ∧ w'.cell? ⟨g, i * 3 + 1, none⟩ = some (.int .i64 x.a) ∧ w'.cell? ⟨g, i * 3 + 2, none⟩ = some (.int .i64 x.v) ∧
              w'.frozen? ⟨g, i * 3, none⟩ = false ∧ w'.frozen? ⟨g, i * 3 + 1, none⟩ = false ∧ w'.frozen? ⟨g, i * 3 + 2, none⟩ = false) (by kernel_rfl) (S3_of hO3.drew C.out) (fun hHeld => ?_)
          have hO4 : Own w3.drew w.heap.size 63 3 (some ⟨g, 0, none⟩) k d (ops l) := hO3.drew
          have hS4 : Strm w3.drew s A cap L (q + 1 + 1) := hS3.drew
          have hg4 : w3.grownBy w3.drew (some s) := grown_drew (grown_refl w3 (some s))
          generalize w3.drew = wx4 at *
          -- BEGIN REGION 10 (by program: gen_oplist.py)
          refine wpAnyG_take0 (i := 0) (v := ?qv1) rfl (by kernel_rfl) (by kernel_rfl) (by kernel_rfl) (fun _ _ _ h => h) (Or.inl ⟨by rfl, ?qy1⟩) ?qr1
          case qy1 => (intro w _; go_simp; try with_reducible rfl)
          try simp only [Act.put, List.setIfInBounds_toArray, List.set_cons_zero, List.set_cons_succ]
          refine wpAnyG_take0 (i := 1) (v := ?qv2) rfl (by kernel_rfl) (by kernel_rfl) (by kernel_rfl) (fun _ _ _ h => h) (Or.inl ⟨by rfl, ?qy2⟩) ?qr2
          case qy2 => (intro w _; go_simp; try with_reducible rfl)
          try simp only [Act.put, List.setIfInBounds_toArray, List.set_cons_zero, List.set_cons_succ]
          refine wpAnyG_take0 (i := 2) (v := ?qv3) rfl (by kernel_rfl) (by kernel_rfl) (by kernel_rfl) (fun _ _ _ h => h) (Or.inl ⟨by rfl, ?qy3⟩) ?qr3
          case qy3 => (intro w _; go_simp; try with_reducible rfl)
          try simp only [Act.put, List.setIfInBounds_toArray, List.set_cons_zero, List.set_cons_succ]
          refine wpAnyG_take0 (i := 3) (v := ?qv4) rfl (by kernel_rfl) (by kernel_rfl) (by kernel_rfl) (fun _ _ _ h => h) (Or.inl ⟨by rfl, ?qy4⟩) ?qr4
          case qy4 => (intro w _; go_simp; try with_reducible rfl)
          try simp only [Act.put, List.setIfInBounds_toArray, List.set_cons_zero, List.set_cons_succ]
          refine wpAnyG_take0 (i := 5) (v := ?qv5) rfl (by kernel_rfl) (by kernel_rfl) (by kernel_rfl) (fun _ _ _ h => h) (Or.inl ⟨by rfl, ?qy5⟩) ?qr5
          case qy5 => (intro w _; go_simp; try with_reducible rfl)
          try simp only [Act.put, List.setIfInBounds_toArray, List.set_cons_zero, List.set_cons_succ]
          refine wpAnyG_take0 (i := 6) (v := ?qv6) rfl (by kernel_rfl) (by kernel_rfl) (by kernel_rfl) (fun _ _ _ h => h) (Or.inl ⟨by rfl, ?qy6⟩) ?qr6
          case qy6 => (intro w _; go_simp; try with_reducible rfl)
          try simp only [Act.put, List.setIfInBounds_toArray, List.set_cons_zero, List.set_cons_succ]
          refine wpAnyG_take0 (i := 7) (v := ?qv7) rfl (by kernel_rfl) (by kernel_rfl) (by kernel_rfl) (fun _ _ _ h => h) (Or.inl ⟨by rfl, ?qy7⟩) ?qr7
          case qy7 => (intro w _; go_simp; try with_reducible rfl)
          try simp only [Act.put, List.setIfInBounds_toArray, List.set_cons_zero, List.set_cons_succ]
          refine wpAnyG_take0 (i := 8) (v := ?qv8) rfl (by kernel_rfl) (by kernel_rfl) (by kernel_rfl) (fun _ _ _ h => h) (Or.inl ⟨by rfl, ?qy8⟩) ?qr8
          case qy8 => (intro w _; go_simp; try with_reducible rfl)
          try simp only [Act.put, List.setIfInBounds_toArray, List.set_cons_zero, List.set_cons_succ]
          refine wpAnyG_take (i := 9) (v := ?qv9) rfl (by kernel_rfl) (by kernel_rfl) (by kernel_rfl) (by kernel_rfl) (fun _ _ _ h => h) (Or.inl ⟨by rfl, ?qy9⟩) (by assumption) ?qr9
          case qy9 => (intro w hSw; (try dsimp only at hSw); go_simp; try with_reducible rfl)
          try simp only [Act.put, List.setIfInBounds_toArray, List.set_cons_zero, List.set_cons_succ]
          refine wpAnyG_take0 (i := 12) (v := ?qv10) rfl (by kernel_rfl) (by kernel_rfl) (by kernel_rfl) (fun _ _ _ h => h) (Or.inl ⟨by rfl, ?qy10⟩) ?qr10
          case qy10 => (intro w _; go_simp; try with_reducible rfl)
          try simp only [Act.put, List.setIfInBounds_toArray, List.set_cons_zero, List.set_cons_succ]
          refine wpAnyG_take0 (i := 13) (v := ?qv11) rfl (by kernel_rfl) (by kernel_rfl) (by kernel_rfl) (fun _ _ _ h => h) (Or.inl ⟨by rfl, ?qy11⟩) ?qr11
          case qy11 => (intro w _; go_simp; try with_reducible rfl)
          try simp only [Act.put, List.setIfInBounds_toArray, List.set_cons_zero, List.set_cons_succ]
          refine wpAnyG_take0 (i := 14) (v := ?qv12) rfl (by kernel_rfl) (by kernel_rfl) (by kernel_rfl) (fun _ _ _ h => h) (Or.inl ⟨by rfl, ?qy12⟩) ?qr12
          case qy12 => (intro w _; go_simp; try with_reducible rfl)
          try simp only [Act.put, List.setIfInBounds_toArray, List.set_cons_zero, List.set_cons_succ]
          refine wpAnyG_take0 (i := 15) (v := ?qv13) rfl (by kernel_rfl) (by kernel_rfl) (by kernel_rfl) (fun _ _ _ h => h) (Or.inl ⟨by rfl, ?qy13⟩) ?qr13
          case qy13 => (intro w _; go_simp; try with_reducible rfl)
          try simp only [Act.put, List.setIfInBounds_toArray, List.set_cons_zero, List.set_cons_succ]
          refine wpAnyG_take (i := 16) (v := ?qv14) rfl (by kernel_rfl) (by kernel_rfl) (by kernel_rfl) (by kernel_rfl) (fun _ _ _ h => h) (Or.inl ⟨by rfl, ?qy14⟩) (by assumption) ?qr14
          case qy14 => (intro w hSw; (try dsimp only at hSw); go_simp; try with_reducible rfl)
          try simp only [Act.put, List.setIfInBounds_toArray, List.set_cons_zero, List.set_cons_succ]
          refine wpAnyG_ready (rs := [4, 10, 17]) (by kernel_rfl) (by simp) (AllReadyG.cons rfl (fun K hK => ?_) (AllReadyG.cons rfl (fun K hK => ?_) (AllReadyG.cons rfl (fun K hK => ?_) AllReadyG.nil)))
          · go_simp
            refine (odd_any s A cap L (q + 1 + 1) 1 2 _ hS4 (by omega) (by omega) (by omega) (by omega)).mono ?_
            rintro e wx5 ⟨rfl, hS5, hgn5⟩
            have hO5 := hO4.keptLow hgn5 hsl
            refine hK.out _ _ (S3_of hO5 C.out) ?_
            clear hK K
            have hg5 := grown_trans hg4 hgn5
            try simp only [Act.put, List.setIfInBounds_toArray, List.set_cons_zero, List.set_cons_succ]
            refine wpAnyG_ready (rs := [10, 17]) (by kernel_rfl) (by simp) (AllReadyG.cons rfl (fun K hK => ?_) (AllReadyG.cons rfl (fun K hK => ?_) AllReadyG.nil))
            · go_simp
              refine hK.out _ _ (S3_of (hO5.alloc _) C.out) ?_
              clear hK K
              have hRA6 := RowV.new wx5 3 #[.int .i64 x.a, .int .i64 (-1), .int .i64 99]
              have hFA6 : Off (some ⟨(wx5).heap.size, 0, none⟩) s := Off.new hS5.blk.lt
              have hS6 := hS5.alloc (.cells #[.int .i64 x.a, .int .i64 (-1), .int .i64 99] 3)
              have hO6 := hO5.alloc (.cells #[.int .i64 x.a, .int .i64 (-1), .int .i64 99] 3)
              have hg6 := grown_alloc hg5 (.cells #[.int .i64 x.a, .int .i64 (-1), .int .i64 99] 3)
              generalize (wx5).alloc (.cells #[.int .i64 x.a, .int .i64 (-1), .int .i64 99] 3) = wx6 at *
              try simp only [Act.put, List.setIfInBounds_toArray, List.set_cons_zero, List.set_cons_succ]
              refine wpAnyG_ready (rs := [11, 17]) (by kernel_rfl) (by simp) (AllReadyG.cons rfl (fun K hK => ?_) (AllReadyG.cons rfl (fun K hK => ?_) AllReadyG.nil))
              · go_simp
                refine (pick_any s A cap L (q + 1 + 1 + 2) [x.a, -1, 99] _ _ _ hS6 (by omega) hRA6 hFA6 (by simp) (by simp)).mono ?_
                rintro e wx7 ⟨rfl, hS7, hgn7⟩
                have hO7 := hO6.keptLow hgn7 hsl
                refine hK.out _ _ (S3_of hO7 C.out) ?_
                clear hK K
                have hg7 := grown_trans hg6 hgn7
                have hRA7 := hRA6.grown hgn7 (fun r e => by injection e with e; subst e; exact hFA6)
                have hFA7 := hFA6
                try simp only [Act.put, List.setIfInBounds_toArray, List.set_cons_zero, List.set_cons_succ]
                refine wpAnyG_ready (rs := [17]) (by kernel_rfl) (by simp) (AllReadyG.cons rfl (fun K hK => ?_) AllReadyG.nil)
                · go_simp
                  refine hK.out _ _ (S3_of (hO7.alloc _) C.out) ?_
                  clear hK K
                  have hRB8 := RowV.new wx7 3 #[.int .i64 x.v, .int .i64 (-1), .int .i64 65536]
                  have hFB8 : Off (some ⟨(wx7).heap.size, 0, none⟩) s := Off.new hS7.blk.lt
                  have hS8 := hS7.alloc (.cells #[.int .i64 x.v, .int .i64 (-1), .int .i64 65536] 3)
                  have hO8 := hO7.alloc (.cells #[.int .i64 x.v, .int .i64 (-1), .int .i64 65536] 3)
                  have hg8 := grown_alloc hg7 (.cells #[.int .i64 x.v, .int .i64 (-1), .int .i64 65536] 3)
                  have hRA8 := hRA7.alloc (.cells #[.int .i64 x.v, .int .i64 (-1), .int .i64 65536] 3)
                  have hFA8 := hFA7
                  generalize (wx7).alloc (.cells #[.int .i64 x.v, .int .i64 (-1), .int .i64 65536] 3) = wx8 at *
                  try simp only [Act.put, List.setIfInBounds_toArray, List.set_cons_zero, List.set_cons_succ]
                  refine wpAnyG_ready (rs := [18]) (by kernel_rfl) (by simp) (AllReadyG.cons rfl (fun K hK => ?_) AllReadyG.nil)
                  · go_simp
                    refine (pick_any s A cap L (q + 1 + 1 + 2 + 1) [x.v, -1, 65536] _ _ _ hS8 (by omega) hRB8 hFB8 (by simp) (by simp)).mono ?_
                    rintro e wx9 ⟨rfl, hS9, hgn9⟩
                    have hO9 := hO8.keptLow hgn9 hsl
                    refine hK.out _ _ (S3_of hO9 C.out) ?_
                    clear hK K
                    have hg9 := grown_trans hg8 hgn9
                    have hRA9 := hRA8.grown hgn9 (fun r e => by injection e with e; subst e; exact hFA8)
                    have hFA9 := hFA8
                    have hRB9 := hRB8.grown hgn9 (fun r e => by injection e with e; subst e; exact hFB8)
                    have hFB9 := hFB8
                    try simp only [Act.put, List.setIfInBounds_toArray, List.set_cons_zero, List.set_cons_succ]
                    refine wpAnyG_tail 19 (by decide) (by rfl) (by kernel_rfl) ?_
                    simp only [List.drop_succ_cons, List.drop_zero]
                    obtain ⟨c0, c1, c2, f0, f1, f2⟩ := S3_of hO9 C.out
                    have hOt := ((hO9.set0 (i * 3) (.int .i64 (oddV L (q + 1 + 1) 1 2).1)).set0 (i * 3 + 1) (.int .i64 (pickV L (q + 1 + 1 + 2) [x.a, -1, 99]))).set0 (i * 3 + 2) (.int .i64 (pickV L (q + 1 + 1 + 2 + 1) [x.v, -1, 65536]))
                    have hgt := grown_setNew (p := ⟨g, i * 3 + 2, none⟩) (grown_setNew (p := ⟨g, i * 3 + 1, none⟩) (grown_setNew (p := ⟨g, i * 3, none⟩) (grown_trans hT3 hg9) (by simp; omega) (.int .i64 (oddV L (q + 1 + 1) 1 2).1)) (by simp; omega) (.int .i64 (pickV L (q + 1 + 1 + 2) [x.a, -1, 99]))) (by simp; omega) (.int .i64 (pickV L (q + 1 + 1 + 2 + 1) [x.v, -1, 65536]))
                    have hSb := ((hS9.blk.far (p := ⟨g, i * 3, none⟩) (by simp; omega) (.int .i64 (oddV L (q + 1 + 1) 1 2).1)).far (p := ⟨g, i * 3 + 1, none⟩) (by simp; omega) (.int .i64 (pickV L (q + 1 + 1 + 2) [x.a, -1, 99]))).far (p := ⟨g, i * 3 + 2, none⟩) (by simp; omega) (.int .i64 (pickV L (q + 1 + 1 + 2 + 1) [x.v, -1, 65536]))
                    go_wp2
                    go_ret
                    rw [E1.out]
                    simp only [List.length_set, hl]
                    refine ⟨some ⟨g, 0, none⟩, d, rfl, ?_, Strm.re hS0 hSb hgt, hgt⟩
                    rw [← ops_set]
                    exact hOt
              · go_simp
                refine hK.out _ _ (S3_of (hO6.alloc _) C.out) ?_
                clear hK K
                have hRB7 := RowV.new wx6 3 #[.int .i64 x.v, .int .i64 (-1), .int .i64 65536]
                have hFB7 : Off (some ⟨(wx6).heap.size, 0, none⟩) s := Off.new hS6.blk.lt
                have hS7 := hS6.alloc (.cells #[.int .i64 x.v, .int .i64 (-1), .int .i64 65536] 3)
                have hO7 := hO6.alloc (.cells #[.int .i64 x.v, .int .i64 (-1), .int .i64 65536] 3)
                have hg7 := grown_alloc hg6 (.cells #[.int .i64 x.v, .int .i64 (-1), .int .i64 65536] 3)
                have hRA7 := hRA6.alloc (.cells #[.int .i64 x.v, .int .i64 (-1), .int .i64 65536] 3)
                have hFA7 := hFA6
                generalize (wx6).alloc (.cells #[.int .i64 x.v, .int .i64 (-1), .int .i64 65536] 3) = wx7 at *
                try simp only [Act.put, List.setIfInBounds_toArray, List.set_cons_zero, List.set_cons_succ]
                refine wpAnyG_ready (rs := [11]) (by kernel_rfl) (by simp) (AllReadyG.cons rfl (fun K hK => ?_) AllReadyG.nil)
                · go_simp
                  refine (pick_any s A cap L (q + 1 + 1 + 2) [x.a, -1, 99] _ _ _ hS7 (by omega) hRA7 hFA7 (by simp) (by simp)).mono ?_
                  rintro e wx8 ⟨rfl, hS8, hgn8⟩
                  have hO8 := hO7.keptLow hgn8 hsl
                  refine hK.out _ _ (S3_of hO8 C.out) ?_
                  clear hK K
                  have hg8 := grown_trans hg7 hgn8
                  have hRA8 := hRA7.grown hgn8 (fun r e => by injection e with e; subst e; exact hFA7)
                  have hFA8 := hFA7
                  have hRB8 := hRB7.grown hgn8 (fun r e => by injection e with e; subst e; exact hFB7)
                  have hFB8 := hFB7
                  try simp only [Act.put, List.setIfInBounds_toArray, List.set_cons_zero, List.set_cons_succ]
                  refine wpAnyG_ready (rs := [18]) (by kernel_rfl) (by simp) (AllReadyG.cons rfl (fun K hK => ?_) AllReadyG.nil)
                  · go_simp
                    refine (pick_any s A cap L (q + 1 + 1 + 2 + 1) [x.v, -1, 65536] _ _ _ hS8 (by omega) hRB8 hFB8 (by simp) (by simp)).mono ?_
                    rintro e wx9 ⟨rfl, hS9, hgn9⟩
                    have hO9 := hO8.keptLow hgn9 hsl
                    refine hK.out _ _ (S3_of hO9 C.out) ?_
                    clear hK K
                    have hg9 := grown_trans hg8 hgn9
                    have hRA9 := hRA8.grown hgn9 (fun r e => by injection e with e; subst e; exact hFA8)
                    have hFA9 := hFA8
                    have hRB9 := hRB8.grown hgn9 (fun r e => by injection e with e; subst e; exact hFB8)
                    have hFB9 := hFB8
                    try simp only [Act.put, List.setIfInBounds_toArray, List.set_cons_zero, List.set_cons_succ]
                    refine wpAnyG_tail 19 (by decide) (by rfl) (by kernel_rfl) ?_
                    simp only [List.drop_succ_cons, List.drop_zero]
                    obtain ⟨c0, c1, c2, f0, f1, f2⟩ := S3_of hO9 C.out
                    have hOt := ((hO9.set0 (i * 3) (.int .i64 (oddV L (q + 1 + 1) 1 2).1)).set0 (i * 3 + 1) (.int .i64 (pickV L (q + 1 + 1 + 2) [x.a, -1, 99]))).set0 (i * 3 + 2) (.int .i64 (pickV L (q + 1 + 1 + 2 + 1) [x.v, -1, 65536]))
                    have hgt := grown_setNew (p := ⟨g, i * 3 + 2, none⟩) (grown_setNew (p := ⟨g, i * 3 + 1, none⟩) (grown_setNew (p := ⟨g, i * 3, none⟩) (grown_trans hT3 hg9) (by simp; omega) (.int .i64 (oddV L (q + 1 + 1) 1 2).1)) (by simp; omega) (.int .i64 (pickV L (q + 1 + 1 + 2) [x.a, -1, 99]))) (by simp; omega) (.int .i64 (pickV L (q + 1 + 1 + 2 + 1) [x.v, -1, 65536]))
                    have hSb := ((hS9.blk.far (p := ⟨g, i * 3, none⟩) (by simp; omega) (.int .i64 (oddV L (q + 1 + 1) 1 2).1)).far (p := ⟨g, i * 3 + 1, none⟩) (by simp; omega) (.int .i64 (pickV L (q + 1 + 1 + 2) [x.a, -1, 99]))).far (p := ⟨g, i * 3 + 2, none⟩) (by simp; omega) (.int .i64 (pickV L (q + 1 + 1 + 2 + 1) [x.v, -1, 65536]))
                    go_wp2
                    go_ret
                    rw [E1.out]
                    simp only [List.length_set, hl]
                    refine ⟨some ⟨g, 0, none⟩, d, rfl, ?_, Strm.re hS0 hSb hgt, hgt⟩
                    rw [← ops_set]
                    exact hOt
            · go_simp
              refine hK.out _ _ (S3_of (hO5.alloc _) C.out) ?_
              clear hK K
              have hRB6 := RowV.new wx5 3 #[.int .i64 x.v, .int .i64 (-1), .int .i64 65536]
              have hFB6 : Off (some ⟨(wx5).heap.size, 0, none⟩) s := Off.new hS5.blk.lt
              have hS6 := hS5.alloc (.cells #[.int .i64 x.v, .int .i64 (-1), .int .i64 65536] 3)
              have hO6 := hO5.alloc (.cells #[.int .i64 x.v, .int .i64 (-1), .int .i64 65536] 3)
              have hg6 := grown_alloc hg5 (.cells #[.int .i64 x.v, .int .i64 (-1), .int .i64 65536] 3)
              generalize (wx5).alloc (.cells #[.int .i64 x.v, .int .i64 (-1), .int .i64 65536] 3) = wx6 at *
              try simp only [Act.put, List.setIfInBounds_toArray, List.set_cons_zero, List.set_cons_succ]
              refine wpAnyG_ready (rs := [10]) (by kernel_rfl) (by simp) (AllReadyG.cons rfl (fun K hK => ?_) AllReadyG.nil)
              · go_simp
                refine hK.out _ _ (S3_of (hO6.alloc _) C.out) ?_
                clear hK K
                have hRA7 := RowV.new wx6 3 #[.int .i64 x.a, .int .i64 (-1), .int .i64 99]
                have hFA7 : Off (some ⟨(wx6).heap.size, 0, none⟩) s := Off.new hS6.blk.lt
                have hS7 := hS6.alloc (.cells #[.int .i64 x.a, .int .i64 (-1), .int .i64 99] 3)
                have hO7 := hO6.alloc (.cells #[.int .i64 x.a, .int .i64 (-1), .int .i64 99] 3)
                have hg7 := grown_alloc hg6 (.cells #[.int .i64 x.a, .int .i64 (-1), .int .i64 99] 3)
                have hRB7 := hRB6.alloc (.cells #[.int .i64 x.a, .int .i64 (-1), .int .i64 99] 3)
                have hFB7 := hFB6
                generalize (wx6).alloc (.cells #[.int .i64 x.a, .int .i64 (-1), .int .i64 99] 3) = wx7 at *
                try simp only [Act.put, List.setIfInBounds_toArray, List.set_cons_zero, List.set_cons_succ]
                refine wpAnyG_ready (rs := [11]) (by kernel_rfl) (by simp) (AllReadyG.cons rfl (fun K hK => ?_) AllReadyG.nil)
                · go_simp
                  refine (pick_any s A cap L (q + 1 + 1 + 2) [x.a, -1, 99] _ _ _ hS7 (by omega) hRA7 hFA7 (by simp) (by simp)).mono ?_
                  rintro e wx8 ⟨rfl, hS8, hgn8⟩
                  have hO8 := hO7.keptLow hgn8 hsl
                  refine hK.out _ _ (S3_of hO8 C.out) ?_
                  clear hK K
                  have hg8 := grown_trans hg7 hgn8
                  have hRB8 := hRB7.grown hgn8 (fun r e => by injection e with e; subst e; exact hFB7)
                  have hFB8 := hFB7
                  have hRA8 := hRA7.grown hgn8 (fun r e => by injection e with e; subst e; exact hFA7)
                  have hFA8 := hFA7
                  try simp only [Act.put, List.setIfInBounds_toArray, List.set_cons_zero, List.set_cons_succ]
                  refine wpAnyG_ready (rs := [18]) (by kernel_rfl) (by simp) (AllReadyG.cons rfl (fun K hK => ?_) AllReadyG.nil)
                  · go_simp
                    refine (pick_any s A cap L (q + 1 + 1 + 2 + 1) [x.v, -1, 65536] _ _ _ hS8 (by omega) hRB8 hFB8 (by simp) (by simp)).mono ?_
                    rintro e wx9 ⟨rfl, hS9, hgn9⟩
                    have hO9 := hO8.keptLow hgn9 hsl
                    refine hK.out _ _ (S3_of hO9 C.out) ?_
                    clear hK K
                    have hg9 := grown_trans hg8 hgn9
                    have hRB9 := hRB8.grown hgn9 (fun r e => by injection e with e; subst e; exact hFB8)
                    have hFB9 := hFB8
                    have hRA9 := hRA8.grown hgn9 (fun r e => by injection e with e; subst e; exact hFA8)
                    have hFA9 := hFA8
                    try simp only [Act.put, List.setIfInBounds_toArray, List.set_cons_zero, List.set_cons_succ]
                    refine wpAnyG_tail 19 (by decide) (by rfl) (by kernel_rfl) ?_
                    simp only [List.drop_succ_cons, List.drop_zero]
                    obtain ⟨c0, c1, c2, f0, f1, f2⟩ := S3_of hO9 C.out
                    have hOt := ((hO9.set0 (i * 3) (.int .i64 (oddV L (q + 1 + 1) 1 2).1)).set0 (i * 3 + 1) (.int .i64 (pickV L (q + 1 + 1 + 2) [x.a, -1, 99]))).set0 (i * 3 + 2) (.int .i64 (pickV L (q + 1 + 1 + 2 + 1) [x.v, -1, 65536]))
                    have hgt := grown_setNew (p := ⟨g, i * 3 + 2, none⟩) (grown_setNew (p := ⟨g, i * 3 + 1, none⟩) (grown_setNew (p := ⟨g, i * 3, none⟩) (grown_trans hT3 hg9) (by simp; omega) (.int .i64 (oddV L (q + 1 + 1) 1 2).1)) (by simp; omega) (.int .i64 (pickV L (q + 1 + 1 + 2) [x.a, -1, 99]))) (by simp; omega) (.int .i64 (pickV L (q + 1 + 1 + 2 + 1) [x.v, -1, 65536]))
                    have hSb := ((hS9.blk.far (p := ⟨g, i * 3, none⟩) (by simp; omega) (.int .i64 (oddV L (q + 1 + 1) 1 2).1)).far (p := ⟨g, i * 3 + 1, none⟩) (by simp; omega) (.int .i64 (pickV L (q + 1 + 1 + 2) [x.a, -1, 99]))).far (p := ⟨g, i * 3 + 2, none⟩) (by simp; omega) (.int .i64 (pickV L (q + 1 + 1 + 2 + 1) [x.v, -1, 65536]))
                    go_wp2
                    go_ret
                    rw [E1.out]
                    simp only [List.length_set, hl]
                    refine ⟨some ⟨g, 0, none⟩, d, rfl, ?_, Strm.re hS0 hSb hgt, hgt⟩
                    rw [← ops_set]
                    exact hOt
          · go_simp
            refine hK.out _ _ (S3_of (hO4.alloc _) C.out) ?_
            clear hK K
            have hRA5 := RowV.new wx4 3 #[.int .i64 x.a, .int .i64 (-1), .int .i64 99]
            have hFA5 : Off (some ⟨(wx4).heap.size, 0, none⟩) s := Off.new hS4.blk.lt
            have hS5 := hS4.alloc (.cells #[.int .i64 x.a, .int .i64 (-1), .int .i64 99] 3)
            have hO5 := hO4.alloc (.cells #[.int .i64 x.a, .int .i64 (-1), .int .i64 99] 3)
            have hg5 := grown_alloc hg4 (.cells #[.int .i64 x.a, .int .i64 (-1), .int .i64 99] 3)
            generalize (wx4).alloc (.cells #[.int .i64 x.a, .int .i64 (-1), .int .i64 99] 3) = wx5 at *
            try simp only [Act.put, List.setIfInBounds_toArray, List.set_cons_zero, List.set_cons_succ]
            refine wpAnyG_ready (rs := [4, 17]) (by kernel_rfl) (by simp) (AllReadyG.cons rfl (fun K hK => ?_) (AllReadyG.cons rfl (fun K hK => ?_) AllReadyG.nil))
            · go_simp
              refine (odd_any s A cap L (q + 1 + 1) 1 2 _ hS5 (by omega) (by omega) (by omega) (by omega)).mono ?_
              rintro e wx6 ⟨rfl, hS6, hgn6⟩
              have hO6 := hO5.keptLow hgn6 hsl
              refine hK.out _ _ (S3_of hO6 C.out) ?_
              clear hK K
              have hg6 := grown_trans hg5 hgn6
              have hRA6 := hRA5.grown hgn6 (fun r e => by injection e with e; subst e; exact hFA5)
              have hFA6 := hFA5
              try simp only [Act.put, List.setIfInBounds_toArray, List.set_cons_zero, List.set_cons_succ]
              refine wpAnyG_ready (rs := [11, 17]) (by kernel_rfl) (by simp) (AllReadyG.cons rfl (fun K hK => ?_) (AllReadyG.cons rfl (fun K hK => ?_) AllReadyG.nil))
              · go_simp
                refine (pick_any s A cap L (q + 1 + 1 + 2) [x.a, -1, 99] _ _ _ hS6 (by omega) hRA6 hFA6 (by simp) (by simp)).mono ?_
                rintro e wx7 ⟨rfl, hS7, hgn7⟩
                have hO7 := hO6.keptLow hgn7 hsl
                refine hK.out _ _ (S3_of hO7 C.out) ?_
                clear hK K
                have hg7 := grown_trans hg6 hgn7
                have hRA7 := hRA6.grown hgn7 (fun r e => by injection e with e; subst e; exact hFA6)
                have hFA7 := hFA6
                try simp only [Act.put, List.setIfInBounds_toArray, List.set_cons_zero, List.set_cons_succ]
                refine wpAnyG_ready (rs := [17]) (by kernel_rfl) (by simp) (AllReadyG.cons rfl (fun K hK => ?_) AllReadyG.nil)
                · go_simp
                  refine hK.out _ _ (S3_of (hO7.alloc _) C.out) ?_
                  clear hK K
                  have hRB8 := RowV.new wx7 3 #[.int .i64 x.v, .int .i64 (-1), .int .i64 65536]
                  have hFB8 : Off (some ⟨(wx7).heap.size, 0, none⟩) s := Off.new hS7.blk.lt
                  have hS8 := hS7.alloc (.cells #[.int .i64 x.v, .int .i64 (-1), .int .i64 65536] 3)
                  have hO8 := hO7.alloc (.cells #[.int .i64 x.v, .int .i64 (-1), .int .i64 65536] 3)
                  have hg8 := grown_alloc hg7 (.cells #[.int .i64 x.v, .int .i64 (-1), .int .i64 65536] 3)
                  have hRA8 := hRA7.alloc (.cells #[.int .i64 x.v, .int .i64 (-1), .int .i64 65536] 3)
                  have hFA8 := hFA7
                  generalize (wx7).alloc (.cells #[.int .i64 x.v, .int .i64 (-1), .int .i64 65536] 3) = wx8 at *
                  try simp only [Act.put, List.setIfInBounds_toArray, List.set_cons_zero, List.set_cons_succ]
                  refine wpAnyG_ready (rs := [18]) (by kernel_rfl) (by simp) (AllReadyG.cons rfl (fun K hK => ?_) AllReadyG.nil)
                  · go_simp
                    refine (pick_any s A cap L (q + 1 + 1 + 2 + 1) [x.v, -1, 65536] _ _ _ hS8 (by omega) hRB8 hFB8 (by simp) (by simp)).mono ?_
                    rintro e wx9 ⟨rfl, hS9, hgn9⟩
                    have hO9 := hO8.keptLow hgn9 hsl
                    refine hK.out _ _ (S3_of hO9 C.out) ?_
                    clear hK K
                    have hg9 := grown_trans hg8 hgn9
                    have hRA9 := hRA8.grown hgn9 (fun r e => by injection e with e; subst e; exact hFA8)
                    have hFA9 := hFA8
                    have hRB9 := hRB8.grown hgn9 (fun r e => by injection e with e; subst e; exact hFB8)
                    have hFB9 := hFB8
                    try simp only [Act.put, List.setIfInBounds_toArray, List.set_cons_zero, List.set_cons_succ]
                    refine wpAnyG_tail 19 (by decide) (by rfl) (by kernel_rfl) ?_
                    simp only [List.drop_succ_cons, List.drop_zero]
                    obtain ⟨c0, c1, c2, f0, f1, f2⟩ := S3_of hO9 C.out
                    have hOt := ((hO9.set0 (i * 3) (.int .i64 (oddV L (q + 1 + 1) 1 2).1)).set0 (i * 3 + 1) (.int .i64 (pickV L (q + 1 + 1 + 2) [x.a, -1, 99]))).set0 (i * 3 + 2) (.int .i64 (pickV L (q + 1 + 1 + 2 + 1) [x.v, -1, 65536]))
                    have hgt := grown_setNew (p := ⟨g, i * 3 + 2, none⟩) (grown_setNew (p := ⟨g, i * 3 + 1, none⟩) (grown_setNew (p := ⟨g, i * 3, none⟩) (grown_trans hT3 hg9) (by simp; omega) (.int .i64 (oddV L (q + 1 + 1) 1 2).1)) (by simp; omega) (.int .i64 (pickV L (q + 1 + 1 + 2) [x.a, -1, 99]))) (by simp; omega) (.int .i64 (pickV L (q + 1 + 1 + 2 + 1) [x.v, -1, 65536]))
                    have hSb := ((hS9.blk.far (p := ⟨g, i * 3, none⟩) (by simp; omega) (.int .i64 (oddV L (q + 1 + 1) 1 2).1)).far (p := ⟨g, i * 3 + 1, none⟩) (by simp; omega) (.int .i64 (pickV L (q + 1 + 1 + 2) [x.a, -1, 99]))).far (p := ⟨g, i * 3 + 2, none⟩) (by simp; omega) (.int .i64 (pickV L (q + 1 + 1 + 2 + 1) [x.v, -1, 65536]))
                    go_wp2
                    go_ret
                    rw [E1.out]
                    simp only [List.length_set, hl]
                    refine ⟨some ⟨g, 0, none⟩, d, rfl, ?_, Strm.re hS0 hSb hgt, hgt⟩
                    rw [← ops_set]
                    exact hOt
              · go_simp
                refine hK.out _ _ (S3_of (hO6.alloc _) C.out) ?_
                clear hK K
                have hRB7 := RowV.new wx6 3 #[.int .i64 x.v, .int .i64 (-1), .int .i64 65536]
                have hFB7 : Off (some ⟨(wx6).heap.size, 0, none⟩) s := Off.new hS6.blk.lt
                have hS7 := hS6.alloc (.cells #[.int .i64 x.v, .int .i64 (-1), .int .i64 65536] 3)
                have hO7 := hO6.alloc (.cells #[.int .i64 x.v, .int .i64 (-1), .int .i64 65536] 3)
                have hg7 := grown_alloc hg6 (.cells #[.int .i64 x.v, .int .i64 (-1), .int .i64 65536] 3)
                have hRA7 := hRA6.alloc (.cells #[.int .i64 x.v, .int .i64 (-1), .int .i64 65536] 3)
                have hFA7 := hFA6
                generalize (wx6).alloc (.cells #[.int .i64 x.v, .int .i64 (-1), .int .i64 65536] 3) = wx7 at *
                try simp only [Act.put, List.setIfInBounds_toArray, List.set_cons_zero, List.set_cons_succ]
                refine wpAnyG_ready (rs := [11]) (by kernel_rfl) (by simp) (AllReadyG.cons rfl (fun K hK => ?_) AllReadyG.nil)
                · go_simp
                  refine (pick_any s A cap L (q + 1 + 1 + 2) [x.a, -1, 99] _ _ _ hS7 (by omega) hRA7 hFA7 (by simp) (by simp)).mono ?_
                  rintro e wx8 ⟨rfl, hS8, hgn8⟩
                  have hO8 := hO7.keptLow hgn8 hsl
                  refine hK.out _ _ (S3_of hO8 C.out) ?_
                  clear hK K
                  have hg8 := grown_trans hg7 hgn8
                  have hRA8 := hRA7.grown hgn8 (fun r e => by injection e with e; subst e; exact hFA7)
                  have hFA8 := hFA7
                  have hRB8 := hRB7.grown hgn8 (fun r e => by injection e with e; subst e; exact hFB7)
                  have hFB8 := hFB7
                  try simp only [Act.put, List.setIfInBounds_toArray, List.set_cons_zero, List.set_cons_succ]
                  refine wpAnyG_ready (rs := [18]) (by kernel_rfl) (by simp) (AllReadyG.cons rfl (fun K hK => ?_) AllReadyG.nil)
                  · go_simp
                    refine (pick_any s A cap L (q + 1 + 1 + 2 + 1) [x.v, -1, 65536] _ _ _ hS8 (by omega) hRB8 hFB8 (by simp) (by simp)).mono ?_
                    rintro e wx9 ⟨rfl, hS9, hgn9⟩
                    have hO9 := hO8.keptLow hgn9 hsl
                    refine hK.out _ _ (S3_of hO9 C.out) ?_
                    clear hK K
                    have hg9 := grown_trans hg8 hgn9
                    have hRA9 := hRA8.grown hgn9 (fun r e => by injection e with e; subst e; exact hFA8)
                    have hFA9 := hFA8
                    have hRB9 := hRB8.grown hgn9 (fun r e => by injection e with e; subst e; exact hFB8)
                    have hFB9 := hFB8
                    try simp only [Act.put, List.setIfInBounds_toArray, List.set_cons_zero, List.set_cons_succ]
                    refine wpAnyG_tail 19 (by decide) (by rfl) (by kernel_rfl) ?_
                    simp only [List.drop_succ_cons, List.drop_zero]
                    obtain ⟨c0, c1, c2, f0, f1, f2⟩ := S3_of hO9 C.out
                    have hOt := ((hO9.set0 (i * 3) (.int .i64 (oddV L (q + 1 + 1) 1 2).1)).set0 (i * 3 + 1) (.int .i64 (pickV L (q + 1 + 1 + 2) [x.a, -1, 99]))).set0 (i * 3 + 2) (.int .i64 (pickV L (q + 1 + 1 + 2 + 1) [x.v, -1, 65536]))
                    have hgt := grown_setNew (p := ⟨g, i * 3 + 2, none⟩) (grown_setNew (p := ⟨g, i * 3 + 1, none⟩) (grown_setNew (p := ⟨g, i * 3, none⟩) (grown_trans hT3 hg9) (by simp; omega) (.int .i64 (oddV L (q + 1 + 1) 1 2).1)) (by simp; omega) (.int .i64 (pickV L (q + 1 + 1 + 2) [x.a, -1, 99]))) (by simp; omega) (.int .i64 (pickV L (q + 1 + 1 + 2 + 1) [x.v, -1, 65536]))
                    have hSb := ((hS9.blk.far (p := ⟨g, i * 3, none⟩) (by simp; omega) (.int .i64 (oddV L (q + 1 + 1) 1 2).1)).far (p := ⟨g, i * 3 + 1, none⟩) (by simp; omega) (.int .i64 (pickV L (q + 1 + 1 + 2) [x.a, -1, 99]))).far (p := ⟨g, i * 3 + 2, none⟩) (by simp; omega) (.int .i64 (pickV L (q + 1 + 1 + 2 + 1) [x.v, -1, 65536]))
                    go_wp2
                    go_ret
                    rw [E1.out]
                    simp only [List.length_set, hl]
                    refine ⟨some ⟨g, 0, none⟩, d, rfl, ?_, Strm.re hS0 hSb hgt, hgt⟩
                    rw [← ops_set]
                    exact hOt
            · go_simp
              refine hK.out _ _ (S3_of (hO5.alloc _) C.out) ?_
              clear hK K
              have hRB6 := RowV.new wx5 3 #[.int .i64 x.v, .int .i64 (-1), .int .i64 65536]
              have hFB6 : Off (some ⟨(wx5).heap.size, 0, none⟩) s := Off.new hS5.blk.lt
              have hS6 := hS5.alloc (.cells #[.int .i64 x.v, .int .i64 (-1), .int .i64 65536] 3)
              have hO6 := hO5.alloc (.cells #[.int .i64 x.v, .int .i64 (-1), .int .i64 65536] 3)
              have hg6 := grown_alloc hg5 (.cells #[.int .i64 x.v, .int .i64 (-1), .int .i64 65536] 3)
              have hRA6 := hRA5.alloc (.cells #[.int .i64 x.v, .int .i64 (-1), .int .i64 65536] 3)
              have hFA6 := hFA5
              generalize (wx5).alloc (.cells #[.int .i64 x.v, .int .i64 (-1), .int .i64 65536] 3) = wx6 at *
              try simp only [Act.put, List.setIfInBounds_toArray, List.set_cons_zero, List.set_cons_succ]
              refine wpAnyG_ready (rs := [4]) (by kernel_rfl) (by simp) (AllReadyG.cons rfl (fun K hK => ?_) AllReadyG.nil)
              · go_simp
                refine (odd_any s A cap L (q + 1 + 1) 1 2 _ hS6 (by omega) (by omega) (by omega) (by omega)).mono ?_
                rintro e wx7 ⟨rfl, hS7, hgn7⟩
                have hO7 := hO6.keptLow hgn7 hsl
                refine hK.out _ _ (S3_of hO7 C.out) ?_
                clear hK K
                have hg7 := grown_trans hg6 hgn7
                have hRA7 := hRA6.grown hgn7 (fun r e => by injection e with e; subst e; exact hFA6)
                have hFA7 := hFA6
                have hRB7 := hRB6.grown hgn7 (fun r e => by injection e with e; subst e; exact hFB6)
                have hFB7 := hFB6
                try simp only [Act.put, List.setIfInBounds_toArray, List.set_cons_zero, List.set_cons_succ]
                refine wpAnyG_ready (rs := [11]) (by kernel_rfl) (by simp) (AllReadyG.cons rfl (fun K hK => ?_) AllReadyG.nil)
                · go_simp
                  refine (pick_any s A cap L (q + 1 + 1 + 2) [x.a, -1, 99] _ _ _ hS7 (by omega) hRA7 hFA7 (by simp) (by simp)).mono ?_
                  rintro e wx8 ⟨rfl, hS8, hgn8⟩
                  have hO8 := hO7.keptLow hgn8 hsl
                  refine hK.out _ _ (S3_of hO8 C.out) ?_
                  clear hK K
                  have hg8 := grown_trans hg7 hgn8
                  have hRA8 := hRA7.grown hgn8 (fun r e => by injection e with e; subst e; exact hFA7)
                  have hFA8 := hFA7
                  have hRB8 := hRB7.grown hgn8 (fun r e => by injection e with e; subst e; exact hFB7)
                  have hFB8 := hFB7
                  try simp only [Act.put, List.setIfInBounds_toArray, List.set_cons_zero, List.set_cons_succ]
                  refine wpAnyG_ready (rs := [18]) (by kernel_rfl) (by simp) (AllReadyG.cons rfl (fun K hK => ?_) AllReadyG.nil)
                  · go_simp
                    refine (pick_any s A cap L (q + 1 + 1 + 2 + 1) [x.v, -1, 65536] _ _ _ hS8 (by omega) hRB8 hFB8 (by simp) (by simp)).mono ?_
                    rintro e wx9 ⟨rfl, hS9, hgn9⟩
                    have hO9 := hO8.keptLow hgn9 hsl
                    refine hK.out _ _ (S3_of hO9 C.out) ?_
                    clear hK K
                    have hg9 := grown_trans hg8 hgn9
                    have hRA9 := hRA8.grown hgn9 (fun r e => by injection e with e; subst e; exact hFA8)
                    have hFA9 := hFA8
                    have hRB9 := hRB8.grown hgn9 (fun r e => by injection e with e; subst e; exact hFB8)
                    have hFB9 := hFB8
                    try simp only [Act.put, List.setIfInBounds_toArray, List.set_cons_zero, List.set_cons_succ]
                    refine wpAnyG_tail 19 (by decide) (by rfl) (by kernel_rfl) ?_
                    simp only [List.drop_succ_cons, List.drop_zero]
                    obtain ⟨c0, c1, c2, f0, f1, f2⟩ := S3_of hO9 C.out
                    have hOt := ((hO9.set0 (i * 3) (.int .i64 (oddV L (q + 1 + 1) 1 2).1)).set0 (i * 3 + 1) (.int .i64 (pickV L (q + 1 + 1 + 2) [x.a, -1, 99]))).set0 (i * 3 + 2) (.int .i64 (pickV L (q + 1 + 1 + 2 + 1) [x.v, -1, 65536]))
                    have hgt := grown_setNew (p := ⟨g, i * 3 + 2, none⟩) (grown_setNew (p := ⟨g, i * 3 + 1, none⟩) (grown_setNew (p := ⟨g, i * 3, none⟩) (grown_trans hT3 hg9) (by simp; omega) (.int .i64 (oddV L (q + 1 + 1) 1 2).1)) (by simp; omega) (.int .i64 (pickV L (q + 1 + 1 + 2) [x.a, -1, 99]))) (by simp; omega) (.int .i64 (pickV L (q + 1 + 1 + 2 + 1) [x.v, -1, 65536]))
                    have hSb := ((hS9.blk.far (p := ⟨g, i * 3, none⟩) (by simp; omega) (.int .i64 (oddV L (q + 1 + 1) 1 2).1)).far (p := ⟨g, i * 3 + 1, none⟩) (by simp; omega) (.int .i64 (pickV L (q + 1 + 1 + 2) [x.a, -1, 99]))).far (p := ⟨g, i * 3 + 2, none⟩) (by simp; omega) (.int .i64 (pickV L (q + 1 + 1 + 2 + 1) [x.v, -1, 65536]))
                    go_wp2
                    go_ret
                    rw [E1.out]
                    simp only [List.length_set, hl]
                    refine ⟨some ⟨g, 0, none⟩, d, rfl, ?_, Strm.re hS0 hSb hgt, hgt⟩
                    rw [← ops_set]
                    exact hOt
          · go_simp
            refine hK.out _ _ (S3_of (hO4.alloc _) C.out) ?_
            clear hK K
            have hRB5 := RowV.new wx4 3 #[.int .i64 x.v, .int .i64 (-1), .int .i64 65536]
            have hFB5 : Off (some ⟨(wx4).heap.size, 0, none⟩) s := Off.new hS4.blk.lt
            have hS5 := hS4.alloc (.cells #[.int .i64 x.v, .int .i64 (-1), .int .i64 65536] 3)
            have hO5 := hO4.alloc (.cells #[.int .i64 x.v, .int .i64 (-1), .int .i64 65536] 3)
            have hg5 := grown_alloc hg4 (.cells #[.int .i64 x.v, .int .i64 (-1), .int .i64 65536] 3)
            generalize (wx4).alloc (.cells #[.int .i64 x.v, .int .i64 (-1), .int .i64 65536] 3) = wx5 at *
            try simp only [Act.put, List.setIfInBounds_toArray, List.set_cons_zero, List.set_cons_succ]
            refine wpAnyG_ready (rs := [4, 10]) (by kernel_rfl) (by simp) (AllReadyG.cons rfl (fun K hK => ?_) (AllReadyG.cons rfl (fun K hK => ?_) AllReadyG.nil))
            · go_simp
              refine (odd_any s A cap L (q + 1 + 1) 1 2 _ hS5 (by omega) (by omega) (by omega) (by omega)).mono ?_
              rintro e wx6 ⟨rfl, hS6, hgn6⟩
              have hO6 := hO5.keptLow hgn6 hsl
              refine hK.out _ _ (S3_of hO6 C.out) ?_
              clear hK K
              have hg6 := grown_trans hg5 hgn6
              have hRB6 := hRB5.grown hgn6 (fun r e => by injection e with e; subst e; exact hFB5)
              have hFB6 := hFB5
              try simp only [Act.put, List.setIfInBounds_toArray, List.set_cons_zero, List.set_cons_succ]
              refine wpAnyG_ready (rs := [10]) (by kernel_rfl) (by simp) (AllReadyG.cons rfl (fun K hK => ?_) AllReadyG.nil)
              · go_simp
                refine hK.out _ _ (S3_of (hO6.alloc _) C.out) ?_
                clear hK K
                have hRA7 := RowV.new wx6 3 #[.int .i64 x.a, .int .i64 (-1), .int .i64 99]
                have hFA7 : Off (some ⟨(wx6).heap.size, 0, none⟩) s := Off.new hS6.blk.lt
                have hS7 := hS6.alloc (.cells #[.int .i64 x.a, .int .i64 (-1), .int .i64 99] 3)
                have hO7 := hO6.alloc (.cells #[.int .i64 x.a, .int .i64 (-1), .int .i64 99] 3)
                have hg7 := grown_alloc hg6 (.cells #[.int .i64 x.a, .int .i64 (-1), .int .i64 99] 3)
                have hRB7 := hRB6.alloc (.cells #[.int .i64 x.a, .int .i64 (-1), .int .i64 99] 3)
                have hFB7 := hFB6
                generalize (wx6).alloc (.cells #[.int .i64 x.a, .int .i64 (-1), .int .i64 99] 3) = wx7 at *
                try simp only [Act.put, List.setIfInBounds_toArray, List.set_cons_zero, List.set_cons_succ]
                refine wpAnyG_ready (rs := [11]) (by kernel_rfl) (by simp) (AllReadyG.cons rfl (fun K hK => ?_) AllReadyG.nil)
                · go_simp
                  refine (pick_any s A cap L (q + 1 + 1 + 2) [x.a, -1, 99] _ _ _ hS7 (by omega) hRA7 hFA7 (by simp) (by simp)).mono ?_
                  rintro e wx8 ⟨rfl, hS8, hgn8⟩
                  have hO8 := hO7.keptLow hgn8 hsl
                  refine hK.out _ _ (S3_of hO8 C.out) ?_
                  clear hK K
                  have hg8 := grown_trans hg7 hgn8
                  have hRB8 := hRB7.grown hgn8 (fun r e => by injection e with e; subst e; exact hFB7)
                  have hFB8 := hFB7
                  have hRA8 := hRA7.grown hgn8 (fun r e => by injection e with e; subst e; exact hFA7)
                  have hFA8 := hFA7
                  try simp only [Act.put, List.setIfInBounds_toArray, List.set_cons_zero, List.set_cons_succ]
                  refine wpAnyG_ready (rs := [18]) (by kernel_rfl) (by simp) (AllReadyG.cons rfl (fun K hK => ?_) AllReadyG.nil)
                  · go_simp
                    refine (pick_any s A cap L (q + 1 + 1 + 2 + 1) [x.v, -1, 65536] _ _ _ hS8 (by omega) hRB8 hFB8 (by simp) (by simp)).mono ?_
                    rintro e wx9 ⟨rfl, hS9, hgn9⟩
                    have hO9 := hO8.keptLow hgn9 hsl
                    refine hK.out _ _ (S3_of hO9 C.out) ?_
                    clear hK K
                    have hg9 := grown_trans hg8 hgn9
                    have hRB9 := hRB8.grown hgn9 (fun r e => by injection e with e; subst e; exact hFB8)
                    have hFB9 := hFB8
                    have hRA9 := hRA8.grown hgn9 (fun r e => by injection e with e; subst e; exact hFA8)
                    have hFA9 := hFA8
                    try simp only [Act.put, List.setIfInBounds_toArray, List.set_cons_zero, List.set_cons_succ]
                    refine wpAnyG_tail 19 (by decide) (by rfl) (by kernel_rfl) ?_
                    simp only [List.drop_succ_cons, List.drop_zero]
                    obtain ⟨c0, c1, c2, f0, f1, f2⟩ := S3_of hO9 C.out
                    have hOt := ((hO9.set0 (i * 3) (.int .i64 (oddV L (q + 1 + 1) 1 2).1)).set0 (i * 3 + 1) (.int .i64 (pickV L (q + 1 + 1 + 2) [x.a, -1, 99]))).set0 (i * 3 + 2) (.int .i64 (pickV L (q + 1 + 1 + 2 + 1) [x.v, -1, 65536]))
                    have hgt := grown_setNew (p := ⟨g, i * 3 + 2, none⟩) (grown_setNew (p := ⟨g, i * 3 + 1, none⟩) (grown_setNew (p := ⟨g, i * 3, none⟩) (grown_trans hT3 hg9) (by simp; omega) (.int .i64 (oddV L (q + 1 + 1) 1 2).1)) (by simp; omega) (.int .i64 (pickV L (q + 1 + 1 + 2) [x.a, -1, 99]))) (by simp; omega) (.int .i64 (pickV L (q + 1 + 1 + 2 + 1) [x.v, -1, 65536]))
                    have hSb := ((hS9.blk.far (p := ⟨g, i * 3, none⟩) (by simp; omega) (.int .i64 (oddV L (q + 1 + 1) 1 2).1)).far (p := ⟨g, i * 3 + 1, none⟩) (by simp; omega) (.int .i64 (pickV L (q + 1 + 1 + 2) [x.a, -1, 99]))).far (p := ⟨g, i * 3 + 2, none⟩) (by simp; omega) (.int .i64 (pickV L (q + 1 + 1 + 2 + 1) [x.v, -1, 65536]))
                    go_wp2
                    go_ret
                    rw [E1.out]
                    simp only [List.length_set, hl]
                    refine ⟨some ⟨g, 0, none⟩, d, rfl, ?_, Strm.re hS0 hSb hgt, hgt⟩
                    rw [← ops_set]
                    exact hOt
            · go_simp
              refine hK.out _ _ (S3_of (hO5.alloc _) C.out) ?_
              clear hK K
              have hRA6 := RowV.new wx5 3 #[.int .i64 x.a, .int .i64 (-1), .int .i64 99]
              have hFA6 : Off (some ⟨(wx5).heap.size, 0, none⟩) s := Off.new hS5.blk.lt
              have hS6 := hS5.alloc (.cells #[.int .i64 x.a, .int .i64 (-1), .int .i64 99] 3)
              have hO6 := hO5.alloc (.cells #[.int .i64 x.a, .int .i64 (-1), .int .i64 99] 3)
              have hg6 := grown_alloc hg5 (.cells #[.int .i64 x.a, .int .i64 (-1), .int .i64 99] 3)
              have hRB6 := hRB5.alloc (.cells #[.int .i64 x.a, .int .i64 (-1), .int .i64 99] 3)
              have hFB6 := hFB5
              generalize (wx5).alloc (.cells #[.int .i64 x.a, .int .i64 (-1), .int .i64 99] 3) = wx6 at *
              try simp only [Act.put, List.setIfInBounds_toArray, List.set_cons_zero, List.set_cons_succ]
              refine wpAnyG_ready (rs := [4]) (by kernel_rfl) (by simp) (AllReadyG.cons rfl (fun K hK => ?_) AllReadyG.nil)
              · go_simp
                refine (odd_any s A cap L (q + 1 + 1) 1 2 _ hS6 (by omega) (by omega) (by omega) (by omega)).mono ?_
                rintro e wx7 ⟨rfl, hS7, hgn7⟩
                have hO7 := hO6.keptLow hgn7 hsl
                refine hK.out _ _ (S3_of hO7 C.out) ?_
                clear hK K
                have hg7 := grown_trans hg6 hgn7
                have hRB7 := hRB6.grown hgn7 (fun r e => by injection e with e; subst e; exact hFB6)
                have hFB7 := hFB6
                have hRA7 := hRA6.grown hgn7 (fun r e => by injection e with e; subst e; exact hFA6)
                have hFA7 := hFA6
                try simp only [Act.put, List.setIfInBounds_toArray, List.set_cons_zero, List.set_cons_succ]
                refine wpAnyG_ready (rs := [11]) (by kernel_rfl) (by simp) (AllReadyG.cons rfl (fun K hK => ?_) AllReadyG.nil)
                · go_simp
                  refine (pick_any s A cap L (q + 1 + 1 + 2) [x.a, -1, 99] _ _ _ hS7 (by omega) hRA7 hFA7 (by simp) (by simp)).mono ?_
                  rintro e wx8 ⟨rfl, hS8, hgn8⟩
                  have hO8 := hO7.keptLow hgn8 hsl
                  refine hK.out _ _ (S3_of hO8 C.out) ?_
                  clear hK K
                  have hg8 := grown_trans hg7 hgn8
                  have hRB8 := hRB7.grown hgn8 (fun r e => by injection e with e; subst e; exact hFB7)
                  have hFB8 := hFB7
                  have hRA8 := hRA7.grown hgn8 (fun r e => by injection e with e; subst e; exact hFA7)
                  have hFA8 := hFA7
                  try simp only [Act.put, List.setIfInBounds_toArray, List.set_cons_zero, List.set_cons_succ]
                  refine wpAnyG_ready (rs := [18]) (by kernel_rfl) (by simp) (AllReadyG.cons rfl (fun K hK => ?_) AllReadyG.nil)
                  · go_simp
                    refine (pick_any s A cap L (q + 1 + 1 + 2 + 1) [x.v, -1, 65536] _ _ _ hS8 (by omega) hRB8 hFB8 (by simp) (by simp)).mono ?_
                    rintro e wx9 ⟨rfl, hS9, hgn9⟩
                    have hO9 := hO8.keptLow hgn9 hsl
                    refine hK.out _ _ (S3_of hO9 C.out) ?_
                    clear hK K
                    have hg9 := grown_trans hg8 hgn9
                    have hRB9 := hRB8.grown hgn9 (fun r e => by injection e with e; subst e; exact hFB8)
                    have hFB9 := hFB8
                    have hRA9 := hRA8.grown hgn9 (fun r e => by injection e with e; subst e; exact hFA8)
                    have hFA9 := hFA8
                    try simp only [Act.put, List.setIfInBounds_toArray, List.set_cons_zero, List.set_cons_succ]
                    refine wpAnyG_tail 19 (by decide) (by rfl) (by kernel_rfl) ?_
                    simp only [List.drop_succ_cons, List.drop_zero]
                    obtain ⟨c0, c1, c2, f0, f1, f2⟩ := S3_of hO9 C.out
                    have hOt := ((hO9.set0 (i * 3) (.int .i64 (oddV L (q + 1 + 1) 1 2).1)).set0 (i * 3 + 1) (.int .i64 (pickV L (q + 1 + 1 + 2) [x.a, -1, 99]))).set0 (i * 3 + 2) (.int .i64 (pickV L (q + 1 + 1 + 2 + 1) [x.v, -1, 65536]))
                    have hgt := grown_setNew (p := ⟨g, i * 3 + 2, none⟩) (grown_setNew (p := ⟨g, i * 3 + 1, none⟩) (grown_setNew (p := ⟨g, i * 3, none⟩) (grown_trans hT3 hg9) (by simp; omega) (.int .i64 (oddV L (q + 1 + 1) 1 2).1)) (by simp; omega) (.int .i64 (pickV L (q + 1 + 1 + 2) [x.a, -1, 99]))) (by simp; omega) (.int .i64 (pickV L (q + 1 + 1 + 2 + 1) [x.v, -1, 65536]))
                    have hSb := ((hS9.blk.far (p := ⟨g, i * 3, none⟩) (by simp; omega) (.int .i64 (oddV L (q + 1 + 1) 1 2).1)).far (p := ⟨g, i * 3 + 1, none⟩) (by simp; omega) (.int .i64 (pickV L (q + 1 + 1 + 2) [x.a, -1, 99]))).far (p := ⟨g, i * 3 + 2, none⟩) (by simp; omega) (.int .i64 (pickV L (q + 1 + 1 + 2 + 1) [x.v, -1, 65536]))
                    go_wp2
                    go_ret
                    rw [E1.out]
                    simp only [List.length_set, hl]
                    refine ⟨some ⟨g, 0, none⟩, d, rfl, ?_, Strm.re hS0 hSb hgt, hgt⟩
                    rw [← ops_set]
                    exact hOt
          -- END REGION 10
end Go.Proofs.Ytmnhlfkphibhfaa
