/-
  What the checks of operations and of several lists of words compute, and the first error of a list.
-/
import Derived.Test.YtmnhlfkphibhfaaFlash2
import Derived.Test.YtmnhlfkphibhfaaRegion
namespace Go.Proofs.Ytmnhlfkphibhfaa
open Go.RowKit
set_option linter.unusedVariables false
set_option linter.unusedSimpArgs false
attribute [local go_sem ↓] Go.wp_at_zero Go.wp_at_succ

set_option maxHeartbeats 400000 in
theorem first_any (A : Option Addr) (cap : Nat) (l : List Int) (w : World) (hr : RowV w A (ints l)) (hm : l.length ≤ 9223372036854775807) :
    Calls Try.prog 65 #[.slice A l.length cap] w fun e w' => e = .returned (.int .i64 (firstBad (fun x => x) l)) ∧ w = w' := by
  go_enter Try.func65, Try.ntmps65
  go_wp2_with fail
  go_loop [4, 7] (fun _ i => ∃ k : Nat, k ≤ l.length ∧ i = .int .i64 k ∧ Hid (firstBad (fun x : Int => x) (l.take k) = 0)) (fun _ i => l.length - (intOf i).toNat)
  case atStart => exact ⟨0, Nat.zero_le _, rfl, rfl⟩
  case round =>
    obtain ⟨k, hk, rfl, HB⟩ := hrel
    by_cases hlt : k < l.length
    · obtain ⟨x, hx⟩ := get_some l hlt
      obtain ⟨b, o, rfl, hc⟩ := hr.int hx
      have HX := Lib.hid hx; clear hx
      by_cases h0 : x = 0
      · have h0' : (x != 0) = false := by rw [bne_eq_false_iff_eq]; exact h0
        have H0 := Lib.hid h0; clear h0
        go_wp2_with fail
        go_round
        case rel => exact ⟨k + 1, by omega, by go_num, firstBad_step HX.out HB.out H0.out⟩
        case measure => simp [intOf]; omega
      · have h0' : (x != 0) = true := by rw [bne_iff_ne]; exact h0
        have H0 := Lib.hid h0; clear h0
        go_wp2_with fail
        go_ret
        exact ⟨ret_i64 (firstBad_hit HX.out HB.out H0.out).symm, rfl⟩
    · go_wp2_with fail
      go_ret
      exact ⟨ret_i64 (by have := HB.out; rw [List.take_of_length_le (by omega)] at this; exact this.symm), rfl⟩

/-- a list of words as a value: its address, its numbers, its capacity -/
structure Ws where
  A : Option Addr
  l : List Int
  c : Nat
def Ws.val (x : Ws) : Value := .slice x.A x.l.length x.c
def wordsFaultV (secs : List Int) (wss : List Ws) : Int := if flashFault secs = 0 then firstBad (fun x => imageFault secs x.l) wss else flashFault secs
theorem firstBad_upto {α : Type} {f : α → Int} {l : List α} {k : Nat} {x : α} (hx : l[k]? = some x) (h : firstBad f (l.take k) = 0) : firstBad f (l.take (k + 1)) = f x := by
  rw [take_snoc hx, firstBad_append f _ _ h]
  simp only [firstBad]
  split
  · rename_i h0; exact h0.symm
  · rfl
theorem firstBad_stop {α : Type} {f : α → Int} {l m : List α} (h : firstBad f l ≠ 0) : firstBad f (l ++ m) = firstBad f l := by
  induction l with
  | nil => simp [firstBad] at h
  | cons a l ih =>
    simp only [firstBad, List.cons_append] at h ⊢
    split
    · rename_i h0
      rw [if_pos h0] at h
      exact ih h
    · rfl
theorem firstBad_keep {α : Type} {f : α → Int} {l : List α} {k : Nat} {x : α} (hx : l[k]? = some x) (h : firstBad f (l.take k) ≠ 0) : firstBad f (l.take (k + 1)) = firstBad f (l.take k) := by
  rw [take_snoc hx, firstBad_stop h]

set_option maxHeartbeats 400000 in
theorem wordsFault_any (A : Option Addr) (cap : Nat) (l : List Int) (B : Option Addr) (c : Nat) (wss : List Ws) (w : World) (hr : RowV w A (ints l)) (hm : l.length ≤ 9223372036854775807)
    (hws : RowV w B (wss.map Ws.val)) (hwl : wss.length ≤ 9223372036854775807) (hall : ∀ x ∈ wss, RowV w x.A (ints x.l) ∧ x.l.length ≤ 9223372036854775807) :
    Calls Try.prog 14 #[.agg #[.slice A l.length cap], .slice B wss.length c] w fun e w' => e = .returned (.int .i64 (wordsFaultV l wss)) ∧ Below w.heap.size w w' := by
  by_cases h0 : flashFault l = 0
  · have ok := flashFault_ok h0
    have hv := ok.wit
    have hn := ok.len
    have ec : wordsFaultV l wss = firstBad (fun x => imageFault l x.l) wss := by unfold wordsFaultV; rw [if_pos h0]
    have EC := Lib.hid ec; clear ec
    have H0 := Lib.hid h0; clear h0
    go_enter Try.func14, Try.ntmps14
    go_wp2_with fail
    refine (flashFault_any A cap l _ (hr.alloc _) hm).mono ?_
    rintro e w0 ⟨rfl, hb0⟩
    have hb0' : Below w.heap.size w w0 := ((Below.refl _ _).alloc (Nat.le_refl _) _).trans (hb0.mono (by simp))
    have hF0 : Blk w0 w.heap.size 27 #[.slice A l.length cap] := (Blk.new w _ _).belowS hb0
    clear hb0
    rw [H0.out]
    go_wp2_with fail
    go_loopg [5, 7, 12] wss.length (fun m e _ i wr => ∃ k, k + m = wss.length ∧ i = .int .i64 (k : Nat) ∧ e = .int .i64 (firstBad (fun x : Ws => imageFault l x.l) (wss.take k)) ∧ Below w.heap.size w wr ∧ Blk wr w.heap.size 27 #[.slice A l.length cap])
    case atStart => exact ⟨0, by omega, rfl, rfl, hb0', hF0⟩
    case round =>
      obtain ⟨k, hkm, rfl, rfl, hb, hF⟩ := hrel
      clear hb0' hF0
      by_cases hlt : k < wss.length
      · obtain ⟨x, hx⟩ := get_some wss hlt
        obtain ⟨hxr, hxl⟩ := hall x (mem_of_get hx)
        obtain ⟨b, o, rfl, hc⟩ := (hws.belowS hb) k x.val (by simp [hx])
        have hc' : wr.cell? ⟨b, o + k, none⟩ = some (.slice x.A x.l.length x.c) := hc
        clear hc
        have cF := hF.cell 0 rfl
        have HX := Lib.hid hx; clear hx
        by_cases h1 : firstBad (fun x : Ws => imageFault l x.l) (wss.take k) = 0
        · have h1' : (firstBad (fun x : Ws => imageFault l x.l) (wss.take k) == 0) = true := beq_iff_eq.2 h1
          have H1 := Lib.hid h1; clear h1
          go_wp2_with fail
          refine (imageFault_any A cap l x.A x.c x.l _ (hr.belowS hb) hv hn (hxr.belowS hb) hxl).mono ?_
          rintro e w2 ⟨rfl, hb2⟩
          go_wp2_with fail
          go_roundg (gk - 1)
          case measure => omega
          case rel => exact ⟨k + 1, by omega, by go_num, int_eq (firstBad_upto HX.out H1.out).symm, hb.trans (hb2.mono hb.size), hF.belowS hb2⟩
        · have h1' : (firstBad (fun x : Ws => imageFault l x.l) (wss.take k) == 0) = false := beq_eq_false_iff_ne.2 h1
          have H1 := Lib.hid h1; clear h1
          go_wp2_with fail
          go_roundg (gk - 1)
          case measure => omega
          case rel => exact ⟨k + 1, by omega, by go_num, int_eq (firstBad_keep HX.out H1.out).symm, hb, hF⟩
      · go_wp2_with fail
        go_ret
        exact ⟨ret_i64 (by rw [EC.out, List.take_of_length_le (by omega)]), hb⟩
  · have ec : wordsFaultV l wss = flashFault l := by unfold wordsFaultV; rw [if_neg h0]
    have h0' : (flashFault l == 0) = false := beq_eq_false_iff_ne.2 h0
    have EC := Lib.hid ec; clear ec
    clear h0
    go_enter Try.func14, Try.ntmps14
    go_wp2_with fail
    refine (flashFault_any A cap l _ (hr.alloc _) hm).mono ?_
    rintro e w0 ⟨rfl, hb0⟩
    have hb0' : Below w.heap.size w w0 := ((Below.refl _ _).alloc (Nat.le_refl _) _).trans (hb0.mono (by simp))
    clear hb0
    obtain ⟨ff, hff⟩ : ∃ ff, flashFault l = ff := ⟨_, rfl⟩
    rw [hff] at h0' EC
    rw [hff]
    clear hff
    go_wp2_with fail
    go_loop [5, 7, 12] (fun e _ i => ∃ k, k ≤ wss.length ∧ i = .int .i64 (k : Nat) ∧ e = .int .i64 ff) (fun _ _ i => wss.length - (intOf i).toNat)
    case atStart => exact ⟨0, by omega, rfl, rfl⟩
    case round =>
      obtain ⟨k, hkm, rfl, rfl⟩ := hrel
      by_cases hlt : k < wss.length
      · obtain ⟨x, hx⟩ := get_some wss hlt
        obtain ⟨b, o, rfl, hc⟩ := (hws.belowS hb0') k x.val (by simp [hx])
        have hc' : w0.cell? ⟨b, o + k, none⟩ = some (.slice x.A x.l.length x.c) := hc
        clear hc hx
        go_wp2_with fail
        go_round
        case rel => exact ⟨k + 1, by omega, by go_num, rfl⟩
        case measure => simp [intOf]; omega
      · go_wp2_with fail
        go_ret
        exact ⟨ret_i64 EC.out.symm, hb0'⟩

theorem S4_of {w : World} {X F : Nat} {t t' : TypeId} {v u0 u1 u2 : Value} (hX : Blk w X t #[u0, u1, u2]) (hF : Blk w F t' #[v]) :
    w.cell? ⟨X, 0, none⟩ = some u0 ∧ w.cell? ⟨X, 1, none⟩ = some u1 ∧ w.cell? ⟨X, 2, none⟩ = some u2 ∧ w.cell? ⟨F, 0, none⟩ = some v := ⟨hX.cell 0 rfl, hX.cell 1 rfl, hX.cell 2 rfl, hF.cell 0 rfl⟩

set_option maxRecDepth 100000 in
set_option maxHeartbeats 1000000 in
theorem opsFault_any (A : Option Addr) (cap : Nat) (l : List Int) (B : Option Addr) (c : Nat) (xs : List FOp) (w : World) (hr : RowV w A (ints l)) (hv : Within 1 4096 l) (hn : l.length ≤ 20)
    (hxs : RowV w B (ops xs)) (hxl : xs.length ≤ 9223372036854775807) (hok : ∀ x ∈ xs, IntsOk x) :
    Calls Try.prog 15 #[.agg #[.slice A l.length cap], .slice B xs.length c] w fun e w' => e = .returned (.int .i64 (opsFault l xs)) ∧ Below w.heap.size w w' := by
  by_cases h1 : 50000 < xs.length
  · have h1' : (50000 : Int) < (xs.length : Int) := by omega
    go_enter Try.func15, Try.ntmps15
    go_wp2_with fail
    go_ret
    exact ⟨ret_i64 (by unfold opsFault; rw [if_pos h1]), (Below.refl _ _).alloc (Nat.le_refl _) _⟩
  · have h1' : decide ((50000 : Int) < (xs.length : Int)) = false := decide_eq_false (by omega)
    have ec : opsFault l xs = firstBad (opFault l.length (sumI l)) xs := by unfold opsFault; rw [if_neg h1]
    have EC := Lib.hid ec; clear ec
    go_enter Try.func15, Try.ntmps15
    go_wp2_with fail
    go_loopg [6, 12] xs.length (fun m _ i wr => ∃ k, k + m = xs.length ∧ i = .int .i64 (k : Nat) ∧ Hid (firstBad (opFault l.length (sumI l)) (xs.take k) = 0) ∧ Below w.heap.size w wr ∧ Blk wr w.heap.size 27 #[.slice A l.length cap])
    case atStart => exact ⟨0, by omega, rfl, rfl, (Below.refl _ _).alloc (Nat.le_refl _) _, Blk.new w _ _⟩
    case round =>
      obtain ⟨k, hkm, rfl, HB, hb, hF⟩ := hrel
      by_cases hlt : k < xs.length
      · obtain ⟨x, hx⟩ := get_some xs hlt
        have hi := hok x (mem_of_get hx)
        obtain ⟨b, o, rfl, hc0, hc1, hc2⟩ := (hxs.belowS hb).op hx
        have hsz := sumI_bd l hv
        have HX := Lib.hid hx; clear hx
        have hF1 := hF.alloc (.cells #[.int .i64 x.k, .int .i64 x.a, .int .i64 x.v] 63)
        have hX1 := Blk.new wr 63 #[.int .i64 x.k, .int .i64 x.a, .int .i64 x.v]
        have cF1 := hF1.cell 0 rfl
        have hbx : Below w.heap.size w (wr.alloc (.cells #[.int .i64 x.k, .int .i64 x.a, .int .i64 x.v] 63)) := hb.alloc hb.size _
        by_cases k1 : x.k = 1
        · have e1 : (x.k != 1) = false := by rw [bne_eq_false_iff_eq]; exact k1
          have e2 : (x.k == 1) = true := beq_iff_eq.2 k1
          have e3 : (x.k == 2) = false := beq_eq_false_iff_ne.2 (by omega)
          cases ho : outB x.a 0 ((l.length : Int) - 1)
          · by_cases hv0 : x.v = 0
            · have e4 : (x.v != 0) = false := by rw [bne_eq_false_iff_eq]; exact hv0
              have ef : opFault l.length (sumI l) x = 0 := by unfold opFault; rw [if_pos k1, ho, if_neg (by decide), if_pos hv0]
              have EF := Lib.hid ef; clear ef
              have HO := Lib.hid ho; clear ho
              clear k1 hv0
              go_wp2_with (go_at_call 60; refine (in_any _ _ _ _).mono ?_; rintro e w' ⟨rfl, rfl⟩; rw [HO.out])
              go_quiet (fail)
              go_wp2_with fail
              go_roundg (gk - 1)
              case measure => omega
              case rel => exact ⟨k + 1, by omega, by go_num, firstBad_step HX.out HB.out EF.out, hbx.trans ⟨rfl, rfl, rfl, Nat.le_refl _, fun _ _ => rfl⟩, hF1.drewN _⟩
            · have e4 : (x.v != 0) = true := by rw [bne_iff_ne]; exact hv0
              have ef : opFault l.length (sumI l) x = 3 := by unfold opFault; rw [if_pos k1, ho, if_neg (by decide), if_neg hv0]
              have EF := Lib.hid ef; clear ef
              have HO := Lib.hid ho; clear ho
              clear k1 hv0
              go_wp2_with (go_at_call 60; refine (in_any _ _ _ _).mono ?_; rintro e w' ⟨rfl, rfl⟩; rw [HO.out])
              go_ret
              exact ⟨ret_i64 (by rw [EC.out, firstBad_hit HX.out HB.out (by rw [EF.out]; decide), EF.out]), hbx⟩
          · have ef : opFault l.length (sumI l) x = 1 := by unfold opFault; rw [if_pos k1, ho, if_pos rfl]
            have EF := Lib.hid ef; clear ef
            have HO := Lib.hid ho; clear ho
            clear k1
            go_wp2_with (go_at_call 60; refine (in_any _ _ _ _).mono ?_; rintro e w' ⟨rfl, rfl⟩; rw [HO.out])
            go_ret
            exact ⟨ret_i64 (by rw [EC.out, firstBad_hit HX.out HB.out (by rw [EF.out]; decide), EF.out]), hbx⟩
        · have e1 : (x.k != 1) = true := by rw [bne_iff_ne]; exact k1
          have e2 : (x.k == 1) = false := beq_eq_false_iff_ne.2 k1
          by_cases k2 : x.k = 2
          · have e3 : (x.k == 2) = true := beq_iff_eq.2 k2
            have e3' : (x.k != 2) = false := by rw [bne_eq_false_iff_eq]; exact k2
            cases ho : outB x.a 0 (sumI l - 1)
            · cases hp : outB x.v 0 65535
              · have ef : opFault l.length (sumI l) x = 0 := by unfold opFault; rw [if_neg k1, if_pos k2, ho, hp]; rfl
                have EF := Lib.hid ef; clear ef
                have HO := Lib.hid ho; clear ho
                have HP := Lib.hid hp; clear hp
                clear k1 k2
                have hwr : IntKind.i64.wrap (sumI l - 1) = sumI l - 1 := IntWalk.i64_in _ (by omega)
                go_wp2_with fail
                go_region_held3 (fun w' => w'.cell? ⟨wr.heap.size, 0, none⟩ = some (.int .i64 x.k) ∧ w'.cell? ⟨wr.heap.size, 1, none⟩ = some (.int .i64 x.a) ∧ w'.cell? ⟨wr.heap.size, 2, none⟩ = some (.int .i64 x.v) ∧ w'.cell? ⟨w.heap.size, 0, none⟩ = some (.slice A l.length cap))
                  (first
                    | exact S4_of hX1.drew hF1.drew
                    | exact S4_of hX2 hF2)
                  ((first
                    | (go_at_call 61; refine (wordsOf_any A cap l _ (hr.belowS hbx.drew) hv hn).mono ?_; rintro e w2 ⟨rfl, hb2⟩; have hX2 := hX1.drew.belowS hb2; have hF2 := hF1.drew.belowS hb2; have hbx2 := hbx.drew.trans (hb2.mono hbx.drew.size))
                    | (go_at_call 60; refine (in_any _ _ _ _).mono ?_; rintro e w3 ⟨rfl, hw3⟩; subst hw3; first | rw [HO.out] | rw [HP.out])))
                go_wp2_with fail
                go_roundg (gk - 1)
                case measure => omega
                case rel => exact ⟨k + 1, by omega, by go_num, firstBad_step HX.out HB.out EF.out, hbx2, hF2⟩
              · have ef : opFault l.length (sumI l) x = 1 := by unfold opFault; rw [if_neg k1, if_pos k2, ho, hp]; rfl
                have EF := Lib.hid ef; clear ef
                have HO := Lib.hid ho; clear ho
                have HP := Lib.hid hp; clear hp
                clear k1 k2
                have hwr : IntKind.i64.wrap (sumI l - 1) = sumI l - 1 := IntWalk.i64_in _ (by omega)
                go_wp2_with fail
                go_region_held3 (fun w' => w'.cell? ⟨wr.heap.size, 0, none⟩ = some (.int .i64 x.k) ∧ w'.cell? ⟨wr.heap.size, 1, none⟩ = some (.int .i64 x.a) ∧ w'.cell? ⟨wr.heap.size, 2, none⟩ = some (.int .i64 x.v) ∧ w'.cell? ⟨w.heap.size, 0, none⟩ = some (.slice A l.length cap))
                  (first
                    | exact S4_of hX1.drew hF1.drew
                    | exact S4_of hX2 hF2)
                  ((first
                    | (go_at_call 61; refine (wordsOf_any A cap l _ (hr.belowS hbx.drew) hv hn).mono ?_; rintro e w2 ⟨rfl, hb2⟩; have hX2 := hX1.drew.belowS hb2; have hF2 := hF1.drew.belowS hb2; have hbx2 := hbx.drew.trans (hb2.mono hbx.drew.size))
                    | (go_at_call 60; refine (in_any _ _ _ _).mono ?_; rintro e w3 ⟨rfl, hw3⟩; subst hw3; first | rw [HO.out] | rw [HP.out])))
                go_wp2_with fail
                go_ret
                exact ⟨ret_i64 (by rw [EC.out, firstBad_hit HX.out HB.out (by rw [EF.out]; decide), EF.out]), hbx2⟩
            · have ef : opFault l.length (sumI l) x = 1 := by unfold opFault; rw [if_neg k1, if_pos k2, ho]; rfl
              have EF := Lib.hid ef; clear ef
              have HO := Lib.hid ho; clear ho
              clear k1 k2
              have hwr : IntKind.i64.wrap (sumI l - 1) = sumI l - 1 := IntWalk.i64_in _ (by omega)
              go_wp2_with fail
              refine wp_region_G 19 (fun w' => w'.cell? ⟨wr.heap.size, 0, none⟩ = some (.int .i64 x.k) ∧ w'.cell? ⟨wr.heap.size, 1, none⟩ = some (.int .i64 x.a) ∧ w'.cell? ⟨wr.heap.size, 2, none⟩ = some (.int .i64 x.v) ∧ w'.cell? ⟨w.heap.size, 0, none⟩ = some (.slice A l.length cap)) (by kernel_rfl) (S4_of hX1.drew hF1.drew) (fun hHeld => ?_)
              -- BEGIN REGION 12 (by program: gen_opsfault.py)
              refine wpAnyG_take0 (i := 0) (v := ?qv1) rfl (by kernel_rfl) (by kernel_rfl) (by kernel_rfl) (fun _ _ _ h => h) (Or.inl ⟨by rfl, ?qy1⟩) ?qr1
              case qy1 => (intro w _; go_simp; try with_reducible rfl)
              try simp only [Act.put, List.setIfInBounds_toArray, List.set_cons_zero, List.set_cons_succ]
              refine wpAnyG_take (i := 1) (v := ?qv2) rfl (by kernel_rfl) (by kernel_rfl) (by kernel_rfl) (by kernel_rfl) (fun _ _ _ h => h) (Or.inl ⟨by rfl, ?qy2⟩) (by assumption) ?qr2
              case qy2 => (intro w hSw; (try dsimp only at hSw); go_simp; try with_reducible rfl)
              try simp only [Act.put, List.setIfInBounds_toArray, List.set_cons_zero, List.set_cons_succ]
              refine wpAnyG_take0 (i := 2) (v := ?qv3) rfl (by kernel_rfl) (by kernel_rfl) (by kernel_rfl) (fun _ _ _ h => h) (Or.inl ⟨by rfl, ?qy3⟩) ?qr3
              case qy3 => (intro w _; go_simp; try with_reducible rfl)
              try simp only [Act.put, List.setIfInBounds_toArray, List.set_cons_zero, List.set_cons_succ]
              refine wpAnyG_take0 (i := 3) (v := ?qv4) rfl (by kernel_rfl) (by kernel_rfl) (by kernel_rfl) (fun _ _ _ h => h) (Or.inl ⟨by rfl, ?qy4⟩) ?qr4
              case qy4 => (intro w _; go_simp; try with_reducible rfl)
              try simp only [Act.put, List.setIfInBounds_toArray, List.set_cons_zero, List.set_cons_succ]
              refine wpAnyG_take0 (i := 4) (v := ?qv5) rfl (by kernel_rfl) (by kernel_rfl) (by kernel_rfl) (fun _ _ _ h => h) (Or.inl ⟨by rfl, ?qy5⟩) ?qr5
              case qy5 => (intro w _; go_simp; try with_reducible rfl)
              try simp only [Act.put, List.setIfInBounds_toArray, List.set_cons_zero, List.set_cons_succ]
              refine wpAnyG_take (i := 5) (v := ?qv6) rfl (by kernel_rfl) (by kernel_rfl) (by kernel_rfl) (by kernel_rfl) (fun _ _ _ h => h) (Or.inl ⟨by rfl, ?qy6⟩) (by assumption) ?qr6
              case qy6 => (intro w hSw; (try dsimp only at hSw); go_simp; try with_reducible rfl)
              try simp only [Act.put, List.setIfInBounds_toArray, List.set_cons_zero, List.set_cons_succ]
              refine wpAnyG_take (i := 6) (v := ?qv7) rfl (by kernel_rfl) (by kernel_rfl) (by kernel_rfl) (by kernel_rfl) (fun _ _ _ h => h) (Or.inl ⟨by rfl, ?qy7⟩) (by assumption) ?qr7
              case qy7 => (intro w hSw; (try dsimp only at hSw); go_simp; try with_reducible rfl)
              try simp only [Act.put, List.setIfInBounds_toArray, List.set_cons_zero, List.set_cons_succ]
              refine wpAnyG_ready (rs := [7]) (by kernel_rfl) (by simp) (AllReadyG.cons rfl (fun K hK => ?_) AllReadyG.nil)
              · go_simp
                refine (wordsOf_any A cap l _ (hr.belowS hbx.drew) hv hn).mono ?_
                rintro e w2 ⟨rfl, hb2⟩
                have hX2 := hX1.drew.belowS hb2
                have hF2 := hF1.drew.belowS hb2
                have hbx2 := hbx.drew.trans (hb2.mono hbx.drew.size)
                refine hK.out _ _ (S4_of hX2 hF2) ?_
                clear hK K
                try simp only [Act.put, List.setIfInBounds_toArray, List.set_cons_zero, List.set_cons_succ]
                refine wpAnyG_take0 (i := 8) (v := ?qv8) rfl (by kernel_rfl) (by kernel_rfl) (by kernel_rfl) (fun _ _ _ h => h) (Or.inl ⟨by rfl, ?qy8⟩) ?qr8
                case qy8 => (intro w _; go_simp; try with_reducible rfl)
                try simp only [Act.put, List.setIfInBounds_toArray, List.set_cons_zero, List.set_cons_succ]
                refine wpAnyG_ready (rs := [9]) (by kernel_rfl) (by simp) (AllReadyG.cons rfl (fun K hK => ?_) AllReadyG.nil)
                · go_simp
                  refine (in_any _ _ _ _).mono ?_
                  rintro e w3 ⟨rfl, hw3⟩
                  subst hw3
                  rw [HO.out]
                  refine hK.out _ _ (S4_of hX2 hF2) ?_
                  clear hK K
                  try simp only [Act.put, List.setIfInBounds_toArray, List.set_cons_zero, List.set_cons_succ]
                  refine wpAnyG_take0 (i := 10) (v := ?qv9) rfl (by kernel_rfl) (by kernel_rfl) (by kernel_rfl) (fun _ _ _ h => h) (Or.inl ⟨by rfl, ?qy9⟩) ?qr9
                  case qy9 => (intro w _; go_simp; try with_reducible rfl)
                  try simp only [Act.put, List.setIfInBounds_toArray, List.set_cons_zero, List.set_cons_succ]
                  refine wpAnyG_ready (rs := [11]) (by kernel_rfl) (by simp) (AllReadyG.cons rfl (fun K hK => ?_) AllReadyG.nil)
                  · go_simp
                    refine hK.out _ _ (S4_of hX2 hF2) ?_
                    clear hK K
                    try simp only [Act.put, List.setIfInBounds_toArray, List.set_cons_zero, List.set_cons_succ]
                    refine wpAnyG_ready (rs := [12]) (by kernel_rfl) (by simp) (AllReadyG.cons rfl (fun K hK => ?_) AllReadyG.nil)
                    · go_simp
                      refine hK.out _ _ (S4_of hX2 hF2) ?_
                      clear hK K
                      try simp only [Act.put, List.setIfInBounds_toArray, List.set_cons_zero, List.set_cons_succ]
                      refine wpAnyG_ready (rs := [13]) (by kernel_rfl) (by simp) (AllReadyG.cons rfl (fun K hK => ?_) AllReadyG.nil)
                      · go_simp
                        refine hK.out _ _ (S4_of hX2 hF2) ?_
                        clear hK K
                        try simp only [Act.put, List.setIfInBounds_toArray, List.set_cons_zero, List.set_cons_succ]
                        refine wpAnyG_ready (rs := [14]) (by kernel_rfl) (by simp) (AllReadyG.cons rfl (fun K hK => ?_) AllReadyG.nil)
                        · go_simp
                          refine hK.out _ _ (S4_of hX2 hF2) ?_
                          clear hK K
                          try simp only [Act.put, List.setIfInBounds_toArray, List.set_cons_zero, List.set_cons_succ]
                          refine wpAnyG_ready (rs := [15]) (by kernel_rfl) (by simp) (AllReadyG.cons rfl (fun K hK => ?_) AllReadyG.nil)
                          · go_simp
                            refine hK.out _ _ (S4_of hX2 hF2) ?_
                            clear hK K
                            try simp only [Act.put, List.setIfInBounds_toArray, List.set_cons_zero, List.set_cons_succ]
                            refine wpAnyG_ready (rs := [16]) (by kernel_rfl) (by simp) (AllReadyG.cons rfl (fun K hK => ?_) AllReadyG.nil)
                            · go_simp
                              refine hK.out _ _ (S4_of hX2 hF2) ?_
                              clear hK K
                              try simp only [Act.put, List.setIfInBounds_toArray, List.set_cons_zero, List.set_cons_succ]
                              refine wpAnyG_ready (rs := [17]) (by kernel_rfl) (by simp) (AllReadyG.cons rfl (fun K hK => ?_) AllReadyG.nil)
                              · go_simp
                                refine hK.out _ _ (S4_of hX2 hF2) ?_
                                clear hK K
                                try simp only [Act.put, List.setIfInBounds_toArray, List.set_cons_zero, List.set_cons_succ]
                                refine wpAnyG_ready (rs := [18]) (by kernel_rfl) (by simp) (AllReadyG.cons rfl (fun K hK => ?_) AllReadyG.nil)
                                · go_simp
                                  refine hK.out _ _ (S4_of hX2 hF2) ?_
                                  clear hK K
                                  try simp only [Act.put, List.setIfInBounds_toArray, List.set_cons_zero, List.set_cons_succ]
                                  refine wpAnyG_done (by kernel_rfl) ?_ _
                                  go_wp2_with fail
                                  go_ret
                                  exact ⟨ret_i64 (by rw [EC.out, firstBad_hit HX.out HB.out (by rw [EF.out]; decide), EF.out]), hbx2⟩
              -- END REGION 12
          · have e3 : (x.k != 2) = true := by rw [bne_iff_ne]; exact k2
            have ef : opFault l.length (sumI l) x = 4 := by unfold opFault; rw [if_neg k1, if_neg k2]
            have EF := Lib.hid ef; clear ef
            clear k1 k2
            go_wp2_with fail
            go_ret
            exact ⟨ret_i64 (by rw [EC.out, firstBad_hit HX.out HB.out (by rw [EF.out]; decide), EF.out]), hbx⟩
      · go_wp2_with fail
        go_ret
        exact ⟨ret_i64 (by rw [EC.out]; have := HB.out; rw [List.take_of_length_le (by omega)] at this; exact this.symm), hb⟩
end Go.Proofs.Ytmnhlfkphibhfaa
