/-
  The walk of MemoriesChecked (scanlaw1): it returns true, whatever numbers it is given.
-/
import Derived.Test.YtmnhlfkphibhfaaFlashed
import Derived.Test.YtmnhlfkphibhfaaFlash8
import Derived.Test.YtmnhlfkphibhfaaFlash4
import Derived.Test.YtmnhlfkphibhfaaOpList
import Derived.Test.YtmnhlfkphibhfaaRegion
import Derived.Deep.CutRange
import Derived.Deep.DeepCutAuto
namespace Go.Proofs.Ytmnhlfkphibhfaa
open Go.RowKit
set_option linter.unusedVariables false
set_option linter.unusedSimpArgs false

theorem Strm.new {w : World} {A : Option Addr} {cap : Nat} {L : List Int} (hr : RowV w A (ints L)) (hb : ∀ a, A = some a → a.block < w.heap.size) (hw : Within (-9223372036854775808) 9223372036854775807 L) (hl : L.length ≤ 17592186044415) :
    Strm (w.alloc (.cells #[.slice A L.length cap, .int .i64 0] 25)) w.heap.size A cap L 0 :=
  ⟨Blk.new w _ _, hr.alloc _, (fun a e => by have := hb a e; omega), hw, hl⟩

theorem wordsFaultV_one (D : Option Addr) (ws : List Int) (d : Nat) (l : List Int) : wordsFaultV l [⟨D, ws, d⟩] = checkImage l ws := by
  unfold wordsFaultV checkImage
  split
  · simp only [firstBad]
    split
    · rename_i h; exact h.symm
    · rfl
  · rfl

set_option maxRecDepth 20000 in
set_option maxHeartbeats 4000000 in
theorem memoriesChecked_walk (A : Option Addr) (cap : Nat) (L : List Int) (w : World) (hr : RowV w A (ints L)) (hA : ∀ a, A = some a → a.block < w.heap.size) (hw : Within (-9223372036854775808) 9223372036854775807 L) (hl : L.length ≤ 17592186044415) :
    Calls Try.prog 3 #[.slice A L.length cap] w fun e w' => e = .returned (.bool true) ∧ Below w.heap.size w w' := by
  have hS := Strm.new (cap := cap) hr hA hw hl
  have hfb := flashOfV_bd L 0
  obtain ⟨l, hle⟩ : ∃ l, (flashOfV L 0).1 = l := ⟨_, rfl⟩
  obtain ⟨p1, hp1⟩ : ∃ p, (flashOfV L 0).2 = p := ⟨_, rfl⟩
  rw [hle, hp1] at hfb
  obtain ⟨hln, hlw, hpb⟩ := hfb
  have hwb := wordListV_bd L p1 l
  obtain ⟨ws, hwse⟩ : ∃ l', (wordListV L p1 l).1 = l' := ⟨_, rfl⟩
  obtain ⟨p2, hp2⟩ : ∃ p, (wordListV L p1 l).2 = p := ⟨_, rfl⟩
  rw [hwse, hp2] at hwb
  obtain ⟨hwl, hwi, hp2b⟩ := hwb
  have hob := opListV_bd L p2 l.length
  have hok := opListV_ok L p2 (n := l.length) (by omega)
  obtain ⟨xs, hxse⟩ : ∃ l', (opListV L p2 l.length).1 = l' := ⟨_, rfl⟩
  obtain ⟨p3, hp3⟩ : ∃ p, (opListV L p2 l.length).2 = p := ⟨_, rfl⟩
  rw [hxse] at hok
  rw [hxse, hp3] at hob
  obtain ⟨hxl, hp3b⟩ := hob
  obtain ⟨at', hat⟩ : ∃ x, pickV L p3 [0, 1, 3, 7, 19, 20, -1] = x := ⟨_, rfl⟩
  have HLE := Lib.hid (And.intro hle (And.intro hp1 (And.intro hwse (And.intro hp2 (And.intro hxse (And.intro hp3 hat))))))
  clear hle hp1 hwse hp2 hxse hp3 hat
  go_enter Try.func3, Try.ntmps3
  go_wp2_with fail
  refine (flashOf_any w.heap.size A cap L 0 _ hS (by omega)).mono ?_
  rintro e w2 ⟨B, c, rfl, hO2, hS2, hg2⟩
  rw [HLE.out.1] at hO2
  rw [HLE.out.2.1] at hS2
  rw [HLE.out.1]
  have hb2 : Below w.heap.size w w2 := below_of_grownNew ((Below.refl _ _).alloc (Nat.le_refl _) _) hg2 (Nat.le_refl _)
  have hR2 := hO2.row
  have hoff2 : Off B w.heap.size := hO2.off (by simp)
  have hcap2 := hO2.cap
  have hs2 : w.heap.size < w2.heap.size := hS2.blk.lt
  clear hO2 hg2 hS
  go_upto_region 3 with fail
  go_cut [5, 6, 7] (fun a b x wr => ∃ D d E e', a = .slice D ws.length d ∧ b = .slice E xs.length e' ∧ x = .int .i64 at' ∧ Below w.heap.size w wr ∧ Blk wr w2.heap.size 27 #[.slice B l.length c] ∧ RowV wr B (ints l) ∧ RowV wr D (ints ws) ∧ RowV wr E (ops xs))
  case first =>
    have hF3 := Blk.new w2 27 #[.slice B l.length c]
    refine wp_region_G 12 (fun w' => w'.cell? ⟨w2.heap.size, 0, none⟩ = some (.slice B l.length c)) (by kernel_rfl) (hF3.drew.cell 0 rfl) (fun hHeld => ?_)
    have hF4 := hF3.drew
    have hS4 := (hS2.alloc (.cells #[.slice B l.length c] 27)).drew
    have hg4 := (hb2.alloc hb2.size (.cells #[.slice B l.length c] 27)).drew
    have hRB4 := (hR2.alloc (.cells #[.slice B l.length c] 27)).drew
    have hFB4 := hoff2
    clear hS2 hb2 hR2 hF3
    generalize (w2.alloc (.cells #[.slice B l.length c] 27)).drew = wx4 at *
    -- BEGIN REGION 3 (by program: gen_law1.py)
    refine wpAnyG_take0 (i := 0) (v := ?qv1) rfl (by kernel_rfl) (by kernel_rfl) (by kernel_rfl) (fun _ _ _ h => h) (Or.inl ⟨by rfl, ?qy1⟩) ?qr1
    case qy1 => (intro w _; go_simp; try with_reducible rfl)
    try simp only [Act.put, List.getElem_toArray, List.getElem_cons_zero, List.getElem_cons_succ, List.setIfInBounds_toArray, List.set_cons_zero, List.set_cons_succ]
    refine wpAnyG_take (i := 1) (v := ?qv2) rfl (by kernel_rfl) (by kernel_rfl) (by kernel_rfl) (by kernel_rfl) (fun _ _ _ h => h) (Or.inl ⟨by rfl, ?qy2⟩) (by assumption) ?qr2
    case qy2 => (intro w hSw; (try dsimp only at hSw); go_simp; try with_reducible rfl)
    try simp only [Act.put, List.getElem_toArray, List.getElem_cons_zero, List.getElem_cons_succ, List.setIfInBounds_toArray, List.set_cons_zero, List.set_cons_succ]
    refine wpAnyG_take0 (i := 3) (v := ?qv3) rfl (by kernel_rfl) (by kernel_rfl) (by kernel_rfl) (fun _ _ _ h => h) (Or.inl ⟨by rfl, ?qy3⟩) ?qr3
    case qy3 => (intro w _; go_simp; try with_reducible rfl)
    try simp only [Act.put, List.getElem_toArray, List.getElem_cons_zero, List.getElem_cons_succ, List.setIfInBounds_toArray, List.set_cons_zero, List.set_cons_succ]
    refine wpAnyG_take (i := 4) (v := ?qv4) rfl (by kernel_rfl) (by kernel_rfl) (by kernel_rfl) (by kernel_rfl) (fun _ _ _ h => h) (Or.inl ⟨by rfl, ?qy4⟩) (by assumption) ?qr4
    case qy4 => (intro w hSw; (try dsimp only at hSw); go_simp; try with_reducible rfl)
    try simp only [Act.put, List.getElem_toArray, List.getElem_cons_zero, List.getElem_cons_succ, List.setIfInBounds_toArray, List.set_cons_zero, List.set_cons_succ]
    refine wpAnyG_take0 (i := 6) (v := ?qv5) rfl (by kernel_rfl) (by kernel_rfl) (by kernel_rfl) (fun _ _ _ h => h) (Or.inl ⟨by rfl, ?qy5⟩) ?qr5
    case qy5 => (intro w _; go_simp; try with_reducible rfl)
    try simp only [Act.put, List.getElem_toArray, List.getElem_cons_zero, List.getElem_cons_succ, List.setIfInBounds_toArray, List.set_cons_zero, List.set_cons_succ]
    refine wpAnyG_ready (rs := [2, 7]) (by kernel_rfl) (by simp) (AllReadyG.cons rfl (fun K hK => ?_) (AllReadyG.cons rfl (fun K hK => ?_) AllReadyG.nil))
    · go_simp
      refine (wordList_any w.heap.size A cap L p1 l B c _ hS4 (by omega) hRB4 hFB4 hlw hln).mono ?_
      rintro e wx5 ⟨D, d, rfl, hO5, hS5, hgn5⟩
      rw [HLE.out.2.2.1] at hO5
      rw [HLE.out.2.2.2.1] at hS5
      rw [HLE.out.2.2.1]
      have hF5 := hF4.grown hgn5 (by simp; omega)
      refine hK.out _ _ (hF5.cell 0 rfl) ?_
      clear hK K
      have hg5 := below_of_grownNew hg4 hgn5 (Nat.le_refl _)
      have hRB5 := hRB4.grown hgn5 (fun r e => by injection e with e; subst e; exact hFB4)
      have hFB5 := hFB4
      have hRD5 := hO5.row
      have hFD5 : Off _ w.heap.size := hO5.off hS4.blk.lt
      clear hO5
      try simp only [Act.put, List.getElem_toArray, List.getElem_cons_zero, List.getElem_cons_succ, List.setIfInBounds_toArray, List.set_cons_zero, List.set_cons_succ]
      refine wpAnyG_ready (rs := [5, 7]) (by kernel_rfl) (by simp) (AllReadyG.cons rfl (fun K hK => ?_) (AllReadyG.cons rfl (fun K hK => ?_) AllReadyG.nil))
      · go_simp
        refine (opList_any w.heap.size A cap L p2 l.length B c _ hS5 (by omega) (by omega)).mono ?_
        rintro e wx6 ⟨E, e', rfl, hO6, hS6, hgn6⟩
        rw [HLE.out.2.2.2.2.1] at hO6
        rw [HLE.out.2.2.2.2.2.1] at hS6
        rw [HLE.out.2.2.2.2.1]
        have hF6 := hF5.grown hgn6 (by simp; omega)
        refine hK.out _ _ (hF6.cell 0 rfl) ?_
        clear hK K
        have hg6 := below_of_grownNew hg5 hgn6 (Nat.le_refl _)
        have hRB6 := hRB5.grown hgn6 (fun r e => by injection e with e; subst e; exact hFB5)
        have hFB6 := hFB5
        have hRD6 := hRD5.grown hgn6 (fun r e => by injection e with e; subst e; exact hFD5)
        have hFD6 := hFD5
        have hRE6 := hO6.row
        have hFE6 : Off _ w.heap.size := hO6.off hS5.blk.lt
        clear hO6
        try simp only [Act.put, List.getElem_toArray, List.getElem_cons_zero, List.getElem_cons_succ, List.setIfInBounds_toArray, List.set_cons_zero, List.set_cons_succ]
        refine wpAnyG_ready (rs := [7]) (by kernel_rfl) (by simp) (AllReadyG.cons rfl (fun K hK => ?_) AllReadyG.nil)
        · go_simp
          refine hK.out _ _ ((hF6.alloc _).cell 0 rfl) ?_
          clear hK K
          have hRB7 := hRB6.alloc (.cells #[.int .i64 0, .int .i64 1, .int .i64 3, .int .i64 7, .int .i64 19, .int .i64 20, .int .i64 (-1)] 3)
          have hFB7 := hFB6
          have hRD7 := hRD6.alloc (.cells #[.int .i64 0, .int .i64 1, .int .i64 3, .int .i64 7, .int .i64 19, .int .i64 20, .int .i64 (-1)] 3)
          have hFD7 := hFD6
          have hRE7 := hRE6.alloc (.cells #[.int .i64 0, .int .i64 1, .int .i64 3, .int .i64 7, .int .i64 19, .int .i64 20, .int .i64 (-1)] 3)
          have hFE7 := hFE6
          have hRP7 := RowV.new wx6 3 #[.int .i64 0, .int .i64 1, .int .i64 3, .int .i64 7, .int .i64 19, .int .i64 20, .int .i64 (-1)]
          have hFP7 : Off (some ⟨(wx6).heap.size, 0, none⟩) w.heap.size := Off.new hS6.blk.lt
          have hS7 := hS6.alloc (.cells #[.int .i64 0, .int .i64 1, .int .i64 3, .int .i64 7, .int .i64 19, .int .i64 20, .int .i64 (-1)] 3)
          have hF7 := hF6.alloc (.cells #[.int .i64 0, .int .i64 1, .int .i64 3, .int .i64 7, .int .i64 19, .int .i64 20, .int .i64 (-1)] 3)
          have hg7 := hg6.alloc hg6.size (.cells #[.int .i64 0, .int .i64 1, .int .i64 3, .int .i64 7, .int .i64 19, .int .i64 20, .int .i64 (-1)] 3)
          generalize (wx6).alloc (.cells #[.int .i64 0, .int .i64 1, .int .i64 3, .int .i64 7, .int .i64 19, .int .i64 20, .int .i64 (-1)] 3) = wx7 at *
          try simp only [Act.put, List.getElem_toArray, List.getElem_cons_zero, List.getElem_cons_succ, List.setIfInBounds_toArray, List.set_cons_zero, List.set_cons_succ]
          refine wpAnyG_ready (rs := [8]) (by kernel_rfl) (by simp) (AllReadyG.cons rfl (fun K hK => ?_) AllReadyG.nil)
          · go_simp
            refine (pick_any w.heap.size A cap L p3 [0, 1, 3, 7, 19, 20, -1] _ _ _ hS7 (by omega) hRP7 hFP7 (by simp) (by simp)).mono ?_
            rintro e wx8 ⟨rfl, hS8, hgn8⟩
            rw [HLE.out.2.2.2.2.2.2]
            have hF8 := hF7.grown hgn8 (by simp; omega)
            refine hK.out _ _ (hF8.cell 0 rfl) ?_
            clear hK K
            have hg8 := below_of_grownNew hg7 hgn8 (Nat.le_refl _)
            have hRB8 := hRB7.grown hgn8 (fun r e => by injection e with e; subst e; exact hFB7)
            have hFB8 := hFB7
            have hRD8 := hRD7.grown hgn8 (fun r e => by injection e with e; subst e; exact hFD7)
            have hFD8 := hFD7
            have hRE8 := hRE7.grown hgn8 (fun r e => by injection e with e; subst e; exact hFE7)
            have hFE8 := hFE7
            have hRP8 := hRP7.grown hgn8 (fun r e => by injection e with e; subst e; exact hFP7)
            have hFP8 := hFP7
            try simp only [Act.put, List.getElem_toArray, List.getElem_cons_zero, List.getElem_cons_succ, List.setIfInBounds_toArray, List.set_cons_zero, List.set_cons_succ]
            refine wpAnyG_take0 (i := 9) (v := ?qv6) rfl (by kernel_rfl) (by kernel_rfl) (by kernel_rfl) (fun _ _ _ h => h) (Or.inl ⟨by rfl, ?qy6⟩) ?qr6
            case qy6 => (intro w _; go_simp; try with_reducible rfl)
            try simp only [Act.put, List.getElem_toArray, List.getElem_cons_zero, List.getElem_cons_succ, List.setIfInBounds_toArray, List.set_cons_zero, List.set_cons_succ]
            refine wpAnyG_take0 (i := 10) (v := ?qv7) rfl (by kernel_rfl) (by kernel_rfl) (by kernel_rfl) (fun _ _ _ h => h) (Or.inl ⟨by rfl, ?qy7⟩) ?qr7
            case qy7 => (intro w _; go_simp; try with_reducible rfl)
            try simp only [Act.put, List.getElem_toArray, List.getElem_cons_zero, List.getElem_cons_succ, List.setIfInBounds_toArray, List.set_cons_zero, List.set_cons_succ]
            refine wpAnyG_take0 (i := 11) (v := ?qv8) rfl (by kernel_rfl) (by kernel_rfl) (by kernel_rfl) (fun _ _ _ h => h) (Or.inl ⟨by rfl, ?qy8⟩) ?qr8
            case qy8 => (intro w _; go_simp; try with_reducible rfl)
            try simp only [Act.put, List.getElem_toArray, List.getElem_cons_zero, List.getElem_cons_succ, List.setIfInBounds_toArray, List.set_cons_zero, List.set_cons_succ]
            refine wpAnyG_done (by kernel_rfl) ?_ _
            go_wp2_with fail
            go_meet
            case rel => exact ⟨D, d, E, e', rfl, rfl, rfl, hg8, hF8, hRB8, hRD8, hRE8⟩
      · go_simp
        refine hK.out _ _ ((hF5.alloc _).cell 0 rfl) ?_
        clear hK K
        have hRB6 := hRB5.alloc (.cells #[.int .i64 0, .int .i64 1, .int .i64 3, .int .i64 7, .int .i64 19, .int .i64 20, .int .i64 (-1)] 3)
        have hFB6 := hFB5
        have hRD6 := hRD5.alloc (.cells #[.int .i64 0, .int .i64 1, .int .i64 3, .int .i64 7, .int .i64 19, .int .i64 20, .int .i64 (-1)] 3)
        have hFD6 := hFD5
        have hRP6 := RowV.new wx5 3 #[.int .i64 0, .int .i64 1, .int .i64 3, .int .i64 7, .int .i64 19, .int .i64 20, .int .i64 (-1)]
        have hFP6 : Off (some ⟨(wx5).heap.size, 0, none⟩) w.heap.size := Off.new hS5.blk.lt
        have hS6 := hS5.alloc (.cells #[.int .i64 0, .int .i64 1, .int .i64 3, .int .i64 7, .int .i64 19, .int .i64 20, .int .i64 (-1)] 3)
        have hF6 := hF5.alloc (.cells #[.int .i64 0, .int .i64 1, .int .i64 3, .int .i64 7, .int .i64 19, .int .i64 20, .int .i64 (-1)] 3)
        have hg6 := hg5.alloc hg5.size (.cells #[.int .i64 0, .int .i64 1, .int .i64 3, .int .i64 7, .int .i64 19, .int .i64 20, .int .i64 (-1)] 3)
        generalize (wx5).alloc (.cells #[.int .i64 0, .int .i64 1, .int .i64 3, .int .i64 7, .int .i64 19, .int .i64 20, .int .i64 (-1)] 3) = wx6 at *
        try simp only [Act.put, List.getElem_toArray, List.getElem_cons_zero, List.getElem_cons_succ, List.setIfInBounds_toArray, List.set_cons_zero, List.set_cons_succ]
        refine wpAnyG_ready (rs := [5]) (by kernel_rfl) (by simp) (AllReadyG.cons rfl (fun K hK => ?_) AllReadyG.nil)
        · go_simp
          refine (opList_any w.heap.size A cap L p2 l.length B c _ hS6 (by omega) (by omega)).mono ?_
          rintro e wx7 ⟨E, e', rfl, hO7, hS7, hgn7⟩
          rw [HLE.out.2.2.2.2.1] at hO7
          rw [HLE.out.2.2.2.2.2.1] at hS7
          rw [HLE.out.2.2.2.2.1]
          have hF7 := hF6.grown hgn7 (by simp; omega)
          refine hK.out _ _ (hF7.cell 0 rfl) ?_
          clear hK K
          have hg7 := below_of_grownNew hg6 hgn7 (Nat.le_refl _)
          have hRB7 := hRB6.grown hgn7 (fun r e => by injection e with e; subst e; exact hFB6)
          have hFB7 := hFB6
          have hRD7 := hRD6.grown hgn7 (fun r e => by injection e with e; subst e; exact hFD6)
          have hFD7 := hFD6
          have hRP7 := hRP6.grown hgn7 (fun r e => by injection e with e; subst e; exact hFP6)
          have hFP7 := hFP6
          have hRE7 := hO7.row
          have hFE7 : Off _ w.heap.size := hO7.off hS6.blk.lt
          clear hO7
          try simp only [Act.put, List.getElem_toArray, List.getElem_cons_zero, List.getElem_cons_succ, List.setIfInBounds_toArray, List.set_cons_zero, List.set_cons_succ]
          refine wpAnyG_ready (rs := [8]) (by kernel_rfl) (by simp) (AllReadyG.cons rfl (fun K hK => ?_) AllReadyG.nil)
          · go_simp
            refine (pick_any w.heap.size A cap L p3 [0, 1, 3, 7, 19, 20, -1] _ _ _ hS7 (by omega) hRP7 hFP7 (by simp) (by simp)).mono ?_
            rintro e wx8 ⟨rfl, hS8, hgn8⟩
            rw [HLE.out.2.2.2.2.2.2]
            have hF8 := hF7.grown hgn8 (by simp; omega)
            refine hK.out _ _ (hF8.cell 0 rfl) ?_
            clear hK K
            have hg8 := below_of_grownNew hg7 hgn8 (Nat.le_refl _)
            have hRB8 := hRB7.grown hgn8 (fun r e => by injection e with e; subst e; exact hFB7)
            have hFB8 := hFB7
            have hRD8 := hRD7.grown hgn8 (fun r e => by injection e with e; subst e; exact hFD7)
            have hFD8 := hFD7
            have hRP8 := hRP7.grown hgn8 (fun r e => by injection e with e; subst e; exact hFP7)
            have hFP8 := hFP7
            have hRE8 := hRE7.grown hgn8 (fun r e => by injection e with e; subst e; exact hFE7)
            have hFE8 := hFE7
            try simp only [Act.put, List.getElem_toArray, List.getElem_cons_zero, List.getElem_cons_succ, List.setIfInBounds_toArray, List.set_cons_zero, List.set_cons_succ]
            refine wpAnyG_take0 (i := 9) (v := ?qv9) rfl (by kernel_rfl) (by kernel_rfl) (by kernel_rfl) (fun _ _ _ h => h) (Or.inl ⟨by rfl, ?qy9⟩) ?qr9
            case qy9 => (intro w _; go_simp; try with_reducible rfl)
            try simp only [Act.put, List.getElem_toArray, List.getElem_cons_zero, List.getElem_cons_succ, List.setIfInBounds_toArray, List.set_cons_zero, List.set_cons_succ]
            refine wpAnyG_take0 (i := 10) (v := ?qv10) rfl (by kernel_rfl) (by kernel_rfl) (by kernel_rfl) (fun _ _ _ h => h) (Or.inl ⟨by rfl, ?qy10⟩) ?qr10
            case qy10 => (intro w _; go_simp; try with_reducible rfl)
            try simp only [Act.put, List.getElem_toArray, List.getElem_cons_zero, List.getElem_cons_succ, List.setIfInBounds_toArray, List.set_cons_zero, List.set_cons_succ]
            refine wpAnyG_take0 (i := 11) (v := ?qv11) rfl (by kernel_rfl) (by kernel_rfl) (by kernel_rfl) (fun _ _ _ h => h) (Or.inl ⟨by rfl, ?qy11⟩) ?qr11
            case qy11 => (intro w _; go_simp; try with_reducible rfl)
            try simp only [Act.put, List.getElem_toArray, List.getElem_cons_zero, List.getElem_cons_succ, List.setIfInBounds_toArray, List.set_cons_zero, List.set_cons_succ]
            refine wpAnyG_done (by kernel_rfl) ?_ _
            go_wp2_with fail
            go_meet
            case rel => exact ⟨D, d, E, e', rfl, rfl, rfl, hg8, hF8, hRB8, hRD8, hRE8⟩
    · go_simp
      refine hK.out _ _ ((hF4.alloc _).cell 0 rfl) ?_
      clear hK K
      have hRB5 := hRB4.alloc (.cells #[.int .i64 0, .int .i64 1, .int .i64 3, .int .i64 7, .int .i64 19, .int .i64 20, .int .i64 (-1)] 3)
      have hFB5 := hFB4
      have hRP5 := RowV.new wx4 3 #[.int .i64 0, .int .i64 1, .int .i64 3, .int .i64 7, .int .i64 19, .int .i64 20, .int .i64 (-1)]
      have hFP5 : Off (some ⟨(wx4).heap.size, 0, none⟩) w.heap.size := Off.new hS4.blk.lt
      have hS5 := hS4.alloc (.cells #[.int .i64 0, .int .i64 1, .int .i64 3, .int .i64 7, .int .i64 19, .int .i64 20, .int .i64 (-1)] 3)
      have hF5 := hF4.alloc (.cells #[.int .i64 0, .int .i64 1, .int .i64 3, .int .i64 7, .int .i64 19, .int .i64 20, .int .i64 (-1)] 3)
      have hg5 := hg4.alloc hg4.size (.cells #[.int .i64 0, .int .i64 1, .int .i64 3, .int .i64 7, .int .i64 19, .int .i64 20, .int .i64 (-1)] 3)
      generalize (wx4).alloc (.cells #[.int .i64 0, .int .i64 1, .int .i64 3, .int .i64 7, .int .i64 19, .int .i64 20, .int .i64 (-1)] 3) = wx5 at *
      try simp only [Act.put, List.getElem_toArray, List.getElem_cons_zero, List.getElem_cons_succ, List.setIfInBounds_toArray, List.set_cons_zero, List.set_cons_succ]
      refine wpAnyG_ready (rs := [2]) (by kernel_rfl) (by simp) (AllReadyG.cons rfl (fun K hK => ?_) AllReadyG.nil)
      · go_simp
        refine (wordList_any w.heap.size A cap L p1 l B c _ hS5 (by omega) hRB5 hFB5 hlw hln).mono ?_
        rintro e wx6 ⟨D, d, rfl, hO6, hS6, hgn6⟩
        rw [HLE.out.2.2.1] at hO6
        rw [HLE.out.2.2.2.1] at hS6
        rw [HLE.out.2.2.1]
        have hF6 := hF5.grown hgn6 (by simp; omega)
        refine hK.out _ _ (hF6.cell 0 rfl) ?_
        clear hK K
        have hg6 := below_of_grownNew hg5 hgn6 (Nat.le_refl _)
        have hRB6 := hRB5.grown hgn6 (fun r e => by injection e with e; subst e; exact hFB5)
        have hFB6 := hFB5
        have hRP6 := hRP5.grown hgn6 (fun r e => by injection e with e; subst e; exact hFP5)
        have hFP6 := hFP5
        have hRD6 := hO6.row
        have hFD6 : Off _ w.heap.size := hO6.off hS5.blk.lt
        clear hO6
        try simp only [Act.put, List.getElem_toArray, List.getElem_cons_zero, List.getElem_cons_succ, List.setIfInBounds_toArray, List.set_cons_zero, List.set_cons_succ]
        refine wpAnyG_ready (rs := [5]) (by kernel_rfl) (by simp) (AllReadyG.cons rfl (fun K hK => ?_) AllReadyG.nil)
        · go_simp
          refine (opList_any w.heap.size A cap L p2 l.length B c _ hS6 (by omega) (by omega)).mono ?_
          rintro e wx7 ⟨E, e', rfl, hO7, hS7, hgn7⟩
          rw [HLE.out.2.2.2.2.1] at hO7
          rw [HLE.out.2.2.2.2.2.1] at hS7
          rw [HLE.out.2.2.2.2.1]
          have hF7 := hF6.grown hgn7 (by simp; omega)
          refine hK.out _ _ (hF7.cell 0 rfl) ?_
          clear hK K
          have hg7 := below_of_grownNew hg6 hgn7 (Nat.le_refl _)
          have hRB7 := hRB6.grown hgn7 (fun r e => by injection e with e; subst e; exact hFB6)
          have hFB7 := hFB6
          have hRP7 := hRP6.grown hgn7 (fun r e => by injection e with e; subst e; exact hFP6)
          have hFP7 := hFP6
          have hRD7 := hRD6.grown hgn7 (fun r e => by injection e with e; subst e; exact hFD6)
          have hFD7 := hFD6
          have hRE7 := hO7.row
          have hFE7 : Off _ w.heap.size := hO7.off hS6.blk.lt
          clear hO7
          try simp only [Act.put, List.getElem_toArray, List.getElem_cons_zero, List.getElem_cons_succ, List.setIfInBounds_toArray, List.set_cons_zero, List.set_cons_succ]
          refine wpAnyG_ready (rs := [8]) (by kernel_rfl) (by simp) (AllReadyG.cons rfl (fun K hK => ?_) AllReadyG.nil)
          · go_simp
            refine (pick_any w.heap.size A cap L p3 [0, 1, 3, 7, 19, 20, -1] _ _ _ hS7 (by omega) hRP7 hFP7 (by simp) (by simp)).mono ?_
            rintro e wx8 ⟨rfl, hS8, hgn8⟩
            rw [HLE.out.2.2.2.2.2.2]
            have hF8 := hF7.grown hgn8 (by simp; omega)
            refine hK.out _ _ (hF8.cell 0 rfl) ?_
            clear hK K
            have hg8 := below_of_grownNew hg7 hgn8 (Nat.le_refl _)
            have hRB8 := hRB7.grown hgn8 (fun r e => by injection e with e; subst e; exact hFB7)
            have hFB8 := hFB7
            have hRP8 := hRP7.grown hgn8 (fun r e => by injection e with e; subst e; exact hFP7)
            have hFP8 := hFP7
            have hRD8 := hRD7.grown hgn8 (fun r e => by injection e with e; subst e; exact hFD7)
            have hFD8 := hFD7
            have hRE8 := hRE7.grown hgn8 (fun r e => by injection e with e; subst e; exact hFE7)
            have hFE8 := hFE7
            try simp only [Act.put, List.getElem_toArray, List.getElem_cons_zero, List.getElem_cons_succ, List.setIfInBounds_toArray, List.set_cons_zero, List.set_cons_succ]
            refine wpAnyG_take0 (i := 9) (v := ?qv12) rfl (by kernel_rfl) (by kernel_rfl) (by kernel_rfl) (fun _ _ _ h => h) (Or.inl ⟨by rfl, ?qy12⟩) ?qr12
            case qy12 => (intro w _; go_simp; try with_reducible rfl)
            try simp only [Act.put, List.getElem_toArray, List.getElem_cons_zero, List.getElem_cons_succ, List.setIfInBounds_toArray, List.set_cons_zero, List.set_cons_succ]
            refine wpAnyG_take0 (i := 10) (v := ?qv13) rfl (by kernel_rfl) (by kernel_rfl) (by kernel_rfl) (fun _ _ _ h => h) (Or.inl ⟨by rfl, ?qy13⟩) ?qr13
            case qy13 => (intro w _; go_simp; try with_reducible rfl)
            try simp only [Act.put, List.getElem_toArray, List.getElem_cons_zero, List.getElem_cons_succ, List.setIfInBounds_toArray, List.set_cons_zero, List.set_cons_succ]
            refine wpAnyG_take0 (i := 11) (v := ?qv14) rfl (by kernel_rfl) (by kernel_rfl) (by kernel_rfl) (fun _ _ _ h => h) (Or.inl ⟨by rfl, ?qy14⟩) ?qr14
            case qy14 => (intro w _; go_simp; try with_reducible rfl)
            try simp only [Act.put, List.getElem_toArray, List.getElem_cons_zero, List.getElem_cons_succ, List.setIfInBounds_toArray, List.set_cons_zero, List.set_cons_succ]
            refine wpAnyG_done (by kernel_rfl) ?_ _
            go_wp2_with fail
            go_meet
            case rel => exact ⟨D, d, E, e', rfl, rfl, rfl, hg8, hF8, hRB8, hRD8, hRE8⟩
    -- END REGION 3
  case rest =>
    obtain ⟨D, d, E, e', rfl, rfl, rfl, hg, hF, hRB, hRD, hRE⟩ := hcut
    clear hS2 hb2 hR2 HLE
    obtain ⟨bad, hbad⟩ : ∃ x, flashFault l = x := ⟨_, rfl⟩
    obtain ⟨wb, hwb⟩ : ∃ x, checkImage l ws = x := ⟨_, rfl⟩
    obtain ⟨ob, hob⟩ : ∃ x, checkOps l xs = x := ⟨_, rfl⟩
    obtain ⟨af, haf⟩ : ∃ x, applyFault l ws xs = x := ⟨_, rfl⟩
    have HB := Lib.hid hbad; have HW := Lib.hid hwb; have HO := Lib.hid hob; have HA := Lib.hid haf
    have hwf : wordsFaultV l [⟨D, ws, d⟩] = wb := by rw [← hwb]; exact wordsFaultV_one D ws d l
    have HF1 := Lib.hid (And.intro hbad hwf)
    clear hbad hwb hob haf hwf
    have hbb : (bad != bad) = false := by simp
    have hww : (wb != wb) = false := by simp
    have hoo : (ob != ob) = false := by simp
    go_upto_region 4 with fail
    go_cut [8, 9] (fun a b wr => a = .int .i64 bad ∧ b = .int .i64 wb ∧ Below w.heap.size w wr ∧ Blk wr w2.heap.size 27 #[.slice B l.length c] ∧ RowV wr B (ints l) ∧ RowV wr D (ints ws) ∧ RowV wr E (ops xs))
    case first =>
      refine wp_region_G 8 (fun w' => w'.cell? ⟨w2.heap.size, 0, none⟩ = some (.slice B l.length c)) (by kernel_rfl) (hF.drew.cell 0 rfl) (fun hHeld => ?_)
      have hF4 := hF.drew
      have hg4 := hg.drew
      have hRB4 := hRB.drew
      have hRD4 := hRD.drew
      have hRE4 := hRE.drew
      clear hF hg hRB hRD hRE
      generalize wc.drew = wx4 at *
      -- BEGIN REGION 4 (by program: gen_law1.py)
      refine wpAnyG_take (i := 0) (v := ?qv501) rfl (by kernel_rfl) (by kernel_rfl) (by kernel_rfl) (by kernel_rfl) (fun _ _ _ h => h) (Or.inl ⟨by rfl, ?qy501⟩) (by assumption) ?qr501
      case qy501 => (intro w hSw; (try dsimp only at hSw); go_simp; try with_reducible rfl)
      try simp only [Act.put, List.getElem_toArray, List.getElem_cons_zero, List.getElem_cons_succ, List.setIfInBounds_toArray, List.set_cons_zero, List.set_cons_succ]
      refine wpAnyG_take (i := 2) (v := ?qv502) rfl (by kernel_rfl) (by kernel_rfl) (by kernel_rfl) (by kernel_rfl) (fun _ _ _ h => h) (Or.inl ⟨by rfl, ?qy502⟩) (by assumption) ?qr502
      case qy502 => (intro w hSw; (try dsimp only at hSw); go_simp; try with_reducible rfl)
      try simp only [Act.put, List.getElem_toArray, List.getElem_cons_zero, List.getElem_cons_succ, List.setIfInBounds_toArray, List.set_cons_zero, List.set_cons_succ]
      refine wpAnyG_take0 (i := 3) (v := ?qv503) rfl (by kernel_rfl) (by kernel_rfl) (by kernel_rfl) (fun _ _ _ h => h) (Or.inl ⟨by rfl, ?qy503⟩) ?qr503
      case qy503 => (intro w _; go_simp; try with_reducible rfl)
      try simp only [Act.put, List.getElem_toArray, List.getElem_cons_zero, List.getElem_cons_succ, List.setIfInBounds_toArray, List.set_cons_zero, List.set_cons_succ]
      refine wpAnyG_ready (rs := [1, 4]) (by kernel_rfl) (by simp) (AllReadyG.cons rfl (fun K hK => ?_) (AllReadyG.cons rfl (fun K hK => ?_) AllReadyG.nil))
      · go_simp
        refine (flashFault_any B c l _ hRB4 (by omega)).mono ?_
        rintro e wx5 ⟨rfl, hgn5⟩
        rw [HF1.out.1]
        have hF5 := hF4.belowS hgn5
        refine hK.out _ _ (hF5.cell 0 rfl) ?_
        clear hK K
        have hg5 := hg4.trans (hgn5.mono hg4.size)
        have hRB5 := hRB4.belowS hgn5
        have hRD5 := hRD4.belowS hgn5
        have hRE5 := hRE4.belowS hgn5
        try simp only [Act.put, List.getElem_toArray, List.getElem_cons_zero, List.getElem_cons_succ, List.setIfInBounds_toArray, List.set_cons_zero, List.set_cons_succ]
        refine wpAnyG_ready (rs := [4]) (by kernel_rfl) (by simp) (AllReadyG.cons rfl (fun K hK => ?_) AllReadyG.nil)
        · go_simp
          refine hK.out _ _ ((hF5.alloc _).cell 0 rfl) ?_
          clear hK K
          have hRB6 := hRB5.alloc (.cells #[.slice D ws.length d] 22)
          have hRD6 := hRD5.alloc (.cells #[.slice D ws.length d] 22)
          have hRE6 := hRE5.alloc (.cells #[.slice D ws.length d] 22)
          have hRP6 := RowV.new wx5 22 #[.slice D ws.length d]
          have hF6 := hF5.alloc (.cells #[.slice D ws.length d] 22)
          have hg6 := hg5.alloc hg5.size (.cells #[.slice D ws.length d] 22)
          generalize (wx5).alloc (.cells #[.slice D ws.length d] 22) = wx6 at *
          try simp only [Act.put, List.getElem_toArray, List.getElem_cons_zero, List.getElem_cons_succ, List.setIfInBounds_toArray, List.set_cons_zero, List.set_cons_succ]
          refine wpAnyG_ready (rs := [5]) (by kernel_rfl) (by simp) (AllReadyG.cons rfl (fun K hK => ?_) AllReadyG.nil)
          · go_simp
            refine (wordsFault_any B c l _ 1 [⟨D, ws, d⟩] _ hRB6 (by omega) hRP6 (by simp) (by intro x hx; obtain rfl : x = ⟨D, ws, d⟩ := (by simpa using hx); exact ⟨hRD6, show ws.length ≤ 9223372036854775807 by omega⟩)).mono ?_
            rintro e wx7 ⟨rfl, hgn7⟩
            rw [HF1.out.2]
            have hF7 := hF6.belowS hgn7
            refine hK.out _ _ (hF7.cell 0 rfl) ?_
            clear hK K
            have hg7 := hg6.trans (hgn7.mono hg6.size)
            have hRB7 := hRB6.belowS hgn7
            have hRD7 := hRD6.belowS hgn7
            have hRE7 := hRE6.belowS hgn7
            have hRP7 := hRP6.belowS hgn7
            try simp only [Act.put, List.getElem_toArray, List.getElem_cons_zero, List.getElem_cons_succ, List.setIfInBounds_toArray, List.set_cons_zero, List.set_cons_succ]
            refine wpAnyG_take0 (i := 6) (v := ?qv504) rfl (by kernel_rfl) (by kernel_rfl) (by kernel_rfl) (fun _ _ _ h => h) (Or.inl ⟨by rfl, ?qy504⟩) ?qr504
            case qy504 => (intro w _; go_simp; try with_reducible rfl)
            try simp only [Act.put, List.getElem_toArray, List.getElem_cons_zero, List.getElem_cons_succ, List.setIfInBounds_toArray, List.set_cons_zero, List.set_cons_succ]
            refine wpAnyG_take0 (i := 7) (v := ?qv505) rfl (by kernel_rfl) (by kernel_rfl) (by kernel_rfl) (fun _ _ _ h => h) (Or.inl ⟨by rfl, ?qy505⟩) ?qr505
            case qy505 => (intro w _; go_simp; try with_reducible rfl)
            try simp only [Act.put, List.getElem_toArray, List.getElem_cons_zero, List.getElem_cons_succ, List.setIfInBounds_toArray, List.set_cons_zero, List.set_cons_succ]
            refine wpAnyG_done (by kernel_rfl) ?_ _
            go_wp2_with fail
            go_meet
            case rel => exact ⟨rfl, rfl, hg7, hF7, hRB7, hRD7, hRE7⟩
      · go_simp
        refine hK.out _ _ ((hF4.alloc _).cell 0 rfl) ?_
        clear hK K
        have hRB5 := hRB4.alloc (.cells #[.slice D ws.length d] 22)
        have hRD5 := hRD4.alloc (.cells #[.slice D ws.length d] 22)
        have hRE5 := hRE4.alloc (.cells #[.slice D ws.length d] 22)
        have hRP5 := RowV.new wx4 22 #[.slice D ws.length d]
        have hF5 := hF4.alloc (.cells #[.slice D ws.length d] 22)
        have hg5 := hg4.alloc hg4.size (.cells #[.slice D ws.length d] 22)
        generalize (wx4).alloc (.cells #[.slice D ws.length d] 22) = wx5 at *
        try simp only [Act.put, List.getElem_toArray, List.getElem_cons_zero, List.getElem_cons_succ, List.setIfInBounds_toArray, List.set_cons_zero, List.set_cons_succ]
        refine wpAnyG_ready (rs := [1]) (by kernel_rfl) (by simp) (AllReadyG.cons rfl (fun K hK => ?_) AllReadyG.nil)
        · go_simp
          refine (flashFault_any B c l _ hRB5 (by omega)).mono ?_
          rintro e wx6 ⟨rfl, hgn6⟩
          rw [HF1.out.1]
          have hF6 := hF5.belowS hgn6
          refine hK.out _ _ (hF6.cell 0 rfl) ?_
          clear hK K
          have hg6 := hg5.trans (hgn6.mono hg5.size)
          have hRB6 := hRB5.belowS hgn6
          have hRD6 := hRD5.belowS hgn6
          have hRE6 := hRE5.belowS hgn6
          have hRP6 := hRP5.belowS hgn6
          try simp only [Act.put, List.getElem_toArray, List.getElem_cons_zero, List.getElem_cons_succ, List.setIfInBounds_toArray, List.set_cons_zero, List.set_cons_succ]
          refine wpAnyG_ready (rs := [5]) (by kernel_rfl) (by simp) (AllReadyG.cons rfl (fun K hK => ?_) AllReadyG.nil)
          · go_simp
            refine (wordsFault_any B c l _ 1 [⟨D, ws, d⟩] _ hRB6 (by omega) hRP6 (by simp) (by intro x hx; obtain rfl : x = ⟨D, ws, d⟩ := (by simpa using hx); exact ⟨hRD6, show ws.length ≤ 9223372036854775807 by omega⟩)).mono ?_
            rintro e wx7 ⟨rfl, hgn7⟩
            rw [HF1.out.2]
            have hF7 := hF6.belowS hgn7
            refine hK.out _ _ (hF7.cell 0 rfl) ?_
            clear hK K
            have hg7 := hg6.trans (hgn7.mono hg6.size)
            have hRB7 := hRB6.belowS hgn7
            have hRD7 := hRD6.belowS hgn7
            have hRE7 := hRE6.belowS hgn7
            have hRP7 := hRP6.belowS hgn7
            try simp only [Act.put, List.getElem_toArray, List.getElem_cons_zero, List.getElem_cons_succ, List.setIfInBounds_toArray, List.set_cons_zero, List.set_cons_succ]
            refine wpAnyG_take0 (i := 6) (v := ?qv506) rfl (by kernel_rfl) (by kernel_rfl) (by kernel_rfl) (fun _ _ _ h => h) (Or.inl ⟨by rfl, ?qy506⟩) ?qr506
            case qy506 => (intro w _; go_simp; try with_reducible rfl)
            try simp only [Act.put, List.getElem_toArray, List.getElem_cons_zero, List.getElem_cons_succ, List.setIfInBounds_toArray, List.set_cons_zero, List.set_cons_succ]
            refine wpAnyG_take0 (i := 7) (v := ?qv507) rfl (by kernel_rfl) (by kernel_rfl) (by kernel_rfl) (fun _ _ _ h => h) (Or.inl ⟨by rfl, ?qy507⟩) ?qr507
            case qy507 => (intro w _; go_simp; try with_reducible rfl)
            try simp only [Act.put, List.getElem_toArray, List.getElem_cons_zero, List.getElem_cons_succ, List.setIfInBounds_toArray, List.set_cons_zero, List.set_cons_succ]
            refine wpAnyG_done (by kernel_rfl) ?_ _
            go_wp2_with fail
            go_meet
            case rel => exact ⟨rfl, rfl, hg7, hF7, hRB7, hRD7, hRE7⟩
      -- END REGION 4
    case rest =>
      clear hF hg hRB hRD hRE
      obtain ⟨rfl, rfl, hg, hF, hRB, hRD, hRE⟩ := hcut
      clear HF1
      have cF := hF.cell 0 rfl
      go_upto_if 42 with fail
      go_cut [10] (fun x wr => x = .int .i64 ob ∧ Below w.heap.size w wr ∧ Blk wr w2.heap.size 27 #[.slice B l.length c] ∧ RowV wr B (ints l) ∧ RowV wr D (ints ws) ∧ RowV wr E (ops xs))
      case first =>
        by_cases h0 : bad = 0
        · have h0' : (bad == 0) = true := beq_iff_eq.2 h0
          have ok := flashFault_ok (HB.out.trans h0)
          have hv := ok.wit
          have hn := ok.len
          have ho : opsFault l xs = ob := by rw [← HO.out]; unfold checkOps; rw [if_pos (HB.out.trans h0)]
          have HOO := Lib.hid ho; clear ho ok h0
          go_wp2_with fail
          refine (opsFault_any B c l E e' xs _ hRB hv hn hRE (by omega) hok).mono ?_
          rintro e w5 ⟨rfl, hb5⟩
          rw [HOO.out]
          go_wp2_with fail
          go_meet
          case rel => exact ⟨rfl, hg.trans (hb5.mono hg.size), hF.belowS hb5, hRB.belowS hb5, hRD.belowS hb5, hRE.belowS hb5⟩
        · have h0' : (bad == 0) = false := beq_eq_false_iff_ne.2 h0
          have ho : ob = bad := by rw [← HO.out]; unfold checkOps; rw [if_neg (by rw [HB.out]; exact h0), HB.out]
          have HOO := Lib.hid ho; clear ho h0
          go_wp2_with fail
          go_meet
          case rel => exact ⟨int_eq HOO.out.symm, hg, hF, hRB, hRD, hRE⟩
      case rest =>
        clear hF hg hRB hRD hRE cF
        obtain ⟨rfl, hg, hF, hRB, hRD, hRE⟩ := hcut
        have cF := hF.cell 0 rfl
        go_wp2_with fail
        refine (checkFlash_any B c l _ hRB (by omega)).mono ?_
        rintro e w5 ⟨rfl, hb5⟩
        rw [HB.out]
        have hg5 := hg.trans (hb5.mono hg.size)
        have hF5 := hF.belowS hb5
        have hRB5 := hRB.belowS hb5
        have hRD5 := hRD.belowS hb5
        have hRE5 := hRE.belowS hb5
        clear hg hF hRB hRD hRE cF hb5
        have cF := hF5.cell 0 rfl
        go_wp2_with fail
        refine (checkImage_any B c l D d ws _ hRB5 (by omega) hRD5 (by omega)).mono ?_
        rintro e w6 ⟨rfl, hb6⟩
        rw [HW.out]
        have hg6 := hg5.trans (hb6.mono hg5.size)
        have hF6 := hF5.belowS hb6
        have hRB6 := hRB5.belowS hb6
        have hRD6 := hRD5.belowS hb6
        have hRE6 := hRE5.belowS hb6
        clear hg5 hF5 hRB5 hRD5 hRE5 cF hb6
        have cF := hF6.cell 0 rfl
        go_wp2_with fail
        refine (checkOps_any B c l E e' xs _ hRB6 (by omega) hRE6 (by omega) hok).mono ?_
        rintro e w7 ⟨rfl, hb7⟩
        rw [HO.out]
        have hg7 := hg6.trans (hb7.mono hg6.size)
        have hF7 := hF6.belowS hb7
        have hRB7 := hRB6.belowS hb7
        have hRD7 := hRD6.belowS hb7
        have hRE7 := hRE6.belowS hb7
        clear hg6 hF6 hRB6 hRD6 hRE6 cF hb7
        have cF := hF7.cell 0 rfl
        obtain ⟨s1, s2, s3, hs⟩ : ∃ a b c, sectorOfV l at' = (a, b, c) := ⟨_, _, _, rfl⟩
        have HS := Lib.hid hs; clear hs
        have h11 : (s1 != s1) = false := by simp
        have h22 : (s2 != s2) = false := by simp
        have h33 : (s3 != s3) = false := by simp
        go_wp2_with fail
        refine (SectorOf_any B c l at' _ hRB7 (by omega)).mono ?_
        rintro e w8 ⟨rfl, hb8⟩
        rw [HS.out]
        simp only
        have hg8 := hg7.trans (hb8.mono hg7.size)
        have hF8 := hF7.belowS hb8
        have hRB8 := hRB7.belowS hb8
        have hRD8 := hRD7.belowS hb8
        have hRE8 := hRE7.belowS hb8
        clear hg7 hF7 hRB7 hRD7 hRE7 cF hb8
        have cF := hF8.cell 0 rfl
        go_upto_if 73 with fail
        go_cut [14, 15, 16] (fun x y z wr => x = .int .i64 s3 ∧ y = .int .i64 s1 ∧ z = .int .i64 s2 ∧ Below w.heap.size w wr ∧ Blk wr w2.heap.size 27 #[.slice B l.length c] ∧ RowV wr B (ints l) ∧ RowV wr D (ints ws) ∧ RowV wr E (ops xs))
        case first =>
          by_cases h0 : bad = 0
          · have h0' : (bad == 0) = true := beq_iff_eq.2 h0
            have ok := flashFault_ok (HB.out.trans h0)
            have hv := ok.wit
            have hn := ok.len
            cases hia : isAddr l at'
            · have ha := sectorAtV_no hia
              have hs := HS.out
              unfold sectorOfV at hs
              rw [if_pos (HB.out.trans h0), hia] at hs
              have hs' : (0, 0, 1) = (s1, s2, s3) := hs
              injection hs' with e1 hs'
              injection hs' with e2 e3
              have HE := Lib.hid (And.intro e1 (And.intro e2 (And.intro e3 ha)))
              clear hs e1 e2 e3 ok h0 hia ha
              go_wp2_with fail
              refine (sectorAt_any B c l at' _ hRB8 hv hn).mono ?_
              rintro e w9 ⟨rfl, hb9⟩
              rw [HE.out.2.2.2]
              simp only
              go_wp2_with fail
              go_meet
              case rel => exact ⟨int_eq HE.out.2.2.1, int_eq HE.out.1, int_eq HE.out.2.1, hg8.trans (hb9.mono hg8.size), hF8.belowS hb9, hRB8.belowS hb9, hRD8.belowS hb9, hRE8.belowS hb9⟩
            · have ha := sectorAtV_yes hia
              have hs := HS.out
              unfold sectorOfV at hs
              rw [if_pos (HB.out.trans h0), if_pos hia] at hs
              injection hs with e1 hs'
              injection hs' with e2 e3
              rw [e1, e2] at ha
              have HE := Lib.hid (And.intro e3 ha)
              clear e1 e2 e3 ok h0 hia ha
              go_wp2_with fail
              refine (sectorAt_any B c l at' _ hRB8 hv hn).mono ?_
              rintro e w9 ⟨rfl, hb9⟩
              rw [HE.out.2]
              simp only
              go_wp2_with fail
              go_meet
              case rel => exact ⟨int_eq (by have := HE.out.1; have h00 := beq_iff_eq.1 h0'; omega), rfl, rfl, hg8.trans (hb9.mono hg8.size), hF8.belowS hb9, hRB8.belowS hb9, hRD8.belowS hb9, hRE8.belowS hb9⟩
          · have h0' : (bad == 0) = false := beq_eq_false_iff_ne.2 h0
            have hs := HS.out
            unfold sectorOfV at hs
            rw [if_neg (by rw [HB.out]; exact h0), HB.out] at hs
            injection hs with e1 hs'
            injection hs' with e2 e3
            have HE := Lib.hid (And.intro e1 (And.intro e2 e3))
            clear e1 e2 e3 h0
            go_wp2_with fail
            go_meet
            case rel => exact ⟨int_eq HE.out.2.2, int_eq HE.out.1, int_eq HE.out.2.1, hg8, hF8, hRB8, hRD8, hRE8⟩
        case rest =>
          clear hg8 hF8 hRB8 hRD8 hRE8 cF
          obtain ⟨rfl, rfl, rfl, hg, hF, hRB, hRD, hRE⟩ := hcut
          have cF := hF.cell 0 rfl
          obtain ⟨R, hR⟩ : ∃ r, applyR l ws xs = r := ⟨_, rfl⟩
          have HR := Lib.hid hR; clear hR
          go_wp2_with fail
          refine (apply_any B c l D d ws E e' xs _ hRB hcap2.1 (by have := hcap2.2; unfold maxLen at this; omega) hRD (by omega) hRE (by omega) hok).mono ?_
          rintro e w9 ⟨G, gn, rfl, hOG, hb9⟩
          rw [HR.out] at hOG
          rw [HR.out, HA.out]
          have hRG := hOG.row
          have hg9 := hg.trans (hb9.mono hg.size)
          have hF9 := hF.belowS hb9
          have hRB9 := hRB.belowS hb9
          have hRD9 := hRD.belowS hb9
          have hRE9 := hRE.belowS hb9
          clear hg hF hRB hRD hRE cF hb9 hOG
          have cF := hF9.cell 0 rfl
          have haf : af = if wb = 0 then ob else wb := by
            rw [← HA.out]
            unfold applyFault
            rw [HW.out, HO.out]
            simp only [firstBad]
            split
            · split <;> simp_all
            · rfl
          have HAF := Lib.hid haf; clear haf
          go_upto_if 105 with fail
          go_cut [19] (fun x wr => x = .int .i64 af ∧ wr = w9)
          case first =>
            by_cases h0 : wb = 0
            · have h0' : (wb == 0) = true := beq_iff_eq.2 h0
              have h1 : ob = af := by have := HAF.out; rw [if_pos h0] at this; exact this.symm
              have H1 := Lib.hid h1; clear h0 h1
              go_wp2_with fail
              go_meet
              case rel => exact ⟨int_eq H1.out, rfl⟩
            · have h0' : (wb == 0) = false := beq_eq_false_iff_ne.2 h0
              have h1 : wb = af := by have := HAF.out; rw [if_neg h0] at this; exact this.symm
              have H1 := Lib.hid h1; clear h0 h1
              go_wp2_with fail
              go_meet
              case rel => exact ⟨int_eq H1.out, rfl⟩
          case rest =>
            obtain ⟨rfl, rfl⟩ := hcut
            by_cases h0 : af = 0
            · obtain ⟨ok, hwl', hww', hxl', hxo⟩ := applyFault_ok (HA.out.trans h0)
              have h0' : (af != 0) = false := by rw [bne_eq_false_iff_eq]; exact h0
              have h0'' : (af == 0) = true := beq_iff_eq.2 h0
              have hRe : applyV l ws xs = R := by rw [← HR.out]; unfold applyR; rw [if_pos (HA.out.trans h0)]
              have hRl : R.length = ws.length := by rw [← hRe, applyV_len]
              have HRE := Lib.hid hRe; clear hRe
              have H0 := Lib.hid h0; clear h0
              have HWL := Lib.hid hwl'; clear hwl'
              go_wp2_with fail
              refine (appliedTo_any B c l D d ws E e' xs _ hRB9 ok hRD9 HWL.out hww' hRE9 hxl' hxo).mono ?_
              rintro e w10 ⟨G2, g2, rfl, hO10, hb10⟩
              rw [HRE.out] at hO10
              have hRG2 := hO10.row
              have hg10 := hg9.trans (hb10.mono hg9.size)
              have hRG10 := hRG.belowS hb10
              clear hO10
              go_wp2_with fail
              have heq := equalInts_any G gn R G2 g2 R w10 hRG10 hRG2 (by omega)
              rw [← hRl]
              refine heq.mono ?_
              rintro e w11 ⟨rfl, hb11⟩
              rw [decide_eq_true rfl]
              have hg11 := hg10.trans (hb11.mono hg10.size)
              go_wp2_with fail
              refine (flashed_any _).mono ?_
              rintro e w12 ⟨rfl, hb12⟩
              go_wp2_with fail
              go_ret
              exact ⟨rfl, hg11.trans (hb12.mono hg11.size)⟩
            · have h0' : (af != 0) = true := by rw [bne_iff_ne]; exact h0
              have haa : (af == af) = true := by simp
              have hRe : R = [] := by rw [← HR.out]; unfold applyR; rw [if_neg (by rw [HA.out]; exact h0)]
              have hRl : ((R.length : Int) == 0) = true := by rw [hRe]; rfl
              clear hRe h0
              go_wp2_with fail
              refine (flashed_any _).mono ?_
              rintro e w12 ⟨rfl, hb12⟩
              go_wp2_with fail
              go_ret
              exact ⟨rfl, hg9.trans (hb12.mono hg9.size)⟩
end Go.Proofs.Ytmnhlfkphibhfaa
