/-
  What Plan computes.
-/
import Derived.Test.YtmnhlfkphibhfaaFlash8
import Derived.Test.YtmnhlfkphibhfaaOpList
import Derived.Test.YtmnhlfkphibhfaaFPlan
import Derived.Test.YtmnhlfkphibhfaaBits
namespace Go.Proofs.Ytmnhlfkphibhfaa
open Go.RowKit
set_option linter.unusedVariables false
set_option linter.unusedSimpArgs false
attribute [local go_sem ↓] Go.wp_at_zero Go.wp_at_succ

theorem RowV.intAt {w : World} {b o : Nat} {l : List Int} (h : RowV w (some ⟨b, o, none⟩) (ints l)) {k : Nat} {x : Int} (hk : l[k]? = some x) : w.cell? ⟨b, o + k, none⟩ = some (.int .i64 x) := by
  obtain ⟨b', o', he, hc⟩ := h.int hk
  injection he with he; injection he with he1 he2
  subst he1; subst he2
  exact hc
theorem ints_get {l : List Int} {k : Nat} {x : Int} (hk : l[k]? = some x) : (ints l)[k]? = some (.int .i64 x) := by simp [ints, hk]
theorem Own.apart {w : World} {b b' : Nat} {e e' : TypeId} {sz sz' n n' c c' : Nat} {A A' : Option Addr} {xs xs' : List Value} (h : Own w b e sz A n c xs) (h' : Own w b' e' sz' A' n' c' xs') (hne : e ≠ e') : ∀ g, ablk A = some g → ablk A' ≠ some g := by
  intro g hA hA'
  rcases h.2 with ⟨h1, _⟩ | ⟨g1, cap1, cur1, h1, _, hh1, _⟩
  · injection h1 with h1
    subst h1
    cases hA
  · injection h1 with h1
    subst h1
    injection hA with hA
    subst hA
    exact h'.ne_blk (g := g1) (t := e) (cs := cur1) hh1 (fun e2 => hne e2.symm) hA'
theorem pre_toNat {l : List Int} (hv : Within 1 4096 l) (k : Nat) : ((pre l k).toNat : Int) = pre l k := by
  have := pre_mono hv (Nat.zero_le k)
  rw [pre_zero] at this
  omega
theorem planTo_snd (l now want : List Int) (s : Nat) : (planTo l now want (s + 1)).2 = planNow l (planTo l now want s).2 want s := rfl
theorem planTo_fst (l now want : List Int) (s : Nat) : (planTo l now want (s + 1)).1 = (planTo l now want s).1 ++ planOps l (planTo l now want s).2 want s := rfl
theorem getD_of {ws : List Int} {i : Nat} {u : Int} (h : ws[i]? = some u) : ws.getD i 0 = u := by rw [List.getD_eq_getElem?_getD, h]; rfl

set_option maxRecDepth 100000 in
set_option maxHeartbeats 4000000 in
theorem plan_any (A : Option Addr) (cap : Nat) (l : List Int) (W : Option Addr) (d : Nat) (now : List Int) (V : Option Addr) (c : Nat) (want : List Int) (w : World) (hr : RowV w A (ints l)) (hm : l.length ≤ cap) (hcap : cap ≤ 9223372036854775807)
    (hws : RowV w W (ints now)) (hwl : now.length * 8 ≤ 140737488355328) (hvs : RowV w V (ints want)) (hvl : want.length * 8 ≤ 140737488355328) :
    Calls Try.prog 32 #[.agg #[.slice A l.length cap], .slice W now.length d, .slice V want.length c] w fun e w' => ∃ D n, e = .returned (.tuple #[.slice D (planR l now want).length n, .int .i64 (planFault l now want)]) ∧ Own w' w.heap.size 63 3 D (planR l now want).length n (ops (planR l now want)) ∧ Below w.heap.size w w' := by
  have hF0 := Blk.new w 27 #[.slice A l.length cap]
  have hb0 : Below w.heap.size w (w.alloc (.cells #[.slice A l.length cap] 27)) := (Below.refl _ _).alloc (Nat.le_refl _) _
  obtain ⟨fi, hfi⟩ : ∃ f, checkImage l now = f := ⟨_, rfl⟩
  obtain ⟨fo, hfo⟩ : ∃ f, checkImage l want = f := ⟨_, rfl⟩
  obtain ⟨ff, hff⟩ : ∃ f, planFault l now want = f := ⟨_, rfl⟩
  have hfirst : firstBad (fun x => x) [fi, fo] = ff := by rw [← hfi, ← hfo]; exact hff
  have HFI := Lib.hid hfi; have HFO := Lib.hid hfo; have HFIRST := Lib.hid hfirst
  by_cases hz : ff = 0
  · have hz' : (ff != 0) = false := by rw [bne_eq_false_iff_eq]; exact hz
    obtain ⟨ok, ⟨hnl, hni⟩, hwantl, hwanti⟩ := planFault_ok (hff.trans hz)
    have hres : planR l now want = (planTo l now want l.length).1 := by unfold planR; rw [if_pos (hff.trans hz)]
    rw [hres, hff]
    have hv := ok.wit
    have hn := ok.len
    have hsm := ok.sum
    have hnl4 : now.length ≤ 4096 := by omega
    have hwl4 : want.length ≤ 4096 := by omega
    have hnwl : now.length ≤ want.length := by omega
    have hwnl : want.length ≤ now.length := by omega
    obtain ⟨x00, hx00⟩ := get_some want (k := 0) (by have := sumI_bd l hv; have := ok.pos; omega)
    obtain ⟨gV, oV, rfl, _⟩ := hvs.int hx00
    clear hx00
    have HNL := Lib.hid hnl; have HZ := Lib.hid hz
    clear hfi hfo hff hfirst hz hnl hwantl hres
    go_enter Try.func32, Try.ntmps32
    go_wp2_with fail
    go_region_held3 (fun w' => w'.cell? ⟨w.heap.size, 0, none⟩ = some (.slice A l.length cap))
      (first
        | exact hF0.drew.cell 0 rfl
        | exact hF3.cell 0 rfl
        | exact hF2.cell 0 rfl
        | exact (hF2.alloc _).cell 0 rfl
        | exact hF1.cell 0 rfl)
      ((first
        | (go_at_call 17; (with_reducible refine (checkImage_any A cap l W d now _ (hr.belowS hb0.drew) (by omega) (hws.belowS hb0.drew) (by omega)).mono ?_); rintro e w1 ⟨rfl, hb1⟩; rw [HFI.out]; have hF1 := hF0.drew.belowS hb1; have hb1' := hb0.drew.trans (hb1.mono hb0.drew.size))
        | (go_at_call 17; (with_reducible refine (checkImage_any A cap l (some ⟨gV, oV, none⟩) c want _ (hr.belowS hb1') (by omega) (hvs.belowS hb1') (by omega)).mono ?_); rintro e w2 ⟨rfl, hb2⟩; rw [HFO.out]; have hF2 := hF1.belowS hb2; have hb2' := hb1'.trans (hb2.mono hb1'.size))
        | (go_at_call 65; refine (first_any (some ⟨w2.heap.size, 0, none⟩) 2 [fi, fo] _ (RowV.new w2 33 #[.int .i64 fi, .int .i64 fo]) (by simp)).mono ?_; rintro e w3 ⟨rfl, hw3⟩; rw [HFIRST.out]; have hF3 := hF2.alloc (.cells #[.int .i64 fi, .int .i64 fo] 33); have hb3' := hb2'.alloc hb2'.size (.cells #[.int .i64 fi, .int .i64 fo] 33); rw [hw3] at hF3 hb3')))
    go_wp2_with fail
    refine (cloneInts_any W d now _ (hws.belowS hb3') (by omega)).mono ?_
    rintro e w4 ⟨N, n, rfl, hO4, hb4⟩
    obtain ⟨y0, hy0⟩ := get_some now (k := 0) (by have := HNL.out; have := sumI_bd l hv; have := ok.pos; omega)
    obtain ⟨gN, oN, rfl, _⟩ := hO4.row.int hy0
    obtain rfl := hO4.zero
    clear hy0
    have hF4 := hF3.belowS hb4
    have hb4' := hb3'.trans (hb4.mono hb3'.size)
    have hO4' := hO4.mono (b := w.heap.size + 1) (by have := hF3.lt; omega)
    clear hO4 hb4
    have cF4 := hF4.cell 0 rfl
    go_wp2_with fail
    clear cF4
    go_loopg [9, 10, 11, 12, 13, 30] l.length (fun m v _ _ _ _ i wo => ∃ k D c, k + m = l.length ∧ i = .int .i64 (k : Nat) ∧ v = .slice D (planTo l now want k).1.length c ∧ Own wo (w.heap.size + 1) 63 3 D (planTo l now want k).1.length c (ops (planTo l now want k).1) ∧ Own wo (w.heap.size + 1) 3 1 (some ⟨gN, 0, none⟩) now.length n (ints (planTo l now want k).2) ∧
        Blk wo w.heap.size 27 #[.slice A l.length cap] ∧ Below w.heap.size w wo)
    case atStart => exact ⟨0, none, 0, by omega, rfl, rfl, Own.nil _ _ _ _, hO4', hF4, hb4'⟩
    case round =>
      obtain ⟨k, D, c1, hkm, rfl, rfl, hO, hN, hF, hb⟩ := hrel
      clear hO4' hF4 hb4' hF3 hb3' hF2 hb2' hF1 hb1'
      obtain ⟨gk', hgk⟩ : ∃ g, gk = g := ⟨_, rfl⟩
      obtain ⟨wo, hwo⟩ : ∃ x : World, x = wr := ⟨_, rfl⟩
      subst hwo
      by_cases hlt : k < l.length
      · obtain ⟨x0, hx0⟩ := get_some l hlt
        have hbd0 := hv.get hx0
        have hs1 := pre_succ hx0
        have hps := pre_bd hv hn k
        have hps1 := pre_bd hv hn (k + 1)
        have hlenk := planTo_ops_len hv now want k
        have hle1 := pre_le hv (k + 1)
        have hcl : (planTo l now want k).2.length = now.length := planTo_len _ _ _ _
        have hcw := planTo_within (l := l) (want := want) hni k
        have hsz1 : pre l (k + 1) ≤ now.length := by have := HNL.out; omega
        obtain ⟨cur, hcur⟩ : ∃ cur, (planTo l now want k).2 = cur := ⟨_, rfl⟩
        obtain ⟨o1, ho1⟩ : ∃ o1, (planTo l now want k).1 = o1 := ⟨_, rfl⟩
        rw [hcur] at hN hcl hcw
        rw [ho1] at hO hlenk
        rw [ho1]
        obtain ⟨a, ha⟩ : ∃ a : Nat, pre l k = a := ⟨(pre l k).toNat, by omega⟩
        obtain ⟨z, hzz⟩ : ∃ z : Nat, pre l (k + 1) = z := ⟨(pre l (k + 1)).toNat, by omega⟩
        have haz : a < z := by omega
        have hzn : z ≤ now.length := by omega
        have hz4 : z ≤ 81920 := by omega
        have ho1l : o1.length ≤ 5000 := by omega
        have haN : (pre l k).toNat = a := by omega
        have hzN : (pre l (k + 1)).toNat = z := by omega
        have HCL := Lib.hid hcl; have HCUR := Lib.hid hcur; have HO1 := Lib.hid ho1; have HA := Lib.hid ha; have HZZ := Lib.hid hzz; have HAN := Lib.hid haN; have HZN := Lib.hid hzN
        clear hx0 hs1 hcl hcur ho1 ha hzz haN hzN hps hps1 hlenk hle1 hsz1 hbd0
        have cF := hF.cell 0 rfl
        go_wp2_with fail
        refine (window_any A cap l k _ (hr.belowS hb) hv hn hm hlt).mono ?_
        rintro e w5 ⟨rfl, hb5⟩
        have hO5 := hO.keptAll hb5
        have hN5 := hN.keptAll hb5
        have hF5 := hF.belowS hb5
        have hb5' := hb.trans (hb5.mono hb.size)
        rw [HA.out, HZZ.out]
        clear hO hN hF hb cF hb5
        obtain ⟨X, hX⟩ : ∃ X, w5.heap.size = X := ⟨_, rfl⟩
        have hX6 := Blk.new w5 67 #[.int .i64 (a : Int), .int .i64 (z : Int)]
        have hO6 := hO5.alloc (.cells #[.int .i64 (a : Int), .int .i64 (z : Int)] 67)
        have hN6 := hN5.alloc (.cells #[.int .i64 (a : Int), .int .i64 (z : Int)] 67)
        have hF6 := hF5.alloc (.cells #[.int .i64 (a : Int), .int .i64 (z : Int)] 67)
        have hb6 := hb5'.alloc hb5'.size (.cells #[.int .i64 (a : Int), .int .i64 (z : Int)] 67)
        clear hO5 hN5 hF5 hb5'
        go_wp2_with fail
        generalize w5.alloc (.cells #[.int .i64 (a : Int), .int .i64 (z : Int)] 67) = w6 at *
        rw [hX] at hX6
        try rw [hX]
        clear hX
        go_loopg [9, 12] (z - a) (fun m v i wq => ∃ j, a ≤ j ∧ j + m = z ∧ i = .int .i64 (j : Nat) ∧ v = .slice D o1.length c1 ∧ Hid (lackTo cur want a (j - a) = false) ∧ Own wq (w.heap.size + 1) 63 3 D o1.length c1 (ops o1) ∧ Own wq (w.heap.size + 1) 3 1 (some ⟨gN, 0, none⟩) now.length n (ints cur) ∧
            Blk wq w.heap.size 27 #[.slice A l.length cap] ∧ Blk wq X 67 #[.int .i64 (a : Int), .int .i64 (z : Int)] ∧ Below w.heap.size w wq)
        case atStart => exact ⟨a, Nat.le_refl _, by omega, rfl, rfl, (by show _ = _; rw [Nat.sub_self]; rfl), hO6, hN6, hF6, hX6, hb6⟩
        case round =>
          obtain ⟨j, haj, hjm, rfl, rfl, HLK, hO, hN, hF, hX, hb⟩ := hrel
          clear hO6 hN6 hF6 hX6 hb6
          have cX := hX.cell 1 rfl
          have cX0 := hX.cell 0 rfl
          by_cases hjz : j < z
          · obtain ⟨un, hun⟩ := get_some cur (k := j) (by rw [HCL.out]; omega)
            obtain ⟨uw, huw⟩ := get_some want (k := j) (by omega)
            have hunb := hcw.get hun
            have huwb := hwanti.get huw
            have hcN := hN.cell0 (ints_get hun)
            have hcV := (hvs.belowS hb).intAt huw
            have hdn := getD_of hun
            have hdw := getD_of huw
            have hj1 : (j : Int) < (now.length : Int) := by omega
            have hj2 : (j : Int) < (want.length : Int) := by omega
            have hj0 : (0 : Int) ≤ (j : Int) := by omega
            have hje : a + (j - a) = j := by omega
            have hjs : j + 1 - a = (j - a) + 1 := by omega
            have hal := andNot_lack hunb.1 hunb.2 huwb.1 huwb.2
            cases hlk : lackI un uw
            · rw [hlk] at hal
              have hl2 : lackTo cur want a (j + 1 - a) = false := by rw [hjs, lackTo_succ, HLK.out, hje, hdn, hdw, hlk]; rfl
              have HL2 := Lib.hid hl2
              clear hl2 hlk hdn hdw hje hjs hun huw
              go_wp2_with fail
              go_quiet (fail)
              go_wp2_with fail
              go_roundg (gk - 1)
              case measure => omega
              case rel => exact ⟨j + 1, by omega, by omega, by go_num, rfl, HL2, hO.drewN _, hN.drewN _, hF.drewN _, hX.drewN _, hb.trans ⟨rfl, rfl, rfl, Nat.le_refl _, fun _ _ => rfl⟩⟩
            · rw [hlk] at hal
              have hlt2 : lackTo cur want a (z - a) = true := lackTo_hit (m := j - a) (by omega) (by rw [hje, hdn, hdw]; exact hlk)
              have hpn : planNow l cur want k = eraseV l cur k := by unfold planNow; rw [HAN.out, HZN.out, if_pos hlt2]
              have hpo : planOps l cur want k = [⟨1, (k : Int), 0⟩] ++ progTo (planNow l cur want k) want a (z - a) := by unfold planOps; rw [HAN.out, HZN.out, if_pos hlt2]
              have HPN := Lib.hid hpn; have HPO := Lib.hid hpo
              clear hlt2 hpn hpo hlk hdn hdw hje hjs hun huw
              go_wp2_with fail
              go_quiet (fail)
              go_wp2_with (at_builtin; refine wpList_app _ rfl _ _ _ rfl (w.heap.size + 1) 63 (.agg #[.int .i64 0, .int .i64 0, .int .i64 0]) 3 24 Try.underlying30 info_op rfl (by omega) D o1.length c1 _ rfl ((hO.drewN _).alloc _) _ 1 1 (FOp.cells ⟨1, k, 0⟩) rfl rfl (RowV.new (wr.drewN _) _ _) (by simp [FOp.cells, Value.oneCell']) (by unfold maxLen; omega) (by omega) (by have := hb.size; have := hF.lt; simp; omega) ?_; intro D7 c7 w7 hO7 hg7 _; have hg7' : wr.grownBy w7 (ablk D) := grown_trans (World.grownBy_alloc wr (.cells (FOp.cells ⟨1, k, 0⟩).toArray 63) _) (show (wr.alloc (.cells (FOp.cells ⟨1, k, 0⟩).toArray 63)).grownBy w7 (ablk D) from ⟨hg7.os, hg7.tape, hg7.output, hg7.size, hg7.block⟩); have hF7 := hF.grown hg7' (fun e => hO.ne_blk hF (by decide) e.symm); have cF7 := hF7.cell 0 rfl)
              have hX7 := hX.grown hg7' (fun e => hO.ne_blk hX (by decide) e.symm)
              have hN7 := hN.kept hg7' (fun g hA => hN.apart hO (by decide) g hA)
              have hb7 : Below w.heap.size w w7 := hb.grown hg7' hb.size (fun g hg => by have := (hO.low _ hg).1; omega)
              clear hg7 hg7' hO hN hF hX hb
              have hN7' : Own w7 (w.heap.size + 1) 3 1 (some ⟨gN, 0, none⟩) cur.length n (ints cur) := by rw [HCL.out]; exact hN7
              have herase := erase_any A cap l k (some ⟨gN, 0, none⟩) n cur (w.heap.size + 1) w7 (hr.belowS hb7) hv hn hm hlt hN7' (by rw [HZZ.out, HCL.out]; omega)
              rw [HCL.out] at herase
              refine herase.mono ?_
              rintro e w8 ⟨rfl, hN8, hg8⟩
              have hF8 := hF7.grown hg8 (fun e => hN7.ne_blk hF7 (by decide) e.symm)
              have hX8 := hX7.grown hg8 (fun e => hN7.ne_blk hX7 (by decide) e.symm)
              have hO8 := hO7.kept hg8 (fun g hA e => hO7.apart hN7 (by decide) g hA e)
              have hb8 : Below w.heap.size w w8 := hb7.grown hg8 hb7.size (fun g hg => by have := (hN7.low _ hg).1; omega)
              clear hN7' herase hg8 hF7 hX7 hO7 hN7 hb7 cF7
              have cX8 := hX8.cell 0 rfl
              obtain ⟨nw, hnw⟩ : ∃ nw, eraseV l cur k = nw := ⟨_, rfl⟩
              obtain ⟨o2, ho2⟩ : ∃ o2, o1 ++ [⟨1, (k : Int), 0⟩] = o2 := ⟨_, rfl⟩
              have hNWW : Within 0 65535 nw := by rw [← hnw]; exact eraseV_within hcw
              have hnwl : nw.length = now.length := by rw [← hnw, eraseV_len]; exact HCL.out
              have HNW := Lib.hid hnwl; clear hnwl
              have ho2l : o2.length = o1.length + 1 := by rw [← ho2]; simp
              have hNow : Own w8 (w.heap.size + 1) 3 1 (some ⟨gN, 0, none⟩) now.length n (ints nw) := by rw [← hnw]; exact hN8
              have hOut : Own w8 (w.heap.size + 1) 63 3 D7 o2.length c7 (ops o2) := by rw [ho2l, ← ho2, ops_snoc]; exact hO8
              have hFz := hF8; have hXz := hX8; have hbz := hb8
              have hn2 : nw = (planTo l now want (k + 1)).2 := by rw [planTo_snd, HCUR.out, HPN.out]; exact hnw.symm
              have ho22 : (planTo l now want k).1 ++ planOps l (planTo l now want k).2 want k = o2 ++ progTo nw want a (z - a) := by rw [HO1.out, HCUR.out, HPO.out, HPN.out, hnw, ← List.append_assoc, ho2]
              have HO2 := Lib.hid ho22; have HN2 := Lib.hid hn2
              have ho2e : o1.length + 1 = o2.length := ho2l.symm
              rw [ho2e]
              have ho2b : o2.length ≤ 5001 := by omega
              clear ho22 hn2 hN8 hO8 hF8 hX8 hb8 hnw ho2 ho2l ho2e HLK
              obtain ⟨D2, hD2⟩ : ∃ D2, D2 = D7 := ⟨_, rfl⟩
              obtain ⟨c2, hc2⟩ : ∃ c2, c2 = c7 := ⟨_, rfl⟩
              subst hD2; subst hc2
              -- the third loop: the words of the sector
              go_wp2_with fail
              go_loopg [9, 13] (z - a) (fun m v i wq => ∃ j D3 c3, a ≤ j ∧ j + m = z ∧ i = .int .i64 (j : Nat) ∧ v = .slice D3 (o2 ++ progTo nw want a (j - a)).length c3 ∧ Own wq (w.heap.size + 1) 63 3 D3 (o2 ++ progTo nw want a (j - a)).length c3 (ops (o2 ++ progTo nw want a (j - a))) ∧ Own wq (w.heap.size + 1) 3 1 (some ⟨gN, 0, none⟩) now.length n (ints nw) ∧
                  Blk wq w.heap.size 27 #[.slice A l.length cap] ∧ Blk wq X 67 #[.int .i64 (a : Int), .int .i64 (z : Int)] ∧ Below w.heap.size w wq)
              case atStart => exact ⟨a, D2, c2, Nat.le_refl _, by omega, rfl, by simp [progTo], by simpa [progTo] using hOut, hNow, hFz, hXz, hbz⟩
              case round =>
                obtain ⟨j, D3, c3, haj, hjm, rfl, rfl, hO3, hN3, hF3, hX3, hb3⟩ := hrel
                clear hOut hNow hFz hXz hbz
                have cX3 := hX3.cell 1 rfl
                by_cases hjz : j < z
                · obtain ⟨un, hun⟩ := get_some nw (k := j) (by rw [HNW.out]; omega)
                  obtain ⟨uw, huw⟩ := get_some want (k := j) (by omega)
                  have hunb := hNWW.get hun
                  have huwb := hwanti.get huw
                  have hcN := hN3.cell0 (ints_get hun)
                  have hcV := (hvs.belowS hb3).intAt huw
                  have hdn := getD_of hun
                  have hdw := getD_of huw
                  have hj1 : (j : Int) < (now.length : Int) := by omega
                  have hj2 : (j : Int) < (want.length : Int) := by omega
                  have hj0 : (0 : Int) ≤ (j : Int) := by omega
                  have hpl := progTo_len nw want a (j - a)
                  have hje : a + (j - a) = j := by omega
                  have hjs : j + 1 - a = (j - a) + 1 := by omega
                  by_cases hne : un = uw
                  · have hne' : (un != uw) = false := by rw [bne_eq_false_iff_eq]; exact hne
                    have hp : progTo nw want a (j + 1 - a) = progTo nw want a (j - a) := by rw [hjs]; exact progTo_same (by rw [hje, hdn, hdw]; exact hne)
                    have HP := Lib.hid hp
                    clear hp hne hdn hdw hje hjs hun huw
                    go_wp2_with fail
                    go_quiet (fail)
                    go_wp2_with fail
                    go_roundg (gk - 1)
                    case measure => omega
                    case rel => exact ⟨j + 1, D3, c3, by omega, by omega, by go_num, by rw [HP.out], by rw [HP.out]; exact hO3.drewN _, hN3.drewN _, hF3.drewN _, hX3.drewN _, hb3.trans ⟨rfl, rfl, rfl, Nat.le_refl _, fun _ _ => rfl⟩⟩
                  · have hne' : (un != uw) = true := by rw [bne_iff_ne]; exact hne
                    have hp : progTo nw want a (j + 1 - a) = progTo nw want a (j - a) ++ [⟨2, (j : Int), uw⟩] := by rw [hjs, progTo_diff (by rw [hje, hdn, hdw]; exact hne), hje, hdw]
                    have HP := Lib.hid hp
                    have hlen3 : (o2 ++ progTo nw want a (j - a)).length ≤ 10000 := by rw [List.length_append]; omega
                    clear hp hne hdn hdw hje hjs hun huw
                    obtain ⟨lst, hlst⟩ : ∃ lst, o2 ++ progTo nw want a (j - a) = lst := ⟨_, rfl⟩
                    rw [hlst] at hO3 hlen3
                    rw [hlst]
                    have HLST := Lib.hid hlst; clear hlst
                    go_wp2_with fail
                    go_quiet (fail)
                    go_wp2_with (at_builtin; refine wpList_app _ rfl _ _ _ rfl (w.heap.size + 1) 63 (.agg #[.int .i64 0, .int .i64 0, .int .i64 0]) 3 24 Try.underlying30 info_op rfl (by omega) D3 lst.length c3 _ rfl ((hO3.drewN _).alloc _) _ 1 1 (FOp.cells ⟨2, j, uw⟩) rfl rfl (RowV.new (wr.drewN _) _ _) (by simp [FOp.cells, Value.oneCell']) (by unfold maxLen; omega) (by omega) (by have := hb3.size; have := hF3.lt; simp; omega) ?_; intro D5 c5 w5 hO5 hg5 _)
                    have hbA : Below w.heap.size w (wr.alloc (.cells (FOp.cells ⟨2, j, uw⟩).toArray 63)) := hb3.alloc hb3.size _
                    have hg5' : wr.grownBy w5 (ablk D3) := grown_trans (World.grownBy_alloc wr _ _) (show (wr.alloc (.cells (FOp.cells ⟨2, j, uw⟩).toArray 63)).grownBy w5 (ablk D3) from ⟨hg5.os, hg5.tape, hg5.output, hg5.size, hg5.block⟩)
                    have hF5 := hF3.grown hg5' (fun e => hO3.ne_blk hF3 (by decide) e.symm)
                    have hX5 := hX3.grown hg5' (fun e => hO3.ne_blk hX3 (by decide) e.symm)
                    have hN5 := hN3.kept hg5' (fun g hA => hN3.apart hO3 (by decide) g hA)
                    have hb5 : Below w.heap.size w w5 := hb3.grown hg5' hb3.size (fun g hg => by have := (hO3.low _ hg).1; omega)
                    go_roundg (gk - 1)
                    case measure => omega
                    case rel =>
                      have he : o2 ++ progTo nw want a (j + 1 - a) = lst ++ [⟨2, (j : Int), uw⟩] := by rw [HP.out, ← HLST.out, List.append_assoc]
                      exact ⟨j + 1, D5, c5, by omega, by omega, by go_num, by rw [he]; simp, by rw [he, ops_snoc, List.length_append]; exact hO5, hN5, hF5, hX5, hb5⟩
                · obtain rfl : j = z := by omega
                  go_wp2_with fail
                  go_roundg (gk' - 1)
                  case measure => omega
                  case rel =>
                    have he : o2 ++ progTo nw want a (j - a) = (planTo l now want (k + 1)).1 := by rw [planTo_fst, HO2.out]
                    have hn2 : nw = (planTo l now want (k + 1)).2 := HN2.out
                    exact ⟨k + 1, D3, c3, by omega, by go_num, by rw [he], by rw [← he]; exact hO3, by rw [← hn2]; exact hN3, hF3, hb3⟩
          · obtain rfl : z = j := by omega
            have hlf : lackTo cur want a (z - a) = false := HLK.out
            have hpn : planNow l cur want k = cur := by unfold planNow; rw [HAN.out, HZN.out, hlf]; rfl
            have hpo : planOps l cur want k = [] ++ progTo (planNow l cur want k) want a (z - a) := by unfold planOps; rw [HAN.out, HZN.out, hlf]; rfl
            have hn2 : cur = (planTo l now want (k + 1)).2 := by rw [planTo_snd, HCUR.out, hpn]
            have ho22 : (planTo l now want k).1 ++ planOps l (planTo l now want k).2 want k = o1 ++ progTo cur want a (z - a) := by rw [HO1.out, HCUR.out, hpo, hpn, List.nil_append]
            have HO2 := Lib.hid ho22; have HN2 := Lib.hid hn2
            have HNW := HCL
            have hNWW := hcw
            have hOut := hO; have hNow := hN; have hFz := hF; have hXz := hX; have hbz := hb
            have ho2b : o1.length ≤ 5001 := by omega
            clear hlf hpn hpo hn2 ho22 hO hN hF hX hb HLK HCUR HO1 HCL hcw ho1l
            obtain ⟨nw, hnw⟩ : ∃ nw, nw = cur := ⟨_, rfl⟩
            obtain ⟨o2, ho2⟩ : ∃ o2, o2 = o1 := ⟨_, rfl⟩
            obtain ⟨D2, hD2⟩ : ∃ D2, D2 = D := ⟨_, rfl⟩
            obtain ⟨c2, hc2⟩ : ∃ c2, c2 = c1 := ⟨_, rfl⟩
            subst hnw; subst ho2; subst hD2; subst hc2
            -- the third loop: the words of the sector
            go_wp2_with fail
            go_loopg [9, 13] (z - a) (fun m v i wq => ∃ j D3 c3, a ≤ j ∧ j + m = z ∧ i = .int .i64 (j : Nat) ∧ v = .slice D3 (o2 ++ progTo nw want a (j - a)).length c3 ∧ Own wq (w.heap.size + 1) 63 3 D3 (o2 ++ progTo nw want a (j - a)).length c3 (ops (o2 ++ progTo nw want a (j - a))) ∧ Own wq (w.heap.size + 1) 3 1 (some ⟨gN, 0, none⟩) now.length n (ints nw) ∧
                Blk wq w.heap.size 27 #[.slice A l.length cap] ∧ Blk wq X 67 #[.int .i64 (a : Int), .int .i64 (z : Int)] ∧ Below w.heap.size w wq)
            case atStart => exact ⟨a, D2, c2, Nat.le_refl _, by omega, rfl, by simp [progTo], by simpa [progTo] using hOut, hNow, hFz, hXz, hbz⟩
            case round =>
              obtain ⟨j, D3, c3, haj, hjm, rfl, rfl, hO3, hN3, hF3, hX3, hb3⟩ := hrel
              clear hOut hNow hFz hXz hbz
              have cX3 := hX3.cell 1 rfl
              by_cases hjz : j < z
              · obtain ⟨un, hun⟩ := get_some nw (k := j) (by rw [HNW.out]; omega)
                obtain ⟨uw, huw⟩ := get_some want (k := j) (by omega)
                have hunb := hNWW.get hun
                have huwb := hwanti.get huw
                have hcN := hN3.cell0 (ints_get hun)
                have hcV := (hvs.belowS hb3).intAt huw
                have hdn := getD_of hun
                have hdw := getD_of huw
                have hj1 : (j : Int) < (now.length : Int) := by omega
                have hj2 : (j : Int) < (want.length : Int) := by omega
                have hj0 : (0 : Int) ≤ (j : Int) := by omega
                have hpl := progTo_len nw want a (j - a)
                have hje : a + (j - a) = j := by omega
                have hjs : j + 1 - a = (j - a) + 1 := by omega
                by_cases hne : un = uw
                · have hne' : (un != uw) = false := by rw [bne_eq_false_iff_eq]; exact hne
                  have hp : progTo nw want a (j + 1 - a) = progTo nw want a (j - a) := by rw [hjs]; exact progTo_same (by rw [hje, hdn, hdw]; exact hne)
                  have HP := Lib.hid hp
                  clear hp hne hdn hdw hje hjs hun huw
                  go_wp2_with fail
                  go_quiet (fail)
                  go_wp2_with fail
                  go_roundg (gk - 1)
                  case measure => omega
                  case rel => exact ⟨j + 1, D3, c3, by omega, by omega, by go_num, by rw [HP.out], by rw [HP.out]; exact hO3.drewN _, hN3.drewN _, hF3.drewN _, hX3.drewN _, hb3.trans ⟨rfl, rfl, rfl, Nat.le_refl _, fun _ _ => rfl⟩⟩
                · have hne' : (un != uw) = true := by rw [bne_iff_ne]; exact hne
                  have hp : progTo nw want a (j + 1 - a) = progTo nw want a (j - a) ++ [⟨2, (j : Int), uw⟩] := by rw [hjs, progTo_diff (by rw [hje, hdn, hdw]; exact hne), hje, hdw]
                  have HP := Lib.hid hp
                  have hlen3 : (o2 ++ progTo nw want a (j - a)).length ≤ 10000 := by rw [List.length_append]; omega
                  clear hp hne hdn hdw hje hjs hun huw
                  obtain ⟨lst, hlst⟩ : ∃ lst, o2 ++ progTo nw want a (j - a) = lst := ⟨_, rfl⟩
                  rw [hlst] at hO3 hlen3
                  rw [hlst]
                  have HLST := Lib.hid hlst; clear hlst
                  go_wp2_with fail
                  go_quiet (fail)
                  go_wp2_with (at_builtin; refine wpList_app _ rfl _ _ _ rfl (w.heap.size + 1) 63 (.agg #[.int .i64 0, .int .i64 0, .int .i64 0]) 3 24 Try.underlying30 info_op rfl (by omega) D3 lst.length c3 _ rfl ((hO3.drewN _).alloc _) _ 1 1 (FOp.cells ⟨2, j, uw⟩) rfl rfl (RowV.new (wr.drewN _) _ _) (by simp [FOp.cells, Value.oneCell']) (by unfold maxLen; omega) (by omega) (by have := hb3.size; have := hF3.lt; simp; omega) ?_; intro D5 c5 w5 hO5 hg5 _)
                  have hbA : Below w.heap.size w (wr.alloc (.cells (FOp.cells ⟨2, j, uw⟩).toArray 63)) := hb3.alloc hb3.size _
                  have hg5' : wr.grownBy w5 (ablk D3) := grown_trans (World.grownBy_alloc wr _ _) (show (wr.alloc (.cells (FOp.cells ⟨2, j, uw⟩).toArray 63)).grownBy w5 (ablk D3) from ⟨hg5.os, hg5.tape, hg5.output, hg5.size, hg5.block⟩)
                  have hF5 := hF3.grown hg5' (fun e => hO3.ne_blk hF3 (by decide) e.symm)
                  have hX5 := hX3.grown hg5' (fun e => hO3.ne_blk hX3 (by decide) e.symm)
                  have hN5 := hN3.kept hg5' (fun g hA => hN3.apart hO3 (by decide) g hA)
                  have hb5 : Below w.heap.size w w5 := hb3.grown hg5' hb3.size (fun g hg => by have := (hO3.low _ hg).1; omega)
                  go_roundg (gk - 1)
                  case measure => omega
                  case rel =>
                    have he : o2 ++ progTo nw want a (j + 1 - a) = lst ++ [⟨2, (j : Int), uw⟩] := by rw [HP.out, ← HLST.out, List.append_assoc]
                    exact ⟨j + 1, D5, c5, by omega, by omega, by go_num, by rw [he]; simp, by rw [he, ops_snoc, List.length_append]; exact hO5, hN5, hF5, hX5, hb5⟩
              · obtain rfl : j = z := by omega
                go_wp2_with fail
                go_roundg (gk' - 1)
                case measure => omega
                case rel =>
                  have he : o2 ++ progTo nw want a (j - a) = (planTo l now want (k + 1)).1 := by rw [planTo_fst, HO2.out]
                  have hn2 : nw = (planTo l now want (k + 1)).2 := HN2.out
                  exact ⟨k + 1, D3, c3, by omega, by go_num, by rw [he], by rw [← he]; exact hO3, by rw [← hn2]; exact hN3, hF3, hb3⟩
      · obtain rfl : k = l.length := by omega
        go_wp2_with fail
        go_ret2
        rw [HZ.out]
        exact ⟨D, c1, rfl, hO.mono (by omega), hb⟩
  · have hz' : (ff != 0) = true := by rw [bne_iff_ne]; exact hz
    have hres : planR l now want = [] := by unfold planR; rw [if_neg (by rw [hff]; exact hz)]
    rw [hres, hff]
    clear hfi hfo hff hfirst hz hres
    go_enter Try.func32, Try.ntmps32
    go_wp2_with fail
    go_region_held3 (fun w' => w'.cell? ⟨w.heap.size, 0, none⟩ = some (.slice A l.length cap))
      (first
        | exact hF0.drew.cell 0 rfl
        | exact hF3.cell 0 rfl
        | exact hF2.cell 0 rfl
        | exact (hF2.alloc _).cell 0 rfl
        | exact hF1.cell 0 rfl)
      ((first
        | (go_at_call 17; (with_reducible refine (checkImage_any A cap l W d now _ (hr.belowS hb0.drew) (by omega) (hws.belowS hb0.drew) (by omega)).mono ?_); rintro e w1 ⟨rfl, hb1⟩; rw [HFI.out]; have hF1 := hF0.drew.belowS hb1; have hb1' := hb0.drew.trans (hb1.mono hb0.drew.size))
        | (go_at_call 17; (with_reducible refine (checkImage_any A cap l V c want _ (hr.belowS hb1') (by omega) (hvs.belowS hb1') (by omega)).mono ?_); rintro e w2 ⟨rfl, hb2⟩; rw [HFO.out]; have hF2 := hF1.belowS hb2; have hb2' := hb1'.trans (hb2.mono hb1'.size))
        | (go_at_call 65; refine (first_any (some ⟨w2.heap.size, 0, none⟩) 2 [fi, fo] _ (RowV.new w2 33 #[.int .i64 fi, .int .i64 fo]) (by simp)).mono ?_; rintro e w3 ⟨rfl, hw3⟩; rw [HFIRST.out]; have hF3 := hF2.alloc (.cells #[.int .i64 fi, .int .i64 fo] 33); have hb3' := hb2'.alloc hb2'.size (.cells #[.int .i64 fi, .int .i64 fo] 33); rw [hw3] at hF3 hb3')))
    go_wp2_with fail
    go_ret2
    exact ⟨none, 0, rfl, Own.nil _ _ _ _, hb3'⟩
end Go.Proofs.Ytmnhlfkphibhfaa
