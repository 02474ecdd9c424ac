/-
  slices.Delete of one element, of cycles: what stands in memory behind the call. Conditions: the slice's row is the caller's own, and the element is in it.
-/
import Derived.Test.YtmnhlfkphibhfaaChecked
import Derived.Test.YtmnhlfkphibhfaaKB2
import Derived.Lib.SliceRun
import Derived.Deep.RegionLaw
import Derived.RegionTactic
import Derived.Deep.QuietTactic
import Derived.BigQuiet
import Derived.Test.YtmnhlfkphibhfaaKB1
import Derived.Test.YtmnhlfkphibhfaaProg
namespace Go.Proofs.Ytmnhlfkphibhfaa
open Go.RowKit
set_option linter.unusedVariables false
set_option linter.unusedSimpArgs false
variable {P : Program}
theorem ownsRow_setCells {base sz g n cap : Nat} {e : TypeId} : ∀ (vs : List Value) (o : Nat) (w : World) (xs : List Value), w.ownsRow base e sz (.slice (some ⟨g, 0, none⟩) n cap) n xs →
    (w.setCells g o vs).ownsRow base e sz (.slice (some ⟨g, 0, none⟩) n cap) n (splice xs o vs) ∧ w.grownBy (w.setCells g o vs) (some g)
  | [], o, w, xs, h => ⟨h, World.grownBy.refl _ _⟩
  | v :: r, o, w, xs, h => by
    obtain ⟨h1, h2⟩ := h.stored o v
    obtain ⟨h3, h4⟩ := ownsRow_setCells r (o + 1) _ _ h1
    refine ⟨h3, ⟨h4.os.trans h2.os, h4.tape.trans h2.tape, h4.output.trans h2.output, Nat.le_trans h2.size h4.size, fun k hk hne => ?_⟩⟩
    rw [World.setCells, h4.block k (Nat.lt_of_lt_of_le hk h2.size) hne, h2.block k hk hne]
theorem ownsRow_less {w : World} {base sz g n cap m : Nat} {e : TypeId} {xs : List Value} (h : w.ownsRow base e sz (.slice (some ⟨g, 0, none⟩) n cap) n xs) (hm : m ≤ n) : w.ownsRow base e sz (.slice (some ⟨g, 0, none⟩) m cap) m (xs.take (m * sz)) := by
  have hms : m * sz ≤ n * sz := Nat.mul_le_mul_right _ hm
  rcases h.2 with ⟨h', _⟩ | ⟨g', cap', cur, h', hb, hg, hnc, hcm, hcs, htake⟩
  · simp at h'
  · simp only [Value.slice.injEq, Option.some.injEq, Addr.mk.injEq, and_true, true_and] at h'
    obtain ⟨rfl, rfl⟩ := h'
    refine ⟨by rw [List.length_take, h.1]; omega, .inr ⟨g, cap, cur, rfl, hb, hg, by omega, hcm, hcs, ?_⟩⟩
    rw [← htake, List.take_take, Nat.min_eq_left hms]
theorem ownsRow_cap {w : World} {base sz g n cap : Nat} {e : TypeId} {xs : List Value} (h : w.ownsRow base e sz (.slice (some ⟨g, 0, none⟩) n cap) n xs) : n ≤ cap ∧ cap ≤ maxLen ∧ base ≤ g ∧ ∀ j, j < cap * sz → (w.cell? ⟨g, j, none⟩).isSome = true := by
  rcases h.2 with ⟨h', _⟩ | ⟨g', cap', cur, h', hb, hg, hnc, hcm, hcs, htake⟩
  · simp at h'
  · simp only [Value.slice.injEq, Option.some.injEq, Addr.mk.injEq, and_true, true_and] at h'
    obtain ⟨rfl, rfl⟩ := h'
    refine ⟨hnc, hcm, hb, fun j hj => ?_⟩
    simp [World.cell?, hg, hcs, hj]
/-- 'clear' of elements of any size -/
theorem run_clear_wide (w : World) (t e ty : TypeId) (z : Value) (zs : List Value) (ht : P.underlying t = some (.slice e)) (hv : ∀ w, (zeroValue e).run P w = .ok z w) (b o n c : Nat) (hn : 0 < n) (hzs : (Builtin.zeroCells z.cells n).toList = zs)
    (h1 : ∀ v ∈ zs, v.oneCell' = true) (hc : ∀ j, j < zs.length → (w.cell? ⟨b, o + j, none⟩).isSome = true) (hf : ∀ j, j < zs.length → w.frozen? ⟨b, o + j, none⟩ = false) :
    (Builtin.clear_ #[t] ty #[.slice (some ⟨b, o, none⟩) n c]).run P w = .ok (.tuple #[]) (w.setCells b o zs) := by
  have hst := run_storeCells_cells (P := P) b o zs 0 w (by simpa using hc) (by simpa using hf) h1
  simp only [Nat.add_zero] at hst
  obtain ⟨m, rfl⟩ : ∃ m, n = m + 1 := ⟨n - 1, by omega⟩
  simp [Builtin.clear_, run_underlying ht, hv, hzs, hst]
section
theorem zeroCyc (w : World) : (zeroValue 82).run Try.prog w = .ok (.agg #[.int .i64 0, .int .i64 0]) w := by kernel_rfl
theorem undCycs : Try.prog.underlying 76 = some (.slice 82) := by kernel_rfl
theorem infoCyc : (Try.prog.info? 82).map (fun i => (i.zero, i.size, i.bytes)) = some (some (.agg #[.int .i64 0, .int .i64 0]), 2, 16) := by kernel_rfl
end
set_option maxHeartbeats 4000000 in
set_option maxRecDepth 100000 in
theorem deleteC_any (g n cap i j : Nat) (xs : List Value) (w : World) (hown : w.ownsRow 0 82 2 (.slice (some ⟨g, 0, none⟩) n cap) n xs) (h1c : ∀ u ∈ xs, u.oneCell' = true) (hj : j = i + 1) (hi : i < n) :
    Calls Try.prog 79 #[.slice (some ⟨g, 0, none⟩) n cap, .int .i64 i, .int .i64 j] w fun e w' => e = .returned (.slice (some ⟨g, 0, none⟩) (n - 1) cap) ∧
      w'.ownsRow 0 82 2 (.slice (some ⟨g, 0, none⟩) (n - 1) cap) (n - 1) (xs.take (i * 2) ++ xs.drop (j * 2)) ∧ w.grownBy w' (some g) := by
  obtain ⟨hnc, hcm, _, hcells⟩ := ownsRow_cap hown
  have hxl := hown.1
  have hcm' : cap ≤ 9223372036854775807 := hcm
  obtain ⟨i0, hi0, hz0, hz1, hz2⟩ := info_parts infoCyc
  obtain ⟨news, hnews⟩ : ∃ news, news = xs.drop (j * 2) := ⟨_, rfl⟩
  have hnl : news.length = (n - j) * 2 := by rw [hnews, List.length_drop, hxl]; omega
  obtain ⟨A, hA, hsrc⟩ : ∃ A : Addr, (if cap = j then some (⟨g, 0, none⟩ : Addr) else some ⟨g, j * 2, none⟩) = some A ∧ Hid (∀ t u, news[t]? = some u → w.drew.cell? (A.add t) = some u) := by
    by_cases h : cap = j
    · refine ⟨⟨g, 0, none⟩, by simp [h], fun t u hu => ?_⟩
      have h0 : news.length = 0 := by rw [hnl]; omega
      rw [List.length_eq_zero_iff.1 h0] at hu
      simp at hu
    · refine ⟨⟨g, j * 2, none⟩, by simp [h], fun t u hu => ?_⟩
      have ht : t < news.length := (List.getElem?_eq_some_iff.1 hu).1
      rw [Addr.add_lit]
      show w.cell? _ = _
      rw [hown.cellAt _ (by omega), ← hu, hnews, List.getElem?_drop]
  have s1 : Hid (news.length = (n - j) * 2) := hnl
  have s2 : Hid (∀ u ∈ news, u.oneCell' = true) := fun u hu => h1c u (by rw [hnews] at hu; exact List.mem_of_mem_drop hu)
  have s3 : Hid (∀ t, t < news.length → (w.drew.cell? ⟨g, 0 + i * 2 + t, none⟩).isSome = true ∧ w.drew.frozen? ⟨g, 0 + i * 2 + t, none⟩ = false) := fun t ht => ⟨hcells _ (by omega), hown.frozenAt _⟩
  obtain ⟨W1, hW1⟩ : ∃ W1, W1 = w.drew.setCells g (0 + i * 2) news := ⟨_, rfl⟩
  have hO1 := ownsRow_setCells news (0 + i * 2) w.drew xs hown.drew
  rw [← hW1, splice_eq _ _ _ (by omega), Nat.zero_add] at hO1
  obtain ⟨hO1, hG1⟩ := hO1
  obtain ⟨_, _, _, hcells1⟩ := ownsRow_cap hO1
  have hcl : ∀ ty, (Builtin.clear_ #[76] ty #[.slice (some ⟨g, (i + (n - j)) * 2, none⟩) (n - (i + (n - j))) (cap - (i + (n - j)))]).run Try.prog W1 = .ok (.tuple #[]) (W1.setCells g ((i + (n - j)) * 2) [.int .i64 0, .int .i64 0]) := fun ty =>
    run_clear_wide W1 _ _ ty _ _ undCycs zeroCyc g _ _ _ (by omega) (by rw [show n - (i + (n - j)) = 1 by omega]; kernel_rfl) (by intro v hv; simp at hv; subst hv; rfl) (fun j hj => hcells1 _ (by simp at hj; omega)) (fun j hj => hO1.frozenAt _)
  have hO2 := ownsRow_setCells [.int .i64 0, .int .i64 0] ((i + (n - j)) * 2) W1 _ hO1
  have hW : Hid (W1 = w.drew.setCells g (0 + i * 2) news) := hW1
  have XX := Lib.hid (And.intro hO2 hG1)
  have Y := Lib.hid (And.intro hown (And.intro hxl (And.intro hnews hnl)))
  have hic : i ≤ cap := by omega
  have hjc : j ≤ cap := by omega
  have hij : i < j := by omega
  have hin : i < n := hi
  have hicl : i < cap := by omega
  have hjn : j ≤ n := by omega
  have HJ := Lib.hid (And.intro hj hi)
  clear hj hi hW1 hO1 hcells hcells1 hO2 hG1 hown hxl hnews hnl h1c
  go_enter Try.func79, Try.ntmps79
  go_wp2_with fail
  go_region_law (refine step_append_room rfl (.tmp 22) (.tmp 25) 76 rfl 82 i0 2 undCycs hi0 hz1 g 0 i cap (by simp [Act.eval, Act.put]) A (n - j) (cap - j) news (by simp [Act.eval, Act.put]) s1.out hsrc.out s2.out (by omega) s3.out ?_; rw [← hW.out])
  go_wp2_with fail
  go_ret
  obtain ⟨hj, hi⟩ := HJ.out
  obtain ⟨⟨hO2, hG2⟩, hG1⟩ := XX.out
  obtain ⟨hown, hxl, hnews, hnl⟩ := Y.out
  have e1 : i + (n - j) = n - 1 := by omega
  rw [e1] at hO2 hG2 ⊢
  refine ⟨rfl, ?_, ⟨hG2.os.trans hG1.os, hG2.tape.trans hG1.tape, hG2.output.trans hG1.output, Nat.le_trans hG1.size hG2.size, fun k hk hne => (hG2.block k (Nat.lt_of_lt_of_le hk hG1.size) hne).trans (hG1.block k hk hne)⟩⟩
  have h3 := ownsRow_less hO2 (show n - 1 ≤ n by omega)
  have hL : (List.take (i * 2) xs ++ news ++ List.drop (i * 2 + news.length) xs).length = n * 2 := by
    simp only [List.length_append, List.length_take, List.length_drop]; omega
  have hL1 : (List.take (i * 2) xs ++ news).length = (n - 1) * 2 := by
    simp only [List.length_append, List.length_take]; omega
  rw [splice_eq _ _ _ (by rw [hL]; simp; omega), List.append_assoc, List.take_append_of_le_length (by rw [List.length_take, hL]; omega), List.take_take, Nat.min_self, List.take_append_of_le_length (by omega), List.take_of_length_le (by omega)] at h3
  rw [← hnews]
  exact h3
theorem cell_del {xs : List Value} {n i a b : Nat} (hx : xs.length = n * 2) (hi : i < n) (ha : a < n - 1) (hb : b < 2) : (xs.take (i * 2) ++ xs.drop ((i + 1) * 2))[a * 2 + b]? = xs[(if a < i then a else a + 1) * 2 + b]? := by
  rw [List.getElem?_append, List.length_take, hx, Nat.min_eq_left (by omega)]
  by_cases h : a < i
  · rw [if_pos (by omega), if_pos h, List.getElem?_take, if_pos (by omega)]
  · rw [if_neg (by omega), if_neg h, List.getElem?_drop]
    congr 1
    omega
theorem deleteC_c {id n nid i : Nat} {g h : Nat → Int} (hid : id < nid) (hi : i < n) :
    ACall Try.prog 79 [.sl id 0 n, .int .i64 i, .int .i64 ((i : Int) + 1)] [(id, some (.arr 82 n [.i .i64 g, .i .i64 h]))] nid (.sl nid 0 (n - 1))
      [(id, none), (nid, some (.arr 82 (n - 1) [.i .i64 fun k => g (if k < i then k else k + 1), .i .i64 fun k => h (if k < i then k else k + 1)]))] := by
  intro C vs hb hl hr hs
  obtain ⟨v0, v1, v2, rfl⟩ : ∃ a b c, vs = [a, b, c] := by
    rcases vs with _ | ⟨a, _ | ⟨b, _ | ⟨c, _ | ⟨d, r⟩⟩⟩⟩
    · simp at hl
    · simp at hl
    · simp at hl
    · exact ⟨a, b, c, rfl⟩
    · simp at hl
  have r0 := hr 0 _ v0 rfl rfl
  have r1 := (hr 1 _ v1 rfl rfl).int_inv
  have r2 := (hr 2 _ v2 rfl rfl).int_inv
  subst r1; subst r2
  obtain ⟨pl, A, B, c, cap, hm, rfl, e2, e3, e4, e5, e6, e7⟩ := r0.sl_inv
  obtain ⟨rfl, rfl⟩ := e4 rfl
  obtain ⟨pl', hm', hbs, hlies⟩ := hs.blk id _ (getH_hit id _ [])
  rw [hm] at hm'
  injection hm' with hm'
  subst hm'
  obtain ⟨xs, cap2, s1, s2, s3, s4, s5, s6, s7⟩ := hbs
  have hblk := s4 (by omega)
  rw [e2, s1] at hblk s3
  have hB : B = some ⟨pl.blk, 0, none⟩ := by
    have := e5 (by omega)
    simpa using this
  subst hB
  have hown : C.w0.ownsRow 0 82 2 (.slice (some ⟨pl.blk, 0, none⟩) n c) n xs := s3
  have hxl : xs.length = n * 2 := hown.1
  have hlie : (ABlk.arr 82 n [.i .i64 g, .i .i64 h]).lies pl = some pl.blk := by show pl.hdr.ownBlock = _; rw [e2]; rfl
  refine .inl ⟨_, Try.func79, by kernel_rfl, by kernel_rfl, ?_⟩
  refine (deleteC_any pl.blk n c i (i + 1) xs C.w0 hown s5 rfl hi).mono ?_
  rintro e w' ⟨rfl, q1, q2⟩
  refine ⟨_, rfl, ?_⟩
  have h4 : Has4 (fun id => nid ≤ id) nid := fun id h1 _ => h1
  obtain ⟨Y', m', t1, t2, t3⟩ := HSF.newArr hs h4 82 (n - 1) c [.i .i64 fun k => g (if k < i then k else k + 1), .i .i64 fun k => h (if k < i then k else k + 1)] (some ⟨pl.blk, 0, none⟩) (xs.take (i * 2) ++ xs.drop ((i + 1) * 2)) q2
    (fun g hg => hlies g (hlie.trans hg)) q1 (.inl rfl) (fun v hv => by
      rcases List.mem_append.1 hv with hv | hv
      · exact s5 v (List.mem_of_mem_take hv)
      · exact s5 v (List.mem_of_mem_drop hv)) (fun m' ev a b cc ha hb' => by
      have hb2 : b < 2 := (List.getElem?_eq_some_iff.1 hb').1
      have hrow : (if a < i then a else a + 1) < n := by split <;> omega
      show ∃ v, (xs.take (i * 2) ++ xs.drop ((i + 1) * 2))[a * 2 + b]? = some v ∧ _
      rw [cell_del hxl hi ha hb2]
      have hb01 : b = 0 ∨ b = 1 := by omega
      rcases hb01 with rfl | rfl
      · obtain ⟨u, g1, g2⟩ := s7 (if a < i then a else a + 1) 0 _ hrow rfl
        simp only [List.getElem?_cons_zero, Option.some.injEq] at hb'
        subst hb'
        refine ⟨u, g1, ?_⟩
        cases g2
        exact .i (g := fun k => g (if k < i then k else k + 1))
      · obtain ⟨u, g1, g2⟩ := s7 (if a < i then a else a + 1) 1 _ hrow rfl
        simp only [List.getElem?_cons_succ, List.getElem?_cons_zero, Option.some.injEq] at hb'
        subst hb'
        refine ⟨u, g1, ?_⟩
        cases g2
        exact .i (g := fun k => h (if k < i then k else k + 1)))
    (fun j => j == id) (fun j b pl2 hne hb2 hm2 g' hl2 e => by
      have hne' : j ≠ id := by simpa using hne
      have : (id == j) = false := by simpa using fun e => hne' e.symm
      simp [getH, this] at hb2) ((id, none) :: (nid, some (.arr 82 (n - 1) [.i .i64 fun k => g (if k < i then k else k + 1), .i .i64 fun k => h (if k < i then k else k + 1)])) :: [(id, some (.arr 82 n [.i .i64 g, .i .i64 h]))]) (fun j => by
      by_cases e3 : j = nid
      · subst e3
        have h5 : (id == j) = false := by simp; omega
        simp [getH, h5]
      · have h5 : (nid == j) = false := by simpa using fun h => e3 h.symm
        by_cases e4 : j = id
        · subst e4; simp [getH, e3]
        · have h6 : (id == j) = false := by simpa using fun h => e4 h.symm
          have h7 : (j == id) = false := by simpa using e4
          simp [getH, h5, h6, h7, e3])
  exact ⟨Y', m', t1, t2.mono (fun id => fr4_next), t3⟩
end Go.Proofs.Ytmnhlfkphibhfaa
/-
  The functions' forms for the abstract machine, each checked against the program's form.
-/
namespace Go.Proofs.Ytmnhlfkphibhfaa
set_option maxRecDepth 100000
def a6 : AFn := ⟨152, [.t 2], .seq (.ops [⟨(some 2), none, .mv (.c (.bool false))⟩])
 (.seq (.ops [⟨(some 22), none, .mv (.t 0)⟩, ⟨(some 23), none, .build [(.lit true 0 []), (.int .i64 0)] [(0, 1, (.t 22))]⟩, ⟨(some 24), none, .box 25 (.t 23)⟩, ⟨(some 3), none, .mv (.t 24)⟩])
 (.seq (.ops [⟨(some 25), none, .mv (.t 3)⟩, ⟨(some 26), none, .call 9 [(.t 25)]⟩, ⟨(some 4), none, .alloc 27 [(.lit true 0 [])]⟩, ⟨none, none, .store 1 (.t 4) (.t 26)⟩])
 (.seq (.any [(⟨(some 27), none, .mv (.t 3)⟩, []), (⟨(some 28), none, .load (some 1) (.t 4)⟩, [0]), (⟨(some 29), none, .call 10 [(.t 27), (.t 28)]⟩, []), (⟨(some 30), none, .mv (.t 3)⟩, [0, 1, 2]), (⟨(some 31), none, .load (some 1) (.t 4)⟩, [0, 1, 2, 3]), (⟨(some 32), none, .call 11 [(.t 30), (.t 31)]⟩, []), (⟨(some 33), none, .mv (.t 3)⟩, [0, 1, 2, 3, 4, 5]), (⟨(some 34), none, .call 43 [(.t 33)]⟩, []), (⟨(some 35), none, .mv (.t 3)⟩, [0, 1, 2, 3, 4, 5, 6, 7]), (⟨(some 36), none, .bslice 3 1 5 [(.int .i64 0)] [(0, 1, (.c (.int .i64 1))), (1, 1, (.c (.int .i64 10))), (2, 1, (.c (.int .i64 1000))), (3, 1, (.c (.int .i64 0))), (4, 1, (.c (.int .i64 100001)))]⟩, [0, 1, 2, 3, 4, 5, 6, 7, 8]), (⟨(some 37), none, .call 12 [(.t 35), (.t 36)]⟩, []), (⟨(some 5), none, .mv (.t 29)⟩, []), (⟨(some 6), none, .mv (.t 32)⟩, []), (⟨(some 7), none, .mv (.t 34)⟩, []), (⟨(some 8), none, .mv (.t 37)⟩, [])])
 (.seq (.ops [⟨(some 38), none, .load (some 1) (.t 4)⟩, ⟨(some 39), none, .call 13 [(.t 38)]⟩, ⟨(some 9), none, .mv (.t 39)⟩])
 (.seq (.seq (.ops [⟨(some 40), none, .mv (.t 9)⟩, ⟨(some 41), none, .bin 0 .eql (.t 40) (.c (.int .i64 0))⟩])
 (.cond (.t 41) (.ops [⟨(some 42), none, .load (some 1) (.t 4)⟩, ⟨(some 43), none, .mv (.t 6)⟩, ⟨(some 44), none, .call 15 [(.t 42), (.t 43)]⟩, ⟨(some 9), none, .mv (.t 44)⟩]) (.skip)))
 (.seq (.ops [⟨(some 46), none, .load (some 1) (.t 4)⟩, ⟨(some 47), none, .mv (.t 6)⟩, ⟨(some 48), none, .call 44 [(.t 46), (.t 47)]⟩, ⟨(some 45), none, .mv (.t 48)⟩, ⟨(some 49), none, .ext (.t 45) 0⟩, ⟨(some 50), none, .ext (.t 45) 1⟩, ⟨(some 10), none, .mv (.t 49)⟩, ⟨(some 11), none, .mv (.t 50)⟩])
 (.seq (.ops [⟨(some 51), none, .mv (.t 9)⟩, ⟨(some 12), none, .mv (.t 51)⟩])
 (.seq (.ops [⟨(some 13), none, .mv (.c (.lit true 0 []))⟩])
 (.seq (.seq (.ops [⟨(some 52), none, .mv (.t 12)⟩, ⟨(some 53), none, .bin 0 .eql (.t 52) (.c (.int .i64 0))⟩])
 (.cond (.t 53) (.ops [⟨(some 55), none, .load (some 1) (.t 4)⟩, ⟨(some 56), none, .mv (.t 6)⟩, ⟨(some 57), none, .call 45 [(.t 55), (.t 56)]⟩, ⟨(some 54), none, .mv (.t 57)⟩, ⟨(some 58), none, .ext (.t 54) 0⟩, ⟨(some 59), none, .ext (.t 54) 1⟩, ⟨(some 13), none, .mv (.t 58)⟩, ⟨(some 12), none, .mv (.t 59)⟩]) (.skip)))
 (.seq (.seq (.ops [⟨(some 60), none, .mv (.t 11)⟩, ⟨(some 61), none, .mv (.t 12)⟩, ⟨(some 62), none, .bin 0 .neq (.t 60) (.t 61)⟩, ⟨(some 63), none, .mv (.t 62)⟩, ⟨(some 64), (some (63, false)), .mv (.t 10)⟩, ⟨(some 65), (some (63, false)), .mv (.t 13)⟩, ⟨(some 66), (some (63, false)), .call 46 [(.t 64), (.t 65)]⟩, ⟨(some 67), (some (63, false)), .un .not (.t 66)⟩, ⟨(some 68), none, .pick (.t 63) (.c (.bool true)) (.t 67)⟩])
 (.cond (.t 68) (.seq (.ops [⟨(some 2), none, .mv (.c (.bool false))⟩])
 (.ret)) (.skip)))
 (.seq (.ops [⟨(some 70), none, .load (some 1) (.t 4)⟩, ⟨(some 71), none, .mv (.t 6)⟩, ⟨(some 72), none, .mv (.t 8)⟩, ⟨(some 73), none, .call 47 [(.t 70), (.t 71), (.t 72)]⟩, ⟨(some 69), none, .mv (.t 73)⟩, ⟨(some 74), none, .ext (.t 69) 0⟩, ⟨(some 75), none, .ext (.t 69) 1⟩, ⟨(some 14), none, .mv (.t 74)⟩, ⟨(some 11), none, .mv (.t 75)⟩])
 (.seq (.ops [⟨(some 76), none, .mv (.t 9)⟩, ⟨(some 77), none, .mv (.t 8)⟩, ⟨(some 78), none, .call 49 [(.t 77), (.c (.int .i64 1)), (.c (.int .i64 100000))]⟩, ⟨(some 79), none, .bslice 33 1 2 [(.int .i64 0)] [(0, 1, (.t 76)), (1, 1, (.t 78))]⟩, ⟨(some 80), none, .call 48 [(.t 79)]⟩, ⟨(some 15), none, .mv (.t 80)⟩])
 (.seq (.ops [⟨(some 16), none, .mv (.c (.int .i64 0))⟩])
 (.seq (.seq (.ops [⟨(some 81), none, .mv (.t 15)⟩, ⟨(some 82), none, .bin 0 .eql (.t 81) (.c (.int .i64 0))⟩])
 (.cond (.t 82) (.ops [⟨(some 84), none, .load (some 1) (.t 4)⟩, ⟨(some 85), none, .mv (.t 6)⟩, ⟨(some 86), none, .mv (.t 8)⟩, ⟨(some 87), none, .call 50 [(.t 84), (.t 85), (.t 86)]⟩, ⟨(some 83), none, .mv (.t 87)⟩, ⟨(some 88), none, .ext (.t 83) 0⟩, ⟨(some 89), none, .ext (.t 83) 1⟩, ⟨(some 16), none, .mv (.t 88)⟩, ⟨(some 15), none, .mv (.t 89)⟩]) (.skip)))
 (.seq (.seq (.ops [⟨(some 90), none, .mv (.t 11)⟩, ⟨(some 91), none, .mv (.t 15)⟩, ⟨(some 92), none, .bin 0 .neq (.t 90) (.t 91)⟩, ⟨(some 93), none, .mv (.t 92)⟩, ⟨(some 94), (some (93, false)), .mv (.t 14)⟩, ⟨(some 95), (some (93, false)), .mv (.t 16)⟩, ⟨(some 96), (some (93, false)), .bin 0 .neq (.t 94) (.t 95)⟩, ⟨(some 97), none, .pick (.t 93) (.c (.bool true)) (.t 96)⟩])
 (.cond (.t 97) (.seq (.ops [⟨(some 2), none, .mv (.c (.bool false))⟩])
 (.ret)) (.skip)))
 (.seq (.ops [⟨(some 99), none, .load (some 1) (.t 4)⟩, ⟨(some 100), none, .mv (.t 5)⟩, ⟨(some 101), none, .mv (.t 7)⟩, ⟨(some 102), none, .call 51 [(.t 99), (.t 100), (.t 101)]⟩, ⟨(some 98), none, .mv (.t 102)⟩, ⟨(some 103), none, .ext (.t 98) 0⟩, ⟨(some 104), none, .ext (.t 98) 1⟩, ⟨(some 105), none, .ext (.t 98) 2⟩, ⟨(some 17), none, .mv (.t 103)⟩, ⟨(some 18), none, .mv (.t 104)⟩, ⟨(some 11), none, .mv (.t 105)⟩])
 (.seq (.ops [⟨(some 106), none, .load (some 1) (.t 4)⟩, ⟨(some 107), none, .mv (.t 5)⟩, ⟨(some 108), none, .bslice 22 1 1 [(.lit true 0 [])] [(0, 1, (.t 107))]⟩, ⟨(some 109), none, .call 14 [(.t 106), (.t 108)]⟩, ⟨(some 110), none, .mv (.t 7)⟩, ⟨(some 111), none, .call 52 [(.t 110)]⟩, ⟨(some 112), none, .bslice 33 1 2 [(.int .i64 0)] [(0, 1, (.t 109)), (1, 1, (.t 111))]⟩, ⟨(some 113), none, .call 48 [(.t 112)]⟩, ⟨(some 19), none, .mv (.t 113)⟩])
 (.seq (.seq (.ops [⟨(some 114), none, .mv (.t 19)⟩, ⟨(some 115), none, .bin 0 .neq (.t 114) (.c (.int .i64 0))⟩])
 (.cond (.t 115) (.seq (.ops [⟨(some 116), none, .mv (.t 11)⟩, ⟨(some 117), none, .mv (.t 19)⟩, ⟨(some 118), none, .bin 0 .eql (.t 116) (.t 117)⟩, ⟨(some 119), none, .mv (.t 118)⟩, ⟨(some 120), (some (119, true)), .mv (.t 17)⟩, ⟨(some 121), (some (119, true)), .len false (.t 120)⟩, ⟨(some 122), (some (119, true)), .mv (.t 18)⟩, ⟨(some 123), (some (119, true)), .len false (.t 122)⟩, ⟨(some 124), (some (119, true)), .bin 0 .add (.t 121) (.t 123)⟩, ⟨(some 125), (some (119, true)), .bin 0 .eql (.t 124) (.c (.int .i64 0))⟩, ⟨(some 126), none, .pick (.t 119) (.t 125) (.c (.bool false))⟩, ⟨(some 127), none, .mv (.t 126)⟩, ⟨(some 128), (some (127, true)), .call 22 []⟩, ⟨(some 129), none, .pick (.t 127) (.t 128) (.c (.bool false))⟩, ⟨(some 2), none, .mv (.t 129)⟩])
 (.ret)) (.skip)))
 (.seq (.ops [⟨(some 131), none, .load (some 1) (.t 4)⟩, ⟨(some 132), none, .mv (.t 5)⟩, ⟨(some 133), none, .mv (.t 7)⟩, ⟨(some 134), none, .call 53 [(.t 131), (.t 132), (.t 133)]⟩, ⟨(some 130), none, .mv (.t 134)⟩, ⟨(some 135), none, .ext (.t 130) 0⟩, ⟨(some 136), none, .ext (.t 130) 1⟩, ⟨(some 20), none, .mv (.t 135)⟩, ⟨(some 21), none, .mv (.t 136)⟩])
 (.seq (.ops [⟨(some 137), none, .mv (.t 11)⟩, ⟨(some 138), none, .bin 0 .eql (.t 137) (.c (.int .i64 0))⟩, ⟨(some 139), none, .mv (.t 138)⟩, ⟨(some 140), (some (139, true)), .mv (.t 17)⟩, ⟨(some 141), (some (139, true)), .mv (.t 20)⟩, ⟨(some 142), (some (139, true)), .call 23 [(.t 140), (.t 141)]⟩, ⟨(some 143), none, .pick (.t 139) (.t 142) (.c (.bool false))⟩, ⟨(some 144), none, .mv (.t 143)⟩, ⟨(some 145), (some (144, true)), .mv (.t 18)⟩, ⟨(some 146), (some (144, true)), .mv (.t 21)⟩, ⟨(some 147), (some (144, true)), .call 23 [(.t 145), (.t 146)]⟩, ⟨(some 148), none, .pick (.t 144) (.t 147) (.c (.bool false))⟩, ⟨(some 149), none, .mv (.t 148)⟩, ⟨(some 150), (some (149, true)), .call 22 []⟩, ⟨(some 151), none, .pick (.t 149) (.t 150) (.c (.bool false))⟩, ⟨(some 2), none, .mv (.t 151)⟩])
 (.ret)))))))))))))))))))))⟩
theorem c6 : compF Go.Proofs.Try.prog 6 = some a6 := by kernel_rfl
def a9 : AFn := ⟨33, [.c 2 (some 1)], .seq (.ops [⟨(some 2), none, .alloc 27 [(.lit true 0 [])]⟩])
 (.seq (.ops [⟨(some 3), none, .alloc 27 [(.lit true 0 [])]⟩])
 (.seq (.seq (.ops [⟨(some 4), none, .mv (.t 0)⟩, ⟨(some 5), none, .call 30 [(.t 4), (.c (.int .i64 1)), (.c (.int .i64 4))]⟩, ⟨(some 6), none, .mv (.c (.int .i64 0))⟩])
 (.block 0 (.loop (.seq (.ops [⟨(some 7), none, .bin 0 .lss (.t 6) (.t 5)⟩])
 (.seq (.cond (.t 7) (.skip) (.exit 0))
 (.seq (.block 1 (.any [(⟨(some 8), none, .fadr 0 (.t 3)⟩, []), (⟨(some 9), none, .load none (.t 8)⟩, []), (⟨(some 10), none, .mv (.t 0)⟩, [0, 1]), (⟨(some 11), none, .call 30 [(.t 10), (.c (.int .i64 1)), (.c (.int .i64 5))]⟩, [0, 1]), (⟨(some 12), none, .bslice 3 1 1 [(.int .i64 0)] [(0, 1, (.t 11))]⟩, [0, 1]), (⟨(some 13), none, .app 3 1 8 (.t 9) (.t 12)⟩, []), (⟨(some 14), none, .fadr 0 (.t 3)⟩, []), (⟨none, none, .store 1 (.t 14) (.t 13)⟩, [])]))
 (.ops [⟨(some 15), none, .bin 0 .add (.t 6) (.c (.int .i64 1))⟩, ⟨(some 6), none, .mv (.t 15)⟩])))))))
 (.seq (.seq (.ops [⟨(some 16), none, .mv (.t 0)⟩, ⟨(some 17), none, .call 31 [(.t 16), (.c (.int .i64 20))]⟩])
 (.cond (.t 17) (.any [(⟨(some 18), none, .fadr 0 (.t 3)⟩, []), (⟨(some 19), none, .load none (.t 18)⟩, []), (⟨(some 20), none, .mv (.t 0)⟩, [0, 1]), (⟨(some 21), none, .fadr 0 (.t 3)⟩, [0, 1, 2]), (⟨(some 22), none, .load none (.t 21)⟩, [0, 1, 2]), (⟨(some 23), none, .len false (.t 22)⟩, [0, 1, 2]), (⟨(some 24), none, .call 26 [(.t 20), (.t 23)]⟩, [0, 1]), (⟨(some 25), none, .mv (.t 0)⟩, [0, 1, 2, 3, 4, 5, 6]), (⟨(some 26), none, .bslice 3 1 4 [(.int .i64 0)] [(0, 1, (.c (.int .i64 0))), (1, 1, (.c (.int .i64 (-1)))), (2, 1, (.c (.int .i64 4096))), (3, 1, (.c (.int .i64 4097)))]⟩, [0, 1, 2, 3, 4, 5, 6, 7]), (⟨(some 27), none, .call 12 [(.t 25), (.t 26)]⟩, [0, 1]), (⟨(some 28), none, .iadr 1 (.t 19) (.t 24)⟩, []), (⟨none, none, .store 1 (.t 28) (.t 27)⟩, [])]) (.skip)))
 (.seq (.seq (.ops [⟨(some 29), none, .mv (.t 0)⟩, ⟨(some 30), none, .call 31 [(.t 29), (.c (.int .i64 40))]⟩])
 (.cond (.t 30) (.ops [⟨(some 31), none, .fadr 0 (.t 3)⟩, ⟨none, none, .store 1 (.t 31) (.c (.lit true 0 []))⟩]) (.skip)))
 (.seq (.ops [⟨(some 32), none, .load (some 1) (.t 3)⟩, ⟨none, none, .store 1 (.t 2) (.t 32)⟩])
 (.ret))))))⟩
theorem c9 : compF Go.Proofs.Try.prog 9 = some a9 := by kernel_rfl
def a10 : AFn := ⟨56, [.t 4], .seq (.ops [⟨(some 3), none, .box 27 (.t 1)⟩, ⟨(some 4), none, .mv (.c (.lit true 0 []))⟩])
 (.seq (.ops [⟨(some 5), none, .mv (.c (.int .i64 0))⟩])
 (.seq (.seq (.ops [⟨(some 9), none, .fadr 0 (.t 3)⟩, ⟨(some 10), none, .load none (.t 9)⟩, ⟨(some 11), none, .len false (.t 10)⟩, ⟨(some 12), none, .mv (.c (.int .i64 0))⟩])
 (.block 0 (.loop (.seq (.ops [⟨(some 13), none, .bin 0 .lss (.t 12) (.t 11)⟩])
 (.seq (.cond (.t 13) (.skip) (.exit 0))
 (.seq (.block 1 (.seq (.ops [⟨(some 14), none, .iadr 1 (.t 10) (.t 12)⟩, ⟨(some 15), none, .load none (.t 14)⟩, ⟨(some 7), none, .mv (.t 15)⟩])
 (.ops [⟨(some 16), none, .mv (.t 5)⟩, ⟨(some 17), none, .mv (.t 7)⟩, ⟨(some 18), none, .mm true (.t 17) [(.c (.int .i64 0))]⟩, ⟨(some 19), none, .bin 0 .add (.t 16) (.t 18)⟩, ⟨(some 5), none, .mv (.t 19)⟩])))
 (.ops [⟨(some 20), none, .bin 0 .add (.t 12) (.c (.int .i64 1))⟩, ⟨(some 12), none, .mv (.t 20)⟩])))))))
 (.seq (.ops [⟨(some 8), none, .mv (.c (.lit true 0 []))⟩])
 (.seq (.seq (.ops [⟨(some 21), none, .mv (.t 5)⟩, ⟨(some 22), none, .mm false (.t 21) [(.c (.int .i64 40))]⟩, ⟨(some 23), none, .mv (.c (.int .i64 0))⟩])
 (.block 2 (.loop (.seq (.ops [⟨(some 24), none, .bin 0 .lss (.t 23) (.t 22)⟩])
 (.seq (.cond (.t 24) (.skip) (.exit 2))
 (.seq (.block 3 (.ops [⟨(some 25), none, .mv (.t 8)⟩, ⟨(some 26), none, .mv (.t 0)⟩, ⟨(some 27), none, .mv (.t 0)⟩, ⟨(some 28), none, .call 26 [(.t 27), (.c (.int .i64 65536))]⟩, ⟨(some 29), none, .bslice 3 1 7 [(.int .i64 0)] [(0, 1, (.c (.int .i64 65535))), (1, 1, (.c (.int .i64 65535))), (2, 1, (.c (.int .i64 0))), (3, 1, (.c (.int .i64 1))), (4, 1, (.c (.int .i64 3))), (5, 1, (.c (.int .i64 65534))), (6, 1, (.t 28))]⟩, ⟨(some 30), none, .call 12 [(.t 26), (.t 29)]⟩, ⟨(some 31), none, .bslice 3 1 1 [(.int .i64 0)] [(0, 1, (.t 30))]⟩, ⟨(some 32), none, .app 3 1 8 (.t 25) (.t 31)⟩, ⟨(some 8), none, .mv (.t 32)⟩]))
 (.ops [⟨(some 33), none, .bin 0 .add (.t 23) (.c (.int .i64 1))⟩, ⟨(some 23), none, .mv (.t 33)⟩])))))))
 (.seq (.seq (.ops [⟨(some 34), none, .mv (.t 8)⟩, ⟨(some 35), none, .len false (.t 34)⟩, ⟨(some 36), none, .bin 0 .gtr (.t 35) (.c (.int .i64 0))⟩, ⟨(some 37), none, .mv (.t 36)⟩, ⟨(some 38), (some (37, true)), .mv (.t 0)⟩, ⟨(some 39), (some (37, true)), .call 31 [(.t 38), (.c (.int .i64 20))]⟩, ⟨(some 40), none, .pick (.t 37) (.t 39) (.c (.bool false))⟩])
 (.cond (.t 40) (.ops [⟨(some 41), none, .mv (.t 8)⟩, ⟨(some 42), none, .mv (.t 0)⟩, ⟨(some 43), none, .mv (.t 8)⟩, ⟨(some 44), none, .len false (.t 43)⟩, ⟨(some 45), none, .call 26 [(.t 42), (.t 44)]⟩, ⟨(some 46), none, .mv (.t 0)⟩, ⟨(some 47), none, .bslice 3 1 2 [(.int .i64 0)] [(0, 1, (.c (.int .i64 (-1)))), (1, 1, (.c (.int .i64 65536)))]⟩, ⟨(some 48), none, .call 12 [(.t 46), (.t 47)]⟩, ⟨(some 49), none, .iadr 1 (.t 41) (.t 45)⟩, ⟨none, none, .store 1 (.t 49) (.t 48)⟩]) (.skip)))
 (.seq (.seq (.ops [⟨(some 50), none, .mv (.t 0)⟩, ⟨(some 51), none, .call 31 [(.t 50), (.c (.int .i64 30))]⟩])
 (.cond (.t 51) (.ops [⟨(some 52), none, .mv (.t 8)⟩, ⟨(some 53), none, .bslice 3 1 1 [(.int .i64 0)] [(0, 1, (.c (.int .i64 0)))]⟩, ⟨(some 54), none, .app 3 1 8 (.t 52) (.t 53)⟩, ⟨(some 8), none, .mv (.t 54)⟩]) (.skip)))
 (.seq (.ops [⟨(some 55), none, .mv (.t 8)⟩, ⟨(some 4), none, .mv (.t 55)⟩])
 (.ret))))))))⟩
theorem c10 : compF Go.Proofs.Try.prog 10 = some a10 := by kernel_rfl
def a11 : AFn := ⟨72, [.t 4], .seq (.ops [⟨(some 3), none, .box 27 (.t 1)⟩, ⟨(some 4), none, .mv (.c (.lit true 0 []))⟩])
 (.seq (.ops [⟨(some 5), none, .mv (.c (.lit true 0 []))⟩])
 (.seq (.seq (.ops [⟨(some 7), none, .mv (.t 0)⟩, ⟨(some 8), none, .call 30 [(.t 7), (.c (.int .i64 0)), (.c (.int .i64 8))]⟩, ⟨(some 9), none, .mv (.c (.int .i64 0))⟩])
 (.block 0 (.loop (.seq (.ops [⟨(some 10), none, .bin 0 .lss (.t 9) (.t 8)⟩])
 (.seq (.cond (.t 10) (.skip) (.exit 0))
 (.seq (.block 1 (.seq (.seq (.ops [⟨(some 11), none, .mv (.t 0)⟩, ⟨(some 12), none, .call 31 [(.t 11), (.c (.int .i64 3))]⟩])
 (.cond (.t 12) (.seq (.ops [⟨(some 13), none, .mv (.t 5)⟩, ⟨(some 14), none, .mv (.t 0)⟩, ⟨(some 15), none, .fadr 0 (.t 3)⟩, ⟨(some 16), none, .load none (.t 15)⟩, ⟨(some 17), none, .len false (.t 16)⟩, ⟨(some 18), none, .mm true (.c (.int .i64 1)) [(.t 17)]⟩, ⟨(some 19), none, .call 26 [(.t 14), (.t 18)]⟩, ⟨(some 20), none, .build [(.int .i64 0), (.int .i64 0), (.int .i64 0)] [(0, 1, (.c (.int .i64 1))), (1, 1, (.t 19))]⟩, ⟨(some 21), none, .bslice 63 3 1 [(.int .i64 0), (.int .i64 0), (.int .i64 0)] [(0, 3, (.t 20))]⟩, ⟨(some 22), none, .app 63 3 24 (.t 13) (.t 21)⟩, ⟨(some 5), none, .mv (.t 22)⟩])
 (.exit 1)) (.skip)))
 (.ops [⟨(some 23), none, .mv (.t 5)⟩, ⟨(some 24), none, .mv (.t 0)⟩, ⟨(some 25), none, .call 26 [(.t 24), (.c (.int .i64 4))]⟩, ⟨(some 26), none, .mv (.t 0)⟩, ⟨(some 27), none, .bslice 3 1 5 [(.int .i64 0)] [(0, 1, (.c (.int .i64 0))), (1, 1, (.c (.int .i64 1))), (2, 1, (.c (.int .i64 65535))), (3, 1, (.c (.int .i64 65534))), (4, 1, (.c (.int .i64 240)))]⟩, ⟨(some 28), none, .call 12 [(.t 26), (.t 27)]⟩, ⟨(some 29), none, .build [(.int .i64 0), (.int .i64 0), (.int .i64 0)] [(0, 1, (.c (.int .i64 2))), (1, 1, (.t 25)), (2, 1, (.t 28))]⟩, ⟨(some 30), none, .bslice 63 3 1 [(.int .i64 0), (.int .i64 0), (.int .i64 0)] [(0, 3, (.t 29))]⟩, ⟨(some 31), none, .app 63 3 24 (.t 23) (.t 30)⟩, ⟨(some 5), none, .mv (.t 31)⟩])))
 (.ops [⟨(some 32), none, .bin 0 .add (.t 9) (.c (.int .i64 1))⟩, ⟨(some 9), none, .mv (.t 32)⟩])))))))
 (.seq (.seq (.ops [⟨(some 33), none, .mv (.t 5)⟩, ⟨(some 34), none, .len false (.t 33)⟩, ⟨(some 35), none, .bin 0 .gtr (.t 34) (.c (.int .i64 0))⟩, ⟨(some 36), none, .mv (.t 35)⟩, ⟨(some 37), (some (36, true)), .mv (.t 0)⟩, ⟨(some 38), (some (36, true)), .call 31 [(.t 37), (.c (.int .i64 15))]⟩, ⟨(some 39), none, .pick (.t 36) (.t 38) (.c (.bool false))⟩])
 (.cond (.t 39) (.seq (.ops [⟨(some 40), none, .mv (.t 5)⟩, ⟨(some 41), none, .mv (.t 0)⟩, ⟨(some 42), none, .mv (.t 5)⟩, ⟨(some 43), none, .len false (.t 42)⟩, ⟨(some 44), none, .call 26 [(.t 41), (.t 43)]⟩, ⟨(some 45), none, .iadr 3 (.t 40) (.t 44)⟩, ⟨(some 6), none, .mv (.t 45)⟩])
 (.any [(⟨(some 46), none, .mv (.t 6)⟩, []), (⟨(some 47), none, .mv (.t 6)⟩, [0]), (⟨(some 48), none, .mv (.t 6)⟩, [0, 1]), (⟨(some 49), none, .mv (.t 0)⟩, [0, 1, 2]), (⟨(some 50), none, .call 59 [(.t 49), (.c (.int .i64 1)), (.c (.int .i64 2))]⟩, [0, 1, 2]), (⟨(some 51), none, .mv (.t 0)⟩, [0, 1, 2, 3, 4]), (⟨(some 52), none, .mv (.t 6)⟩, [0, 1, 2, 3, 4, 5]), (⟨(some 53), none, .nilchk (.t 52)⟩, [0, 1, 2, 3, 4, 5]), (⟨(some 54), none, .fadr 1 (.t 53)⟩, [0, 1, 2, 3, 4, 5]), (⟨(some 55), none, .load none (.t 54)⟩, [0, 1, 2, 3, 4, 5]), (⟨(some 56), none, .bslice 3 1 3 [(.int .i64 0)] [(0, 1, (.t 55)), (1, 1, (.c (.int .i64 (-1)))), (2, 1, (.c (.int .i64 99)))]⟩, [0, 1, 2, 3, 4, 5]), (⟨(some 57), none, .call 12 [(.t 51), (.t 56)]⟩, [0, 1, 2]), (⟨(some 58), none, .mv (.t 0)⟩, [0, 1, 2, 3, 4, 5, 6, 7, 8, 9, 10, 11]), (⟨(some 59), none, .mv (.t 6)⟩, [0, 1, 2, 3, 4, 5, 6, 7, 8, 9, 10, 11, 12]), (⟨(some 60), none, .nilchk (.t 59)⟩, [0, 1, 2, 3, 4, 5, 6, 7, 8, 9, 10, 11, 12]), (⟨(some 61), none, .fadr 2 (.t 60)⟩, [0, 1, 2, 3, 4, 5, 6, 7, 8, 9, 10, 11, 12]), (⟨(some 62), none, .load none (.t 61)⟩, [0, 1, 2, 3, 4, 5, 6, 7, 8, 9, 10, 11, 12]), (⟨(some 63), none, .bslice 3 1 3 [(.int .i64 0)] [(0, 1, (.t 62)), (1, 1, (.c (.int .i64 (-1)))), (2, 1, (.c (.int .i64 65536)))]⟩, [0, 1, 2, 3, 4, 5, 6, 7, 8, 9, 10, 11, 12]), (⟨(some 64), none, .call 12 [(.t 58), (.t 63)]⟩, [0, 1, 2]), (⟨(some 65), none, .nilchk (.t 46)⟩, [1, 2]), (⟨(some 66), none, .fadr 0 (.t 65)⟩, [1, 2]), (⟨none, none, .store 1 (.t 66) (.t 50)⟩, [1, 2]), (⟨(some 67), none, .nilchk (.t 47)⟩, [2]), (⟨(some 68), none, .fadr 1 (.t 67)⟩, [2]), (⟨none, none, .store 1 (.t 68) (.t 57)⟩, [2]), (⟨(some 69), none, .nilchk (.t 48)⟩, []), (⟨(some 70), none, .fadr 2 (.t 69)⟩, []), (⟨none, none, .store 1 (.t 70) (.t 64)⟩, [])])) (.skip)))
 (.seq (.ops [⟨(some 71), none, .mv (.t 5)⟩, ⟨(some 4), none, .mv (.t 71)⟩])
 (.ret)))))⟩
theorem c11 : compF Go.Proofs.Try.prog 11 = some a11 := by kernel_rfl
def a12 : AFn := ⟨12, [.t 4], .seq (.ops [⟨(some 4), none, .mv (.c (.int .i64 0))⟩])
 (.seq (.ops [⟨(some 5), none, .mv (.t 1)⟩, ⟨(some 6), none, .mv (.t 0)⟩, ⟨(some 7), none, .mv (.t 1)⟩, ⟨(some 8), none, .len false (.t 7)⟩, ⟨(some 9), none, .call 26 [(.t 6), (.t 8)]⟩, ⟨(some 10), none, .iadr 1 (.t 5) (.t 9)⟩, ⟨(some 11), none, .load none (.t 10)⟩, ⟨(some 4), none, .mv (.t 11)⟩])
 (.ret))⟩
theorem c12 : compF Go.Proofs.Try.prog 12 = some a12 := by kernel_rfl
def a13 : AFn := ⟨29, [.t 2], .seq (.ops [⟨(some 1), none, .box 27 (.t 0)⟩, ⟨(some 2), none, .mv (.c (.int .i64 0))⟩])
 (.seq (.block 0 (.seq (.ops [⟨(some 6), none, .fadr 0 (.t 1)⟩, ⟨(some 7), none, .load none (.t 6)⟩, ⟨(some 8), none, .len false (.t 7)⟩, ⟨(some 9), none, .bin 0 .eql (.t 8) (.c (.int .i64 0))⟩, ⟨(some 5), none, .mv (.t 9)⟩])
 (.cond (.t 5) (.seq (.ops [⟨(some 2), none, .mv (.c (.int .i64 8))⟩])
 (.ret)) (.seq (.ops [⟨(some 11), none, .fadr 0 (.t 1)⟩, ⟨(some 12), none, .load none (.t 11)⟩, ⟨(some 13), none, .len false (.t 12)⟩, ⟨(some 14), none, .bin 0 .gtr (.t 13) (.c (.int .i64 20))⟩, ⟨(some 10), none, .mv (.t 14)⟩])
 (.cond (.t 10) (.seq (.ops [⟨(some 2), none, .mv (.c (.int .i64 2))⟩])
 (.ret)) (.skip))))))
 (.seq (.seq (.ops [⟨(some 15), none, .fadr 0 (.t 1)⟩, ⟨(some 16), none, .load none (.t 15)⟩, ⟨(some 17), none, .len false (.t 16)⟩, ⟨(some 18), none, .mv (.c (.int .i64 0))⟩])
 (.block 1 (.loop (.seq (.ops [⟨(some 19), none, .bin 0 .lss (.t 18) (.t 17)⟩])
 (.seq (.cond (.t 19) (.skip) (.exit 1))
 (.seq (.block 2 (.seq (.ops [⟨(some 20), none, .iadr 1 (.t 16) (.t 18)⟩, ⟨(some 21), none, .load none (.t 20)⟩, ⟨(some 4), none, .mv (.t 21)⟩])
 (.seq (.ops [⟨(some 22), none, .mv (.t 4)⟩, ⟨(some 23), none, .call 60 [(.t 22), (.c (.int .i64 1)), (.c (.int .i64 4096))]⟩, ⟨(some 24), none, .un .not (.t 23)⟩])
 (.cond (.t 24) (.seq (.ops [⟨(some 2), none, .mv (.c (.int .i64 1))⟩])
 (.ret)) (.skip)))))
 (.ops [⟨(some 25), none, .bin 0 .add (.t 18) (.c (.int .i64 1))⟩, ⟨(some 18), none, .mv (.t 25)⟩])))))))
 (.seq (.seq (.ops [⟨(some 26), none, .load (some 1) (.t 1)⟩, ⟨(some 27), none, .call 61 [(.t 26)]⟩, ⟨(some 28), none, .bin 0 .gtr (.t 27) (.c (.int .i64 4096))⟩])
 (.cond (.t 28) (.seq (.ops [⟨(some 2), none, .mv (.c (.int .i64 2))⟩])
 (.ret)) (.skip)))
 (.seq (.ops [⟨(some 2), none, .mv (.c (.int .i64 0))⟩])
 (.ret)))))⟩
theorem c13 : compF Go.Proofs.Try.prog 13 = some a13 := by kernel_rfl
def a14 : AFn := ⟨23, [.t 4], .seq (.ops [⟨(some 2), none, .box 27 (.t 0)⟩, ⟨(some 4), none, .mv (.c (.int .i64 0))⟩])
 (.seq (.ops [⟨(some 8), none, .load (some 1) (.t 2)⟩, ⟨(some 9), none, .call 13 [(.t 8)]⟩, ⟨(some 5), none, .mv (.t 9)⟩])
 (.seq (.seq (.ops [⟨(some 10), none, .mv (.t 1)⟩, ⟨(some 11), none, .len false (.t 10)⟩, ⟨(some 12), none, .mv (.c (.int .i64 0))⟩])
 (.block 0 (.loop (.seq (.ops [⟨(some 13), none, .bin 0 .lss (.t 12) (.t 11)⟩])
 (.seq (.cond (.t 13) (.skip) (.exit 0))
 (.seq (.block 1 (.seq (.ops [⟨(some 14), none, .iadr 1 (.t 10) (.t 12)⟩, ⟨(some 15), none, .load none (.t 14)⟩, ⟨(some 7), none, .mv (.t 15)⟩])
 (.seq (.ops [⟨(some 16), none, .mv (.t 5)⟩, ⟨(some 17), none, .bin 0 .eql (.t 16) (.c (.int .i64 0))⟩])
 (.cond (.t 17) (.ops [⟨(some 18), none, .load (some 1) (.t 2)⟩, ⟨(some 19), none, .mv (.t 7)⟩, ⟨(some 20), none, .call 54 [(.t 18), (.t 19)]⟩, ⟨(some 5), none, .mv (.t 20)⟩]) (.skip)))))
 (.ops [⟨(some 21), none, .bin 0 .add (.t 12) (.c (.int .i64 1))⟩, ⟨(some 12), none, .mv (.t 21)⟩])))))))
 (.seq (.ops [⟨(some 22), none, .mv (.t 5)⟩, ⟨(some 4), none, .mv (.t 22)⟩])
 (.ret))))⟩
theorem c14 : compF Go.Proofs.Try.prog 14 = some a14 := by kernel_rfl
def a15 : AFn := ⟨68, [.t 4], .seq (.ops [⟨(some 2), none, .box 27 (.t 0)⟩, ⟨(some 4), none, .mv (.c (.int .i64 0))⟩])
 (.seq (.seq (.ops [⟨(some 7), none, .mv (.t 1)⟩, ⟨(some 8), none, .len false (.t 7)⟩, ⟨(some 9), none, .bin 0 .gtr (.t 8) (.c (.int .i64 50000))⟩])
 (.cond (.t 9) (.seq (.ops [⟨(some 4), none, .mv (.c (.int .i64 2))⟩])
 (.ret)) (.skip)))
 (.seq (.seq (.ops [⟨(some 10), none, .mv (.t 1)⟩, ⟨(some 11), none, .len false (.t 10)⟩, ⟨(some 12), none, .mv (.c (.int .i64 0))⟩])
 (.block 0 (.loop (.seq (.ops [⟨(some 13), none, .bin 0 .lss (.t 12) (.t 11)⟩])
 (.seq (.cond (.t 13) (.skip) (.exit 0))
 (.seq (.block 1 (.seq (.ops [⟨(some 14), none, .iadr 3 (.t 10) (.t 12)⟩, ⟨(some 15), none, .load (some 3) (.t 14)⟩, ⟨(some 6), none, .alloc 63 [(.int .i64 0), (.int .i64 0), (.int .i64 0)]⟩, ⟨none, none, .store 3 (.t 6) (.t 15)⟩])
 (.block 2 (.seq (.ops [⟨(some 17), none, .fadr 0 (.t 6)⟩, ⟨(some 18), none, .load none (.t 17)⟩, ⟨(some 19), none, .bin 0 .neq (.t 18) (.c (.int .i64 1))⟩, ⟨(some 20), none, .mv (.t 19)⟩, ⟨(some 21), (some (20, true)), .fadr 0 (.t 6)⟩, ⟨(some 22), (some (20, true)), .load none (.t 21)⟩, ⟨(some 23), (some (20, true)), .bin 0 .neq (.t 22) (.c (.int .i64 2))⟩, ⟨(some 24), none, .pick (.t 20) (.t 23) (.c (.bool false))⟩, ⟨(some 16), none, .mv (.t 24)⟩])
 (.cond (.t 16) (.seq (.ops [⟨(some 4), none, .mv (.c (.int .i64 4))⟩])
 (.ret)) (.seq (.ops [⟨(some 26), none, .fadr 0 (.t 6)⟩, ⟨(some 27), none, .load none (.t 26)⟩, ⟨(some 28), none, .bin 0 .eql (.t 27) (.c (.int .i64 1))⟩, ⟨(some 29), none, .mv (.t 28)⟩, ⟨(some 30), (some (29, true)), .fadr 1 (.t 6)⟩, ⟨(some 31), (some (29, true)), .load none (.t 30)⟩, ⟨(some 32), (some (29, true)), .fadr 0 (.t 2)⟩, ⟨(some 33), (some (29, true)), .load none (.t 32)⟩, ⟨(some 34), (some (29, true)), .len false (.t 33)⟩, ⟨(some 35), (some (29, true)), .bin 0 .sub (.t 34) (.c (.int .i64 1))⟩, ⟨(some 36), (some (29, true)), .call 60 [(.t 31), (.c (.int .i64 0)), (.t 35)]⟩, ⟨(some 37), (some (29, true)), .un .not (.t 36)⟩, ⟨(some 38), none, .pick (.t 29) (.t 37) (.c (.bool false))⟩, ⟨(some 25), none, .mv (.t 38)⟩])
 (.cond (.t 25) (.seq (.ops [⟨(some 4), none, .mv (.c (.int .i64 1))⟩])
 (.ret)) (.seq (.ops [⟨(some 40), none, .fadr 0 (.t 6)⟩, ⟨(some 41), none, .load none (.t 40)⟩, ⟨(some 42), none, .bin 0 .eql (.t 41) (.c (.int .i64 1))⟩, ⟨(some 43), none, .mv (.t 42)⟩, ⟨(some 44), (some (43, true)), .fadr 2 (.t 6)⟩, ⟨(some 45), (some (43, true)), .load none (.t 44)⟩, ⟨(some 46), (some (43, true)), .bin 0 .neq (.t 45) (.c (.int .i64 0))⟩, ⟨(some 47), none, .pick (.t 43) (.t 46) (.c (.bool false))⟩, ⟨(some 39), none, .mv (.t 47)⟩])
 (.cond (.t 39) (.seq (.ops [⟨(some 4), none, .mv (.c (.int .i64 3))⟩])
 (.ret)) (.seq (.any [(⟨(some 49), none, .fadr 0 (.t 6)⟩, []), (⟨(some 50), none, .load none (.t 49)⟩, []), (⟨(some 51), none, .bin 0 .eql (.t 50) (.c (.int .i64 2))⟩, []), (⟨(some 52), none, .mv (.t 51)⟩, []), (⟨(some 53), (some (52, true)), .fadr 1 (.t 6)⟩, []), (⟨(some 54), (some (52, true)), .load none (.t 53)⟩, []), (⟨(some 55), (some (52, true)), .load (some 1) (.t 2)⟩, [4, 5]), (⟨(some 56), (some (52, true)), .call 61 [(.t 55)]⟩, [4, 5]), (⟨(some 57), (some (52, true)), .bin 0 .sub (.t 56) (.c (.int .i64 1))⟩, [4, 5]), (⟨(some 58), (some (52, true)), .call 60 [(.t 54), (.c (.int .i64 0)), (.t 57)]⟩, []), (⟨(some 59), (some (52, true)), .un .not (.t 58)⟩, []), (⟨(some 60), (some (52, true)), .mv (.t 59)⟩, []), (⟨(some 61), (some (60, false)), .fadr 2 (.t 6)⟩, []), (⟨(some 62), (some (60, false)), .load none (.t 61)⟩, []), (⟨(some 63), (some (60, false)), .call 60 [(.t 62), (.c (.int .i64 0)), (.c (.int .i64 65535))]⟩, []), (⟨(some 64), (some (60, false)), .un .not (.t 63)⟩, []), (⟨(some 65), (some (52, true)), .pick (.t 60) (.c (.bool true)) (.t 64)⟩, []), (⟨(some 66), none, .pick (.t 52) (.t 65) (.c (.bool false))⟩, []), (⟨(some 48), none, .mv (.t 66)⟩, [])])
 (.cond (.t 48) (.seq (.ops [⟨(some 4), none, .mv (.c (.int .i64 1))⟩])
 (.ret)) (.skip))))))))))))
 (.ops [⟨(some 67), none, .bin 0 .add (.t 12) (.c (.int .i64 1))⟩, ⟨(some 12), none, .mv (.t 67)⟩])))))))
 (.seq (.ops [⟨(some 4), none, .mv (.c (.int .i64 0))⟩])
 (.ret))))⟩
theorem c15 : compF Go.Proofs.Try.prog 15 = some a15 := by kernel_rfl
def a16 : AFn := ⟨28, [.t 2], .seq (.ops [⟨(some 1), none, .box 27 (.t 0)⟩, ⟨(some 2), none, .mv (.c (.int .i64 0))⟩])
 (.seq (.block 0 (.seq (.ops [⟨(some 6), none, .fadr 0 (.t 1)⟩, ⟨(some 7), none, .load none (.t 6)⟩, ⟨(some 8), none, .len false (.t 7)⟩, ⟨(some 9), none, .bin 0 .eql (.t 8) (.c (.int .i64 0))⟩, ⟨(some 5), none, .mv (.t 9)⟩])
 (.cond (.t 5) (.seq (.ops [⟨(some 2), none, .mv (.c (.int .i64 8))⟩])
 (.ret)) (.seq (.ops [⟨(some 11), none, .fadr 0 (.t 1)⟩, ⟨(some 12), none, .load none (.t 11)⟩, ⟨(some 13), none, .len false (.t 12)⟩, ⟨(some 14), none, .bin 0 .gtr (.t 13) (.c (.int .i64 20))⟩, ⟨(some 10), none, .mv (.t 14)⟩])
 (.cond (.t 10) (.seq (.ops [⟨(some 2), none, .mv (.c (.int .i64 2))⟩])
 (.ret)) (.skip))))))
 (.seq (.seq (.ops [⟨(some 15), none, .fadr 0 (.t 1)⟩, ⟨(some 16), none, .load none (.t 15)⟩, ⟨(some 17), none, .len false (.t 16)⟩, ⟨(some 18), none, .mv (.c (.int .i64 0))⟩])
 (.block 1 (.loop (.seq (.ops [⟨(some 19), none, .bin 0 .lss (.t 18) (.t 17)⟩])
 (.seq (.cond (.t 19) (.skip) (.exit 1))
 (.seq (.block 2 (.seq (.ops [⟨(some 20), none, .iadr 1 (.t 16) (.t 18)⟩, ⟨(some 21), none, .load none (.t 20)⟩, ⟨(some 4), none, .mv (.t 21)⟩])
 (.seq (.ops [⟨(some 22), none, .mv (.t 4)⟩, ⟨(some 23), none, .call 62 [(.t 22), (.c (.int .i64 1)), (.c (.int .i64 4096))]⟩])
 (.cond (.t 23) (.seq (.ops [⟨(some 2), none, .mv (.c (.int .i64 1))⟩])
 (.ret)) (.skip)))))
 (.ops [⟨(some 24), none, .bin 0 .add (.t 18) (.c (.int .i64 1))⟩, ⟨(some 18), none, .mv (.t 24)⟩])))))))
 (.seq (.seq (.ops [⟨(some 25), none, .load (some 1) (.t 1)⟩, ⟨(some 26), none, .call 63 [(.t 25)]⟩, ⟨(some 27), none, .bin 0 .gtr (.t 26) (.c (.int .i64 4096))⟩])
 (.cond (.t 27) (.seq (.ops [⟨(some 2), none, .mv (.c (.int .i64 2))⟩])
 (.ret)) (.skip)))
 (.seq (.ops [⟨(some 2), none, .mv (.c (.int .i64 0))⟩])
 (.ret)))))⟩
theorem c16 : compF Go.Proofs.Try.prog 16 = some a16 := by kernel_rfl
def a17 : AFn := ⟨27, [.t 4], .seq (.ops [⟨(some 2), none, .box 27 (.t 0)⟩, ⟨(some 4), none, .mv (.c (.int .i64 0))⟩])
 (.seq (.seq (.ops [⟨(some 8), none, .load (some 1) (.t 2)⟩, ⟨(some 9), none, .call 16 [(.t 8)]⟩, ⟨(some 5), none, .mv (.t 9)⟩])
 (.seq (.ops [⟨(some 10), none, .mv (.t 5)⟩, ⟨(some 11), none, .bin 0 .neq (.t 10) (.c (.int .i64 0))⟩])
 (.cond (.t 11) (.seq (.ops [⟨(some 12), none, .mv (.t 5)⟩, ⟨(some 4), none, .mv (.t 12)⟩])
 (.ret)) (.skip))))
 (.seq (.seq (.ops [⟨(some 13), none, .mv (.t 1)⟩, ⟨(some 14), none, .len false (.t 13)⟩, ⟨(some 15), none, .load (some 1) (.t 2)⟩, ⟨(some 16), none, .call 63 [(.t 15)]⟩, ⟨(some 17), none, .bin 0 .neq (.t 14) (.t 16)⟩])
 (.cond (.t 17) (.seq (.ops [⟨(some 4), none, .mv (.c (.int .i64 3))⟩])
 (.ret)) (.skip)))
 (.seq (.seq (.ops [⟨(some 18), none, .mv (.t 1)⟩, ⟨(some 19), none, .len false (.t 18)⟩, ⟨(some 20), none, .mv (.c (.int .i64 0))⟩])
 (.block 0 (.loop (.seq (.ops [⟨(some 21), none, .bin 0 .lss (.t 20) (.t 19)⟩])
 (.seq (.cond (.t 21) (.skip) (.exit 0))
 (.seq (.block 1 (.seq (.ops [⟨(some 22), none, .iadr 1 (.t 18) (.t 20)⟩, ⟨(some 23), none, .load none (.t 22)⟩, ⟨(some 7), none, .mv (.t 23)⟩])
 (.seq (.ops [⟨(some 24), none, .mv (.t 7)⟩, ⟨(some 25), none, .call 62 [(.t 24), (.c (.int .i64 0)), (.c (.int .i64 65535))]⟩])
 (.cond (.t 25) (.seq (.ops [⟨(some 4), none, .mv (.c (.int .i64 1))⟩])
 (.ret)) (.skip)))))
 (.ops [⟨(some 26), none, .bin 0 .add (.t 20) (.c (.int .i64 1))⟩, ⟨(some 20), none, .mv (.t 26)⟩])))))))
 (.seq (.ops [⟨(some 4), none, .mv (.c (.int .i64 0))⟩])
 (.ret)))))⟩
theorem c17 : compF Go.Proofs.Try.prog 17 = some a17 := by kernel_rfl
def a18 : AFn := ⟨50, [.t 4], .seq (.ops [⟨(some 2), none, .box 27 (.t 0)⟩, ⟨(some 4), none, .mv (.c (.int .i64 0))⟩])
 (.seq (.seq (.ops [⟨(some 8), none, .load (some 1) (.t 2)⟩, ⟨(some 9), none, .call 16 [(.t 8)]⟩, ⟨(some 5), none, .mv (.t 9)⟩])
 (.seq (.ops [⟨(some 10), none, .mv (.t 5)⟩, ⟨(some 11), none, .bin 0 .neq (.t 10) (.c (.int .i64 0))⟩])
 (.cond (.t 11) (.seq (.ops [⟨(some 12), none, .mv (.t 5)⟩, ⟨(some 4), none, .mv (.t 12)⟩])
 (.ret)) (.skip))))
 (.seq (.seq (.ops [⟨(some 13), none, .mv (.t 1)⟩, ⟨(some 14), none, .len false (.t 13)⟩, ⟨(some 15), none, .bin 0 .gtr (.t 14) (.c (.int .i64 50000))⟩])
 (.cond (.t 15) (.seq (.ops [⟨(some 4), none, .mv (.c (.int .i64 2))⟩])
 (.ret)) (.skip)))
 (.seq (.seq (.ops [⟨(some 16), none, .mv (.t 1)⟩, ⟨(some 17), none, .len false (.t 16)⟩, ⟨(some 18), none, .mv (.c (.int .i64 0))⟩])
 (.block 0 (.loop (.seq (.ops [⟨(some 19), none, .bin 0 .lss (.t 18) (.t 17)⟩])
 (.seq (.cond (.t 19) (.skip) (.exit 0))
 (.seq (.block 1 (.seq (.ops [⟨(some 20), none, .iadr 3 (.t 16) (.t 18)⟩, ⟨(some 21), none, .load (some 3) (.t 20)⟩, ⟨(some 7), none, .alloc 63 [(.int .i64 0), (.int .i64 0), (.int .i64 0)]⟩, ⟨none, none, .store 3 (.t 7) (.t 21)⟩])
 (.seq (.ops [⟨(some 22), none, .fadr 0 (.t 7)⟩, ⟨(some 23), none, .load none (.t 22)⟩])
 (.block 2 (.seq (.ops [⟨(some 25), none, .bin 0 .eql (.t 23) (.c (.int .i64 1))⟩, ⟨(some 24), none, .mv (.t 25)⟩])
 (.cond (.t 24) (.seq (.seq (.ops [⟨(some 26), none, .fadr 1 (.t 7)⟩, ⟨(some 27), none, .load none (.t 26)⟩, ⟨(some 28), none, .fadr 0 (.t 2)⟩, ⟨(some 29), none, .load none (.t 28)⟩, ⟨(some 30), none, .len false (.t 29)⟩, ⟨(some 31), none, .bin 0 .sub (.t 30) (.c (.int .i64 1))⟩, ⟨(some 32), none, .call 62 [(.t 27), (.c (.int .i64 0)), (.t 31)]⟩])
 (.cond (.t 32) (.seq (.ops [⟨(some 4), none, .mv (.c (.int .i64 1))⟩])
 (.ret)) (.skip)))
 (.seq (.ops [⟨(some 33), none, .fadr 2 (.t 7)⟩, ⟨(some 34), none, .load none (.t 33)⟩, ⟨(some 35), none, .bin 0 .neq (.t 34) (.c (.int .i64 0))⟩])
 (.cond (.t 35) (.seq (.ops [⟨(some 4), none, .mv (.c (.int .i64 3))⟩])
 (.ret)) (.skip)))) (.seq (.ops [⟨(some 37), none, .bin 0 .eql (.t 23) (.c (.int .i64 2))⟩, ⟨(some 36), none, .mv (.t 37)⟩])
 (.cond (.t 36) (.seq (.any [(⟨(some 38), none, .fadr 1 (.t 7)⟩, []), (⟨(some 39), none, .load none (.t 38)⟩, []), (⟨(some 40), none, .load (some 1) (.t 2)⟩, [0, 1]), (⟨(some 41), none, .call 63 [(.t 40)]⟩, [0, 1]), (⟨(some 42), none, .bin 0 .sub (.t 41) (.c (.int .i64 1))⟩, [0, 1]), (⟨(some 43), none, .call 62 [(.t 39), (.c (.int .i64 0)), (.t 42)]⟩, []), (⟨(some 44), none, .mv (.t 43)⟩, []), (⟨(some 45), (some (44, false)), .fadr 2 (.t 7)⟩, []), (⟨(some 46), (some (44, false)), .load none (.t 45)⟩, []), (⟨(some 47), (some (44, false)), .call 62 [(.t 46), (.c (.int .i64 0)), (.c (.int .i64 65535))]⟩, []), (⟨(some 48), none, .pick (.t 44) (.c (.bool true)) (.t 47)⟩, [])])
 (.cond (.t 48) (.seq (.ops [⟨(some 4), none, .mv (.c (.int .i64 1))⟩])
 (.ret)) (.skip))) (.seq (.ops [⟨(some 4), none, .mv (.c (.int .i64 4))⟩])
 (.ret))))))))))
 (.ops [⟨(some 49), none, .bin 0 .add (.t 18) (.c (.int .i64 1))⟩, ⟨(some 18), none, .mv (.t 49)⟩])))))))
 (.seq (.ops [⟨(some 4), none, .mv (.c (.int .i64 0))⟩])
 (.ret)))))⟩
theorem c18 : compF Go.Proofs.Try.prog 18 = some a18 := by kernel_rfl
def a20 : AFn := ⟨31, [.t 4, .t 5, .t 6], .seq (.ops [⟨(some 2), none, .box 27 (.t 0)⟩, ⟨(some 4), none, .mv (.c (.int .i64 0))⟩, ⟨(some 5), none, .mv (.c (.int .i64 0))⟩, ⟨(some 6), none, .mv (.c (.bool false))⟩])
 (.seq (.ops [⟨(some 7), none, .mv (.c (.int .i64 0))⟩])
 (.seq (.seq (.ops [⟨(some 10), none, .fadr 0 (.t 2)⟩, ⟨(some 11), none, .load none (.t 10)⟩, ⟨(some 12), none, .len false (.t 11)⟩, ⟨(some 13), none, .mv (.c (.int .i64 0))⟩])
 (.block 0 (.loop (.seq (.ops [⟨(some 14), none, .bin 0 .lss (.t 13) (.t 12)⟩])
 (.seq (.cond (.t 14) (.skip) (.exit 0))
 (.seq (.block 1 (.seq (.ops [⟨(some 15), none, .mv (.t 13)⟩, ⟨(some 16), none, .iadr 1 (.t 11) (.t 13)⟩, ⟨(some 17), none, .load none (.t 16)⟩, ⟨(some 8), none, .mv (.t 15)⟩, ⟨(some 9), none, .mv (.t 17)⟩])
 (.seq (.seq (.ops [⟨(some 18), none, .mv (.t 1)⟩, ⟨(some 19), none, .mv (.t 7)⟩, ⟨(some 20), none, .mv (.t 7)⟩, ⟨(some 21), none, .mv (.t 9)⟩, ⟨(some 22), none, .bin 0 .add (.t 20) (.t 21)⟩, ⟨(some 23), none, .bin 0 .sub (.t 22) (.c (.int .i64 1))⟩, ⟨(some 24), none, .call 60 [(.t 18), (.t 19), (.t 23)]⟩])
 (.cond (.t 24) (.seq (.ops [⟨(some 25), none, .mv (.t 8)⟩, ⟨(some 26), none, .mv (.t 7)⟩, ⟨(some 4), none, .mv (.t 25)⟩, ⟨(some 5), none, .mv (.t 26)⟩, ⟨(some 6), none, .mv (.c (.bool true))⟩])
 (.ret)) (.skip)))
 (.ops [⟨(some 27), none, .mv (.t 7)⟩, ⟨(some 28), none, .mv (.t 9)⟩, ⟨(some 29), none, .bin 0 .add (.t 27) (.t 28)⟩, ⟨(some 7), none, .mv (.t 29)⟩]))))
 (.ops [⟨(some 30), none, .bin 0 .add (.t 13) (.c (.int .i64 1))⟩, ⟨(some 13), none, .mv (.t 30)⟩])))))))
 (.seq (.ops [⟨(some 4), none, .mv (.c (.int .i64 0))⟩, ⟨(some 5), none, .mv (.c (.int .i64 0))⟩, ⟨(some 6), none, .mv (.c (.bool false))⟩])
 (.ret))))⟩
theorem c20 : compF Go.Proofs.Try.prog 20 = some a20 := by kernel_rfl
def a22 : AFn := ⟨19, [.t 0], .seq (.ops [⟨(some 0), none, .mv (.c (.bool false))⟩])
 (.seq (.ops [⟨(some 4), none, .bslice 3 1 1 [(.int .i64 0)] [(0, 1, (.c (.int .i64 1)))]⟩, ⟨(some 5), none, .build [(.lit true 0 [])] [(0, 1, (.t 4))]⟩, ⟨(some 6), none, .bslice 3 1 1 [(.int .i64 0)] [(0, 1, (.c (.int .i64 65535)))]⟩, ⟨(some 7), none, .bslice 3 1 1 [(.int .i64 0)] [(0, 1, (.c (.int .i64 1)))]⟩, ⟨(some 8), none, .call 32 [(.t 5), (.t 6), (.t 7)]⟩, ⟨(some 3), none, .mv (.t 8)⟩, ⟨(some 9), none, .ext (.t 3) 0⟩, ⟨(some 10), none, .ext (.t 3) 1⟩, ⟨(some 1), none, .mv (.t 9)⟩, ⟨(some 2), none, .mv (.t 10)⟩])
 (.seq (.ops [⟨(some 11), none, .mv (.t 2)⟩, ⟨(some 12), none, .bin 0 .eql (.t 11) (.c (.int .i64 0))⟩, ⟨(some 13), none, .mv (.t 12)⟩, ⟨(some 14), (some (13, true)), .mv (.t 1)⟩, ⟨(some 15), (some (13, true)), .build [(.int .i64 0), (.int .i64 0), (.int .i64 0)] [(0, 1, (.c (.int .i64 2))), (2, 1, (.c (.int .i64 1)))]⟩, ⟨(some 16), (some (13, true)), .bslice 63 3 1 [(.int .i64 0), (.int .i64 0), (.int .i64 0)] [(0, 3, (.t 15))]⟩, ⟨(some 17), (some (13, true)), .call 34 [(.t 14), (.t 16)]⟩, ⟨(some 18), none, .pick (.t 13) (.t 17) (.c (.bool false))⟩, ⟨(some 0), none, .mv (.t 18)⟩])
 (.ret)))⟩
theorem c22 : compF Go.Proofs.Try.prog 22 = some a22 := by kernel_rfl
def a23 : AFn := ⟨26, [.t 4], .seq (.ops [⟨(some 4), none, .mv (.c (.bool false))⟩])
 (.seq (.seq (.ops [⟨(some 6), none, .mv (.t 0)⟩, ⟨(some 7), none, .len false (.t 6)⟩, ⟨(some 8), none, .mv (.t 1)⟩, ⟨(some 9), none, .len false (.t 8)⟩, ⟨(some 10), none, .bin 0 .neq (.t 7) (.t 9)⟩])
 (.cond (.t 10) (.seq (.ops [⟨(some 4), none, .mv (.c (.bool false))⟩])
 (.ret)) (.skip)))
 (.seq (.seq (.ops [⟨(some 11), none, .mv (.t 0)⟩, ⟨(some 12), none, .len false (.t 11)⟩, ⟨(some 13), none, .mv (.c (.int .i64 0))⟩])
 (.block 0 (.loop (.seq (.ops [⟨(some 14), none, .bin 0 .lss (.t 13) (.t 12)⟩])
 (.seq (.cond (.t 14) (.skip) (.exit 0))
 (.seq (.block 1 (.seq (.ops [⟨(some 15), none, .mv (.t 13)⟩, ⟨(some 5), none, .mv (.t 15)⟩])
 (.seq (.any [(⟨(some 16), none, .mv (.t 0)⟩, []), (⟨(some 17), none, .mv (.t 5)⟩, [0]), (⟨(some 18), none, .iadr 1 (.t 16) (.t 17)⟩, []), (⟨(some 19), none, .load none (.t 18)⟩, []), (⟨(some 20), none, .mv (.t 1)⟩, [0, 1, 2, 3]), (⟨(some 21), none, .mv (.t 5)⟩, [0, 1, 2, 3, 4]), (⟨(some 22), none, .iadr 1 (.t 20) (.t 21)⟩, [0, 1, 2, 3]), (⟨(some 23), none, .load none (.t 22)⟩, [0, 1, 2, 3]), (⟨(some 24), none, .bin 0 .neq (.t 19) (.t 23)⟩, [])])
 (.cond (.t 24) (.seq (.ops [⟨(some 4), none, .mv (.c (.bool false))⟩])
 (.ret)) (.skip)))))
 (.ops [⟨(some 25), none, .bin 0 .add (.t 13) (.c (.int .i64 1))⟩, ⟨(some 13), none, .mv (.t 25)⟩])))))))
 (.seq (.ops [⟨(some 4), none, .mv (.c (.bool true))⟩])
 (.ret))))⟩
theorem c23 : compF Go.Proofs.Try.prog 23 = some a23 := by kernel_rfl
def a26 : AFn := ⟨64, [.t 4], .seq (.ops [⟨(some 4), none, .mv (.c (.int .i64 0))⟩])
 (.seq (.ops [⟨(some 7), none, .mv (.t 0)⟩, ⟨(some 8), none, .nilchk (.t 7)⟩, ⟨(some 9), none, .fadr 1 (.t 8)⟩, ⟨(some 10), none, .load none (.t 9)⟩, ⟨(some 11), none, .bin 0 .add (.t 10) (.c (.int .i64 1))⟩, ⟨(some 12), none, .nilchk (.t 7)⟩, ⟨(some 13), none, .fadr 1 (.t 12)⟩, ⟨none, none, .store 1 (.t 13) (.t 11)⟩])
 (.seq (.seq (.ops [⟨(some 14), none, .mv (.t 0)⟩, ⟨(some 15), none, .nilchk (.t 14)⟩, ⟨(some 16), none, .fadr 0 (.t 15)⟩, ⟨(some 17), none, .load none (.t 16)⟩, ⟨(some 18), none, .len false (.t 17)⟩, ⟨(some 19), none, .bin 0 .eql (.t 18) (.c (.int .i64 0))⟩])
 (.cond (.t 19) (.seq (.ops [⟨(some 20), none, .mv (.t 0)⟩, ⟨(some 21), none, .nilchk (.t 20)⟩, ⟨(some 22), none, .fadr 1 (.t 21)⟩, ⟨(some 23), none, .load none (.t 22)⟩, ⟨(some 24), none, .bin 0 .mul (.t 23) (.c (.int .i64 7919))⟩, ⟨(some 25), none, .mv (.t 1)⟩, ⟨(some 26), none, .call 69 [(.t 24), (.t 25)]⟩, ⟨(some 4), none, .mv (.t 26)⟩])
 (.ret)) (.skip)))
 (.seq (.any [(⟨(some 27), none, .mv (.t 0)⟩, []), (⟨(some 28), none, .nilchk (.t 27)⟩, []), (⟨(some 29), none, .fadr 1 (.t 28)⟩, []), (⟨(some 30), none, .load none (.t 29)⟩, []), (⟨(some 31), none, .bin 0 .sub (.t 30) (.c (.int .i64 1))⟩, []), (⟨(some 32), none, .mv (.t 0)⟩, [0, 1, 2, 3, 4]), (⟨(some 33), none, .nilchk (.t 32)⟩, [0, 1, 2, 3, 4]), (⟨(some 34), none, .fadr 0 (.t 33)⟩, [0, 1, 2, 3, 4]), (⟨(some 35), none, .load none (.t 34)⟩, [0, 1, 2, 3, 4]), (⟨(some 36), none, .len false (.t 35)⟩, [0, 1, 2, 3, 4]), (⟨(some 37), none, .bin 0 .rem (.t 31) (.t 36)⟩, []), (⟨(some 5), none, .mv (.t 37)⟩, [])])
 (.seq (.any [(⟨(some 38), none, .mv (.t 0)⟩, []), (⟨(some 39), none, .nilchk (.t 38)⟩, []), (⟨(some 40), none, .fadr 1 (.t 39)⟩, []), (⟨(some 41), none, .load none (.t 40)⟩, []), (⟨(some 42), none, .bin 0 .sub (.t 41) (.c (.int .i64 1))⟩, []), (⟨(some 43), none, .mv (.t 0)⟩, [0, 1, 2, 3, 4]), (⟨(some 44), none, .nilchk (.t 43)⟩, [0, 1, 2, 3, 4]), (⟨(some 45), none, .fadr 0 (.t 44)⟩, [0, 1, 2, 3, 4]), (⟨(some 46), none, .load none (.t 45)⟩, [0, 1, 2, 3, 4]), (⟨(some 47), none, .len false (.t 46)⟩, [0, 1, 2, 3, 4]), (⟨(some 48), none, .bin 0 .quo (.t 42) (.t 47)⟩, []), (⟨(some 6), none, .mv (.t 48)⟩, [])])
 (.seq (.ops [⟨(some 49), none, .mv (.t 0)⟩, ⟨(some 50), none, .nilchk (.t 49)⟩, ⟨(some 51), none, .fadr 0 (.t 50)⟩, ⟨(some 52), none, .load none (.t 51)⟩, ⟨(some 53), none, .mv (.t 5)⟩, ⟨(some 54), none, .iadr 1 (.t 52) (.t 53)⟩, ⟨(some 55), none, .load none (.t 54)⟩, ⟨(some 56), none, .call 69 [(.t 55), (.c (.int .i64 1073741824))]⟩, ⟨(some 57), none, .mv (.t 6)⟩, ⟨(some 58), none, .mv (.t 5)⟩, ⟨(some 59), none, .bin 0 .add (.c (.int .i64 7919)) (.t 58)⟩, ⟨(some 60), none, .bin 0 .mul (.t 57) (.t 59)⟩, ⟨(some 61), none, .bin 0 .add (.t 56) (.t 60)⟩, ⟨(some 62), none, .mv (.t 1)⟩, ⟨(some 63), none, .call 69 [(.t 61), (.t 62)]⟩, ⟨(some 4), none, .mv (.t 63)⟩])
 (.ret))))))⟩
theorem c26 : compF Go.Proofs.Try.prog 26 = some a26 := by kernel_rfl
def a30 : AFn := ⟨19, [.t 6], .seq (.ops [⟨(some 6), none, .mv (.c (.int .i64 0))⟩])
 (.seq (.seq (.ops [⟨(some 7), none, .mv (.t 2)⟩, ⟨(some 8), none, .mv (.t 1)⟩, ⟨(some 9), none, .bin 0 .lss (.t 7) (.t 8)⟩])
 (.cond (.t 9) (.seq (.ops [⟨(some 10), none, .mv (.t 1)⟩, ⟨(some 6), none, .mv (.t 10)⟩])
 (.ret)) (.skip)))
 (.seq (.ops [⟨(some 11), none, .mv (.t 1)⟩, ⟨(some 12), none, .mv (.t 0)⟩, ⟨(some 13), none, .mv (.t 2)⟩, ⟨(some 14), none, .mv (.t 1)⟩, ⟨(some 15), none, .bin 0 .sub (.t 13) (.t 14)⟩, ⟨(some 16), none, .bin 0 .add (.t 15) (.c (.int .i64 1))⟩, ⟨(some 17), none, .call 26 [(.t 12), (.t 16)]⟩, ⟨(some 18), none, .bin 0 .add (.t 11) (.t 17)⟩, ⟨(some 6), none, .mv (.t 18)⟩])
 (.ret)))⟩
theorem c30 : compF Go.Proofs.Try.prog 30 = some a30 := by kernel_rfl
def a31 : AFn := ⟨9, [.t 4], .seq (.ops [⟨(some 4), none, .mv (.c (.bool false))⟩])
 (.seq (.ops [⟨(some 5), none, .mv (.t 0)⟩, ⟨(some 6), none, .mv (.t 1)⟩, ⟨(some 7), none, .call 26 [(.t 5), (.t 6)]⟩, ⟨(some 8), none, .bin 0 .eql (.t 7) (.c (.int .i64 0))⟩, ⟨(some 4), none, .mv (.t 8)⟩])
 (.ret))⟩
theorem c31 : compF Go.Proofs.Try.prog 31 = some a31 := by kernel_rfl
def a32 : AFn := ⟨91, [.t 6, .t 7], .seq (.ops [⟨(some 3), none, .box 27 (.t 0)⟩, ⟨(some 6), none, .mv (.c (.lit true 0 []))⟩, ⟨(some 7), none, .mv (.c (.int .i64 0))⟩])
 (.seq (.seq (.any [(⟨(some 14), none, .load (some 1) (.t 3)⟩, []), (⟨(some 15), none, .mv (.t 1)⟩, [0]), (⟨(some 16), none, .call 17 [(.t 14), (.t 15)]⟩, []), (⟨(some 17), none, .load (some 1) (.t 3)⟩, [0, 1, 2]), (⟨(some 18), none, .mv (.t 2)⟩, [0, 1, 2, 3]), (⟨(some 19), none, .call 17 [(.t 17), (.t 18)]⟩, []), (⟨(some 20), none, .bslice 33 1 2 [(.int .i64 0)] [(0, 1, (.t 16)), (1, 1, (.t 19))]⟩, []), (⟨(some 21), none, .call 65 [(.t 20)]⟩, []), (⟨(some 8), none, .mv (.t 21)⟩, [])])
 (.seq (.ops [⟨(some 22), none, .mv (.t 8)⟩, ⟨(some 23), none, .bin 0 .neq (.t 22) (.c (.int .i64 0))⟩])
 (.cond (.t 23) (.seq (.ops [⟨(some 24), none, .mv (.t 8)⟩, ⟨(some 6), none, .mv (.c (.lit true 0 []))⟩, ⟨(some 7), none, .mv (.t 24)⟩])
 (.ret)) (.skip))))
 (.seq (.ops [⟨(some 25), none, .mv (.t 1)⟩, ⟨(some 26), none, .call 66 [(.t 25)]⟩, ⟨(some 1), none, .mv (.t 26)⟩])
 (.seq (.ops [⟨(some 9), none, .mv (.c (.lit true 0 []))⟩])
 (.seq (.seq (.ops [⟨(some 27), none, .fadr 0 (.t 3)⟩, ⟨(some 28), none, .load none (.t 27)⟩, ⟨(some 29), none, .len false (.t 28)⟩, ⟨(some 30), none, .mv (.c (.int .i64 0))⟩])
 (.block 0 (.loop (.seq (.ops [⟨(some 31), none, .bin 0 .lss (.t 30) (.t 29)⟩])
 (.seq (.cond (.t 31) (.skip) (.exit 0))
 (.seq (.block 1 (.seq (.ops [⟨(some 32), none, .mv (.t 30)⟩, ⟨(some 10), none, .mv (.t 32)⟩])
 (.seq (.ops [⟨(some 33), none, .load (some 1) (.t 3)⟩, ⟨(some 34), none, .mv (.t 10)⟩, ⟨(some 35), none, .call 73 [(.t 33), (.t 34)]⟩, ⟨(some 11), none, .alloc 67 [(.int .i64 0), (.int .i64 0)]⟩, ⟨none, none, .store 2 (.t 11) (.t 35)⟩])
 (.seq (.seq (.ops [⟨(some 36), none, .fadr 0 (.t 11)⟩, ⟨(some 37), none, .load none (.t 36)⟩, ⟨(some 12), none, .mv (.t 37)⟩])
 (.block 2 (.loop (.seq (.seq (.ops [⟨(some 38), none, .mv (.t 12)⟩, ⟨(some 39), none, .fadr 1 (.t 11)⟩, ⟨(some 40), none, .load none (.t 39)⟩, ⟨(some 41), none, .bin 0 .lss (.t 38) (.t 40)⟩])
 (.cond (.t 41) (.skip) (.exit 2)))
 (.seq (.block 3 (.seq (.any [(⟨(some 44), none, .mv (.t 2)⟩, []), (⟨(some 45), none, .mv (.t 12)⟩, [0]), (⟨(some 46), none, .iadr 1 (.t 44) (.t 45)⟩, []), (⟨(some 47), none, .load none (.t 46)⟩, []), (⟨(some 48), none, .mv (.t 1)⟩, [0, 1, 2, 3]), (⟨(some 49), none, .mv (.t 12)⟩, [0, 1, 2, 3, 4]), (⟨(some 50), none, .iadr 1 (.t 48) (.t 49)⟩, [0, 1, 2, 3]), (⟨(some 51), none, .load none (.t 50)⟩, [0, 1, 2, 3]), (⟨(some 52), none, .bin 0 .andNot (.t 47) (.t 51)⟩, []), (⟨(some 53), none, .bin 0 .neq (.t 52) (.c (.int .i64 0))⟩, [])])
 (.cond (.t 53) (.seq (.ops [⟨(some 54), none, .mv (.t 9)⟩, ⟨(some 55), none, .mv (.t 10)⟩, ⟨(some 56), none, .build [(.int .i64 0), (.int .i64 0), (.int .i64 0)] [(0, 1, (.c (.int .i64 1))), (1, 1, (.t 55))]⟩, ⟨(some 57), none, .bslice 63 3 1 [(.int .i64 0), (.int .i64 0), (.int .i64 0)] [(0, 3, (.t 56))]⟩, ⟨(some 58), none, .app 63 3 24 (.t 54) (.t 57)⟩, ⟨(some 9), none, .mv (.t 58)⟩])
 (.seq (.ops [⟨(some 59), none, .load (some 1) (.t 3)⟩, ⟨(some 60), none, .mv (.t 1)⟩, ⟨(some 61), none, .mv (.t 10)⟩, ⟨(some 62), none, .call 67 [(.t 59), (.t 60), (.t 61)]⟩])
 (.exit 2))) (.skip))))
 (.ops [⟨(some 42), none, .mv (.t 12)⟩, ⟨(some 43), none, .bin 0 .add (.t 42) (.c (.int .i64 1))⟩, ⟨(some 12), none, .mv (.t 43)⟩]))))))
 (.seq (.ops [⟨(some 63), none, .fadr 0 (.t 11)⟩, ⟨(some 64), none, .load none (.t 63)⟩, ⟨(some 13), none, .mv (.t 64)⟩])
 (.block 4 (.loop (.seq (.seq (.ops [⟨(some 65), none, .mv (.t 13)⟩, ⟨(some 66), none, .fadr 1 (.t 11)⟩, ⟨(some 67), none, .load none (.t 66)⟩, ⟨(some 68), none, .bin 0 .lss (.t 65) (.t 67)⟩])
 (.cond (.t 68) (.skip) (.exit 4)))
 (.seq (.block 5 (.seq (.any [(⟨(some 71), none, .mv (.t 1)⟩, []), (⟨(some 72), none, .mv (.t 13)⟩, [0]), (⟨(some 73), none, .iadr 1 (.t 71) (.t 72)⟩, []), (⟨(some 74), none, .load none (.t 73)⟩, []), (⟨(some 75), none, .mv (.t 2)⟩, [0, 1, 2, 3]), (⟨(some 76), none, .mv (.t 13)⟩, [0, 1, 2, 3, 4]), (⟨(some 77), none, .iadr 1 (.t 75) (.t 76)⟩, [0, 1, 2, 3]), (⟨(some 78), none, .load none (.t 77)⟩, [0, 1, 2, 3]), (⟨(some 79), none, .bin 0 .neq (.t 74) (.t 78)⟩, [])])
 (.cond (.t 79) (.ops [⟨(some 80), none, .mv (.t 9)⟩, ⟨(some 81), none, .mv (.t 13)⟩, ⟨(some 82), none, .mv (.t 2)⟩, ⟨(some 83), none, .mv (.t 13)⟩, ⟨(some 84), none, .iadr 1 (.t 82) (.t 83)⟩, ⟨(some 85), none, .load none (.t 84)⟩, ⟨(some 86), none, .build [(.int .i64 0), (.int .i64 0), (.int .i64 0)] [(0, 1, (.c (.int .i64 2))), (1, 1, (.t 81)), (2, 1, (.t 85))]⟩, ⟨(some 87), none, .bslice 63 3 1 [(.int .i64 0), (.int .i64 0), (.int .i64 0)] [(0, 3, (.t 86))]⟩, ⟨(some 88), none, .app 63 3 24 (.t 80) (.t 87)⟩, ⟨(some 9), none, .mv (.t 88)⟩]) (.skip))))
 (.ops [⟨(some 69), none, .mv (.t 13)⟩, ⟨(some 70), none, .bin 0 .add (.t 69) (.c (.int .i64 1))⟩, ⟨(some 13), none, .mv (.t 70)⟩]))))))))))
 (.ops [⟨(some 89), none, .bin 0 .add (.t 30) (.c (.int .i64 1))⟩, ⟨(some 30), none, .mv (.t 89)⟩])))))))
 (.seq (.ops [⟨(some 90), none, .mv (.t 9)⟩, ⟨(some 6), none, .mv (.t 90)⟩, ⟨(some 7), none, .mv (.c (.int .i64 0))⟩])
 (.ret))))))⟩
theorem c32 : compF Go.Proofs.Try.prog 32 = some a32 := by kernel_rfl
def a34 : AFn := ⟨26, [.t 4], .seq (.ops [⟨(some 4), none, .mv (.c (.bool false))⟩])
 (.seq (.seq (.ops [⟨(some 6), none, .mv (.t 0)⟩, ⟨(some 7), none, .len false (.t 6)⟩, ⟨(some 8), none, .mv (.t 1)⟩, ⟨(some 9), none, .len false (.t 8)⟩, ⟨(some 10), none, .bin 0 .neq (.t 7) (.t 9)⟩])
 (.cond (.t 10) (.seq (.ops [⟨(some 4), none, .mv (.c (.bool false))⟩])
 (.ret)) (.skip)))
 (.seq (.seq (.ops [⟨(some 11), none, .mv (.t 0)⟩, ⟨(some 12), none, .len false (.t 11)⟩, ⟨(some 13), none, .mv (.c (.int .i64 0))⟩])
 (.block 0 (.loop (.seq (.ops [⟨(some 14), none, .bin 0 .lss (.t 13) (.t 12)⟩])
 (.seq (.cond (.t 14) (.skip) (.exit 0))
 (.seq (.block 1 (.seq (.ops [⟨(some 15), none, .mv (.t 13)⟩, ⟨(some 5), none, .mv (.t 15)⟩])
 (.seq (.any [(⟨(some 16), none, .mv (.t 0)⟩, []), (⟨(some 17), none, .mv (.t 5)⟩, [0]), (⟨(some 18), none, .iadr 3 (.t 16) (.t 17)⟩, []), (⟨(some 19), none, .load (some 3) (.t 18)⟩, []), (⟨(some 20), none, .mv (.t 1)⟩, [0, 1, 2, 3]), (⟨(some 21), none, .mv (.t 5)⟩, [0, 1, 2, 3, 4]), (⟨(some 22), none, .iadr 3 (.t 20) (.t 21)⟩, [0, 1, 2, 3]), (⟨(some 23), none, .load (some 3) (.t 22)⟩, [0, 1, 2, 3]), (⟨(some 24), none, .eqs true [0, 0, 0] (.t 19) (.t 23)⟩, [])])
 (.cond (.t 24) (.seq (.ops [⟨(some 4), none, .mv (.c (.bool false))⟩])
 (.ret)) (.skip)))))
 (.ops [⟨(some 25), none, .bin 0 .add (.t 13) (.c (.int .i64 1))⟩, ⟨(some 13), none, .mv (.t 25)⟩])))))))
 (.seq (.ops [⟨(some 4), none, .mv (.c (.bool true))⟩])
 (.ret))))⟩
theorem c34 : compF Go.Proofs.Try.prog 34 = some a34 := by kernel_rfl
def a38 : AFn := ⟨40, [.t 6], .seq (.ops [⟨(some 3), none, .box 27 (.t 0)⟩, ⟨(some 6), none, .mv (.c (.int .i64 0))⟩])
 (.seq (.seq (.ops [⟨(some 11), none, .mv (.t 1)⟩, ⟨(some 12), none, .len false (.t 11)⟩, ⟨(some 13), none, .fadr 0 (.t 3)⟩, ⟨(some 14), none, .load none (.t 13)⟩, ⟨(some 15), none, .len false (.t 14)⟩, ⟨(some 16), none, .bin 0 .neq (.t 12) (.t 15)⟩])
 (.cond (.t 16) (.seq (.ops [⟨(some 6), none, .mv (.c (.int .i64 3))⟩])
 (.ret)) (.skip)))
 (.seq (.seq (.ops [⟨(some 17), none, .mv (.t 1)⟩, ⟨(some 18), none, .len false (.t 17)⟩, ⟨(some 19), none, .mv (.c (.int .i64 0))⟩])
 (.block 0 (.loop (.seq (.ops [⟨(some 20), none, .bin 0 .lss (.t 19) (.t 18)⟩])
 (.seq (.cond (.t 20) (.skip) (.exit 0))
 (.seq (.block 1 (.seq (.ops [⟨(some 21), none, .iadr 1 (.t 17) (.t 19)⟩, ⟨(some 22), none, .load none (.t 21)⟩, ⟨(some 8), none, .mv (.t 22)⟩])
 (.seq (.ops [⟨(some 23), none, .mv (.t 8)⟩, ⟨(some 24), none, .call 60 [(.t 23), (.c (.int .i64 0)), (.c (.int .i64 1000000))]⟩, ⟨(some 25), none, .un .not (.t 24)⟩])
 (.cond (.t 25) (.seq (.ops [⟨(some 6), none, .mv (.c (.int .i64 1))⟩])
 (.ret)) (.skip)))))
 (.ops [⟨(some 26), none, .bin 0 .add (.t 19) (.c (.int .i64 1))⟩, ⟨(some 19), none, .mv (.t 26)⟩])))))))
 (.seq (.seq (.ops [⟨(some 27), none, .mv (.t 2)⟩, ⟨(some 28), none, .len false (.t 27)⟩, ⟨(some 29), none, .bin 0 .gtr (.t 28) (.c (.int .i64 8))⟩])
 (.cond (.t 29) (.seq (.ops [⟨(some 6), none, .mv (.c (.int .i64 2))⟩])
 (.ret)) (.skip)))
 (.seq (.seq (.ops [⟨(some 30), none, .mv (.t 2)⟩, ⟨(some 31), none, .len false (.t 30)⟩, ⟨(some 32), none, .mv (.c (.int .i64 0))⟩])
 (.block 2 (.loop (.seq (.ops [⟨(some 33), none, .bin 0 .lss (.t 32) (.t 31)⟩])
 (.seq (.cond (.t 33) (.skip) (.exit 2))
 (.seq (.block 3 (.seq (.ops [⟨(some 34), none, .iadr 1 (.t 30) (.t 32)⟩, ⟨(some 35), none, .load none (.t 34)⟩, ⟨(some 10), none, .mv (.t 35)⟩])
 (.seq (.ops [⟨(some 36), none, .mv (.t 10)⟩, ⟨(some 37), none, .call 60 [(.t 36), (.c (.int .i64 1)), (.c (.int .i64 4096))]⟩, ⟨(some 38), none, .un .not (.t 37)⟩])
 (.cond (.t 38) (.seq (.ops [⟨(some 6), none, .mv (.c (.int .i64 1))⟩])
 (.ret)) (.skip)))))
 (.ops [⟨(some 39), none, .bin 0 .add (.t 32) (.c (.int .i64 1))⟩, ⟨(some 32), none, .mv (.t 39)⟩])))))))
 (.seq (.ops [⟨(some 6), none, .mv (.c (.int .i64 0))⟩])
 (.ret))))))⟩
theorem c38 : compF Go.Proofs.Try.prog 38 = some a38 := by kernel_rfl
def a43 : AFn := ⟨114, [.t 2], .seq (.ops [⟨(some 2), none, .mv (.c (.lit true 0 []))⟩])
 (.seq (.ops [⟨(some 3), none, .mv (.c (.lit true 0 []))⟩])
 (.seq (.seq (.ops [⟨(some 8), none, .mv (.t 0)⟩, ⟨(some 9), none, .call 30 [(.t 8), (.c (.int .i64 0)), (.c (.int .i64 5))]⟩, ⟨(some 10), none, .mv (.c (.int .i64 0))⟩])
 (.block 0 (.loop (.seq (.ops [⟨(some 11), none, .bin 0 .lss (.t 10) (.t 9)⟩])
 (.seq (.cond (.t 11) (.skip) (.exit 0))
 (.seq (.block 1 (.seq (.ops [⟨(some 12), none, .build [(.int .i64 0), (.int .i64 0)] [(0, 1, (.c (.int .i64 1365))), (1, 1, (.c (.int .i64 170)))]⟩, ⟨(some 13), none, .build [(.int .i64 0), (.int .i64 0)] [(0, 1, (.c (.int .i64 682))), (1, 1, (.c (.int .i64 85)))]⟩, ⟨(some 14), none, .bslice 82 2 2 [(.int .i64 0), (.int .i64 0)] [(0, 2, (.t 12)), (2, 2, (.t 13))]⟩, ⟨(some 4), none, .mv (.t 14)⟩])
 (.seq (.ops [⟨(some 15), none, .mv (.t 0)⟩, ⟨(some 16), none, .bslice 3 1 5 [(.int .i64 0)] [(0, 1, (.c (.int .i64 0))), (1, 1, (.c (.int .i64 1))), (2, 1, (.c (.int .i64 2))), (3, 1, (.c (.int .i64 3))), (4, 1, (.c (.int .i64 99)))]⟩, ⟨(some 17), none, .call 12 [(.t 15), (.t 16)]⟩, ⟨(some 18), none, .mv (.t 0)⟩, ⟨(some 19), none, .bslice 3 1 5 [(.int .i64 0)] [(0, 1, (.c (.int .i64 0))), (1, 1, (.c (.int .i64 1))), (2, 1, (.c (.int .i64 65535))), (3, 1, (.c (.int .i64 240))), (4, 1, (.c (.int .i64 48)))]⟩, ⟨(some 20), none, .call 12 [(.t 18), (.t 19)]⟩, ⟨(some 21), none, .build [(.int .i64 0), (.int .i64 0)] [(0, 1, (.t 17)), (1, 1, (.t 20))]⟩, ⟨(some 5), none, .alloc 82 [(.int .i64 0), (.int .i64 0)]⟩, ⟨none, none, .store 2 (.t 5) (.t 21)⟩])
 (.seq (.ops [⟨(some 22), none, .mv (.t 0)⟩, ⟨(some 23), none, .call 26 [(.t 22), (.c (.int .i64 3))]⟩])
 (.block 2 (.seq (.ops [⟨(some 36), none, .bin 0 .eql (.t 23) (.c (.int .i64 0))⟩, ⟨(some 35), none, .mv (.t 36)⟩])
 (.cond (.t 35) (.any [(⟨(some 37), none, .mv (.t 3)⟩, []), (⟨(some 38), none, .mv (.t 4)⟩, [0]), (⟨(some 39), none, .app 82 2 16 (.t 37) (.t 38)⟩, []), (⟨(some 40), none, .build [(.int .i64 0), (.int .i64 0)] [(0, 1, (.c (.int .i64 1365))), (1, 1, (.c (.int .i64 160)))]⟩, [0, 1, 2]), (⟨(some 41), none, .load (some 2) (.t 5)⟩, [0, 1, 2, 3]), (⟨(some 42), none, .bslice 82 2 2 [(.int .i64 0), (.int .i64 0)] [(0, 2, (.t 40)), (2, 2, (.t 41))]⟩, [0, 1, 2]), (⟨(some 43), none, .app 82 2 16 (.t 39) (.t 42)⟩, []), (⟨(some 3), none, .mv (.t 43)⟩, [])]) (.seq (.ops [⟨(some 45), none, .bin 0 .eql (.t 23) (.c (.int .i64 1))⟩, ⟨(some 44), none, .mv (.t 45)⟩])
 (.cond (.t 44) (.seq (.ops [⟨(some 46), none, .mv (.t 0)⟩, ⟨(some 47), none, .bslice 3 1 5 [(.int .i64 0)] [(0, 1, (.c (.int .i64 48))), (1, 1, (.c (.int .i64 48))), (2, 1, (.c (.int .i64 48))), (3, 1, (.c (.int .i64 49))), (4, 1, (.c (.int .i64 240)))]⟩, ⟨(some 48), none, .call 12 [(.t 46), (.t 47)]⟩, ⟨(some 49), none, .fadr 1 (.t 5)⟩, ⟨none, none, .store 1 (.t 49) (.t 48)⟩])
 (.any [(⟨(some 50), none, .mv (.t 3)⟩, []), (⟨(some 51), none, .mv (.t 4)⟩, [0]), (⟨(some 52), none, .app 82 2 16 (.t 50) (.t 51)⟩, []), (⟨(some 53), none, .build [(.int .i64 0), (.int .i64 0)] [(0, 1, (.c (.int .i64 1365))), (1, 1, (.c (.int .i64 128)))]⟩, [0, 1, 2]), (⟨(some 54), none, .bslice 82 2 1 [(.int .i64 0), (.int .i64 0)] [(0, 2, (.t 53))]⟩, [0, 1, 2]), (⟨(some 55), none, .app 82 2 16 (.t 52) (.t 54)⟩, []), (⟨(some 56), none, .mv (.t 4)⟩, [0, 1, 2, 3, 4, 5]), (⟨(some 57), none, .app 82 2 16 (.t 55) (.t 56)⟩, []), (⟨(some 58), none, .load (some 2) (.t 5)⟩, [0, 1, 2, 3, 4, 5, 6, 7]), (⟨(some 59), none, .bslice 82 2 1 [(.int .i64 0), (.int .i64 0)] [(0, 2, (.t 58))]⟩, [0, 1, 2, 3, 4, 5, 6, 7]), (⟨(some 60), none, .app 82 2 16 (.t 57) (.t 59)⟩, []), (⟨(some 3), none, .mv (.t 60)⟩, [])])) (.any [(⟨(some 24), none, .mv (.t 3)⟩, []), (⟨(some 25), none, .load (some 2) (.t 5)⟩, [0]), (⟨(some 26), none, .mv (.t 0)⟩, [0, 1]), (⟨(some 27), none, .bslice 3 1 2 [(.int .i64 0)] [(0, 1, (.c (.int .i64 1365))), (1, 1, (.c (.int .i64 682)))]⟩, [0, 1, 2]), (⟨(some 28), none, .call 12 [(.t 26), (.t 27)]⟩, [0, 1]), (⟨(some 29), none, .mv (.t 0)⟩, [0, 1, 2, 3, 4]), (⟨(some 30), none, .bslice 3 1 3 [(.int .i64 0)] [(0, 1, (.c (.int .i64 170))), (1, 1, (.c (.int .i64 85))), (2, 1, (.c (.int .i64 240)))]⟩, [0, 1, 2, 3, 4, 5]), (⟨(some 31), none, .call 12 [(.t 29), (.t 30)]⟩, [0, 1]), (⟨(some 32), none, .build [(.int .i64 0), (.int .i64 0)] [(0, 1, (.t 28)), (1, 1, (.t 31))]⟩, [0, 1]), (⟨(some 33), none, .bslice 82 2 2 [(.int .i64 0), (.int .i64 0)] [(0, 2, (.t 25)), (2, 2, (.t 32))]⟩, [0]), (⟨(some 34), none, .app 82 2 16 (.t 24) (.t 33)⟩, []), (⟨(some 3), none, .mv (.t 34)⟩, [])]))))))))))
 (.ops [⟨(some 61), none, .bin 0 .add (.t 10) (.c (.int .i64 1))⟩, ⟨(some 10), none, .mv (.t 61)⟩])))))))
 (.seq (.seq (.ops [⟨(some 62), none, .mv (.t 0)⟩, ⟨(some 63), none, .bslice 3 1 4 [(.int .i64 0)] [(0, 1, (.c (.int .i64 0))), (1, 1, (.c (.int .i64 0))), (2, 1, (.c (.int .i64 1))), (3, 1, (.c (.int .i64 2)))]⟩, ⟨(some 64), none, .call 12 [(.t 62), (.t 63)]⟩, ⟨(some 65), none, .mv (.c (.int .i64 0))⟩])
 (.block 3 (.loop (.seq (.ops [⟨(some 66), none, .bin 0 .lss (.t 65) (.t 64)⟩])
 (.seq (.cond (.t 66) (.skip) (.exit 3))
 (.seq (.block 4 (.seq (.ops [⟨(some 67), none, .mv (.t 3)⟩, ⟨(some 68), none, .len false (.t 67)⟩, ⟨(some 69), none, .bin 0 .gtr (.t 68) (.c (.int .i64 0))⟩])
 (.cond (.t 69) (.seq (.ops [⟨(some 70), none, .mv (.t 0)⟩, ⟨(some 71), none, .mv (.t 3)⟩, ⟨(some 72), none, .len false (.t 71)⟩, ⟨(some 73), none, .call 26 [(.t 70), (.t 72)]⟩, ⟨(some 6), none, .mv (.t 73)⟩])
 (.ops [⟨(some 74), none, .mv (.t 3)⟩, ⟨(some 75), none, .mv (.t 6)⟩, ⟨(some 76), none, .mv (.t 6)⟩, ⟨(some 77), none, .bin 0 .add (.t 76) (.c (.int .i64 1))⟩, ⟨(some 78), none, .call 79 [(.t 74), (.t 75), (.t 77)]⟩, ⟨(some 3), none, .mv (.t 78)⟩])) (.skip))))
 (.ops [⟨(some 79), none, .bin 0 .add (.t 65) (.c (.int .i64 1))⟩, ⟨(some 65), none, .mv (.t 79)⟩])))))))
 (.seq (.seq (.ops [⟨(some 80), none, .mv (.t 3)⟩, ⟨(some 81), none, .len false (.t 80)⟩, ⟨(some 82), none, .bin 0 .gtr (.t 81) (.c (.int .i64 0))⟩, ⟨(some 83), none, .mv (.t 82)⟩, ⟨(some 84), (some (83, true)), .mv (.t 0)⟩, ⟨(some 85), (some (83, true)), .call 31 [(.t 84), (.c (.int .i64 15))]⟩, ⟨(some 86), none, .pick (.t 83) (.t 85) (.c (.bool false))⟩])
 (.cond (.t 86) (.seq (.ops [⟨(some 87), none, .mv (.t 3)⟩, ⟨(some 88), none, .mv (.t 0)⟩, ⟨(some 89), none, .mv (.t 3)⟩, ⟨(some 90), none, .len false (.t 89)⟩, ⟨(some 91), none, .call 26 [(.t 88), (.t 90)]⟩, ⟨(some 92), none, .iadr 2 (.t 87) (.t 91)⟩, ⟨(some 7), none, .mv (.t 92)⟩])
 (.any [(⟨(some 93), none, .mv (.t 7)⟩, []), (⟨(some 94), none, .mv (.t 7)⟩, [0]), (⟨(some 95), none, .mv (.t 0)⟩, [0, 1]), (⟨(some 96), none, .mv (.t 7)⟩, [0, 1, 2]), (⟨(some 97), none, .nilchk (.t 96)⟩, [0, 1, 2]), (⟨(some 98), none, .fadr 0 (.t 97)⟩, [0, 1, 2]), (⟨(some 99), none, .load none (.t 98)⟩, [0, 1, 2]), (⟨(some 100), none, .bslice 3 1 3 [(.int .i64 0)] [(0, 1, (.t 99)), (1, 1, (.c (.int .i64 (-1)))), (2, 1, (.c (.int .i64 65536)))]⟩, [0, 1, 2]), (⟨(some 101), none, .call 12 [(.t 95), (.t 100)]⟩, [0, 1]), (⟨(some 102), none, .mv (.t 0)⟩, [0, 1, 2, 3, 4, 5, 6, 7, 8]), (⟨(some 103), none, .mv (.t 7)⟩, [0, 1, 2, 3, 4, 5, 6, 7, 8, 9]), (⟨(some 104), none, .nilchk (.t 103)⟩, [0, 1, 2, 3, 4, 5, 6, 7, 8, 9]), (⟨(some 105), none, .fadr 1 (.t 104)⟩, [0, 1, 2, 3, 4, 5, 6, 7, 8, 9]), (⟨(some 106), none, .load none (.t 105)⟩, [0, 1, 2, 3, 4, 5, 6, 7, 8, 9]), (⟨(some 107), none, .bslice 3 1 3 [(.int .i64 0)] [(0, 1, (.t 106)), (1, 1, (.c (.int .i64 (-1)))), (2, 1, (.c (.int .i64 65536)))]⟩, [0, 1, 2, 3, 4, 5, 6, 7, 8, 9]), (⟨(some 108), none, .call 12 [(.t 102), (.t 107)]⟩, [0, 1]), (⟨(some 109), none, .nilchk (.t 93)⟩, [1]), (⟨(some 110), none, .fadr 0 (.t 109)⟩, [1]), (⟨none, none, .store 1 (.t 110) (.t 101)⟩, [1]), (⟨(some 111), none, .nilchk (.t 94)⟩, []), (⟨(some 112), none, .fadr 1 (.t 111)⟩, []), (⟨none, none, .store 1 (.t 112) (.t 108)⟩, [])])) (.skip)))
 (.seq (.ops [⟨(some 113), none, .mv (.t 3)⟩, ⟨(some 2), none, .mv (.t 113)⟩])
 (.ret))))))⟩
theorem c43 : compF Go.Proofs.Try.prog 43 = some a43 := by kernel_rfl
def a44 : AFn := ⟨62, [.t 4, .t 5], .seq (.ops [⟨(some 2), none, .box 27 (.t 0)⟩, ⟨(some 4), none, .mv (.c (.lit true 0 []))⟩, ⟨(some 5), none, .mv (.c (.int .i64 0))⟩])
 (.seq (.seq (.ops [⟨(some 11), none, .load (some 1) (.t 2)⟩, ⟨(some 12), none, .mv (.t 1)⟩, ⟨(some 13), none, .call 18 [(.t 11), (.t 12)]⟩, ⟨(some 6), none, .mv (.t 13)⟩])
 (.seq (.ops [⟨(some 14), none, .mv (.t 6)⟩, ⟨(some 15), none, .bin 0 .neq (.t 14) (.c (.int .i64 0))⟩])
 (.cond (.t 15) (.seq (.ops [⟨(some 16), none, .mv (.t 6)⟩, ⟨(some 4), none, .mv (.c (.lit true 0 []))⟩, ⟨(some 5), none, .mv (.t 16)⟩])
 (.ret)) (.skip))))
 (.seq (.seq (.ops [⟨(some 17), none, .mv (.t 1)⟩, ⟨(some 18), none, .call 80 [(.t 17)]⟩, ⟨(some 19), none, .bin 0 .gtr (.t 18) (.c (.int .i64 50000))⟩])
 (.cond (.t 19) (.seq (.ops [⟨(some 4), none, .mv (.c (.lit true 0 []))⟩, ⟨(some 5), none, .mv (.c (.int .i64 12))⟩])
 (.ret)) (.skip)))
 (.seq (.ops [⟨(some 7), none, .mv (.c (.lit true 0 []))⟩])
 (.seq (.seq (.ops [⟨(some 20), none, .mv (.t 1)⟩, ⟨(some 21), none, .len false (.t 20)⟩, ⟨(some 22), none, .mv (.c (.int .i64 0))⟩])
 (.block 0 (.loop (.seq (.ops [⟨(some 23), none, .bin 0 .lss (.t 22) (.t 21)⟩])
 (.seq (.cond (.t 23) (.skip) (.exit 0))
 (.seq (.block 1 (.seq (.ops [⟨(some 24), none, .iadr 3 (.t 20) (.t 22)⟩, ⟨(some 25), none, .load (some 3) (.t 24)⟩, ⟨(some 9), none, .alloc 63 [(.int .i64 0), (.int .i64 0), (.int .i64 0)]⟩, ⟨none, none, .store 3 (.t 9) (.t 25)⟩])
 (.seq (.ops [⟨(some 26), none, .build [(.int .i64 0), (.int .i64 0)] [(0, 1, (.c (.int .i64 1365))), (1, 1, (.c (.int .i64 170)))]⟩, ⟨(some 27), none, .build [(.int .i64 0), (.int .i64 0)] [(0, 1, (.c (.int .i64 682))), (1, 1, (.c (.int .i64 85)))]⟩, ⟨(some 28), none, .bslice 82 2 2 [(.int .i64 0), (.int .i64 0)] [(0, 2, (.t 26)), (2, 2, (.t 27))]⟩, ⟨(some 10), none, .mv (.t 28)⟩])
 (.seq (.ops [⟨(some 29), none, .mv (.t 7)⟩, ⟨(some 30), none, .mv (.t 10)⟩, ⟨(some 31), none, .app 82 2 16 (.t 29) (.t 30)⟩, ⟨(some 7), none, .mv (.t 31)⟩])
 (.seq (.seq (.ops [⟨(some 32), none, .fadr 0 (.t 9)⟩, ⟨(some 33), none, .load none (.t 32)⟩, ⟨(some 34), none, .bin 0 .eql (.t 33) (.c (.int .i64 2))⟩])
 (.cond (.t 34) (.seq (.ops [⟨(some 35), none, .mv (.t 7)⟩, ⟨(some 36), none, .build [(.int .i64 0), (.int .i64 0)] [(0, 1, (.c (.int .i64 1365))), (1, 1, (.c (.int .i64 160)))]⟩, ⟨(some 37), none, .fadr 1 (.t 9)⟩, ⟨(some 38), none, .load none (.t 37)⟩, ⟨(some 39), none, .fadr 2 (.t 9)⟩, ⟨(some 40), none, .load none (.t 39)⟩, ⟨(some 41), none, .build [(.int .i64 0), (.int .i64 0)] [(0, 1, (.t 38)), (1, 1, (.t 40))]⟩, ⟨(some 42), none, .bslice 82 2 2 [(.int .i64 0), (.int .i64 0)] [(0, 2, (.t 36)), (2, 2, (.t 41))]⟩, ⟨(some 43), none, .app 82 2 16 (.t 35) (.t 42)⟩, ⟨(some 7), none, .mv (.t 43)⟩])
 (.exit 1)) (.skip)))
 (.seq (.ops [⟨(some 44), none, .mv (.t 7)⟩, ⟨(some 45), none, .build [(.int .i64 0), (.int .i64 0)] [(0, 1, (.c (.int .i64 1365))), (1, 1, (.c (.int .i64 128)))]⟩, ⟨(some 46), none, .bslice 82 2 1 [(.int .i64 0), (.int .i64 0)] [(0, 2, (.t 45))]⟩, ⟨(some 47), none, .app 82 2 16 (.t 44) (.t 46)⟩, ⟨(some 7), none, .mv (.t 47)⟩])
 (.seq (.ops [⟨(some 48), none, .mv (.t 7)⟩, ⟨(some 49), none, .mv (.t 10)⟩, ⟨(some 50), none, .app 82 2 16 (.t 48) (.t 49)⟩, ⟨(some 7), none, .mv (.t 50)⟩])
 (.ops [⟨(some 51), none, .mv (.t 7)⟩, ⟨(some 52), none, .load (some 1) (.t 2)⟩, ⟨(some 53), none, .fadr 1 (.t 9)⟩, ⟨(some 54), none, .load none (.t 53)⟩, ⟨(some 55), none, .call 73 [(.t 52), (.t 54)]⟩, ⟨(some 56), none, .fld 0 none (.t 55)⟩, ⟨(some 57), none, .build [(.int .i64 0), (.int .i64 0)] [(0, 1, (.t 56)), (1, 1, (.c (.int .i64 48)))]⟩, ⟨(some 58), none, .bslice 82 2 1 [(.int .i64 0), (.int .i64 0)] [(0, 2, (.t 57))]⟩, ⟨(some 59), none, .app 82 2 16 (.t 51) (.t 58)⟩, ⟨(some 7), none, .mv (.t 59)⟩]))))))))
 (.ops [⟨(some 60), none, .bin 0 .add (.t 22) (.c (.int .i64 1))⟩, ⟨(some 22), none, .mv (.t 60)⟩])))))))
 (.seq (.ops [⟨(some 61), none, .mv (.t 7)⟩, ⟨(some 4), none, .mv (.t 61)⟩, ⟨(some 5), none, .mv (.c (.int .i64 0))⟩])
 (.ret))))))⟩
theorem c44 : compF Go.Proofs.Try.prog 44 = some a44 := by kernel_rfl
def a45 : AFn := ⟨25, [.t 4, .t 5], .seq (.ops [⟨(some 2), none, .box 27 (.t 0)⟩, ⟨(some 4), none, .mv (.c (.lit true 0 []))⟩, ⟨(some 5), none, .mv (.c (.int .i64 0))⟩])
 (.seq (.ops [⟨(some 6), none, .mv (.c (.lit true 0 []))⟩])
 (.seq (.seq (.ops [⟨(some 9), none, .mv (.t 1)⟩, ⟨(some 10), none, .len false (.t 9)⟩, ⟨(some 11), none, .mv (.c (.int .i64 0))⟩])
 (.block 0 (.loop (.seq (.ops [⟨(some 12), none, .bin 0 .lss (.t 11) (.t 10)⟩])
 (.seq (.cond (.t 12) (.skip) (.exit 0))
 (.seq (.block 1 (.seq (.ops [⟨(some 13), none, .iadr 3 (.t 9) (.t 11)⟩, ⟨(some 14), none, .load (some 3) (.t 13)⟩, ⟨(some 8), none, .alloc 63 [(.int .i64 0), (.int .i64 0), (.int .i64 0)]⟩, ⟨none, none, .store 3 (.t 8) (.t 14)⟩])
 (.ops [⟨(some 15), none, .mv (.t 6)⟩, ⟨(some 16), none, .load (some 1) (.t 2)⟩, ⟨(some 17), none, .load (some 3) (.t 8)⟩, ⟨(some 18), none, .call 81 [(.t 16), (.t 17)]⟩, ⟨(some 19), none, .app 82 2 16 (.t 15) (.t 18)⟩, ⟨(some 6), none, .mv (.t 19)⟩])))
 (.ops [⟨(some 20), none, .bin 0 .add (.t 11) (.c (.int .i64 1))⟩, ⟨(some 11), none, .mv (.t 20)⟩])))))))
 (.seq (.seq (.ops [⟨(some 21), none, .mv (.t 6)⟩, ⟨(some 22), none, .len false (.t 21)⟩, ⟨(some 23), none, .bin 0 .gtr (.t 22) (.c (.int .i64 50000))⟩])
 (.cond (.t 23) (.seq (.ops [⟨(some 4), none, .mv (.c (.lit true 0 []))⟩, ⟨(some 5), none, .mv (.c (.int .i64 12))⟩])
 (.ret)) (.skip)))
 (.seq (.ops [⟨(some 24), none, .mv (.t 6)⟩, ⟨(some 4), none, .mv (.t 24)⟩, ⟨(some 5), none, .mv (.c (.int .i64 0))⟩])
 (.ret)))))⟩
theorem c45 : compF Go.Proofs.Try.prog 45 = some a45 := by kernel_rfl
def a46 : AFn := ⟨26, [.t 4], .seq (.ops [⟨(some 4), none, .mv (.c (.bool false))⟩])
 (.seq (.seq (.ops [⟨(some 6), none, .mv (.t 0)⟩, ⟨(some 7), none, .len false (.t 6)⟩, ⟨(some 8), none, .mv (.t 1)⟩, ⟨(some 9), none, .len false (.t 8)⟩, ⟨(some 10), none, .bin 0 .neq (.t 7) (.t 9)⟩])
 (.cond (.t 10) (.seq (.ops [⟨(some 4), none, .mv (.c (.bool false))⟩])
 (.ret)) (.skip)))
 (.seq (.seq (.ops [⟨(some 11), none, .mv (.t 0)⟩, ⟨(some 12), none, .len false (.t 11)⟩, ⟨(some 13), none, .mv (.c (.int .i64 0))⟩])
 (.block 0 (.loop (.seq (.ops [⟨(some 14), none, .bin 0 .lss (.t 13) (.t 12)⟩])
 (.seq (.cond (.t 14) (.skip) (.exit 0))
 (.seq (.block 1 (.seq (.ops [⟨(some 15), none, .mv (.t 13)⟩, ⟨(some 5), none, .mv (.t 15)⟩])
 (.seq (.any [(⟨(some 16), none, .mv (.t 0)⟩, []), (⟨(some 17), none, .mv (.t 5)⟩, [0]), (⟨(some 18), none, .iadr 2 (.t 16) (.t 17)⟩, []), (⟨(some 19), none, .load (some 2) (.t 18)⟩, []), (⟨(some 20), none, .mv (.t 1)⟩, [0, 1, 2, 3]), (⟨(some 21), none, .mv (.t 5)⟩, [0, 1, 2, 3, 4]), (⟨(some 22), none, .iadr 2 (.t 20) (.t 21)⟩, [0, 1, 2, 3]), (⟨(some 23), none, .load (some 2) (.t 22)⟩, [0, 1, 2, 3]), (⟨(some 24), none, .eqs true [0, 0] (.t 19) (.t 23)⟩, [])])
 (.cond (.t 24) (.seq (.ops [⟨(some 4), none, .mv (.c (.bool false))⟩])
 (.ret)) (.skip)))))
 (.ops [⟨(some 25), none, .bin 0 .add (.t 13) (.c (.int .i64 1))⟩, ⟨(some 13), none, .mv (.t 25)⟩])))))))
 (.seq (.ops [⟨(some 4), none, .mv (.c (.bool true))⟩])
 (.ret))))⟩
theorem c46 : compF Go.Proofs.Try.prog 46 = some a46 := by kernel_rfl
def a47 : AFn := ⟨28, [.t 6, .t 7], .seq (.ops [⟨(some 3), none, .box 27 (.t 0)⟩, ⟨(some 6), none, .mv (.c (.int .i64 0))⟩, ⟨(some 7), none, .mv (.c (.int .i64 0))⟩])
 (.seq (.seq (.ops [⟨(some 9), none, .load (some 1) (.t 3)⟩, ⟨(some 10), none, .mv (.t 1)⟩, ⟨(some 11), none, .call 18 [(.t 9), (.t 10)]⟩, ⟨(some 8), none, .mv (.t 11)⟩])
 (.seq (.ops [⟨(some 12), none, .mv (.t 8)⟩, ⟨(some 13), none, .bin 0 .neq (.t 12) (.c (.int .i64 0))⟩])
 (.cond (.t 13) (.seq (.ops [⟨(some 14), none, .mv (.t 8)⟩, ⟨(some 6), none, .mv (.c (.int .i64 0))⟩, ⟨(some 7), none, .mv (.t 14)⟩])
 (.ret)) (.skip))))
 (.seq (.block 0 (.seq (.ops [⟨(some 16), none, .mv (.t 2)⟩, ⟨(some 17), none, .call 62 [(.t 16), (.c (.int .i64 1)), (.c (.int .i64 100000))]⟩, ⟨(some 15), none, .mv (.t 17)⟩])
 (.cond (.t 15) (.seq (.ops [⟨(some 6), none, .mv (.c (.int .i64 0))⟩, ⟨(some 7), none, .mv (.c (.int .i64 1))⟩])
 (.ret)) (.seq (.ops [⟨(some 19), none, .mv (.t 1)⟩, ⟨(some 20), none, .call 80 [(.t 19)]⟩, ⟨(some 21), none, .bin 0 .gtr (.t 20) (.c (.int .i64 50000))⟩, ⟨(some 18), none, .mv (.t 21)⟩])
 (.cond (.t 18) (.seq (.ops [⟨(some 6), none, .mv (.c (.int .i64 0))⟩, ⟨(some 7), none, .mv (.c (.int .i64 12))⟩])
 (.ret)) (.skip))))))
 (.seq (.ops [⟨(some 22), none, .mv (.t 1)⟩, ⟨(some 23), none, .call 80 [(.t 22)]⟩, ⟨(some 24), none, .mv (.t 2)⟩, ⟨(some 25), none, .bin 0 .mul (.c (.int .i64 3)) (.t 24)⟩, ⟨(some 26), none, .bin 0 .add (.t 25) (.c (.int .i64 5))⟩, ⟨(some 27), none, .bin 0 .mul (.t 23) (.t 26)⟩, ⟨(some 6), none, .mv (.t 27)⟩, ⟨(some 7), none, .mv (.c (.int .i64 0))⟩])
 (.ret))))⟩
theorem c47 : compF Go.Proofs.Try.prog 47 = some a47 := by kernel_rfl
def a48 : AFn := ⟨18, [.t 2], .seq (.ops [⟨(some 2), none, .mv (.c (.int .i64 0))⟩])
 (.seq (.ops [⟨(some 3), none, .mv (.c (.int .i64 0))⟩])
 (.seq (.seq (.ops [⟨(some 6), none, .mv (.t 0)⟩, ⟨(some 7), none, .len false (.t 6)⟩, ⟨(some 8), none, .mv (.c (.int .i64 0))⟩])
 (.block 0 (.loop (.seq (.ops [⟨(some 9), none, .bin 0 .lss (.t 8) (.t 7)⟩])
 (.seq (.cond (.t 9) (.skip) (.exit 0))
 (.seq (.block 1 (.seq (.ops [⟨(some 10), none, .iadr 1 (.t 6) (.t 8)⟩, ⟨(some 11), none, .load none (.t 10)⟩, ⟨(some 5), none, .mv (.t 11)⟩])
 (.seq (.ops [⟨(some 12), none, .mv (.t 5)⟩, ⟨(some 13), none, .mv (.t 3)⟩, ⟨(some 14), none, .bin 0 .neq (.t 12) (.t 13)⟩])
 (.cond (.t 14) (.seq (.ops [⟨(some 15), none, .mv (.t 5)⟩, ⟨(some 2), none, .mv (.t 15)⟩])
 (.ret)) (.skip)))))
 (.ops [⟨(some 16), none, .bin 0 .add (.t 8) (.c (.int .i64 1))⟩, ⟨(some 8), none, .mv (.t 16)⟩])))))))
 (.seq (.ops [⟨(some 17), none, .mv (.t 3)⟩, ⟨(some 2), none, .mv (.t 17)⟩])
 (.ret))))⟩
theorem c48 : compF Go.Proofs.Try.prog 48 = some a48 := by kernel_rfl
def a49 : AFn := ⟨12, [.t 6], .seq (.ops [⟨(some 6), none, .mv (.c (.int .i64 0))⟩])
 (.seq (.seq (.ops [⟨(some 7), none, .mv (.t 0)⟩, ⟨(some 8), none, .mv (.t 1)⟩, ⟨(some 9), none, .mv (.t 2)⟩, ⟨(some 10), none, .call 60 [(.t 7), (.t 8), (.t 9)]⟩, ⟨(some 11), none, .un .not (.t 10)⟩])
 (.cond (.t 11) (.seq (.ops [⟨(some 6), none, .mv (.c (.int .i64 1))⟩])
 (.ret)) (.skip)))
 (.seq (.ops [⟨(some 6), none, .mv (.c (.int .i64 0))⟩])
 (.ret)))⟩
theorem c49 : compF Go.Proofs.Try.prog 49 = some a49 := by kernel_rfl
def a50 : AFn := ⟨25, [.t 6, .t 7], .seq (.ops [⟨(some 3), none, .box 27 (.t 0)⟩, ⟨(some 6), none, .mv (.c (.int .i64 0))⟩, ⟨(some 7), none, .mv (.c (.int .i64 0))⟩])
 (.seq (.ops [⟨(some 11), none, .load (some 1) (.t 3)⟩, ⟨(some 12), none, .mv (.t 1)⟩, ⟨(some 13), none, .call 45 [(.t 11), (.t 12)]⟩, ⟨(some 10), none, .mv (.t 13)⟩, ⟨(some 14), none, .ext (.t 10) 0⟩, ⟨(some 15), none, .ext (.t 10) 1⟩, ⟨(some 8), none, .mv (.t 14)⟩, ⟨(some 9), none, .mv (.t 15)⟩])
 (.seq (.seq (.ops [⟨(some 16), none, .mv (.t 9)⟩, ⟨(some 17), none, .bin 0 .neq (.t 16) (.c (.int .i64 0))⟩])
 (.cond (.t 17) (.seq (.ops [⟨(some 18), none, .mv (.t 9)⟩, ⟨(some 6), none, .mv (.c (.int .i64 0))⟩, ⟨(some 7), none, .mv (.t 18)⟩])
 (.ret)) (.skip)))
 (.seq (.ops [⟨(some 19), none, .mv (.t 8)⟩, ⟨(some 20), none, .len false (.t 19)⟩, ⟨(some 21), none, .mv (.t 2)⟩, ⟨(some 22), none, .bin 0 .mul (.c (.int .i64 3)) (.t 21)⟩, ⟨(some 23), none, .bin 0 .add (.t 22) (.c (.int .i64 5))⟩, ⟨(some 24), none, .bin 0 .mul (.t 20) (.t 23)⟩, ⟨(some 6), none, .mv (.t 24)⟩, ⟨(some 7), none, .mv (.c (.int .i64 0))⟩])
 (.ret))))⟩
theorem c50 : compF Go.Proofs.Try.prog 50 = some a50 := by kernel_rfl
def a51 : AFn := ⟨66, [.t 6, .t 7, .t 8], .seq (.ops [⟨(some 3), none, .box 27 (.t 0)⟩, ⟨(some 6), none, .mv (.c (.lit true 0 []))⟩, ⟨(some 7), none, .mv (.c (.lit true 0 []))⟩, ⟨(some 8), none, .mv (.c (.int .i64 0))⟩])
 (.seq (.seq (.ops [⟨(some 16), none, .load (some 1) (.t 3)⟩, ⟨(some 17), none, .mv (.t 1)⟩, ⟨(some 18), none, .call 17 [(.t 16), (.t 17)]⟩, ⟨(some 9), none, .mv (.t 18)⟩])
 (.seq (.ops [⟨(some 19), none, .mv (.t 9)⟩, ⟨(some 20), none, .bin 0 .neq (.t 19) (.c (.int .i64 0))⟩])
 (.cond (.t 20) (.seq (.ops [⟨(some 21), none, .mv (.t 9)⟩, ⟨(some 6), none, .mv (.c (.lit true 0 []))⟩, ⟨(some 7), none, .mv (.c (.lit true 0 []))⟩, ⟨(some 8), none, .mv (.t 21)⟩])
 (.ret)) (.skip))))
 (.seq (.seq (.ops [⟨(some 22), none, .mv (.t 2)⟩, ⟨(some 23), none, .len false (.t 22)⟩, ⟨(some 24), none, .bin 0 .gtr (.t 23) (.c (.int .i64 50000))⟩])
 (.cond (.t 24) (.seq (.ops [⟨(some 6), none, .mv (.c (.lit true 0 []))⟩, ⟨(some 7), none, .mv (.c (.lit true 0 []))⟩, ⟨(some 8), none, .mv (.c (.int .i64 2))⟩])
 (.ret)) (.skip)))
 (.seq (.seq (.ops [⟨(some 25), none, .mv (.t 2)⟩, ⟨(some 26), none, .len false (.t 25)⟩, ⟨(some 27), none, .mv (.c (.int .i64 0))⟩])
 (.block 0 (.loop (.seq (.ops [⟨(some 28), none, .bin 0 .lss (.t 27) (.t 26)⟩])
 (.seq (.cond (.t 28) (.skip) (.exit 0))
 (.seq (.block 1 (.seq (.ops [⟨(some 29), none, .iadr 2 (.t 25) (.t 27)⟩, ⟨(some 30), none, .load (some 2) (.t 29)⟩, ⟨(some 11), none, .alloc 82 [(.int .i64 0), (.int .i64 0)]⟩, ⟨none, none, .store 2 (.t 11) (.t 30)⟩])
 (.seq (.ops [⟨(some 31), none, .fadr 0 (.t 11)⟩, ⟨(some 32), none, .load none (.t 31)⟩, ⟨(some 33), none, .call 62 [(.t 32), (.c (.int .i64 0)), (.c (.int .i64 65535))]⟩, ⟨(some 34), none, .mv (.t 33)⟩, ⟨(some 35), (some (34, false)), .fadr 1 (.t 11)⟩, ⟨(some 36), (some (34, false)), .load none (.t 35)⟩, ⟨(some 37), (some (34, false)), .call 62 [(.t 36), (.c (.int .i64 0)), (.c (.int .i64 65535))]⟩, ⟨(some 38), none, .pick (.t 34) (.c (.bool true)) (.t 37)⟩])
 (.cond (.t 38) (.seq (.ops [⟨(some 6), none, .mv (.c (.lit true 0 []))⟩, ⟨(some 7), none, .mv (.c (.lit true 0 []))⟩, ⟨(some 8), none, .mv (.c (.int .i64 1))⟩])
 (.ret)) (.skip)))))
 (.ops [⟨(some 39), none, .bin 0 .add (.t 27) (.c (.int .i64 1))⟩, ⟨(some 27), none, .mv (.t 39)⟩])))))))
 (.seq (.any [(⟨(some 40), none, .load (some 1) (.t 3)⟩, []), (⟨(some 41), none, .mv (.t 1)⟩, [0]), (⟨(some 42), none, .call 66 [(.t 41)]⟩, [0]), (⟨(some 43), none, .build [(.lit true 0 []), (.lit true 0 []), (.int .i64 0)] [(0, 1, (.t 40)), (1, 1, (.t 42))]⟩, []), (⟨(some 44), none, .box 133 (.t 43)⟩, []), (⟨(some 12), none, .mv (.t 44)⟩, [])])
 (.seq (.ops [⟨(some 13), none, .mv (.c (.lit true 0 []))⟩])
 (.seq (.seq (.ops [⟨(some 45), none, .mv (.t 2)⟩, ⟨(some 46), none, .len false (.t 45)⟩, ⟨(some 47), none, .mv (.c (.int .i64 0))⟩])
 (.block 2 (.loop (.seq (.ops [⟨(some 48), none, .bin 0 .lss (.t 47) (.t 46)⟩])
 (.seq (.cond (.t 48) (.skip) (.exit 2))
 (.seq (.block 3 (.seq (.ops [⟨(some 49), none, .mv (.t 47)⟩, ⟨(some 50), none, .iadr 2 (.t 45) (.t 47)⟩, ⟨(some 51), none, .load (some 2) (.t 50)⟩, ⟨(some 15), none, .alloc 82 [(.int .i64 0), (.int .i64 0)]⟩, ⟨(some 14), none, .mv (.t 49)⟩, ⟨none, none, .store 2 (.t 15) (.t 51)⟩])
 (.seq (.ops [⟨(some 52), none, .mv (.t 12)⟩, ⟨(some 53), none, .load (some 2) (.t 15)⟩, ⟨(some 54), none, .call 82 [(.t 52), (.t 53)]⟩, ⟨(some 55), none, .un .not (.t 54)⟩])
 (.cond (.t 55) (.ops [⟨(some 56), none, .mv (.t 13)⟩, ⟨(some 57), none, .mv (.t 14)⟩, ⟨(some 58), none, .bslice 3 1 1 [(.int .i64 0)] [(0, 1, (.t 57))]⟩, ⟨(some 59), none, .app 3 1 8 (.t 56) (.t 58)⟩, ⟨(some 13), none, .mv (.t 59)⟩]) (.skip)))))
 (.ops [⟨(some 60), none, .bin 0 .add (.t 47) (.c (.int .i64 1))⟩, ⟨(some 47), none, .mv (.t 60)⟩])))))))
 (.seq (.ops [⟨(some 61), none, .mv (.t 12)⟩, ⟨(some 62), none, .nilchk (.t 61)⟩, ⟨(some 63), none, .fadr 1 (.t 62)⟩, ⟨(some 64), none, .load none (.t 63)⟩, ⟨(some 65), none, .mv (.t 13)⟩, ⟨(some 6), none, .mv (.t 64)⟩, ⟨(some 7), none, .mv (.t 65)⟩, ⟨(some 8), none, .mv (.c (.int .i64 0))⟩])
 (.ret))))))))⟩
theorem c51 : compF Go.Proofs.Try.prog 51 = some a51 := by kernel_rfl
def a52 : AFn := ⟨27, [.t 2], .seq (.ops [⟨(some 2), none, .mv (.c (.int .i64 0))⟩])
 (.seq (.seq (.ops [⟨(some 6), none, .mv (.t 0)⟩, ⟨(some 7), none, .len false (.t 6)⟩, ⟨(some 8), none, .bin 0 .gtr (.t 7) (.c (.int .i64 50000))⟩])
 (.cond (.t 8) (.seq (.ops [⟨(some 2), none, .mv (.c (.int .i64 2))⟩])
 (.ret)) (.skip)))
 (.seq (.seq (.ops [⟨(some 9), none, .mv (.t 0)⟩, ⟨(some 10), none, .len false (.t 9)⟩, ⟨(some 11), none, .mv (.c (.int .i64 0))⟩])
 (.block 0 (.loop (.seq (.ops [⟨(some 12), none, .bin 0 .lss (.t 11) (.t 10)⟩])
 (.seq (.cond (.t 12) (.skip) (.exit 0))
 (.seq (.block 1 (.seq (.ops [⟨(some 13), none, .iadr 2 (.t 9) (.t 11)⟩, ⟨(some 14), none, .load (some 2) (.t 13)⟩, ⟨(some 4), none, .alloc 82 [(.int .i64 0), (.int .i64 0)]⟩, ⟨none, none, .store 2 (.t 4) (.t 14)⟩])
 (.seq (.any [(⟨(some 15), none, .fadr 0 (.t 4)⟩, []), (⟨(some 16), none, .load none (.t 15)⟩, []), (⟨(some 17), none, .call 49 [(.t 16), (.c (.int .i64 0)), (.c (.int .i64 65535))]⟩, []), (⟨(some 18), none, .fadr 1 (.t 4)⟩, [0, 1, 2]), (⟨(some 19), none, .load none (.t 18)⟩, [0, 1, 2]), (⟨(some 20), none, .call 49 [(.t 19), (.c (.int .i64 0)), (.c (.int .i64 65535))]⟩, []), (⟨(some 21), none, .bslice 33 1 2 [(.int .i64 0)] [(0, 1, (.t 17)), (1, 1, (.t 20))]⟩, []), (⟨(some 22), none, .call 48 [(.t 21)]⟩, []), (⟨(some 5), none, .mv (.t 22)⟩, [])])
 (.seq (.ops [⟨(some 23), none, .mv (.t 5)⟩, ⟨(some 24), none, .bin 0 .neq (.t 23) (.c (.int .i64 0))⟩])
 (.cond (.t 24) (.seq (.ops [⟨(some 25), none, .mv (.t 5)⟩, ⟨(some 2), none, .mv (.t 25)⟩])
 (.ret)) (.skip))))))
 (.ops [⟨(some 26), none, .bin 0 .add (.t 11) (.c (.int .i64 1))⟩, ⟨(some 11), none, .mv (.t 26)⟩])))))))
 (.seq (.ops [⟨(some 2), none, .mv (.c (.int .i64 0))⟩])
 (.ret))))⟩
theorem c52 : compF Go.Proofs.Try.prog 52 = some a52 := by kernel_rfl
def a53 : AFn := ⟨127, [.t 6, .t 7], .seq (.ops [⟨(some 3), none, .box 27 (.t 0)⟩, ⟨(some 6), none, .mv (.c (.lit true 0 []))⟩, ⟨(some 7), none, .mv (.c (.lit true 0 []))⟩])
 (.seq (.ops [⟨(some 20), none, .mv (.t 1)⟩, ⟨(some 21), none, .call 66 [(.t 20)]⟩, ⟨(some 8), none, .mv (.t 21)⟩])
 (.seq (.ops [⟨(some 22), none, .build [(.int .i64 0), (.int .i64 0)] [(0, 1, (.c (.int .i64 1365))), (1, 1, (.c (.int .i64 170)))]⟩, ⟨(some 23), none, .build [(.int .i64 0), (.int .i64 0)] [(0, 1, (.c (.int .i64 682))), (1, 1, (.c (.int .i64 85)))]⟩, ⟨(some 24), none, .build [(.int .i64 0), (.int .i64 0)] [(0, 1, (.c (.int .i64 1365))), (1, 1, (.c (.int .i64 160)))]⟩, ⟨(some 25), none, .bslice 82 2 3 [(.int .i64 0), (.int .i64 0)] [(0, 2, (.t 22)), (2, 2, (.t 23)), (4, 2, (.t 24))]⟩, ⟨(some 9), none, .mv (.t 25)⟩])
 (.seq (.ops [⟨(some 26), none, .build [(.int .i64 0), (.int .i64 0)] [(0, 1, (.c (.int .i64 1365))), (1, 1, (.c (.int .i64 170)))]⟩, ⟨(some 27), none, .build [(.int .i64 0), (.int .i64 0)] [(0, 1, (.c (.int .i64 682))), (1, 1, (.c (.int .i64 85)))]⟩, ⟨(some 28), none, .build [(.int .i64 0), (.int .i64 0)] [(0, 1, (.c (.int .i64 1365))), (1, 1, (.c (.int .i64 128)))]⟩, ⟨(some 29), none, .build [(.int .i64 0), (.int .i64 0)] [(0, 1, (.c (.int .i64 1365))), (1, 1, (.c (.int .i64 170)))]⟩, ⟨(some 30), none, .build [(.int .i64 0), (.int .i64 0)] [(0, 1, (.c (.int .i64 682))), (1, 1, (.c (.int .i64 85)))]⟩, ⟨(some 31), none, .bslice 82 2 5 [(.int .i64 0), (.int .i64 0)] [(0, 2, (.t 26)), (2, 2, (.t 27)), (4, 2, (.t 28)), (6, 2, (.t 29)), (8, 2, (.t 30))]⟩, ⟨(some 10), none, .mv (.t 31)⟩])
 (.seq (.ops [⟨(some 11), none, .mv (.c (.lit true 0 []))⟩])
 (.seq (.ops [⟨(some 12), none, .mv (.c (.lit true 0 []))⟩])
 (.seq (.seq (.ops [⟨(some 32), none, .mv (.t 2)⟩, ⟨(some 33), none, .len false (.t 32)⟩, ⟨(some 34), none, .mv (.c (.int .i64 0))⟩])
 (.block 0 (.loop (.seq (.ops [⟨(some 35), none, .bin 0 .lss (.t 34) (.t 33)⟩])
 (.seq (.cond (.t 35) (.skip) (.exit 0))
 (.seq (.block 1 (.seq (.ops [⟨(some 36), none, .mv (.t 34)⟩, ⟨(some 37), none, .iadr 2 (.t 32) (.t 34)⟩, ⟨(some 38), none, .load (some 2) (.t 37)⟩, ⟨(some 14), none, .alloc 82 [(.int .i64 0), (.int .i64 0)]⟩, ⟨(some 13), none, .mv (.t 36)⟩, ⟨none, none, .store 2 (.t 14) (.t 38)⟩])
 (.seq (.ops [⟨(some 40), none, .load (some 1) (.t 3)⟩, ⟨(some 41), none, .fadr 0 (.t 14)⟩, ⟨(some 42), none, .load none (.t 41)⟩, ⟨(some 43), none, .call 20 [(.t 40), (.t 42)]⟩, ⟨(some 39), none, .mv (.t 43)⟩, ⟨(some 44), none, .ext (.t 39) 0⟩, ⟨(some 45), none, .ext (.t 39) 1⟩, ⟨(some 46), none, .ext (.t 39) 2⟩, ⟨(some 15), none, .mv (.t 44)⟩, ⟨(some 16), none, .mv (.t 45)⟩, ⟨(some 17), none, .mv (.t 46)⟩])
 (.seq (.any [(⟨(some 47), none, .mv (.t 11)⟩, []), (⟨(some 48), none, .call 83 [(.t 47)]⟩, []), (⟨(some 49), none, .load (some 2) (.t 14)⟩, [0, 1]), (⟨(some 50), none, .bslice 82 2 1 [(.int .i64 0), (.int .i64 0)] [(0, 2, (.t 49))]⟩, [0, 1]), (⟨(some 51), none, .app 82 2 16 (.t 48) (.t 50)⟩, []), (⟨(some 18), none, .mv (.t 51)⟩, [])])
 (.seq (.ops [⟨(some 52), none, .mv (.t 18)⟩, ⟨(some 53), none, .len false (.t 52)⟩, ⟨(some 19), none, .mv (.t 53)⟩])
 (.block 2 (.seq (.ops [⟨(some 59), none, .mv (.t 11)⟩, ⟨(some 60), none, .mv (.t 9)⟩, ⟨(some 61), none, .call 46 [(.t 59), (.t 60)]⟩, ⟨(some 58), none, .mv (.t 61)⟩])
 (.cond (.t 58) (.seq (.ops [⟨(some 11), none, .mv (.c (.lit true 0 []))⟩])
 (.seq (.seq (.ops [⟨(some 62), none, .mv (.t 17)⟩, ⟨(some 63), none, .un .not (.t 62)⟩])
 (.cond (.t 63) (.seq (.ops [⟨(some 64), none, .mv (.t 12)⟩, ⟨(some 65), none, .mv (.t 13)⟩, ⟨(some 66), none, .bslice 3 1 1 [(.int .i64 0)] [(0, 1, (.t 65))]⟩, ⟨(some 67), none, .app 3 1 8 (.t 64) (.t 66)⟩, ⟨(some 12), none, .mv (.t 67)⟩])
 (.exit 1)) (.skip)))
 (.any [(⟨(some 68), none, .mv (.t 8)⟩, []), (⟨(some 69), none, .fadr 0 (.t 14)⟩, [0]), (⟨(some 70), none, .load none (.t 69)⟩, [0]), (⟨(some 71), none, .iadr 1 (.t 68) (.t 70)⟩, []), (⟨(some 72), none, .load none (.t 71)⟩, []), (⟨(some 73), none, .fadr 1 (.t 14)⟩, [0, 1, 2, 3, 4]), (⟨(some 74), none, .load none (.t 73)⟩, [0, 1, 2, 3, 4]), (⟨(some 75), none, .bin 0 .and (.t 72) (.t 74)⟩, []), (⟨(some 76), none, .iadr 1 (.t 68) (.t 70)⟩, []), (⟨none, none, .store 1 (.t 76) (.t 75)⟩, [])]))) (.seq (.ops [⟨(some 78), none, .fadr 1 (.t 14)⟩, ⟨(some 79), none, .load none (.t 78)⟩, ⟨(some 80), none, .bin 0 .eql (.t 79) (.c (.int .i64 240))⟩, ⟨(some 77), none, .mv (.t 80)⟩])
 (.cond (.t 77) (.ops [⟨(some 11), none, .mv (.c (.lit true 0 []))⟩]) (.seq (.ops [⟨(some 82), none, .mv (.t 11)⟩, ⟨(some 83), none, .mv (.t 10)⟩, ⟨(some 84), none, .call 46 [(.t 82), (.t 83)]⟩, ⟨(some 81), none, .mv (.t 84)⟩])
 (.cond (.t 81) (.seq (.ops [⟨(some 11), none, .mv (.c (.lit true 0 []))⟩])
 (.seq (.seq (.ops [⟨(some 85), none, .fadr 1 (.t 14)⟩, ⟨(some 86), none, .load none (.t 85)⟩, ⟨(some 87), none, .bin 0 .neq (.t 86) (.c (.int .i64 48))⟩, ⟨(some 88), none, .mv (.t 87)⟩, ⟨(some 89), (some (88, false)), .mv (.t 17)⟩, ⟨(some 90), (some (88, false)), .un .not (.t 89)⟩, ⟨(some 91), none, .pick (.t 88) (.c (.bool true)) (.t 90)⟩])
 (.cond (.t 91) (.seq (.ops [⟨(some 92), none, .mv (.t 12)⟩, ⟨(some 93), none, .mv (.t 13)⟩, ⟨(some 94), none, .bslice 3 1 1 [(.int .i64 0)] [(0, 1, (.t 93))]⟩, ⟨(some 95), none, .app 3 1 8 (.t 92) (.t 94)⟩, ⟨(some 12), none, .mv (.t 95)⟩])
 (.exit 1)) (.skip)))
 (.ops [⟨(some 96), none, .load (some 1) (.t 3)⟩, ⟨(some 97), none, .mv (.t 8)⟩, ⟨(some 98), none, .mv (.t 15)⟩, ⟨(some 99), none, .call 68 [(.t 96), (.t 97), (.t 98)]⟩, ⟨(some 8), none, .mv (.t 99)⟩]))) (.seq (.seq (.ops [⟨(some 101), none, .mv (.t 19)⟩, ⟨(some 102), none, .mv (.t 9)⟩, ⟨(some 103), none, .len false (.t 102)⟩, ⟨(some 104), none, .bin 0 .leq (.t 101) (.t 103)⟩, ⟨(some 105), none, .mv (.t 104)⟩, ⟨(some 106), (some (105, true)), .mv (.t 18)⟩, ⟨(some 107), (some (105, true)), .mv (.t 9)⟩, ⟨(some 108), (some (105, true)), .mv (.t 19)⟩, ⟨(some 109), (some (105, true)), .slc 2 (.t 107) none (some (.t 108))⟩, ⟨(some 110), (some (105, true)), .call 46 [(.t 106), (.t 109)]⟩, ⟨(some 111), none, .pick (.t 105) (.t 110) (.c (.bool false))⟩, ⟨(some 100), none, .mv (.t 111)⟩])
 (.cond (.t 100) (.skip) (.ops [⟨(some 112), none, .mv (.t 19)⟩, ⟨(some 113), none, .mv (.t 10)⟩, ⟨(some 114), none, .len false (.t 113)⟩, ⟨(some 115), none, .bin 0 .leq (.t 112) (.t 114)⟩, ⟨(some 116), none, .mv (.t 115)⟩, ⟨(some 117), (some (116, true)), .mv (.t 18)⟩, ⟨(some 118), (some (116, true)), .mv (.t 10)⟩, ⟨(some 119), (some (116, true)), .mv (.t 19)⟩, ⟨(some 120), (some (116, true)), .slc 2 (.t 118) none (some (.t 119))⟩, ⟨(some 121), (some (116, true)), .call 46 [(.t 117), (.t 120)]⟩, ⟨(some 122), none, .pick (.t 116) (.t 121) (.c (.bool false))⟩, ⟨(some 100), none, .mv (.t 122)⟩])))
 (.cond (.t 100) (.ops [⟨(some 123), none, .mv (.t 18)⟩, ⟨(some 11), none, .mv (.t 123)⟩]) (.seq (.ops [⟨(some 11), none, .mv (.c (.lit true 0 []))⟩])
 (.ops [⟨(some 54), none, .mv (.t 12)⟩, ⟨(some 55), none, .mv (.t 13)⟩, ⟨(some 56), none, .bslice 3 1 1 [(.int .i64 0)] [(0, 1, (.t 55))]⟩, ⟨(some 57), none, .app 3 1 8 (.t 54) (.t 56)⟩, ⟨(some 12), none, .mv (.t 57)⟩]))))))))))))))))
 (.ops [⟨(some 124), none, .bin 0 .add (.t 34) (.c (.int .i64 1))⟩, ⟨(some 34), none, .mv (.t 124)⟩])))))))
 (.seq (.ops [⟨(some 125), none, .mv (.t 8)⟩, ⟨(some 126), none, .mv (.t 12)⟩, ⟨(some 6), none, .mv (.t 125)⟩, ⟨(some 7), none, .mv (.t 126)⟩])
 (.ret))))))))⟩
theorem c53 : compF Go.Proofs.Try.prog 53 = some a53 := by kernel_rfl
def a54 : AFn := ⟨22, [.t 4], .seq (.ops [⟨(some 2), none, .box 27 (.t 0)⟩, ⟨(some 4), none, .mv (.c (.int .i64 0))⟩])
 (.seq (.seq (.ops [⟨(some 7), none, .mv (.t 1)⟩, ⟨(some 8), none, .len false (.t 7)⟩, ⟨(some 9), none, .load (some 1) (.t 2)⟩, ⟨(some 10), none, .call 61 [(.t 9)]⟩, ⟨(some 11), none, .bin 0 .neq (.t 8) (.t 10)⟩])
 (.cond (.t 11) (.seq (.ops [⟨(some 4), none, .mv (.c (.int .i64 3))⟩])
 (.ret)) (.skip)))
 (.seq (.seq (.ops [⟨(some 12), none, .mv (.t 1)⟩, ⟨(some 13), none, .len false (.t 12)⟩, ⟨(some 14), none, .mv (.c (.int .i64 0))⟩])
 (.block 0 (.loop (.seq (.ops [⟨(some 15), none, .bin 0 .lss (.t 14) (.t 13)⟩])
 (.seq (.cond (.t 15) (.skip) (.exit 0))
 (.seq (.block 1 (.seq (.ops [⟨(some 16), none, .iadr 1 (.t 12) (.t 14)⟩, ⟨(some 17), none, .load none (.t 16)⟩, ⟨(some 6), none, .mv (.t 17)⟩])
 (.seq (.ops [⟨(some 18), none, .mv (.t 6)⟩, ⟨(some 19), none, .call 60 [(.t 18), (.c (.int .i64 0)), (.c (.int .i64 65535))]⟩, ⟨(some 20), none, .un .not (.t 19)⟩])
 (.cond (.t 20) (.seq (.ops [⟨(some 4), none, .mv (.c (.int .i64 1))⟩])
 (.ret)) (.skip)))))
 (.ops [⟨(some 21), none, .bin 0 .add (.t 14) (.c (.int .i64 1))⟩, ⟨(some 14), none, .mv (.t 21)⟩])))))))
 (.seq (.ops [⟨(some 4), none, .mv (.c (.int .i64 0))⟩])
 (.ret))))⟩
theorem c54 : compF Go.Proofs.Try.prog 54 = some a54 := by kernel_rfl
def a59 : AFn := ⟨22, [.t 6], .seq (.ops [⟨(some 6), none, .mv (.c (.int .i64 0))⟩])
 (.seq (.seq (.ops [⟨(some 7), none, .mv (.t 0)⟩, ⟨(some 8), none, .call 31 [(.t 7), (.c (.int .i64 12))]⟩])
 (.cond (.t 8) (.seq (.ops [⟨(some 9), none, .mv (.t 0)⟩, ⟨(some 10), none, .mv (.t 1)⟩, ⟨(some 11), none, .bin 0 .sub (.t 10) (.c (.int .i64 1))⟩, ⟨(some 12), none, .mv (.t 2)⟩, ⟨(some 13), none, .bin 0 .add (.t 12) (.c (.int .i64 1))⟩, ⟨(some 14), none, .mv (.t 1)⟩, ⟨(some 15), none, .mv (.t 2)⟩, ⟨(some 16), none, .bslice 3 1 6 [(.int .i64 0)] [(0, 1, (.t 11)), (1, 1, (.t 13)), (2, 1, (.t 14)), (3, 1, (.t 15)), (4, 1, (.c (.int .i64 (-1099511627776)))), (5, 1, (.c (.int .i64 1099511627776)))]⟩, ⟨(some 17), none, .call 12 [(.t 9), (.t 16)]⟩, ⟨(some 6), none, .mv (.t 17)⟩])
 (.ret)) (.skip)))
 (.seq (.ops [⟨(some 18), none, .mv (.t 0)⟩, ⟨(some 19), none, .mv (.t 1)⟩, ⟨(some 20), none, .mv (.t 2)⟩, ⟨(some 21), none, .call 30 [(.t 18), (.t 19), (.t 20)]⟩, ⟨(some 6), none, .mv (.t 21)⟩])
 (.ret)))⟩
theorem c59 : compF Go.Proofs.Try.prog 59 = some a59 := by kernel_rfl
def a60 : AFn := ⟨15, [.t 6], .seq (.ops [⟨(some 6), none, .mv (.c (.bool false))⟩])
 (.seq (.ops [⟨(some 7), none, .mv (.t 1)⟩, ⟨(some 8), none, .mv (.t 0)⟩, ⟨(some 9), none, .bin 0 .leq (.t 7) (.t 8)⟩, ⟨(some 10), none, .mv (.t 9)⟩, ⟨(some 11), (some (10, true)), .mv (.t 0)⟩, ⟨(some 12), (some (10, true)), .mv (.t 2)⟩, ⟨(some 13), (some (10, true)), .bin 0 .leq (.t 11) (.t 12)⟩, ⟨(some 14), none, .pick (.t 10) (.t 13) (.c (.bool false))⟩, ⟨(some 6), none, .mv (.t 14)⟩])
 (.ret))⟩
theorem c60 : compF Go.Proofs.Try.prog 60 = some a60 := by kernel_rfl
def a61 : AFn := ⟨18, [.t 2], .seq (.ops [⟨(some 1), none, .box 27 (.t 0)⟩, ⟨(some 2), none, .mv (.c (.int .i64 0))⟩])
 (.seq (.ops [⟨(some 3), none, .mv (.c (.int .i64 0))⟩])
 (.seq (.seq (.ops [⟨(some 6), none, .fadr 0 (.t 1)⟩, ⟨(some 7), none, .load none (.t 6)⟩, ⟨(some 8), none, .len false (.t 7)⟩, ⟨(some 9), none, .mv (.c (.int .i64 0))⟩])
 (.block 0 (.loop (.seq (.ops [⟨(some 10), none, .bin 0 .lss (.t 9) (.t 8)⟩])
 (.seq (.cond (.t 10) (.skip) (.exit 0))
 (.seq (.block 1 (.seq (.ops [⟨(some 11), none, .iadr 1 (.t 7) (.t 9)⟩, ⟨(some 12), none, .load none (.t 11)⟩, ⟨(some 5), none, .mv (.t 12)⟩])
 (.ops [⟨(some 13), none, .mv (.t 3)⟩, ⟨(some 14), none, .mv (.t 5)⟩, ⟨(some 15), none, .bin 0 .add (.t 13) (.t 14)⟩, ⟨(some 3), none, .mv (.t 15)⟩])))
 (.ops [⟨(some 16), none, .bin 0 .add (.t 9) (.c (.int .i64 1))⟩, ⟨(some 9), none, .mv (.t 16)⟩])))))))
 (.seq (.ops [⟨(some 17), none, .mv (.t 3)⟩, ⟨(some 2), none, .mv (.t 17)⟩])
 (.ret))))⟩
theorem c61 : compF Go.Proofs.Try.prog 61 = some a61 := by kernel_rfl
def a62 : AFn := ⟨15, [.t 6], .seq (.ops [⟨(some 6), none, .mv (.c (.bool false))⟩])
 (.seq (.ops [⟨(some 7), none, .mv (.t 0)⟩, ⟨(some 8), none, .mv (.t 1)⟩, ⟨(some 9), none, .bin 0 .lss (.t 7) (.t 8)⟩, ⟨(some 10), none, .mv (.t 9)⟩, ⟨(some 11), (some (10, false)), .mv (.t 0)⟩, ⟨(some 12), (some (10, false)), .mv (.t 2)⟩, ⟨(some 13), (some (10, false)), .bin 0 .gtr (.t 11) (.t 12)⟩, ⟨(some 14), none, .pick (.t 10) (.c (.bool true)) (.t 13)⟩, ⟨(some 6), none, .mv (.t 14)⟩])
 (.ret))⟩
theorem c62 : compF Go.Proofs.Try.prog 62 = some a62 := by kernel_rfl
def a63 : AFn := ⟨18, [.t 2], .seq (.ops [⟨(some 1), none, .box 27 (.t 0)⟩, ⟨(some 2), none, .mv (.c (.int .i64 0))⟩])
 (.seq (.ops [⟨(some 3), none, .mv (.c (.int .i64 0))⟩])
 (.seq (.seq (.ops [⟨(some 6), none, .fadr 0 (.t 1)⟩, ⟨(some 7), none, .load none (.t 6)⟩, ⟨(some 8), none, .len false (.t 7)⟩, ⟨(some 9), none, .mv (.c (.int .i64 0))⟩])
 (.block 0 (.loop (.seq (.ops [⟨(some 10), none, .bin 0 .lss (.t 9) (.t 8)⟩])
 (.seq (.cond (.t 10) (.skip) (.exit 0))
 (.seq (.block 1 (.seq (.ops [⟨(some 11), none, .iadr 1 (.t 7) (.t 9)⟩, ⟨(some 12), none, .load none (.t 11)⟩, ⟨(some 5), none, .mv (.t 12)⟩])
 (.ops [⟨(some 13), none, .mv (.t 3)⟩, ⟨(some 14), none, .mv (.t 5)⟩, ⟨(some 15), none, .bin 0 .add (.t 13) (.t 14)⟩, ⟨(some 3), none, .mv (.t 15)⟩])))
 (.ops [⟨(some 16), none, .bin 0 .add (.t 9) (.c (.int .i64 1))⟩, ⟨(some 9), none, .mv (.t 16)⟩])))))))
 (.seq (.ops [⟨(some 17), none, .mv (.t 3)⟩, ⟨(some 2), none, .mv (.t 17)⟩])
 (.ret))))⟩
theorem c63 : compF Go.Proofs.Try.prog 63 = some a63 := by kernel_rfl
def a64 : AFn := ⟨26, [.t 4, .t 5], .seq (.ops [⟨(some 2), none, .box 27 (.t 0)⟩, ⟨(some 4), none, .mv (.c (.int .i64 0))⟩, ⟨(some 5), none, .mv (.c (.int .i64 0))⟩])
 (.seq (.block 0 (.loop (.seq (.seq (.ops [⟨(some 6), none, .mv (.t 5)⟩, ⟨(some 7), none, .fadr 0 (.t 2)⟩, ⟨(some 8), none, .load none (.t 7)⟩, ⟨(some 9), none, .mv (.t 4)⟩, ⟨(some 10), none, .iadr 1 (.t 8) (.t 9)⟩, ⟨(some 11), none, .load none (.t 10)⟩, ⟨(some 12), none, .bin 0 .add (.t 6) (.t 11)⟩, ⟨(some 13), none, .mv (.t 1)⟩, ⟨(some 14), none, .bin 0 .leq (.t 12) (.t 13)⟩])
 (.cond (.t 14) (.skip) (.exit 0)))
 (.block 1 (.seq (.ops [⟨(some 15), none, .mv (.t 5)⟩, ⟨(some 16), none, .fadr 0 (.t 2)⟩, ⟨(some 17), none, .load none (.t 16)⟩, ⟨(some 18), none, .mv (.t 4)⟩, ⟨(some 19), none, .iadr 1 (.t 17) (.t 18)⟩, ⟨(some 20), none, .load none (.t 19)⟩, ⟨(some 21), none, .bin 0 .add (.t 15) (.t 20)⟩, ⟨(some 5), none, .mv (.t 21)⟩])
 (.ops [⟨(some 22), none, .mv (.t 4)⟩, ⟨(some 23), none, .bin 0 .add (.t 22) (.c (.int .i64 1))⟩, ⟨(some 4), none, .mv (.t 23)⟩]))))))
 (.seq (.ops [⟨(some 24), none, .mv (.t 4)⟩, ⟨(some 25), none, .mv (.t 5)⟩, ⟨(some 4), none, .mv (.t 24)⟩, ⟨(some 5), none, .mv (.t 25)⟩])
 (.ret)))⟩
theorem c64 : compF Go.Proofs.Try.prog 64 = some a64 := by kernel_rfl
def a65 : AFn := ⟨15, [.t 2], .seq (.ops [⟨(some 2), none, .mv (.c (.int .i64 0))⟩])
 (.seq (.seq (.ops [⟨(some 5), none, .mv (.t 0)⟩, ⟨(some 6), none, .len false (.t 5)⟩, ⟨(some 7), none, .mv (.c (.int .i64 0))⟩])
 (.block 0 (.loop (.seq (.ops [⟨(some 8), none, .bin 0 .lss (.t 7) (.t 6)⟩])
 (.seq (.cond (.t 8) (.skip) (.exit 0))
 (.seq (.block 1 (.seq (.ops [⟨(some 9), none, .iadr 1 (.t 5) (.t 7)⟩, ⟨(some 10), none, .load none (.t 9)⟩, ⟨(some 4), none, .mv (.t 10)⟩])
 (.seq (.ops [⟨(some 11), none, .mv (.t 4)⟩, ⟨(some 12), none, .bin 0 .neq (.t 11) (.c (.int .i64 0))⟩])
 (.cond (.t 12) (.seq (.ops [⟨(some 13), none, .mv (.t 4)⟩, ⟨(some 2), none, .mv (.t 13)⟩])
 (.ret)) (.skip)))))
 (.ops [⟨(some 14), none, .bin 0 .add (.t 7) (.c (.int .i64 1))⟩, ⟨(some 7), none, .mv (.t 14)⟩])))))))
 (.seq (.ops [⟨(some 2), none, .mv (.c (.int .i64 0))⟩])
 (.ret)))⟩
theorem c65 : compF Go.Proofs.Try.prog 65 = some a65 := by kernel_rfl
def a66 : AFn := ⟨8, [.t 2], .seq (.ops [⟨(some 2), none, .mv (.c (.lit true 0 []))⟩])
 (.seq (.seq (.ops [⟨(some 3), none, .mv (.t 0)⟩, ⟨(some 4), none, .bin 3 .eql (.t 3) (.c (.lit true 0 []))⟩])
 (.cond (.t 4) (.seq (.ops [⟨(some 2), none, .mv (.c (.lit true 0 []))⟩])
 (.ret)) (.skip)))
 (.seq (.ops [⟨(some 5), none, .bslice 3 1 0 [(.int .i64 0)] []⟩, ⟨(some 6), none, .mv (.t 0)⟩, ⟨(some 7), none, .app 3 1 8 (.t 5) (.t 6)⟩, ⟨(some 2), none, .mv (.t 7)⟩])
 (.ret)))⟩
theorem c66 : compF Go.Proofs.Try.prog 66 = some a66 := by kernel_rfl
def a67 : AFn := ⟨22, [], .seq (.ops [⟨(some 3), none, .box 27 (.t 0)⟩])
 (.seq (.ops [⟨(some 8), none, .load (some 1) (.t 3)⟩, ⟨(some 9), none, .mv (.t 2)⟩, ⟨(some 10), none, .call 73 [(.t 8), (.t 9)]⟩, ⟨(some 6), none, .alloc 67 [(.int .i64 0), (.int .i64 0)]⟩, ⟨none, none, .store 2 (.t 6) (.t 10)⟩])
 (.seq (.ops [⟨(some 11), none, .fadr 0 (.t 6)⟩, ⟨(some 12), none, .load none (.t 11)⟩, ⟨(some 7), none, .mv (.t 12)⟩])
 (.block 0 (.loop (.seq (.seq (.ops [⟨(some 13), none, .mv (.t 7)⟩, ⟨(some 14), none, .fadr 1 (.t 6)⟩, ⟨(some 15), none, .load none (.t 14)⟩, ⟨(some 16), none, .bin 0 .lss (.t 13) (.t 15)⟩])
 (.cond (.t 16) (.skip) (.exit 0)))
 (.seq (.block 1 (.ops [⟨(some 19), none, .mv (.t 1)⟩, ⟨(some 20), none, .mv (.t 7)⟩, ⟨(some 21), none, .iadr 1 (.t 19) (.t 20)⟩, ⟨none, none, .store 1 (.t 21) (.c (.int .i64 65535))⟩]))
 (.ops [⟨(some 17), none, .mv (.t 7)⟩, ⟨(some 18), none, .bin 0 .add (.t 17) (.c (.int .i64 1))⟩, ⟨(some 7), none, .mv (.t 18)⟩])))))))⟩
theorem c67 : compF Go.Proofs.Try.prog 67 = some a67 := by kernel_rfl
def a68 : AFn := ⟨34, [.t 6], .seq (.ops [⟨(some 3), none, .box 27 (.t 0)⟩, ⟨(some 6), none, .mv (.c (.lit true 0 []))⟩])
 (.seq (.ops [⟨(some 12), none, .mv (.t 1)⟩, ⟨(some 13), none, .call 66 [(.t 12)]⟩, ⟨(some 7), none, .mv (.t 13)⟩])
 (.seq (.seq (.ops [⟨(some 14), none, .mv (.t 7)⟩, ⟨(some 15), none, .len false (.t 14)⟩, ⟨(some 16), none, .mv (.c (.int .i64 0))⟩])
 (.block 0 (.loop (.seq (.ops [⟨(some 17), none, .bin 0 .lss (.t 16) (.t 15)⟩])
 (.seq (.cond (.t 17) (.skip) (.exit 0))
 (.seq (.block 1 (.seq (.ops [⟨(some 18), none, .mv (.t 16)⟩, ⟨(some 8), none, .mv (.t 18)⟩])
 (.seq (.ops [⟨(some 20), none, .load (some 1) (.t 3)⟩, ⟨(some 21), none, .mv (.t 8)⟩, ⟨(some 22), none, .call 20 [(.t 20), (.t 21)]⟩, ⟨(some 19), none, .mv (.t 22)⟩, ⟨(some 23), none, .ext (.t 19) 0⟩, ⟨(some 24), none, .ext (.t 19) 1⟩, ⟨(some 25), none, .ext (.t 19) 2⟩, ⟨(some 9), none, .mv (.t 23)⟩, ⟨(some 10), none, .mv (.t 24)⟩, ⟨(some 11), none, .mv (.t 25)⟩])
 (.seq (.ops [⟨(some 26), none, .mv (.t 9)⟩, ⟨(some 27), none, .mv (.t 2)⟩, ⟨(some 28), none, .bin 0 .eql (.t 26) (.t 27)⟩])
 (.cond (.t 28) (.ops [⟨(some 29), none, .mv (.t 7)⟩, ⟨(some 30), none, .mv (.t 8)⟩, ⟨(some 31), none, .iadr 1 (.t 29) (.t 30)⟩, ⟨none, none, .store 1 (.t 31) (.c (.int .i64 65535))⟩]) (.skip))))))
 (.ops [⟨(some 32), none, .bin 0 .add (.t 16) (.c (.int .i64 1))⟩, ⟨(some 16), none, .mv (.t 32)⟩])))))))
 (.seq (.ops [⟨(some 33), none, .mv (.t 7)⟩, ⟨(some 6), none, .mv (.t 33)⟩])
 (.ret))))⟩
theorem c68 : compF Go.Proofs.Try.prog 68 = some a68 := by kernel_rfl
def a69 : AFn := ⟨16, [.t 4], .seq (.ops [⟨(some 4), none, .mv (.c (.int .i64 0))⟩])
 (.seq (.seq (.ops [⟨(some 5), none, .mv (.t 1)⟩, ⟨(some 6), none, .bin 0 .lss (.t 5) (.c (.int .i64 1))⟩])
 (.cond (.t 6) (.seq (.ops [⟨(some 4), none, .mv (.c (.int .i64 0))⟩])
 (.ret)) (.skip)))
 (.seq (.ops [⟨(some 7), none, .mv (.t 0)⟩, ⟨(some 8), none, .mv (.t 1)⟩, ⟨(some 9), none, .bin 0 .rem (.t 7) (.t 8)⟩, ⟨(some 0), none, .mv (.t 9)⟩])
 (.seq (.seq (.ops [⟨(some 10), none, .mv (.t 0)⟩, ⟨(some 11), none, .bin 0 .lss (.t 10) (.c (.int .i64 0))⟩])
 (.cond (.t 11) (.ops [⟨(some 12), none, .mv (.t 0)⟩, ⟨(some 13), none, .mv (.t 1)⟩, ⟨(some 14), none, .bin 0 .add (.t 12) (.t 13)⟩, ⟨(some 0), none, .mv (.t 14)⟩]) (.skip)))
 (.seq (.ops [⟨(some 15), none, .mv (.t 0)⟩, ⟨(some 4), none, .mv (.t 15)⟩])
 (.ret)))))⟩
theorem c69 : compF Go.Proofs.Try.prog 69 = some a69 := by kernel_rfl
def a73 : AFn := ⟨30, [.c 4 (some 2)], .seq (.ops [⟨(some 2), none, .box 27 (.t 0)⟩, ⟨(some 4), none, .alloc 67 [(.int .i64 0), (.int .i64 0)]⟩])
 (.seq (.ops [⟨(some 5), none, .mv (.c (.int .i64 0))⟩])
 (.seq (.seq (.ops [⟨(some 8), none, .fadr 0 (.t 2)⟩, ⟨(some 9), none, .load none (.t 8)⟩, ⟨(some 10), none, .mv (.t 1)⟩, ⟨(some 11), none, .slc 1 (.t 9) none (some (.t 10))⟩, ⟨(some 12), none, .len false (.t 11)⟩, ⟨(some 13), none, .mv (.c (.int .i64 0))⟩])
 (.block 0 (.loop (.seq (.ops [⟨(some 14), none, .bin 0 .lss (.t 13) (.t 12)⟩])
 (.seq (.cond (.t 14) (.skip) (.exit 0))
 (.seq (.block 1 (.seq (.ops [⟨(some 15), none, .iadr 1 (.t 11) (.t 13)⟩, ⟨(some 16), none, .load none (.t 15)⟩, ⟨(some 7), none, .mv (.t 16)⟩])
 (.ops [⟨(some 17), none, .mv (.t 5)⟩, ⟨(some 18), none, .mv (.t 7)⟩, ⟨(some 19), none, .bin 0 .add (.t 17) (.t 18)⟩, ⟨(some 5), none, .mv (.t 19)⟩])))
 (.ops [⟨(some 20), none, .bin 0 .add (.t 13) (.c (.int .i64 1))⟩, ⟨(some 13), none, .mv (.t 20)⟩])))))))
 (.seq (.ops [⟨(some 21), none, .mv (.t 5)⟩, ⟨(some 22), none, .mv (.t 5)⟩, ⟨(some 23), none, .fadr 0 (.t 2)⟩, ⟨(some 24), none, .load none (.t 23)⟩, ⟨(some 25), none, .mv (.t 1)⟩, ⟨(some 26), none, .iadr 1 (.t 24) (.t 25)⟩, ⟨(some 27), none, .load none (.t 26)⟩, ⟨(some 28), none, .bin 0 .add (.t 22) (.t 27)⟩, ⟨(some 29), none, .build [(.int .i64 0), (.int .i64 0)] [(0, 1, (.t 21)), (1, 1, (.t 28))]⟩, ⟨none, none, .store 2 (.t 4) (.t 29)⟩])
 (.ret))))⟩
theorem c73 : compF Go.Proofs.Try.prog 73 = some a73 := by kernel_rfl
def a80 : AFn := ⟨21, [.t 2], .seq (.ops [⟨(some 2), none, .mv (.c (.int .i64 0))⟩])
 (.seq (.ops [⟨(some 3), none, .mv (.c (.int .i64 0))⟩])
 (.seq (.seq (.ops [⟨(some 6), none, .mv (.t 0)⟩, ⟨(some 7), none, .len false (.t 6)⟩, ⟨(some 8), none, .mv (.c (.int .i64 0))⟩])
 (.block 0 (.loop (.seq (.ops [⟨(some 9), none, .bin 0 .lss (.t 8) (.t 7)⟩])
 (.seq (.cond (.t 9) (.skip) (.exit 0))
 (.seq (.block 1 (.seq (.ops [⟨(some 10), none, .iadr 3 (.t 6) (.t 8)⟩, ⟨(some 11), none, .load (some 3) (.t 10)⟩, ⟨(some 5), none, .alloc 63 [(.int .i64 0), (.int .i64 0), (.int .i64 0)]⟩, ⟨none, none, .store 3 (.t 5) (.t 11)⟩])
 (.seq (.ops [⟨(some 12), none, .fadr 0 (.t 5)⟩, ⟨(some 13), none, .load none (.t 12)⟩, ⟨(some 14), none, .bin 0 .eql (.t 13) (.c (.int .i64 1))⟩])
 (.cond (.t 14) (.ops [⟨(some 15), none, .mv (.t 3)⟩, ⟨(some 16), none, .bin 0 .add (.t 15) (.c (.int .i64 6))⟩, ⟨(some 3), none, .mv (.t 16)⟩]) (.ops [⟨(some 17), none, .mv (.t 3)⟩, ⟨(some 18), none, .bin 0 .add (.t 17) (.c (.int .i64 4))⟩, ⟨(some 3), none, .mv (.t 18)⟩])))))
 (.ops [⟨(some 19), none, .bin 0 .add (.t 8) (.c (.int .i64 1))⟩, ⟨(some 8), none, .mv (.t 19)⟩])))))))
 (.seq (.ops [⟨(some 20), none, .mv (.t 3)⟩, ⟨(some 2), none, .mv (.t 20)⟩])
 (.ret))))⟩
theorem c80 : compF Go.Proofs.Try.prog 80 = some a80 := by kernel_rfl
def a81 : AFn := ⟨52, [.t 4], .seq (.ops [⟨(some 2), none, .box 27 (.t 0)⟩, ⟨(some 3), none, .box 63 (.t 1)⟩, ⟨(some 4), none, .mv (.c (.lit true 0 []))⟩])
 (.seq (.ops [⟨(some 10), none, .build [(.int .i64 0), (.int .i64 0)] [(0, 1, (.c (.int .i64 1365))), (1, 1, (.c (.int .i64 170)))]⟩, ⟨(some 11), none, .build [(.int .i64 0), (.int .i64 0)] [(0, 1, (.c (.int .i64 682))), (1, 1, (.c (.int .i64 85)))]⟩, ⟨(some 12), none, .bslice 82 2 2 [(.int .i64 0), (.int .i64 0)] [(0, 2, (.t 10)), (2, 2, (.t 11))]⟩, ⟨(some 5), none, .mv (.t 12)⟩])
 (.seq (.seq (.ops [⟨(some 13), none, .fadr 0 (.t 3)⟩, ⟨(some 14), none, .load none (.t 13)⟩, ⟨(some 15), none, .bin 0 .eql (.t 14) (.c (.int .i64 2))⟩])
 (.cond (.t 15) (.seq (.any [(⟨(some 16), none, .mv (.t 5)⟩, []), (⟨(some 17), none, .call 83 [(.t 16)]⟩, []), (⟨(some 18), none, .build [(.int .i64 0), (.int .i64 0)] [(0, 1, (.c (.int .i64 1365))), (1, 1, (.c (.int .i64 160)))]⟩, [0, 1]), (⟨(some 19), none, .fadr 1 (.t 3)⟩, [0, 1, 2]), (⟨(some 20), none, .load none (.t 19)⟩, [0, 1, 2]), (⟨(some 21), none, .fadr 2 (.t 3)⟩, [0, 1, 2, 3, 4]), (⟨(some 22), none, .load none (.t 21)⟩, [0, 1, 2, 3, 4]), (⟨(some 23), none, .build [(.int .i64 0), (.int .i64 0)] [(0, 1, (.t 20)), (1, 1, (.t 22))]⟩, [0, 1, 2]), (⟨(some 24), none, .bslice 82 2 2 [(.int .i64 0), (.int .i64 0)] [(0, 2, (.t 18)), (2, 2, (.t 23))]⟩, [0, 1]), (⟨(some 25), none, .app 82 2 16 (.t 17) (.t 24)⟩, []), (⟨(some 4), none, .mv (.t 25)⟩, [])])
 (.ret)) (.skip)))
 (.seq (.ops [⟨(some 6), none, .mv (.c (.int .i64 0))⟩])
 (.seq (.seq (.ops [⟨(some 26), none, .fadr 0 (.t 2)⟩, ⟨(some 27), none, .load none (.t 26)⟩, ⟨(some 28), none, .fadr 1 (.t 3)⟩, ⟨(some 29), none, .load none (.t 28)⟩, ⟨(some 30), none, .slc 1 (.t 27) none (some (.t 29))⟩, ⟨(some 31), none, .len false (.t 30)⟩, ⟨(some 32), none, .mv (.c (.int .i64 0))⟩])
 (.block 0 (.loop (.seq (.ops [⟨(some 33), none, .bin 0 .lss (.t 32) (.t 31)⟩])
 (.seq (.cond (.t 33) (.skip) (.exit 0))
 (.seq (.block 1 (.seq (.ops [⟨(some 34), none, .iadr 1 (.t 30) (.t 32)⟩, ⟨(some 35), none, .load none (.t 34)⟩, ⟨(some 8), none, .mv (.t 35)⟩])
 (.ops [⟨(some 36), none, .mv (.t 6)⟩, ⟨(some 37), none, .mv (.t 8)⟩, ⟨(some 38), none, .bin 0 .add (.t 36) (.t 37)⟩, ⟨(some 6), none, .mv (.t 38)⟩])))
 (.ops [⟨(some 39), none, .bin 0 .add (.t 32) (.c (.int .i64 1))⟩, ⟨(some 32), none, .mv (.t 39)⟩])))))))
 (.seq (.ops [⟨(some 40), none, .mv (.t 5)⟩, ⟨(some 41), none, .call 83 [(.t 40)]⟩, ⟨(some 42), none, .build [(.int .i64 0), (.int .i64 0)] [(0, 1, (.c (.int .i64 1365))), (1, 1, (.c (.int .i64 128)))]⟩, ⟨(some 43), none, .bslice 82 2 1 [(.int .i64 0), (.int .i64 0)] [(0, 2, (.t 42))]⟩, ⟨(some 44), none, .app 82 2 16 (.t 41) (.t 43)⟩, ⟨(some 9), none, .mv (.t 44)⟩])
 (.seq (.ops [⟨(some 45), none, .mv (.t 9)⟩, ⟨(some 46), none, .mv (.t 5)⟩, ⟨(some 47), none, .app 82 2 16 (.t 45) (.t 46)⟩, ⟨(some 48), none, .mv (.t 6)⟩, ⟨(some 49), none, .build [(.int .i64 0), (.int .i64 0)] [(0, 1, (.t 48)), (1, 1, (.c (.int .i64 48)))]⟩, ⟨(some 50), none, .bslice 82 2 1 [(.int .i64 0), (.int .i64 0)] [(0, 2, (.t 49))]⟩, ⟨(some 51), none, .app 82 2 16 (.t 47) (.t 50)⟩, ⟨(some 4), none, .mv (.t 51)⟩])
 (.ret)))))))⟩
theorem c81 : compF Go.Proofs.Try.prog 81 = some a81 := by kernel_rfl
def a82 : AFn := ⟨98, [.t 4], .seq (.ops [⟨(some 3), none, .box 82 (.t 1)⟩, ⟨(some 4), none, .mv (.c (.bool false))⟩])
 (.seq (.seq (.ops [⟨(some 7), none, .fadr 1 (.t 3)⟩, ⟨(some 8), none, .load none (.t 7)⟩, ⟨(some 9), none, .bin 0 .eql (.t 8) (.c (.int .i64 240))⟩, ⟨(some 10), none, .mv (.t 9)⟩, ⟨(some 11), (some (10, true)), .mv (.t 0)⟩, ⟨(some 12), (some (10, true)), .nilchk (.t 11)⟩, ⟨(some 13), (some (10, true)), .fadr 2 (.t 12)⟩, ⟨(some 14), (some (10, true)), .load none (.t 13)⟩, ⟨(some 15), (some (10, true)), .bin 0 .neq (.t 14) (.c (.int .i64 9))⟩, ⟨(some 16), none, .pick (.t 10) (.t 15) (.c (.bool false))⟩])
 (.cond (.t 16) (.seq (.ops [⟨(some 17), none, .mv (.t 0)⟩, ⟨(some 18), none, .nilchk (.t 17)⟩, ⟨(some 19), none, .fadr 2 (.t 18)⟩, ⟨none, none, .store 1 (.t 19) (.c (.int .i64 0))⟩])
 (.seq (.ops [⟨(some 4), none, .mv (.c (.bool true))⟩])
 (.ret))) (.skip)))
 (.seq (.seq (.ops [⟨(some 20), none, .mv (.t 0)⟩, ⟨(some 21), none, .load (some 2) (.t 3)⟩, ⟨(some 22), none, .call 97 [(.t 20), (.t 21)]⟩, ⟨(some 23), none, .un .not (.t 22)⟩])
 (.cond (.t 23) (.seq (.ops [⟨(some 24), none, .mv (.t 0)⟩, ⟨(some 25), none, .nilchk (.t 24)⟩, ⟨(some 26), none, .fadr 2 (.t 25)⟩, ⟨none, none, .store 1 (.t 26) (.c (.int .i64 0))⟩])
 (.seq (.ops [⟨(some 4), none, .mv (.c (.bool false))⟩])
 (.ret))) (.skip)))
 (.seq (.block 0 (.seq (.ops [⟨(some 35), none, .mv (.t 0)⟩, ⟨(some 36), none, .nilchk (.t 35)⟩, ⟨(some 37), none, .fadr 2 (.t 36)⟩, ⟨(some 38), none, .load none (.t 37)⟩, ⟨(some 39), none, .bin 0 .eql (.t 38) (.c (.int .i64 9))⟩, ⟨(some 34), none, .mv (.t 39)⟩])
 (.cond (.t 34) (.seq (.any [(⟨(some 40), none, .mv (.t 0)⟩, []), (⟨(some 41), none, .nilchk (.t 40)⟩, []), (⟨(some 42), none, .fadr 1 (.t 41)⟩, []), (⟨(some 43), none, .load none (.t 42)⟩, []), (⟨(some 44), none, .fadr 0 (.t 3)⟩, [0, 1, 2, 3]), (⟨(some 45), none, .load none (.t 44)⟩, [0, 1, 2, 3]), (⟨(some 46), none, .iadr 1 (.t 43) (.t 45)⟩, []), (⟨(some 47), none, .load none (.t 46)⟩, []), (⟨(some 48), none, .fadr 1 (.t 3)⟩, [0, 1, 2, 3, 4, 5, 6, 7]), (⟨(some 49), none, .load none (.t 48)⟩, [0, 1, 2, 3, 4, 5, 6, 7]), (⟨(some 50), none, .bin 0 .and (.t 47) (.t 49)⟩, []), (⟨(some 51), none, .iadr 1 (.t 43) (.t 45)⟩, []), (⟨none, none, .store 1 (.t 51) (.t 50)⟩, [])])
 (.ops [⟨(some 52), none, .mv (.t 0)⟩, ⟨(some 53), none, .nilchk (.t 52)⟩, ⟨(some 54), none, .fadr 2 (.t 53)⟩, ⟨none, none, .store 1 (.t 54) (.c (.int .i64 0))⟩])) (.seq (.ops [⟨(some 56), none, .mv (.t 0)⟩, ⟨(some 57), none, .nilchk (.t 56)⟩, ⟨(some 58), none, .fadr 2 (.t 57)⟩, ⟨(some 59), none, .load none (.t 58)⟩, ⟨(some 60), none, .bin 0 .eql (.t 59) (.c (.int .i64 5))⟩, ⟨(some 55), none, .mv (.t 60)⟩])
 (.cond (.t 55) (.seq (.any [(⟨(some 62), none, .mv (.t 0)⟩, []), (⟨(some 63), none, .nilchk (.t 62)⟩, []), (⟨(some 64), none, .fadr 0 (.t 63)⟩, []), (⟨(some 65), none, .load (some 1) (.t 64)⟩, []), (⟨(some 66), none, .fadr 0 (.t 3)⟩, [0, 1, 2, 3]), (⟨(some 67), none, .load none (.t 66)⟩, [0, 1, 2, 3]), (⟨(some 68), none, .call 64 [(.t 65), (.t 67)]⟩, []), (⟨(some 61), none, .mv (.t 68)⟩, []), (⟨(some 69), none, .ext (.t 61) 0⟩, []), (⟨(some 70), none, .ext (.t 61) 1⟩, [8]), (⟨(some 5), none, .mv (.t 69)⟩, [9]), (⟨(some 6), none, .mv (.t 70)⟩, [])])
 (.seq (.any [(⟨(some 71), none, .mv (.t 0)⟩, []), (⟨(some 72), none, .nilchk (.t 71)⟩, []), (⟨(some 73), none, .fadr 0 (.t 72)⟩, []), (⟨(some 74), none, .load (some 1) (.t 73)⟩, []), (⟨(some 75), none, .mv (.t 0)⟩, [0, 1, 2, 3]), (⟨(some 76), none, .nilchk (.t 75)⟩, [0, 1, 2, 3]), (⟨(some 77), none, .fadr 1 (.t 76)⟩, [0, 1, 2, 3]), (⟨(some 78), none, .load none (.t 77)⟩, [0, 1, 2, 3]), (⟨(some 79), none, .mv (.t 5)⟩, [0, 1, 2, 3, 4, 5, 6, 7]), (⟨(some 80), none, .call 67 [(.t 74), (.t 78), (.t 79)]⟩, [])])
 (.ops [⟨(some 81), none, .mv (.t 0)⟩, ⟨(some 82), none, .nilchk (.t 81)⟩, ⟨(some 83), none, .fadr 2 (.t 82)⟩, ⟨none, none, .store 1 (.t 83) (.c (.int .i64 0))⟩]))) (.seq (.ops [⟨(some 85), none, .mv (.t 0)⟩, ⟨(some 86), none, .nilchk (.t 85)⟩, ⟨(some 87), none, .fadr 2 (.t 86)⟩, ⟨(some 88), none, .load none (.t 87)⟩, ⟨(some 89), none, .bin 0 .eql (.t 88) (.c (.int .i64 2))⟩, ⟨(some 90), none, .mv (.t 89)⟩, ⟨(some 91), (some (90, true)), .fadr 1 (.t 3)⟩, ⟨(some 92), (some (90, true)), .load none (.t 91)⟩, ⟨(some 93), (some (90, true)), .bin 0 .eql (.t 92) (.c (.int .i64 160))⟩, ⟨(some 94), none, .pick (.t 90) (.t 93) (.c (.bool false))⟩, ⟨(some 84), none, .mv (.t 94)⟩])
 (.cond (.t 84) (.ops [⟨(some 95), none, .mv (.t 0)⟩, ⟨(some 96), none, .nilchk (.t 95)⟩, ⟨(some 97), none, .fadr 2 (.t 96)⟩, ⟨none, none, .store 1 (.t 97) (.c (.int .i64 9))⟩]) (.ops [⟨(some 27), none, .mv (.t 0)⟩, ⟨(some 28), none, .nilchk (.t 27)⟩, ⟨(some 29), none, .fadr 2 (.t 28)⟩, ⟨(some 30), none, .load none (.t 29)⟩, ⟨(some 31), none, .bin 0 .add (.t 30) (.c (.int .i64 1))⟩, ⟨(some 32), none, .nilchk (.t 27)⟩, ⟨(some 33), none, .fadr 2 (.t 32)⟩, ⟨none, none, .store 1 (.t 33) (.t 31)⟩]))))))))
 (.seq (.ops [⟨(some 4), none, .mv (.c (.bool true))⟩])
 (.ret)))))⟩
theorem c82 : compF Go.Proofs.Try.prog 82 = some a82 := by kernel_rfl
def a83 : AFn := ⟨8, [.t 2], .seq (.ops [⟨(some 2), none, .mv (.c (.lit true 0 []))⟩])
 (.seq (.seq (.ops [⟨(some 3), none, .mv (.t 0)⟩, ⟨(some 4), none, .bin 3 .eql (.t 3) (.c (.lit true 0 []))⟩])
 (.cond (.t 4) (.seq (.ops [⟨(some 2), none, .mv (.c (.lit true 0 []))⟩])
 (.ret)) (.skip)))
 (.seq (.ops [⟨(some 5), none, .bslice 82 2 0 [(.int .i64 0), (.int .i64 0)] []⟩, ⟨(some 6), none, .mv (.t 0)⟩, ⟨(some 7), none, .app 82 2 16 (.t 5) (.t 6)⟩, ⟨(some 2), none, .mv (.t 7)⟩])
 (.ret)))⟩
theorem c83 : compF Go.Proofs.Try.prog 83 = some a83 := by kernel_rfl
def a97 : AFn := ⟨54, [.t 4], .seq (.ops [⟨(some 3), none, .box 82 (.t 1)⟩, ⟨(some 4), none, .mv (.c (.bool false))⟩])
 (.seq (.seq (.ops [⟨(some 5), none, .mv (.t 0)⟩, ⟨(some 6), none, .nilchk (.t 5)⟩, ⟨(some 7), none, .fadr 2 (.t 6)⟩, ⟨(some 8), none, .load none (.t 7)⟩])
 (.block 0 (.seq (.seq (.ops [⟨(some 10), none, .bin 0 .eql (.t 8) (.c (.int .i64 0))⟩, ⟨(some 9), none, .mv (.t 10)⟩])
 (.cond (.t 9) (.skip) (.ops [⟨(some 11), none, .bin 0 .eql (.t 8) (.c (.int .i64 3))⟩, ⟨(some 9), none, .mv (.t 11)⟩])))
 (.cond (.t 9) (.seq (.ops [⟨(some 12), none, .load (some 2) (.t 3)⟩, ⟨(some 13), none, .build [(.int .i64 0), (.int .i64 0)] [(0, 1, (.c (.int .i64 1365))), (1, 1, (.c (.int .i64 170)))]⟩, ⟨(some 14), none, .eqs false [0, 0] (.t 12) (.t 13)⟩, ⟨(some 4), none, .mv (.t 14)⟩])
 (.ret)) (.seq (.seq (.ops [⟨(some 16), none, .bin 0 .eql (.t 8) (.c (.int .i64 1))⟩, ⟨(some 15), none, .mv (.t 16)⟩])
 (.cond (.t 15) (.skip) (.ops [⟨(some 17), none, .bin 0 .eql (.t 8) (.c (.int .i64 4))⟩, ⟨(some 15), none, .mv (.t 17)⟩])))
 (.cond (.t 15) (.seq (.ops [⟨(some 18), none, .load (some 2) (.t 3)⟩, ⟨(some 19), none, .build [(.int .i64 0), (.int .i64 0)] [(0, 1, (.c (.int .i64 682))), (1, 1, (.c (.int .i64 85)))]⟩, ⟨(some 20), none, .eqs false [0, 0] (.t 18) (.t 19)⟩, ⟨(some 4), none, .mv (.t 20)⟩])
 (.ret)) (.seq (.ops [⟨(some 22), none, .bin 0 .eql (.t 8) (.c (.int .i64 2))⟩, ⟨(some 21), none, .mv (.t 22)⟩])
 (.cond (.t 21) (.seq (.ops [⟨(some 23), none, .load (some 2) (.t 3)⟩, ⟨(some 24), none, .build [(.int .i64 0), (.int .i64 0)] [(0, 1, (.c (.int .i64 1365))), (1, 1, (.c (.int .i64 160)))]⟩, ⟨(some 25), none, .eqs false [0, 0] (.t 23) (.t 24)⟩, ⟨(some 26), none, .mv (.t 25)⟩, ⟨(some 27), (some (26, false)), .load (some 2) (.t 3)⟩, ⟨(some 28), (some (26, false)), .build [(.int .i64 0), (.int .i64 0)] [(0, 1, (.c (.int .i64 1365))), (1, 1, (.c (.int .i64 128)))]⟩, ⟨(some 29), (some (26, false)), .eqs false [0, 0] (.t 27) (.t 28)⟩, ⟨(some 30), none, .pick (.t 26) (.c (.bool true)) (.t 29)⟩, ⟨(some 4), none, .mv (.t 30)⟩])
 (.ret)) (.seq (.ops [⟨(some 32), none, .bin 0 .eql (.t 8) (.c (.int .i64 5))⟩, ⟨(some 31), none, .mv (.t 32)⟩])
 (.cond (.t 31) (.seq (.any [(⟨(some 33), none, .fadr 1 (.t 3)⟩, []), (⟨(some 34), none, .load none (.t 33)⟩, []), (⟨(some 35), none, .bin 0 .eql (.t 34) (.c (.int .i64 48))⟩, []), (⟨(some 36), none, .mv (.t 35)⟩, []), (⟨(some 37), (some (36, true)), .fadr 0 (.t 3)⟩, []), (⟨(some 38), (some (36, true)), .load none (.t 37)⟩, []), (⟨(some 39), (some (36, true)), .mv (.t 0)⟩, [4, 5]), (⟨(some 40), (some (36, true)), .nilchk (.t 39)⟩, [4, 5]), (⟨(some 41), (some (36, true)), .fadr 1 (.t 40)⟩, [4, 5]), (⟨(some 42), (some (36, true)), .load none (.t 41)⟩, [4, 5]), (⟨(some 43), (some (36, true)), .len false (.t 42)⟩, [4, 5]), (⟨(some 44), (some (36, true)), .bin 0 .lss (.t 38) (.t 43)⟩, []), (⟨(some 45), none, .pick (.t 36) (.t 44) (.c (.bool false))⟩, []), (⟨(some 4), none, .mv (.t 45)⟩, [])])
 (.ret)) (.skip)))))))))))
 (.seq (.any [(⟨(some 46), none, .fadr 0 (.t 3)⟩, []), (⟨(some 47), none, .load none (.t 46)⟩, []), (⟨(some 48), none, .mv (.t 0)⟩, [0, 1]), (⟨(some 49), none, .nilchk (.t 48)⟩, [0, 1]), (⟨(some 50), none, .fadr 1 (.t 49)⟩, [0, 1]), (⟨(some 51), none, .load none (.t 50)⟩, [0, 1]), (⟨(some 52), none, .len false (.t 51)⟩, [0, 1]), (⟨(some 53), none, .bin 0 .lss (.t 47) (.t 52)⟩, []), (⟨(some 4), none, .mv (.t 53)⟩, [])])
 (.ret)))⟩
theorem c97 : compF Go.Proofs.Try.prog 97 = some a97 := by kernel_rfl
end Go.Proofs.Ytmnhlfkphibhfaa
/-
  The stream's draws, by the abstract machine.
-/
namespace Go.Proofs.Ytmnhlfkphibhfaa
open Go.RowKit
set_option linter.unusedVariables false
set_option linter.unusedSimpArgs false
set_option maxRecDepth 100000
theorem below_c (x n : Int) (nid : Nat) (hn : n ≤ 9223372036854775807) : ACall Try.prog 69 [.int .i64 x, .int .i64 n] [] nid (.int .i64 (below x n)) [] := by
  refine acall_run c69 (by simp [a69]) ?_
  simp -dsimp only [a69, aqT, ROp, OX, ↓seqK, ↓blkK, ↓loopK, step, stepBin, res, stepIdx, mix, PV.cells, argSlots, Nat.reduceBEq, Nat.reduceBeqDiff, Nat.add_assoc nid, Nat.reduceAdd, reduceCtorEq, ↓reduceIte, Nat.reduceLeDiff, colPV, freeOf, indep, offO, neqO, disj, namesX, axSlot, opXs, rdXs, idsOf, idsOfs, lowH, lowAll, keys, Nat.reduceBneDiff, Option.toList, ← Int.ofNat_tmod, ← Int.ofNat_tdiv, optInt, fillP, repl, chunk, mkCols, mkCol, colInts, colBools, colStrs, colLits, colsApp, Col.app, tailOf, splice, colsPut, Col.put, mmFold, eqK, Nat.reduceLT]
  refine S2.dec (fun h => ?_) (fun h => ?_)
  · simp -dsimp only [aqT, ROp, OX, ↓seqK, ↓blkK, ↓loopK, step, stepBin, res, stepIdx, mix, PV.cells, argSlots, Nat.reduceBEq, Nat.reduceBeqDiff, Nat.add_assoc nid, Nat.reduceAdd, reduceCtorEq, ↓reduceIte, Nat.reduceLeDiff, colPV, freeOf, indep, offO, neqO, disj, namesX, axSlot, opXs, rdXs, idsOf, idsOfs, lowH, lowAll, keys, Nat.reduceBneDiff, Option.toList, ← Int.ofNat_tmod, ← Int.ofNat_tdiv, optInt, fillP, repl, chunk, mkCols, mkCol, colInts, colBools, colStrs, colLits, colsApp, Col.app, tailOf, splice, colsPut, Col.put, mmFold, eqK, Nat.reduceLT]
    refine RetOK.pure (.inl rfl) rfl ?_
    simp [retPV, PVCov, getS, below, h]
  simp -dsimp only [aqT, ROp, OX, ↓seqK, ↓blkK, ↓loopK, step, stepBin, res, stepIdx, mix, PV.cells, argSlots, Nat.reduceBEq, Nat.reduceBeqDiff, Nat.add_assoc nid, Nat.reduceAdd, reduceCtorEq, ↓reduceIte, Nat.reduceLeDiff, colPV, freeOf, indep, offO, neqO, disj, namesX, axSlot, opXs, rdXs, idsOf, idsOfs, lowH, lowAll, keys, Nat.reduceBneDiff, Option.toList, ← Int.ofNat_tmod, ← Int.ofNat_tdiv, optInt, fillP, repl, chunk, mkCols, mkCol, colInts, colBools, colStrs, colLits, colsApp, Col.app, tailOf, splice, colsPut, Col.put, mmFold, eqK, Nat.reduceLT]
  refine ⟨by omega, S2.dec (fun h2 => ?_) (fun h2 => ?_)⟩
  · simp -dsimp only [aqT, ROp, OX, ↓seqK, ↓blkK, ↓loopK, step, stepBin, res, stepIdx, mix, PV.cells, argSlots, Nat.reduceBEq, Nat.reduceBeqDiff, Nat.add_assoc nid, Nat.reduceAdd, reduceCtorEq, ↓reduceIte, Nat.reduceLeDiff, colPV, freeOf, indep, offO, neqO, disj, namesX, axSlot, opXs, rdXs, idsOf, idsOfs, lowH, lowAll, keys, Nat.reduceBneDiff, Option.toList, ← Int.ofNat_tmod, ← Int.ofNat_tdiv, optInt, fillP, repl, chunk, mkCols, mkCol, colInts, colBools, colStrs, colLits, colsApp, Col.app, tailOf, splice, colsPut, Col.put, mmFold, eqK, Nat.reduceLT]
    have := Int.lt_tmod_of_pos x (show 0 < n by omega)
    refine ⟨by unfold inI64; omega, RetOK.pure (.inl rfl) rfl ?_⟩
    have h3 : x.tmod n + n = x % n := by rw [Int.tmod_eq_emod]; split <;> rw [Int.tmod_eq_emod] at h2 <;> rename_i h6 <;> simp only [h6, if_true, if_false, not_false_eq_true] at h2 <;> have := Int.emod_nonneg x (show n ≠ 0 by omega) <;> omega
    simp [retPV, over, keys, List.map_nil, List.map_cons, List.contains_cons, List.contains_nil, Bool.or_false, Bool.or_true, Bool.true_or, Bool.false_or, beq_self_eq_true, cond_true, cond_false, HeapCov, orNil, nilSz, onBlk, srcOf, getH_hit, getH_miss, getH.eq_1, getS_hit, getS_miss, getS.eq_1, BlkCov, PVCovs, PVCov, ColsEq, ColEq.refl, liveIds, SlotsCov, List.all_nil, List.all_cons, List.any_nil, List.any_cons, List.nil_append, List.cons_append, inRange, apart, nilBlk, idS1, idS2, readAll, readRes, onAll, step, res, AX.val, List.drop_zero, List.drop_succ_cons, List.take_succ_cons, List.take_zero, below, h, h3]
  · simp -dsimp only [aqT, ROp, OX, ↓seqK, ↓blkK, ↓loopK, step, stepBin, res, stepIdx, mix, PV.cells, argSlots, Nat.reduceBEq, Nat.reduceBeqDiff, Nat.add_assoc nid, Nat.reduceAdd, reduceCtorEq, ↓reduceIte, Nat.reduceLeDiff, colPV, freeOf, indep, offO, neqO, disj, namesX, axSlot, opXs, rdXs, idsOf, idsOfs, lowH, lowAll, keys, Nat.reduceBneDiff, Option.toList, ← Int.ofNat_tmod, ← Int.ofNat_tdiv, optInt, fillP, repl, chunk, mkCols, mkCol, colInts, colBools, colStrs, colLits, colsApp, Col.app, tailOf, splice, colsPut, Col.put, mmFold, eqK, Nat.reduceLT]
    refine RetOK.pure (.inl rfl) rfl ?_
    have h3 : x.tmod n = x % n := by rw [Int.tmod_eq_emod]; split <;> rw [Int.tmod_eq_emod] at h2 <;> rename_i h6 <;> simp only [h6, if_true, if_false, not_false_eq_true] at h2 <;> have := Int.emod_lt_of_pos x (show 0 < n by omega) <;> omega
    simp [retPV, over, keys, List.map_nil, List.map_cons, List.contains_cons, List.contains_nil, Bool.or_false, Bool.or_true, Bool.true_or, Bool.false_or, beq_self_eq_true, cond_true, cond_false, HeapCov, orNil, nilSz, onBlk, srcOf, getH_hit, getH_miss, getH.eq_1, getS_hit, getS_miss, getS.eq_1, BlkCov, PVCovs, PVCov, ColsEq, ColEq.refl, liveIds, SlotsCov, List.all_nil, List.all_cons, List.any_nil, List.any_cons, List.nil_append, List.cons_append, inRange, apart, nilBlk, idS1, idS2, readAll, readRes, onAll, step, res, AX.val, List.drop_zero, List.drop_succ_cons, List.take_succ_cons, List.take_zero, below, h, h3]
def strmC (nl : Bool) (A : List Int) (p : Nat) : Option ABlk := some (.box 25 [.lit nl A.length [.i .i64 fun i => A.getD i 0], .int .i64 p])
theorem strmC_low (n : Nat) (nl : Bool) (A : List Int) (p : Nat) : lowBlk n (strmC nl A p) = true := rfl
theorem next_c (s nid : Nat) (nl : Bool) (A : List Int) (p : Nat) (n : Int) (h : s < nid) (hp : p ≤ 1099511627775) (hA : A.length ≤ 17592186044416) (hn : n ≤ 9223372036854775807) :
    ACall Try.prog 26 [.ptr s 0, .int .i64 n] [(s, strmC nl A p)] nid (.int .i64 (nextV A p n)) [(s, strmC nl A (p + 1))] := by
  obtain ⟨e1, e2, e3, e4, e5, e6, e7, e8, e9⟩ := id_all h
  refine acall_run c26 (by simp [a26]) ?_
  simp -dsimp only [a26, strmC, aqT, ROp, OX, ↓seqK, ↓blkK, ↓loopK, step, stepBin, res, stepIdx, mix, PV.cells, argSlots, Nat.reduceBEq, Nat.reduceBeqDiff, Nat.add_assoc nid, Nat.reduceAdd, reduceCtorEq, ↓reduceIte, Nat.reduceLeDiff, colPV, freeOf, indep, offO, neqO, disj, namesX, axSlot, opXs, rdXs, idsOf, idsOfs, lowH, lowAll, keys, Nat.reduceBneDiff, Option.toList, ← Int.ofNat_tmod, ← Int.ofNat_tdiv, optInt, fillP, repl, chunk, mkCols, mkCol, colInts, colBools, colStrs, colLits, colsApp, Col.app, tailOf, splice, colsPut, Col.put, mmFold, eqK, Nat.reduceLT, e1, e2, e3, e4, e5, e6, e7, e8, e9]
  refine ⟨by unfold inI64; omega, S2.intro (fun h2 => ?_) (fun h2 => ?_)⟩
  · simp -dsimp only [aqT, ROp, OX, ↓seqK, ↓blkK, ↓loopK, step, stepBin, res, stepIdx, mix, PV.cells, argSlots, Nat.reduceBEq, Nat.reduceBeqDiff, Nat.add_assoc nid, Nat.reduceAdd, reduceCtorEq, ↓reduceIte, Nat.reduceLeDiff, colPV, freeOf, indep, offO, neqO, disj, namesX, axSlot, opXs, rdXs, idsOf, idsOfs, lowH, lowAll, keys, Nat.reduceBneDiff, Option.toList, ← Int.ofNat_tmod, ← Int.ofNat_tdiv, optInt, fillP, repl, chunk, mkCols, mkCol, colInts, colBools, colStrs, colLits, colsApp, Col.app, tailOf, splice, colsPut, Col.put, mmFold, eqK, Nat.reduceLT, e1, e2, e3, e4, e5, e6, e7, e8, e9]
    refine ⟨by unfold inI64; omega, CallO.pure (below_c _ _ _ hn) ?_⟩
    simp -dsimp only [aqT, ROp, OX, ↓seqK, ↓blkK, ↓loopK, step, stepBin, res, stepIdx, mix, PV.cells, argSlots, Nat.reduceBEq, Nat.reduceBeqDiff, Nat.add_assoc nid, Nat.reduceAdd, reduceCtorEq, ↓reduceIte, Nat.reduceLeDiff, colPV, freeOf, indep, offO, neqO, disj, namesX, axSlot, opXs, rdXs, idsOf, idsOfs, lowH, lowAll, keys, Nat.reduceBneDiff, Option.toList, ← Int.ofNat_tmod, ← Int.ofNat_tdiv, optInt, fillP, repl, chunk, mkCols, mkCol, colInts, colBools, colStrs, colLits, colsApp, Col.app, tailOf, splice, colsPut, Col.put, mmFold, eqK, Nat.reduceLT, e1, e2, e3, e4, e5, e6, e7, e8, e9]
    have h3 : A.length = 0 := by simpa using h2
    refine RetOK.same (.inl rfl) rfl (by simp [strmC, liveIds]; omega) ?_ ?_
    · simp [retPV, over, keys, List.map_nil, List.map_cons, List.contains_cons, List.contains_nil, Bool.or_false, Bool.or_true, Bool.true_or, Bool.false_or, beq_self_eq_true, cond_true, cond_false, HeapCov, orNil, nilSz, onBlk, srcOf, getH_hit, getH_miss, getH.eq_1, getS_hit, getS_miss, getS.eq_1, BlkCov, PVCovs, PVCov, ColsEq, ColEq.refl, liveIds, SlotsCov, List.all_nil, List.all_cons, List.any_nil, List.any_cons, List.nil_append, List.cons_append, inRange, apart, nilBlk, idS1, idS2, readAll, readRes, onAll, step, res, AX.val, List.drop_zero, List.drop_succ_cons, List.take_succ_cons, List.take_zero, strmC]
    · simp [retPV, over, keys, List.map_nil, List.map_cons, List.contains_cons, List.contains_nil, Bool.or_false, Bool.or_true, Bool.true_or, Bool.false_or, beq_self_eq_true, cond_true, cond_false, HeapCov, orNil, nilSz, onBlk, srcOf, getH_hit, getH_miss, getH.eq_1, getS_hit, getS_miss, getS.eq_1, BlkCov, PVCovs, PVCov, ColsEq, ColEq.refl, liveIds, SlotsCov, List.all_nil, List.all_cons, List.any_nil, List.any_cons, List.nil_append, List.cons_append, inRange, apart, nilBlk, idS1, idS2, readAll, readRes, onAll, step, res, AX.val, List.drop_zero, List.drop_succ_cons, List.take_succ_cons, List.take_zero, nextV, h3]
  · simp -dsimp only [aqT, ROp, OX, ↓seqK, ↓blkK, ↓loopK, step, stepBin, res, stepIdx, mix, PV.cells, argSlots, Nat.reduceBEq, Nat.reduceBeqDiff, Nat.add_assoc nid, Nat.reduceAdd, reduceCtorEq, ↓reduceIte, Nat.reduceLeDiff, colPV, freeOf, indep, offO, neqO, disj, namesX, axSlot, opXs, rdXs, idsOf, idsOfs, lowH, lowAll, keys, Nat.reduceBneDiff, Option.toList, ← Int.ofNat_tmod, ← Int.ofNat_tdiv, optInt, fillP, repl, chunk, mkCols, mkCol, colInts, colBools, colStrs, colLits, colsApp, Col.app, tailOf, splice, colsPut, Col.put, mmFold, eqK, Nat.reduceLT, e1, e2, e3, e4, e5, e6, e7, e8, e9]
    have h3 : 0 < A.length := by have : ¬ A.length = 0 := by simpa using h2
                                 omega
    have h4 : ∀ z : Nat, z ≤ 1099511627776 → IntKind.i64.wrap (z : Int) = z := fun z hz => IntWalk.i64_in _ (by omega)
    have h5 : p / A.length ≤ p := Nat.div_le_self _ _
    have h6 : p % A.length < A.length := Nat.mod_lt _ h3
    have h11 := h4 _ (show p / A.length ≤ 1099511627776 by omega)
    refine ⟨by unfold inI64; omega, by omega, by unfold inI64; omega, by omega, by omega, CallO.pure (below_c _ _ _ (by omega)) ?_⟩
    simp -dsimp only [aqT, ROp, OX, ↓seqK, ↓blkK, ↓loopK, step, stepBin, res, stepIdx, mix, PV.cells, argSlots, Nat.reduceBEq, Nat.reduceBeqDiff, Nat.add_assoc nid, Nat.reduceAdd, reduceCtorEq, ↓reduceIte, Nat.reduceLeDiff, colPV, freeOf, indep, offO, neqO, disj, namesX, axSlot, opXs, rdXs, idsOf, idsOfs, lowH, lowAll, keys, Nat.reduceBneDiff, Option.toList, ← Int.ofNat_tmod, ← Int.ofNat_tdiv, optInt, fillP, repl, chunk, mkCols, mkCol, colInts, colBools, colStrs, colLits, colsApp, Col.app, tailOf, splice, colsPut, Col.put, mmFold, eqK, Nat.reduceLT, h11, e1, e2, e3, e4, e5, e6, e7, e8, e9]
    have h7 := round_bd p A.length h3 (by omega)
    have h8 := below_bd (A.getD (p % A.length) 0) (n := 1073741824) (by omega)
    rw [← Int.natCast_emod, ← Int.natCast_ediv] at h7
    generalize h9 : ((p / A.length : Nat) : Int) * (7919 + ((p % A.length : Nat) : Int)) = z at h7 ⊢
    refine ⟨by unfold inI64; omega, by unfold inI64; omega, by unfold inI64; omega, CallO.pure (below_c _ _ _ hn) ?_⟩
    simp -dsimp only [aqT, ROp, OX, ↓seqK, ↓blkK, ↓loopK, step, stepBin, res, stepIdx, mix, PV.cells, argSlots, Nat.reduceBEq, Nat.reduceBeqDiff, Nat.add_assoc nid, Nat.reduceAdd, reduceCtorEq, ↓reduceIte, Nat.reduceLeDiff, colPV, freeOf, indep, offO, neqO, disj, namesX, axSlot, opXs, rdXs, idsOf, idsOfs, lowH, lowAll, keys, Nat.reduceBneDiff, Option.toList, ← Int.ofNat_tmod, ← Int.ofNat_tdiv, optInt, fillP, repl, chunk, mkCols, mkCol, colInts, colBools, colStrs, colLits, colsApp, Col.app, tailOf, splice, colsPut, Col.put, mmFold, eqK, Nat.reduceLT, e1, e2, e3, e4, e5, e6, e7, e8, e9]
    refine RetOK.same (.inl rfl) rfl (by simp [strmC, liveIds]; omega) ?_ ?_
    · simp [retPV, over, keys, List.map_nil, List.map_cons, List.contains_cons, List.contains_nil, Bool.or_false, Bool.or_true, Bool.true_or, Bool.false_or, beq_self_eq_true, cond_true, cond_false, HeapCov, orNil, nilSz, onBlk, srcOf, getH_hit, getH_miss, getH.eq_1, getS_hit, getS_miss, getS.eq_1, BlkCov, PVCovs, PVCov, ColsEq, ColEq.refl, liveIds, SlotsCov, List.all_nil, List.all_cons, List.any_nil, List.any_cons, List.nil_append, List.cons_append, inRange, apart, nilBlk, idS1, idS2, readAll, readRes, onAll, step, res, AX.val, List.drop_zero, List.drop_succ_cons, List.take_succ_cons, List.take_zero, strmC]
    · have h10 : A.length ≠ 0 := by omega
      simp [retPV, over, keys, List.map_nil, List.map_cons, List.contains_cons, List.contains_nil, Bool.or_false, Bool.or_true, Bool.true_or, Bool.false_or, beq_self_eq_true, cond_true, cond_false, HeapCov, orNil, nilSz, onBlk, srcOf, getH_hit, getH_miss, getH.eq_1, getS_hit, getS_miss, getS.eq_1, BlkCov, PVCovs, PVCov, ColsEq, ColEq.refl, liveIds, SlotsCov, List.all_nil, List.all_cons, List.any_nil, List.any_cons, List.nil_append, List.cons_append, inRange, apart, nilBlk, idS1, idS2, readAll, readRes, onAll, step, res, AX.val, List.drop_zero, List.drop_succ_cons, List.take_succ_cons, List.take_zero, nextV, h10, ← h9]
theorem range_c (s nid : Nat) (nl : Bool) (A : List Int) (p : Nat) (lo hi : Int) (h : s < nid) (hp : p ≤ 1099511627775) (hA : A.length ≤ 17592186044416) (h1 : lo ≤ hi) (hl : -1099511627776 ≤ lo) (hh : hi ≤ 1099511627776) :
    ACall Try.prog 30 [.ptr s 0, .int .i64 lo, .int .i64 hi] [(s, strmC nl A p)] nid (.int .i64 (rangeV A p lo hi)) [(s, strmC nl A (p + 1))] := by
  obtain ⟨e1, e2, e3, e4, e5, e6, e7, e8, e9⟩ := id_all h
  refine acall_run c30 (by simp [a30]) ?_
  simp -dsimp only [a30, aqT, ROp, OX, ↓seqK, ↓blkK, ↓loopK, step, stepBin, res, stepIdx, mix, PV.cells, argSlots, Nat.reduceBEq, Nat.reduceBeqDiff, Nat.add_assoc nid, Nat.reduceAdd, reduceCtorEq, ↓reduceIte, Nat.reduceLeDiff, colPV, freeOf, indep, offO, neqO, disj, namesX, axSlot, opXs, rdXs, idsOf, idsOfs, lowH, lowAll, keys, Nat.reduceBneDiff, Option.toList, ← Int.ofNat_tmod, ← Int.ofNat_tdiv, optInt, fillP, repl, chunk, mkCols, mkCol, colInts, colBools, colStrs, colLits, colsApp, Col.app, tailOf, splice, colsPut, Col.put, mmFold, eqK, Nat.reduceLT, e1, e2, e3, e4, e5, e6, e7, e8, e9]
  refine S2.dec (fun h => absurd h (by omega)) (fun h => ?_)
  simp -dsimp only [aqT, ROp, OX, ↓seqK, ↓blkK, ↓loopK, step, stepBin, res, stepIdx, mix, PV.cells, argSlots, Nat.reduceBEq, Nat.reduceBeqDiff, Nat.add_assoc nid, Nat.reduceAdd, reduceCtorEq, ↓reduceIte, Nat.reduceLeDiff, colPV, freeOf, indep, offO, neqO, disj, namesX, axSlot, opXs, rdXs, idsOf, idsOfs, lowH, lowAll, keys, Nat.reduceBneDiff, Option.toList, ← Int.ofNat_tmod, ← Int.ofNat_tdiv, optInt, fillP, repl, chunk, mkCols, mkCol, colInts, colBools, colStrs, colLits, colsApp, Col.app, tailOf, splice, colsPut, Col.put, mmFold, eqK, Nat.reduceLT, e1, e2, e3, e4, e5, e6, e7, e8, e9]
  refine ⟨by unfold inI64; omega, by unfold inI64; omega, CallO.on (next_c _ _ _ _ _ _ (by omega) hp hA (by omega)) (subH_hit _ _ _) ?_⟩
  simp -dsimp only [aqT, ROp, OX, ↓seqK, ↓blkK, ↓loopK, step, stepBin, res, stepIdx, mix, PV.cells, argSlots, Nat.reduceBEq, Nat.reduceBeqDiff, Nat.add_assoc nid, Nat.reduceAdd, reduceCtorEq, ↓reduceIte, Nat.reduceLeDiff, colPV, freeOf, indep, offO, neqO, disj, namesX, axSlot, opXs, rdXs, idsOf, idsOfs, lowH, lowAll, keys, Nat.reduceBneDiff, Option.toList, ← Int.ofNat_tmod, ← Int.ofNat_tdiv, optInt, fillP, repl, chunk, mkCols, mkCol, colInts, colBools, colStrs, colLits, colsApp, Col.app, tailOf, splice, colsPut, Col.put, mmFold, eqK, Nat.reduceLT, e1, e2, e3, e4, e5, e6, e7, e8, e9]
  have := nextV_bd A p (n := hi - lo + 1) (by omega)
  refine ⟨by unfold inI64; omega, RetOK.same (.inl rfl) rfl (by simp [strmC, liveIds]; omega) ?_ ?_⟩
  · simp [retPV, over, keys, List.map_nil, List.map_cons, List.contains_cons, List.contains_nil, Bool.or_false, Bool.or_true, Bool.true_or, Bool.false_or, beq_self_eq_true, cond_true, cond_false, HeapCov, orNil, nilSz, onBlk, srcOf, getH_hit, getH_miss, getH.eq_1, getS_hit, getS_miss, getS.eq_1, BlkCov, PVCovs, PVCov, ColsEq, ColEq.refl, liveIds, SlotsCov, List.all_nil, List.all_cons, List.any_nil, List.any_cons, List.nil_append, List.cons_append, inRange, apart, nilBlk, idS1, idS2, readAll, readRes, onAll, step, res, AX.val, List.drop_zero, List.drop_succ_cons, List.take_succ_cons, List.take_zero, strmC]
  · simp [retPV, over, keys, List.map_nil, List.map_cons, List.contains_cons, List.contains_nil, Bool.or_false, Bool.or_true, Bool.true_or, Bool.false_or, beq_self_eq_true, cond_true, cond_false, HeapCov, orNil, nilSz, onBlk, srcOf, getH_hit, getH_miss, getH.eq_1, getS_hit, getS_miss, getS.eq_1, BlkCov, PVCovs, PVCov, ColsEq, ColEq.refl, liveIds, SlotsCov, List.all_nil, List.all_cons, List.any_nil, List.any_cons, List.nil_append, List.cons_append, inRange, apart, nilBlk, idS1, idS2, readAll, readRes, onAll, step, res, AX.val, List.drop_zero, List.drop_succ_cons, List.take_succ_cons, List.take_zero, rangeV]
theorem flip_c (s nid : Nat) (nl : Bool) (A : List Int) (p : Nat) (n : Int) (h : s < nid) (hp : p ≤ 1099511627775) (hA : A.length ≤ 17592186044416) (hn : n ≤ 9223372036854775807) :
    ACall Try.prog 31 [.ptr s 0, .int .i64 n] [(s, strmC nl A p)] nid (.bool (flipV A p n)) [(s, strmC nl A (p + 1))] := by
  obtain ⟨e1, e2, e3, e4, e5, e6, e7, e8, e9⟩ := id_all h
  refine acall_run c31 (by simp [a31]) ?_
  simp -dsimp only [a31, aqT, ROp, OX, ↓seqK, ↓blkK, ↓loopK, step, stepBin, res, stepIdx, mix, PV.cells, argSlots, Nat.reduceBEq, Nat.reduceBeqDiff, Nat.add_assoc nid, Nat.reduceAdd, reduceCtorEq, ↓reduceIte, Nat.reduceLeDiff, colPV, freeOf, indep, offO, neqO, disj, namesX, axSlot, opXs, rdXs, idsOf, idsOfs, lowH, lowAll, keys, Nat.reduceBneDiff, Option.toList, ← Int.ofNat_tmod, ← Int.ofNat_tdiv, optInt, fillP, repl, chunk, mkCols, mkCol, colInts, colBools, colStrs, colLits, colsApp, Col.app, tailOf, splice, colsPut, Col.put, mmFold, eqK, Nat.reduceLT, e1, e2, e3, e4, e5, e6, e7, e8, e9]
  refine CallO.on (next_c _ _ _ _ _ _ (by omega) hp hA hn) (subH_hit _ _ _) ?_
  simp -dsimp only [aqT, ROp, OX, ↓seqK, ↓blkK, ↓loopK, step, stepBin, res, stepIdx, mix, PV.cells, argSlots, Nat.reduceBEq, Nat.reduceBeqDiff, Nat.add_assoc nid, Nat.reduceAdd, reduceCtorEq, ↓reduceIte, Nat.reduceLeDiff, colPV, freeOf, indep, offO, neqO, disj, namesX, axSlot, opXs, rdXs, idsOf, idsOfs, lowH, lowAll, keys, Nat.reduceBneDiff, Option.toList, ← Int.ofNat_tmod, ← Int.ofNat_tdiv, optInt, fillP, repl, chunk, mkCols, mkCol, colInts, colBools, colStrs, colLits, colsApp, Col.app, tailOf, splice, colsPut, Col.put, mmFold, eqK, Nat.reduceLT, e1, e2, e3, e4, e5, e6, e7, e8, e9]
  refine RetOK.same (.inl rfl) rfl (by simp [strmC, liveIds]; omega) ?_ ?_
  · simp [retPV, over, keys, List.map_nil, List.map_cons, List.contains_cons, List.contains_nil, Bool.or_false, Bool.or_true, Bool.true_or, Bool.false_or, beq_self_eq_true, cond_true, cond_false, HeapCov, orNil, nilSz, onBlk, srcOf, getH_hit, getH_miss, getH.eq_1, getS_hit, getS_miss, getS.eq_1, BlkCov, PVCovs, PVCov, ColsEq, ColEq.refl, liveIds, SlotsCov, List.all_nil, List.all_cons, List.any_nil, List.any_cons, List.nil_append, List.cons_append, inRange, apart, nilBlk, idS1, idS2, readAll, readRes, onAll, step, res, AX.val, List.drop_zero, List.drop_succ_cons, List.take_succ_cons, List.take_zero, strmC]
  · simp [retPV, over, keys, List.map_nil, List.map_cons, List.contains_cons, List.contains_nil, Bool.or_false, Bool.or_true, Bool.true_or, Bool.false_or, beq_self_eq_true, cond_true, cond_false, HeapCov, orNil, nilSz, onBlk, srcOf, getH_hit, getH_miss, getH.eq_1, getS_hit, getS_miss, getS.eq_1, BlkCov, PVCovs, PVCov, ColsEq, ColEq.refl, liveIds, SlotsCov, List.all_nil, List.all_cons, List.any_nil, List.any_cons, List.nil_append, List.cons_append, inRange, apart, nilBlk, idS1, idS2, readAll, readRes, onAll, step, res, AX.val, List.drop_zero, List.drop_succ_cons, List.take_succ_cons, List.take_zero, flipV]
/-- of n listed numbers -/
theorem pick_c (s nid : Nat) (nl nl' : Bool) (A : List Int) (p : Nat) (n : Nat) (g : Nat → Int) (h : s < nid) (hp : p ≤ 1099511627775) (hA : A.length ≤ 17592186044416) (h1 : 0 < n) (hn : n ≤ 1099511627776) :
    ACall Try.prog 12 [.ptr s 0, .lit nl' n [.i .i64 g]] [(s, strmC nl A p)] nid (.int .i64 (g (pickI A p n))) [(s, strmC nl A (p + 1))] := by
  obtain ⟨e1, e2, e3, e4, e5, e6, e7, e8, e9⟩ := id_all h
  refine acall_run c12 (by simp [a12]) ?_
  simp -dsimp only [a12, aqT, ROp, OX, ↓seqK, ↓blkK, ↓loopK, step, stepBin, res, stepIdx, mix, PV.cells, argSlots, Nat.reduceBEq, Nat.reduceBeqDiff, Nat.add_assoc nid, Nat.reduceAdd, reduceCtorEq, ↓reduceIte, Nat.reduceLeDiff, colPV, freeOf, indep, offO, neqO, disj, namesX, axSlot, opXs, rdXs, idsOf, idsOfs, lowH, lowAll, keys, Nat.reduceBneDiff, Option.toList, ← Int.ofNat_tmod, ← Int.ofNat_tdiv, optInt, fillP, repl, chunk, mkCols, mkCol, colInts, colBools, colStrs, colLits, colsApp, Col.app, tailOf, splice, colsPut, Col.put, mmFold, eqK, Nat.reduceLT, e1, e2, e3, e4, e5, e6, e7, e8, e9]
  refine CallO.on (next_c _ _ _ _ _ _ (by omega) hp hA (by omega)) (subH_hit _ _ _) ?_
  simp -dsimp only [aqT, ROp, OX, ↓seqK, ↓blkK, ↓loopK, step, stepBin, res, stepIdx, mix, PV.cells, argSlots, Nat.reduceBEq, Nat.reduceBeqDiff, Nat.add_assoc nid, Nat.reduceAdd, reduceCtorEq, ↓reduceIte, Nat.reduceLeDiff, colPV, freeOf, indep, offO, neqO, disj, namesX, axSlot, opXs, rdXs, idsOf, idsOfs, lowH, lowAll, keys, Nat.reduceBneDiff, Option.toList, ← Int.ofNat_tmod, ← Int.ofNat_tdiv, optInt, fillP, repl, chunk, mkCols, mkCol, colInts, colBools, colStrs, colLits, colsApp, Col.app, tailOf, splice, colsPut, Col.put, mmFold, eqK, Nat.reduceLT, e1, e2, e3, e4, e5, e6, e7, e8, e9]
  have := nextV_bd A p (n := (n : Int)) (by omega)
  refine ⟨this, RetOK.same (.inl rfl) rfl (by simp [strmC, liveIds]; omega) ?_ ?_⟩
  · simp [retPV, over, keys, List.map_nil, List.map_cons, List.contains_cons, List.contains_nil, Bool.or_false, Bool.or_true, Bool.true_or, Bool.false_or, beq_self_eq_true, cond_true, cond_false, HeapCov, orNil, nilSz, onBlk, srcOf, getH_hit, getH_miss, getH.eq_1, getS_hit, getS_miss, getS.eq_1, BlkCov, PVCovs, PVCov, ColsEq, ColEq.refl, liveIds, SlotsCov, List.all_nil, List.all_cons, List.any_nil, List.any_cons, List.nil_append, List.cons_append, inRange, apart, nilBlk, idS1, idS2, readAll, readRes, onAll, step, res, AX.val, List.drop_zero, List.drop_succ_cons, List.take_succ_cons, List.take_zero, strmC]
  · simp [retPV, over, keys, List.map_nil, List.map_cons, List.contains_cons, List.contains_nil, Bool.or_false, Bool.or_true, Bool.true_or, Bool.false_or, beq_self_eq_true, cond_true, cond_false, HeapCov, orNil, nilSz, onBlk, srcOf, getH_hit, getH_miss, getH.eq_1, getS_hit, getS_miss, getS.eq_1, BlkCov, PVCovs, PVCov, ColsEq, ColEq.refl, liveIds, SlotsCov, List.all_nil, List.all_cons, List.any_nil, List.any_cons, List.nil_append, List.cons_append, inRange, apart, nilBlk, idS1, idS2, readAll, readRes, onAll, step, res, AX.val, List.drop_zero, List.drop_succ_cons, List.take_succ_cons, List.take_zero, pickI]
/-- .. of a listed array, which is given up -/
theorem CallX.pick_go {s id nid : Nat} {nl : Bool} {A : List Int} {p : Nat} {n T : Nat} {g : Nat → Int} {H : Heap} {K : PV → Heap → List Nat → Prop} (hs : getH H s = strmC nl A p) (hid : getH H id = some (.arr T n [.i .i64 g])) (hne : (s == id) = false) (h : s < nid) (hp : p ≤ 1099511627775) (hA : A.length ≤ 17592186044416) (h1 : 0 < n) (hn : n ≤ 1099511627776)
    (hK : K (.int .i64 (g (pickI A p n))) [(s, strmC nl A (p + 1)), (id, none)] [s, id]) : CallX Try.prog 12 [.ptr s 0, .sl id 0 n] H nid K := by
  refine CallX.given [id] (u := [(s, strmC nl A (p + 1))]) (fun nl' => ?_) (subH_get hs) (by simp [getH, hne]) hK
  have e : lends H [id] nl' [.ptr s 0, .sl id 0 n] = [.ptr s 0, .lit (nl' id) n [.i .i64 g]] := by simp [lends, lend, hid]
  rw [e]
  exact pick_c s _ nl _ A p n _ h hp hA h1 hn
theorem CallO.pick_go {s id nid : Nat} {nl : Bool} {A : List Int} {p : Nat} {n T : Nat} {g : Nat → Int} {H : Heap} {K : PV → Heap → Prop} (hs : getH H s = strmC nl A p) (hid : getH H id = some (.arr T n [.i .i64 g])) (hne : (s == id) = false) (h : s < nid) (hp : p ≤ 1099511627775) (hA : A.length ≤ 17592186044416) (h1 : 0 < n) (hn : n ≤ 1099511627776)
    (hK : K (.int .i64 (g (pickI A p n))) [(s, strmC nl A (p + 1)), (id, none)]) : CallOK Try.prog 12 [.ptr s 0, .sl id 0 n] H nid K :=
  CallO.x (CallX.pick_go hs hid hne h hp hA h1 hn hK)
end Go.Proofs.Ytmnhlfkphibhfaa
/-
  The makers of flash memories, words and operations, by the abstract machine.
-/
namespace Go.Proofs.Ytmnhlfkphibhfaa
open Go.RowKit
set_option linter.unusedVariables false
set_option linter.unusedSimpArgs false
set_option maxRecDepth 100000

def arrI (l : List Int) : Option ABlk := some (.arr 3 l.length [.i .i64 fun i => l.getD i 0])
theorem flashOf_c (s nid : Nat) (nl : Bool) (A : List Int) (p : Nat) (h : s < nid) (hp : p ≤ 1099511600000) (hA : A.length ≤ 17592186044416) :
    ACall Try.prog 9 [.ptr s 0] [(s, strmC nl A p)] nid (.agg [.sl nid 0 (flashOfV A p).1.length]) [(s, strmC nl A (flashOfV A p).2), (nid, arrI (flashOfV A p).1)] := by
  obtain ⟨e1, e2, e3, e4, e5, e6, e7, e8, e9⟩ := id_all h
  refine acall_run c9 (by simp [a9]) ?_
  simp -dsimp only [a9, aqT, ROp, OX, ↓seqK, ↓blkK, ↓loopK, step, stepBin, res, stepIdx, mix, PV.cells, argSlots, Nat.reduceBEq, Nat.reduceBeqDiff, Nat.add_assoc nid, Nat.reduceAdd, reduceCtorEq, ↓reduceIte, Nat.reduceLeDiff, colPV, freeOf, indep, offO, neqO, disj, namesX, axSlot, opXs, rdXs, idsOf, idsOfs, lowH, lowAll, keys, Nat.reduceBneDiff, Option.toList, ← Int.ofNat_tmod, ← Int.ofNat_tdiv, optInt, fillP, repl, chunk, mkCols, mkCol, colInts, colBools, colStrs, colLits, colsApp, Col.app, tailOf, splice, colsPut, Col.put, mmFold, eqK, Nat.reduceLT, strmC_low, e1, e2, e3, e4, e5, e6, e7, e8, e9]
  refine CallO.on (range_c s _ nl A p _ _ (by omega) (by omega) hA (by omega) (by omega) (by omega)) (subH_get (by simp only [aqT, ROp, OX, ↓seqK, ↓blkK, ↓loopK, step, stepBin, res, stepIdx, mix, PV.cells, argSlots, Nat.reduceBEq, Nat.reduceBeqDiff, Nat.add_assoc nid, Nat.reduceAdd, reduceCtorEq, ↓reduceIte, Nat.reduceLeDiff, colPV, freeOf, indep, offO, neqO, disj, namesX, axSlot, opXs, rdXs, idsOf, idsOfs, lowH, lowAll, keys, Nat.reduceBneDiff, Option.toList, ← Int.ofNat_tmod, ← Int.ofNat_tdiv, optInt, fillP, repl, chunk, mkCols, mkCol, colInts, colBools, colStrs, colLits, colsApp, Col.app, tailOf, splice, colsPut, Col.put, mmFold, eqK, Nat.reduceLT, strmC_low, e1, e2, e3, e4, e5, e6, e7, e8, e9])) ?_
  simp -dsimp only [aqT, ROp, OX, ↓seqK, ↓blkK, ↓loopK, step, stepBin, res, stepIdx, mix, PV.cells, argSlots, Nat.reduceBEq, Nat.reduceBeqDiff, Nat.add_assoc nid, Nat.reduceAdd, reduceCtorEq, ↓reduceIte, Nat.reduceLeDiff, colPV, freeOf, indep, offO, neqO, disj, namesX, axSlot, opXs, rdXs, idsOf, idsOfs, lowH, lowAll, keys, Nat.reduceBneDiff, Option.toList, ← Int.ofNat_tmod, ← Int.ofNat_tdiv, optInt, fillP, repl, chunk, mkCols, mkCol, colInts, colBools, colStrs, colLits, colsApp, Col.app, tailOf, splice, colsPut, Col.put, mmFold, eqK, Nat.reduceLT, strmC_low, e1, e2, e3, e4, e5, e6, e7, e8, e9]
  have hr := rangeV_bd A p (lo := 1) (hi := 4) (by decide)
  refine LP.mkP (fun k : Nat => (k : Int) ≤ rangeV A p 1 4) (fun k : Nat => ⟨[(6, .int .i64 k), (5, .int .i64 (rangeV A p 1 4)), (3, .ptr (nid + 4) 0), (2, .ptr nid 0), (0, .ptr s 0)],
    [(s, strmC nl A (p + 1 + k)), (nid, some (.box 27 [.lit true 0 []])), (nid + 4, some (.box 27 [.sl (nid + 20) 0 k])), (nid + 20, some (.arr 3 k [.i .i64 fun i => rangeV A (p + 1 + i) 1 5]))], nid + 24, nid⟩)
    (fun k => 5 - k) 0 (by omega) (Cov.go [] [(nid + 20, 1)] ?_) (fun k hkn => ?_)
  · simp [retPV, over, keys, List.map_nil, List.map_cons, List.contains_cons, List.contains_nil, Bool.or_false, Bool.or_true, Bool.true_or, Bool.false_or, beq_self_eq_true, cond_true, cond_false, HeapCov, orNil, nilSz, onBlk, srcOf, getH_hit, getH_miss, getH.eq_1, getS_hit, getS_miss, getS.eq_1, BlkCov, PVCovs, PVCov, ColsEq, ColEq.refl, liveIds, SlotsCov, List.all_nil, List.all_cons, List.any_nil, List.any_cons, List.nil_append, List.cons_append, inRange, apart, nilBlk, idS1, idS2, readAll, readRes, onAll, step, res, AX.val, List.drop_zero, List.drop_succ_cons, List.take_succ_cons, List.take_zero, e1, e2, e3, e4, e5, e6, e7, e8, e9, strmC]
  · simp -dsimp only [aqT, ROp, OX, ↓seqK, ↓blkK, ↓loopK, step, stepBin, res, stepIdx, mix, PV.cells, argSlots, Nat.reduceBEq, Nat.reduceBeqDiff, Nat.add_assoc nid, Nat.reduceAdd, reduceCtorEq, ↓reduceIte, Nat.reduceLeDiff, colPV, freeOf, indep, offO, neqO, disj, namesX, axSlot, opXs, rdXs, idsOf, idsOfs, lowH, lowAll, keys, Nat.reduceBneDiff, Option.toList, ← Int.ofNat_tmod, ← Int.ofNat_tdiv, optInt, fillP, repl, chunk, mkCols, mkCol, colInts, colBools, colStrs, colLits, colsApp, Col.app, tailOf, splice, colsPut, Col.put, mmFold, eqK, Nat.reduceLT, strmC_low, e1, e2, e3, e4, e5, e6, e7, e8, e9]
    refine S2.dec (fun h1 => ?_) (fun h1 => ?_)
    · simp -dsimp only [aqT, ROp, OX, ↓seqK, ↓blkK, ↓loopK, step, stepBin, res, stepIdx, mix, PV.cells, argSlots, Nat.reduceBEq, Nat.reduceBeqDiff, Nat.add_assoc nid, Nat.reduceAdd, reduceCtorEq, ↓reduceIte, Nat.reduceLeDiff, colPV, freeOf, indep, offO, neqO, disj, namesX, axSlot, opXs, rdXs, idsOf, idsOfs, lowH, lowAll, keys, Nat.reduceBneDiff, Option.toList, ← Int.ofNat_tmod, ← Int.ofNat_tdiv, optInt, fillP, repl, chunk, mkCols, mkCol, colInts, colBools, colStrs, colLits, colsApp, Col.app, tailOf, splice, colsPut, Col.put, mmFold, eqK, Nat.reduceLT, strmC_low, e1, e2, e3, e4, e5, e6, e7, e8, e9]
      refine CallX.on (range_c s _ nl A (p + 1 + k) _ _ (by omega) (by omega) hA (by omega) (by omega) (by omega)) (subH_get (by simp only [aqT, ROp, OX, ↓seqK, ↓blkK, ↓loopK, step, stepBin, res, stepIdx, mix, PV.cells, argSlots, Nat.reduceBEq, Nat.reduceBeqDiff, Nat.add_assoc nid, Nat.reduceAdd, reduceCtorEq, ↓reduceIte, Nat.reduceLeDiff, colPV, freeOf, indep, offO, neqO, disj, namesX, axSlot, opXs, rdXs, idsOf, idsOfs, lowH, lowAll, keys, Nat.reduceBneDiff, Option.toList, ← Int.ofNat_tmod, ← Int.ofNat_tdiv, optInt, fillP, repl, chunk, mkCols, mkCol, colInts, colBools, colStrs, colLits, colsApp, Col.app, tailOf, splice, colsPut, Col.put, mmFold, eqK, Nat.reduceLT, strmC_low, e1, e2, e3, e4, e5, e6, e7, e8, e9])) ?_
      simp -dsimp only [aqT, ROp, OX, ↓seqK, ↓blkK, ↓loopK, step, stepBin, res, stepIdx, mix, PV.cells, argSlots, Nat.reduceBEq, Nat.reduceBeqDiff, Nat.add_assoc nid, Nat.reduceAdd, reduceCtorEq, ↓reduceIte, Nat.reduceLeDiff, colPV, freeOf, indep, offO, neqO, disj, namesX, axSlot, opXs, rdXs, idsOf, idsOfs, lowH, lowAll, keys, Nat.reduceBneDiff, Option.toList, ← Int.ofNat_tmod, ← Int.ofNat_tdiv, optInt, fillP, repl, chunk, mkCols, mkCol, colInts, colBools, colStrs, colLits, colsApp, Col.app, tailOf, splice, colsPut, Col.put, mmFold, eqK, Nat.reduceLT, strmC_low, e1, e2, e3, e4, e5, e6, e7, e8, e9]
      refine ⟨⟨by omega, by omega⟩, by unfold inI64; omega, k + 1, ⟨by omega, by omega⟩, Cov.go [(nid + 20, nid + 48)] [] ?_⟩
      simp [retPV, over, keys, List.map_nil, List.map_cons, List.contains_cons, List.contains_nil, Bool.or_false, Bool.or_true, Bool.true_or, Bool.false_or, beq_self_eq_true, cond_true, cond_false, HeapCov, orNil, nilSz, onBlk, srcOf, getH_hit, getH_miss, getH.eq_1, getS_hit, getS_miss, getS.eq_1, BlkCov, PVCovs, PVCov, ColsEq, ColEq.refl, liveIds, SlotsCov, List.all_nil, List.all_cons, List.any_nil, List.any_cons, List.nil_append, List.cons_append, inRange, apart, nilBlk, idS1, idS2, readAll, readRes, onAll, step, res, AX.val, List.drop_zero, List.drop_succ_cons, List.take_succ_cons, List.take_zero, e1, e2, e3, e4, e5, e6, e7, e8, e9, strmC, Nat.add_assoc]
      refine ColEq.i fun j hj => ?_
      by_cases hjk : j < k
      · simp [hjk]
      · have : j = k := by omega
        subst this; simp
    · simp -dsimp only [aqT, ROp, OX, ↓seqK, ↓blkK, ↓loopK, step, stepBin, res, stepIdx, mix, PV.cells, argSlots, Nat.reduceBEq, Nat.reduceBeqDiff, Nat.add_assoc nid, Nat.reduceAdd, reduceCtorEq, ↓reduceIte, Nat.reduceLeDiff, colPV, freeOf, indep, offO, neqO, disj, namesX, axSlot, opXs, rdXs, idsOf, idsOfs, lowH, lowAll, keys, Nat.reduceBneDiff, Option.toList, ← Int.ofNat_tmod, ← Int.ofNat_tdiv, optInt, fillP, repl, chunk, mkCols, mkCol, colInts, colBools, colStrs, colLits, colsApp, Col.app, tailOf, splice, colsPut, Col.put, mmFold, eqK, Nat.reduceLT, strmC_low, e1, e2, e3, e4, e5, e6, e7, e8, e9]
      have hk : 1 ≤ k := by omega
      have hk4 : k ≤ 4 := by omega
      have hkr : (rangeV A p 1 4).toNat = k := by omega
      have hs0 : secs0 A p = (List.range k).map fun i => rangeV A (p + 1 + i) 1 5 := by unfold secs0; rw [hkr]
      have hl0 : (secs0 A p).length = k := by rw [hs0]; simp
      refine CallO.on (flip_c s _ nl A (p + 1 + k) _ (by omega) (by omega) hA (by omega)) (subH_get (by simp only [aqT, ROp, OX, ↓seqK, ↓blkK, ↓loopK, step, stepBin, res, stepIdx, mix, PV.cells, argSlots, Nat.reduceBEq, Nat.reduceBeqDiff, Nat.add_assoc nid, Nat.reduceAdd, reduceCtorEq, ↓reduceIte, Nat.reduceLeDiff, colPV, freeOf, indep, offO, neqO, disj, namesX, axSlot, opXs, rdXs, idsOf, idsOfs, lowH, lowAll, keys, Nat.reduceBneDiff, Option.toList, ← Int.ofNat_tmod, ← Int.ofNat_tdiv, optInt, fillP, repl, chunk, mkCols, mkCol, colInts, colBools, colStrs, colLits, colsApp, Col.app, tailOf, splice, colsPut, Col.put, mmFold, eqK, Nat.reduceLT, e1, e2, e3, e4, e5, e6, e7, e8, e9])) ?_
      simp -dsimp only [aqT, ROp, OX, ↓seqK, ↓blkK, ↓loopK, step, stepBin, res, stepIdx, mix, PV.cells, argSlots, Nat.reduceBEq, Nat.reduceBeqDiff, Nat.add_assoc nid, Nat.reduceAdd, reduceCtorEq, ↓reduceIte, Nat.reduceLeDiff, colPV, freeOf, indep, offO, neqO, disj, namesX, axSlot, opXs, rdXs, idsOf, idsOfs, lowH, lowAll, keys, Nat.reduceBneDiff, Option.toList, ← Int.ofNat_tmod, ← Int.ofNat_tdiv, optInt, fillP, repl, chunk, mkCols, mkCol, colInts, colBools, colStrs, colLits, colsApp, Col.app, tailOf, splice, colsPut, Col.put, mmFold, eqK, Nat.reduceLT, strmC_low, e1, e2, e3, e4, e5, e6, e7, e8, e9]
      refine S2.intro (fun h2 => ?_) (fun h2 => ?_)
      · simp -dsimp only [aqT, ROp, OX, ↓seqK, ↓blkK, ↓loopK, step, stepBin, res, stepIdx, mix, PV.cells, argSlots, Nat.reduceBEq, Nat.reduceBeqDiff, Nat.add_assoc nid, Nat.reduceAdd, reduceCtorEq, ↓reduceIte, Nat.reduceLeDiff, colPV, freeOf, indep, offO, neqO, disj, namesX, axSlot, opXs, rdXs, idsOf, idsOfs, lowH, lowAll, keys, Nat.reduceBneDiff, Option.toList, ← Int.ofNat_tmod, ← Int.ofNat_tdiv, optInt, fillP, repl, chunk, mkCols, mkCol, colInts, colBools, colStrs, colLits, colsApp, Col.app, tailOf, splice, colsPut, Col.put, mmFold, eqK, Nat.reduceLT, strmC_low, e1, e2, e3, e4, e5, e6, e7, e8, e9]
        refine CallX.on (next_c s _ nl A (p + 1 + k + 1) _ (by omega) (by omega) hA (by omega)) (subH_get (by simp only [aqT, ROp, OX, ↓seqK, ↓blkK, ↓loopK, step, stepBin, res, stepIdx, mix, PV.cells, argSlots, Nat.reduceBEq, Nat.reduceBeqDiff, Nat.add_assoc nid, Nat.reduceAdd, reduceCtorEq, ↓reduceIte, Nat.reduceLeDiff, colPV, freeOf, indep, offO, neqO, disj, namesX, axSlot, opXs, rdXs, idsOf, idsOfs, lowH, lowAll, keys, Nat.reduceBneDiff, Option.toList, ← Int.ofNat_tmod, ← Int.ofNat_tdiv, optInt, fillP, repl, chunk, mkCols, mkCol, colInts, colBools, colStrs, colLits, colsApp, Col.app, tailOf, splice, colsPut, Col.put, mmFold, eqK, Nat.reduceLT, e1, e2, e3, e4, e5, e6, e7, e8, e9])) ?_
        simp -dsimp only [aqT, ROp, OX, ↓seqK, ↓blkK, ↓loopK, step, stepBin, res, stepIdx, mix, PV.cells, argSlots, Nat.reduceBEq, Nat.reduceBeqDiff, Nat.add_assoc nid, Nat.reduceAdd, reduceCtorEq, ↓reduceIte, Nat.reduceLeDiff, colPV, freeOf, indep, offO, neqO, disj, namesX, axSlot, opXs, rdXs, idsOf, idsOfs, lowH, lowAll, keys, Nat.reduceBneDiff, Option.toList, ← Int.ofNat_tmod, ← Int.ofNat_tdiv, optInt, fillP, repl, chunk, mkCols, mkCol, colInts, colBools, colStrs, colLits, colsApp, Col.app, tailOf, splice, colsPut, Col.put, mmFold, eqK, Nat.reduceLT, strmC_low, e1, e2, e3, e4, e5, e6, e7, e8, e9]
        have hnx := nextV_bd A (p + 1 + k + 1) (n := (k : Int)) (by omega)
        have hpi : (nextV A (p + 1 + k + 1) (k : Int)).toNat = pickI A (p + 1 + k + 1) k := rfl
        refine CallX.given [nid + 68] (fun nl' => by
          simp only [lends, lend, aqT, ROp, OX, ↓seqK, ↓blkK, ↓loopK, step, stepBin, res, stepIdx, mix, PV.cells, argSlots, Nat.reduceBEq, Nat.reduceBeqDiff, Nat.add_assoc nid, Nat.reduceAdd, reduceCtorEq, ↓reduceIte, Nat.reduceLeDiff, colPV, freeOf, indep, offO, neqO, disj, namesX, axSlot, opXs, rdXs, idsOf, idsOfs, lowH, lowAll, keys, Nat.reduceBneDiff, Option.toList, ← Int.ofNat_tmod, ← Int.ofNat_tdiv, optInt, fillP, repl, chunk, mkCols, mkCol, colInts, colBools, colStrs, colLits, colsApp, Col.app, tailOf, splice, colsPut, Col.put, mmFold, eqK, Nat.reduceLT]
          exact pick_c s _ nl _ A (p + 1 + k + 1 + 1) 4 _ (by omega) (by omega) hA (by omega) (by omega)) (subH_get (by simp only [aqT, ROp, OX, ↓seqK, ↓blkK, ↓loopK, step, stepBin, res, stepIdx, mix, PV.cells, argSlots, Nat.reduceBEq, Nat.reduceBeqDiff, Nat.add_assoc nid, Nat.reduceAdd, reduceCtorEq, ↓reduceIte, Nat.reduceLeDiff, colPV, freeOf, indep, offO, neqO, disj, namesX, axSlot, opXs, rdXs, idsOf, idsOfs, lowH, lowAll, keys, Nat.reduceBneDiff, Option.toList, ← Int.ofNat_tmod, ← Int.ofNat_tdiv, optInt, fillP, repl, chunk, mkCols, mkCol, colInts, colBools, colStrs, colLits, colsApp, Col.app, tailOf, splice, colsPut, Col.put, mmFold, eqK, Nat.reduceLT, e1, e2, e3, e4, e5, e6, e7, e8, e9])) (by simp [getH, strmC, e1, e2, e3, e4, e5, e6, e7, e8, e9]) ?_
        simp -dsimp only [aqT, ROp, OX, ↓seqK, ↓blkK, ↓loopK, step, stepBin, res, stepIdx, mix, PV.cells, argSlots, Nat.reduceBEq, Nat.reduceBeqDiff, Nat.add_assoc nid, Nat.reduceAdd, reduceCtorEq, ↓reduceIte, Nat.reduceLeDiff, colPV, freeOf, indep, offO, neqO, disj, namesX, axSlot, opXs, rdXs, idsOf, idsOfs, lowH, lowAll, keys, Nat.reduceBneDiff, Option.toList, ← Int.ofNat_tmod, ← Int.ofNat_tdiv, optInt, fillP, repl, chunk, mkCols, mkCol, colInts, colBools, colStrs, colLits, colsApp, Col.app, tailOf, splice, colsPut, Col.put, mmFold, eqK, Nat.reduceLT, kill, strmC_low, e1, e2, e3, e4, e5, e6, e7, e8, e9, hpi]
        have hs1 : secs1 A p = ((secs0 A p).set (pickI A (p + 1 + k + 1) k) (pickV A (p + 1 + k + 2) [0, -1, 4096, 4097]), p + 1 + k + 3) := by unfold secs1; rw [hl0, h2]; rfl
        refine ⟨hnx, ?_⟩
        refine CallO.on (flip_c s _ nl A (p + 1 + k + 1 + 1 + 1) _ (by omega) (by omega) hA (by omega)) (subH_get (by simp only [aqT, ROp, OX, ↓seqK, ↓blkK, ↓loopK, step, stepBin, res, stepIdx, mix, PV.cells, argSlots, Nat.reduceBEq, Nat.reduceBeqDiff, Nat.add_assoc nid, Nat.reduceAdd, reduceCtorEq, ↓reduceIte, Nat.reduceLeDiff, colPV, freeOf, indep, offO, neqO, disj, namesX, axSlot, opXs, rdXs, idsOf, idsOfs, lowH, lowAll, keys, Nat.reduceBneDiff, Option.toList, ← Int.ofNat_tmod, ← Int.ofNat_tdiv, optInt, fillP, repl, chunk, mkCols, mkCol, colInts, colBools, colStrs, colLits, colsApp, Col.app, tailOf, splice, colsPut, Col.put, mmFold, eqK, Nat.reduceLT, e1, e2, e3, e4, e5, e6, e7, e8, e9])) ?_
        simp -dsimp only [aqT, ROp, OX, ↓seqK, ↓blkK, ↓loopK, step, stepBin, res, stepIdx, mix, PV.cells, argSlots, Nat.reduceBEq, Nat.reduceBeqDiff, Nat.add_assoc nid, Nat.reduceAdd, reduceCtorEq, ↓reduceIte, Nat.reduceLeDiff, colPV, freeOf, indep, offO, neqO, disj, namesX, axSlot, opXs, rdXs, idsOf, idsOfs, lowH, lowAll, keys, Nat.reduceBneDiff, Option.toList, ← Int.ofNat_tmod, ← Int.ofNat_tdiv, optInt, fillP, repl, chunk, mkCols, mkCol, colInts, colBools, colStrs, colLits, colsApp, Col.app, tailOf, splice, colsPut, Col.put, mmFold, eqK, Nat.reduceLT, strmC_low, e1, e2, e3, e4, e5, e6, e7, e8, e9]
        refine S2.intro (fun h3 => ?_) (fun h3 => ?_)
        · simp -dsimp only [aqT, ROp, OX, ↓seqK, ↓blkK, ↓loopK, step, stepBin, res, stepIdx, mix, PV.cells, argSlots, Nat.reduceBEq, Nat.reduceBeqDiff, Nat.add_assoc nid, Nat.reduceAdd, reduceCtorEq, ↓reduceIte, Nat.reduceLeDiff, colPV, freeOf, indep, offO, neqO, disj, namesX, axSlot, opXs, rdXs, idsOf, idsOfs, lowH, lowAll, keys, Nat.reduceBneDiff, Option.toList, ← Int.ofNat_tmod, ← Int.ofNat_tdiv, optInt, fillP, repl, chunk, mkCols, mkCol, colInts, colBools, colStrs, colLits, colsApp, Col.app, tailOf, splice, colsPut, Col.put, mmFold, eqK, Nat.reduceLT, strmC_low, e1, e2, e3, e4, e5, e6, e7, e8, e9]
          have hf : flashOfV A p = ([], p + 1 + k + 3 + 1) := by unfold flashOfV; rw [hs1]; simp only; rw [show p + 1 + k + 3 = p + 1 + k + 1 + 1 + 1 by omega, h3]; rfl
          rw [hf]
          refine RetOK.go [] [(nid, 1)] (.inl rfl) ?_
          simp [a9, retPV, over, keys, List.map_nil, List.map_cons, List.contains_cons, List.contains_nil, Bool.or_false, Bool.or_true, Bool.true_or, Bool.false_or, beq_self_eq_true, cond_true, cond_false, HeapCov, orNil, nilSz, onBlk, srcOf, getH_hit, getH_miss, getH.eq_1, getS_hit, getS_miss, getS.eq_1, BlkCov, PVCovs, PVCov, ColsEq, ColEq.refl, liveIds, SlotsCov, List.all_nil, List.all_cons, List.any_nil, List.any_cons, List.nil_append, List.cons_append, inRange, apart, nilBlk, idS1, idS2, readAll, readRes, onAll, step, res, AX.val, List.drop_zero, List.drop_succ_cons, List.take_succ_cons, List.take_zero, e1, e2, e3, e4, e5, e6, e7, e8, e9, strmC, arrI]
          omega
        · simp -dsimp only [aqT, ROp, OX, ↓seqK, ↓blkK, ↓loopK, step, stepBin, res, stepIdx, mix, PV.cells, argSlots, Nat.reduceBEq, Nat.reduceBeqDiff, Nat.add_assoc nid, Nat.reduceAdd, reduceCtorEq, ↓reduceIte, Nat.reduceLeDiff, colPV, freeOf, indep, offO, neqO, disj, namesX, axSlot, opXs, rdXs, idsOf, idsOfs, lowH, lowAll, keys, Nat.reduceBneDiff, Option.toList, ← Int.ofNat_tmod, ← Int.ofNat_tdiv, optInt, fillP, repl, chunk, mkCols, mkCol, colInts, colBools, colStrs, colLits, colsApp, Col.app, tailOf, splice, colsPut, Col.put, mmFold, eqK, Nat.reduceLT, strmC_low, e1, e2, e3, e4, e5, e6, e7, e8, e9]
          have hf : flashOfV A p = ((secs0 A p).set (pickI A (p + 1 + k + 1) k) (pickV A (p + 1 + k + 2) [0, -1, 4096, 4097]), p + 1 + k + 3 + 1) := by unfold flashOfV; rw [hs1]; simp only; rw [show p + 1 + k + 3 = p + 1 + k + 1 + 1 + 1 by omega, h3]; rfl
          rw [hf]
          refine RetOK.go [(nid, nid + 20)] [] (.inl rfl) ?_
          simp [a9, retPV, over, keys, List.map_nil, List.map_cons, List.contains_cons, List.contains_nil, Bool.or_false, Bool.or_true, Bool.true_or, Bool.false_or, beq_self_eq_true, cond_true, cond_false, HeapCov, orNil, nilSz, onBlk, srcOf, getH_hit, getH_miss, getH.eq_1, getS_hit, getS_miss, getS.eq_1, BlkCov, PVCovs, PVCov, ColsEq, ColEq.refl, liveIds, SlotsCov, List.all_nil, List.all_cons, List.any_nil, List.any_cons, List.nil_append, List.cons_append, inRange, apart, nilBlk, idS1, idS2, readAll, readRes, onAll, step, res, AX.val, List.drop_zero, List.drop_succ_cons, List.take_succ_cons, List.take_zero, e1, e2, e3, e4, e5, e6, e7, e8, e9, strmC, arrI]
          have hcol : ColEq k (Col.i IntKind.i64 fun j => if j = pickI A (p + 1 + k + 1) k then [0, -1, 4096, 4097][pickI A (p + 1 + k + 1 + 1) 4]?.getD 0 else rangeV A (p + 1 + j) 1 5)
              (Col.i IntKind.i64 fun i => ((secs0 A p).set (pickI A (p + 1 + k + 1) k) (pickV A (p + 1 + k + 2) [0, -1, 4096, 4097]))[i]?.getD 0) := ColEq.i fun j hj => by
            rw [List.getElem?_set]
            by_cases hji : j = pickI A (p + 1 + k + 1) k
            · subst hji
              simp [hl0, hj, pickV]
            · rw [if_neg hji, if_neg (fun e => hji e.symm), hs0]; simp [hj]
          exact ⟨⟨by omega, hl0.symm, hcol⟩, hl0.symm⟩
      · simp -dsimp only [aqT, ROp, OX, ↓seqK, ↓blkK, ↓loopK, step, stepBin, res, stepIdx, mix, PV.cells, argSlots, Nat.reduceBEq, Nat.reduceBeqDiff, Nat.add_assoc nid, Nat.reduceAdd, reduceCtorEq, ↓reduceIte, Nat.reduceLeDiff, colPV, freeOf, indep, offO, neqO, disj, namesX, axSlot, opXs, rdXs, idsOf, idsOfs, lowH, lowAll, keys, Nat.reduceBneDiff, Option.toList, ← Int.ofNat_tmod, ← Int.ofNat_tdiv, optInt, fillP, repl, chunk, mkCols, mkCol, colInts, colBools, colStrs, colLits, colsApp, Col.app, tailOf, splice, colsPut, Col.put, mmFold, eqK, Nat.reduceLT, strmC_low, e1, e2, e3, e4, e5, e6, e7, e8, e9]
        refine CallO.on (flip_c s _ nl A (p + 1 + k + 1) _ (by omega) (by omega) hA (by omega)) (subH_get (by simp only [aqT, ROp, OX, ↓seqK, ↓blkK, ↓loopK, step, stepBin, res, stepIdx, mix, PV.cells, argSlots, Nat.reduceBEq, Nat.reduceBeqDiff, Nat.add_assoc nid, Nat.reduceAdd, reduceCtorEq, ↓reduceIte, Nat.reduceLeDiff, colPV, freeOf, indep, offO, neqO, disj, namesX, axSlot, opXs, rdXs, idsOf, idsOfs, lowH, lowAll, keys, Nat.reduceBneDiff, Option.toList, ← Int.ofNat_tmod, ← Int.ofNat_tdiv, optInt, fillP, repl, chunk, mkCols, mkCol, colInts, colBools, colStrs, colLits, colsApp, Col.app, tailOf, splice, colsPut, Col.put, mmFold, eqK, Nat.reduceLT, e1, e2, e3, e4, e5, e6, e7, e8, e9])) ?_
        simp -dsimp only [aqT, ROp, OX, ↓seqK, ↓blkK, ↓loopK, step, stepBin, res, stepIdx, mix, PV.cells, argSlots, Nat.reduceBEq, Nat.reduceBeqDiff, Nat.add_assoc nid, Nat.reduceAdd, reduceCtorEq, ↓reduceIte, Nat.reduceLeDiff, colPV, freeOf, indep, offO, neqO, disj, namesX, axSlot, opXs, rdXs, idsOf, idsOfs, lowH, lowAll, keys, Nat.reduceBneDiff, Option.toList, ← Int.ofNat_tmod, ← Int.ofNat_tdiv, optInt, fillP, repl, chunk, mkCols, mkCol, colInts, colBools, colStrs, colLits, colsApp, Col.app, tailOf, splice, colsPut, Col.put, mmFold, eqK, Nat.reduceLT, strmC_low, e1, e2, e3, e4, e5, e6, e7, e8, e9]
        have hs1 : secs1 A p = (secs0 A p, p + 1 + k + 1) := by unfold secs1; rw [hl0, h2]; rfl
        refine S2.intro (fun h3 => ?_) (fun h3 => ?_)
        · simp -dsimp only [aqT, ROp, OX, ↓seqK, ↓blkK, ↓loopK, step, stepBin, res, stepIdx, mix, PV.cells, argSlots, Nat.reduceBEq, Nat.reduceBeqDiff, Nat.add_assoc nid, Nat.reduceAdd, reduceCtorEq, ↓reduceIte, Nat.reduceLeDiff, colPV, freeOf, indep, offO, neqO, disj, namesX, axSlot, opXs, rdXs, idsOf, idsOfs, lowH, lowAll, keys, Nat.reduceBneDiff, Option.toList, ← Int.ofNat_tmod, ← Int.ofNat_tdiv, optInt, fillP, repl, chunk, mkCols, mkCol, colInts, colBools, colStrs, colLits, colsApp, Col.app, tailOf, splice, colsPut, Col.put, mmFold, eqK, Nat.reduceLT, strmC_low, e1, e2, e3, e4, e5, e6, e7, e8, e9]
          have hf : flashOfV A p = ([], p + 1 + k + 1 + 1) := by unfold flashOfV; rw [hs1]; simp only [h3, if_true]
          rw [hf]
          refine RetOK.go [] [(nid, 1)] (.inl rfl) ?_
          simp [a9, retPV, over, keys, List.map_nil, List.map_cons, List.contains_cons, List.contains_nil, Bool.or_false, Bool.or_true, Bool.true_or, Bool.false_or, beq_self_eq_true, cond_true, cond_false, HeapCov, orNil, nilSz, onBlk, srcOf, getH_hit, getH_miss, getH.eq_1, getS_hit, getS_miss, getS.eq_1, BlkCov, PVCovs, PVCov, ColsEq, ColEq.refl, liveIds, SlotsCov, List.all_nil, List.all_cons, List.any_nil, List.any_cons, List.nil_append, List.cons_append, inRange, apart, nilBlk, idS1, idS2, readAll, readRes, onAll, step, res, AX.val, List.drop_zero, List.drop_succ_cons, List.take_succ_cons, List.take_zero, e1, e2, e3, e4, e5, e6, e7, e8, e9, strmC, arrI]
        · simp -dsimp only [aqT, ROp, OX, ↓seqK, ↓blkK, ↓loopK, step, stepBin, res, stepIdx, mix, PV.cells, argSlots, Nat.reduceBEq, Nat.reduceBeqDiff, Nat.add_assoc nid, Nat.reduceAdd, reduceCtorEq, ↓reduceIte, Nat.reduceLeDiff, colPV, freeOf, indep, offO, neqO, disj, namesX, axSlot, opXs, rdXs, idsOf, idsOfs, lowH, lowAll, keys, Nat.reduceBneDiff, Option.toList, ← Int.ofNat_tmod, ← Int.ofNat_tdiv, optInt, fillP, repl, chunk, mkCols, mkCol, colInts, colBools, colStrs, colLits, colsApp, Col.app, tailOf, splice, colsPut, Col.put, mmFold, eqK, Nat.reduceLT, strmC_low, e1, e2, e3, e4, e5, e6, e7, e8, e9]
          have hf : flashOfV A p = (secs0 A p, p + 1 + k + 1 + 1) := by unfold flashOfV; rw [hs1]; simp [h3]
          rw [hf]
          refine RetOK.go [(nid, nid + 20)] [] (.inl rfl) ?_
          simp [a9, retPV, over, keys, List.map_nil, List.map_cons, List.contains_cons, List.contains_nil, Bool.or_false, Bool.or_true, Bool.true_or, Bool.false_or, beq_self_eq_true, cond_true, cond_false, HeapCov, orNil, nilSz, onBlk, srcOf, getH_hit, getH_miss, getH.eq_1, getS_hit, getS_miss, getS.eq_1, BlkCov, PVCovs, PVCov, ColsEq, ColEq.refl, liveIds, SlotsCov, List.all_nil, List.all_cons, List.any_nil, List.any_cons, List.nil_append, List.cons_append, inRange, apart, nilBlk, idS1, idS2, readAll, readRes, onAll, step, res, AX.val, List.drop_zero, List.drop_succ_cons, List.take_succ_cons, List.take_zero, e1, e2, e3, e4, e5, e6, e7, e8, e9, strmC, arrI]
          have hcol : ColEq k (Col.i IntKind.i64 fun i => rangeV A (p + 1 + i) 1 5) (Col.i IntKind.i64 fun i => (secs0 A p)[i]?.getD 0) := ColEq.i fun j hj => by rw [hs0]; simp [hj]
          exact ⟨⟨hl0.symm, hcol⟩, hl0.symm⟩
end Go.Proofs.Ytmnhlfkphibhfaa
/-
  The maker of words, by the abstract machine.
-/
namespace Go.Proofs.Ytmnhlfkphibhfaa
open Go.RowKit
set_option linter.unusedVariables false
set_option linter.unusedSimpArgs false
set_option maxRecDepth 100000
def litI (nl : Bool) (l : List Int) : PV := .lit nl l.length [.i .i64 fun i => l.getD i 0]
theorem smaxS {l : List Int} {k : Nat} (h : k < l.length) : sumMax (l.take (k + 1)) = sumMax (l.take k) + max (l.getD k 0) 0 := by
  rw [take_snoc (x := l.getD k 0) (by rw [List.getD_eq_getElem?_getD, List.getElem?_eq_getElem h]; rfl), sumMax_snoc]
theorem smaxP {l : List Int} (hv : Within (-1) 4097 l) (hn : l.length ≤ 4) (k : Nat) : 0 ≤ sumMax (l.take k) ∧ sumMax (l.take k) ≤ 16388 := by
  have h := sumMax_bd (l.take k) (hv.take k)
  have : (l.take k).length ≤ 4 := by rw [List.length_take]; omega
  omega
theorem getDin {lo hi : Int} {l : List Int} (h : Within lo hi l) {k : Nat} (hk : k < l.length) : lo ≤ l.getD k 0 ∧ l.getD k 0 ≤ hi := by
  rw [List.getD_eq_getElem?_getD, List.getElem?_eq_getElem hk]
  exact h _ (List.getElem_mem hk)
theorem col_snoc {k : IntKind} {m : Nat} {g : Nat → Int} {l : List Int} (hl : l.length = m) (hc : ∀ i, i < m → g i = l[i]?.getD 0) (x : Int) : ColEq (m + 1) (.i k fun i => if i < m then g i else [x][i - m]?.getD 0) (.i k fun i => (l ++ [x])[i]?.getD 0) :=
  ColEq.i fun i hi => by
    by_cases him : i < m
    · rw [if_pos him, List.getElem?_append_left (by omega)]; exact hc i him
    · have : i = m := by omega
      subst this
      rw [if_neg him, List.getElem?_append_right (by omega), hl]
theorem wordList_c (s nid : Nat) (nl nlS : Bool) (A : List Int) (p : Nat) (secs : List Int) (h : s < nid) (hp : p ≤ 1099511600000) (hA : A.length ≤ 17592186044416) (hv : Within (-1) 4097 secs) (hn : secs.length ≤ 4) :
    ACall Try.prog 10 [.ptr s 0, .agg [litI nlS secs]] [(s, strmC nl A p)] nid (.sl nid 0 (wordListV A p secs).1.length) [(s, strmC nl A (wordListV A p secs).2), (nid, arrI (wordListV A p secs).1)] := by
  obtain ⟨e1, e2, e3, e4, e5, e6, e7, e8, e9⟩ := id_all h
  refine acall_run c10 (by simp [a10]) ?_
  unfold litI
  simp -dsimp only [a10, aqT, ROp, OX, ↓seqK, ↓blkK, ↓loopK, step, stepBin, res, stepIdx, mix, PV.cells, argSlots, Nat.reduceBEq, Nat.reduceBeqDiff, Nat.add_assoc nid, Nat.reduceAdd, reduceCtorEq, ↓reduceIte, Nat.reduceLeDiff, colPV, freeOf, indep, offO, neqO, disj, namesX, axSlot, opXs, rdXs, idsOf, idsOfs, lowH, lowAll, keys, Nat.reduceBneDiff, Option.toList, ← Int.ofNat_tmod, ← Int.ofNat_tdiv, optInt, fillP, repl, chunk, mkCols, mkCol, colInts, colBools, colStrs, colLits, colsApp, Col.app, tailOf, splice, colsPut, Col.put, mmFold, eqK, Nat.reduceLT, strmC_low, e1, e2, e3, e4, e5, e6, e7, e8, e9]
  refine LP.mkP (fun k : Nat => k ≤ secs.length) (fun k : Nat => ⟨[(12, .int .i64 k), (11, .int .i64 secs.length), (10, litI nlS secs), (5, .int .i64 (sumMax (secs.take k))), (0, .ptr s 0)], [(s, strmC nl A p)], nid + 32, nid⟩)
    (fun k => secs.length + 1 - k) 0 (by omega) (Cov.go [] [] ?_) (fun k hk => ?_)
  · simp [retPV, over, keys, List.map_nil, List.map_cons, List.contains_cons, List.contains_nil, Bool.or_false, Bool.or_true, Bool.true_or, Bool.false_or, beq_self_eq_true, cond_true, cond_false, HeapCov, orNil, nilSz, onBlk, srcOf, getH_hit, getH_miss, getH.eq_1, getS_hit, getS_miss, getS.eq_1, BlkCov, PVCovs, PVCov, ColsEq, ColEq.refl, liveIds, SlotsCov, List.all_nil, List.all_cons, List.any_nil, List.any_cons, List.nil_append, List.cons_append, inRange, apart, nilBlk, idS1, idS2, readAll, readRes, onAll, step, res, AX.val, List.drop_zero, List.drop_succ_cons, List.take_succ_cons, List.take_zero, e1, e2, e3, e4, e5, e6, e7, e8, e9, strmC, litI, sumMax]
  unfold litI
  simp -dsimp only [aqT, ROp, OX, ↓seqK, ↓blkK, ↓loopK, step, stepBin, res, stepIdx, mix, PV.cells, argSlots, Nat.reduceBEq, Nat.reduceBeqDiff, Nat.add_assoc nid, Nat.reduceAdd, reduceCtorEq, ↓reduceIte, Nat.reduceLeDiff, colPV, freeOf, indep, offO, neqO, disj, namesX, axSlot, opXs, rdXs, idsOf, idsOfs, lowH, lowAll, keys, Nat.reduceBneDiff, Option.toList, ← Int.ofNat_tmod, ← Int.ofNat_tdiv, optInt, fillP, repl, chunk, mkCols, mkCol, colInts, colBools, colStrs, colLits, colsApp, Col.app, tailOf, splice, colsPut, Col.put, mmFold, eqK, Nat.reduceLT, strmC_low, e1, e2, e3, e4, e5, e6, e7, e8, e9]
  refine S2.dec (fun h1 => ?_) (fun h1 => ?_)
  · simp -dsimp only [aqT, ROp, OX, ↓seqK, ↓blkK, ↓loopK, step, stepBin, res, stepIdx, mix, PV.cells, argSlots, Nat.reduceBEq, Nat.reduceBeqDiff, Nat.add_assoc nid, Nat.reduceAdd, reduceCtorEq, ↓reduceIte, Nat.reduceLeDiff, colPV, freeOf, indep, offO, neqO, disj, namesX, axSlot, opXs, rdXs, idsOf, idsOfs, lowH, lowAll, keys, Nat.reduceBneDiff, Option.toList, ← Int.ofNat_tmod, ← Int.ofNat_tdiv, optInt, fillP, repl, chunk, mkCols, mkCol, colInts, colBools, colStrs, colLits, colsApp, Col.app, tailOf, splice, colsPut, Col.put, mmFold, eqK, Nat.reduceLT, strmC_low, e1, e2, e3, e4, e5, e6, e7, e8, e9]
    have h2 := smaxP hv hn k
    have h3 := smaxS (l := secs) (k := k) (by omega)
    have h4 := getDin hv (k := k) (by omega)
    refine ⟨by omega, by unfold inI64; omega, by unfold inI64; omega, k + 1, ⟨by omega, by omega⟩, Cov.go [] [] ?_⟩
    simp [retPV, over, keys, List.map_nil, List.map_cons, List.contains_cons, List.contains_nil, Bool.or_false, Bool.or_true, Bool.true_or, Bool.false_or, beq_self_eq_true, cond_true, cond_false, HeapCov, orNil, nilSz, onBlk, srcOf, getH_hit, getH_miss, getH.eq_1, getS_hit, getS_miss, getS.eq_1, BlkCov, PVCovs, PVCov, ColsEq, ColEq.refl, liveIds, SlotsCov, List.all_nil, List.all_cons, List.any_nil, List.any_cons, List.nil_append, List.cons_append, inRange, apart, nilBlk, idS1, idS2, readAll, readRes, onAll, step, res, AX.val, List.drop_zero, List.drop_succ_cons, List.take_succ_cons, List.take_zero, e1, e2, e3, e4, e5, e6, e7, e8, e9, strmC, h3]
  simp -dsimp only [aqT, ROp, OX, ↓seqK, ↓blkK, ↓loopK, step, stepBin, res, stepIdx, mix, PV.cells, argSlots, Nat.reduceBEq, Nat.reduceBeqDiff, Nat.add_assoc nid, Nat.reduceAdd, reduceCtorEq, ↓reduceIte, Nat.reduceLeDiff, colPV, freeOf, indep, offO, neqO, disj, namesX, axSlot, opXs, rdXs, idsOf, idsOfs, lowH, lowAll, keys, Nat.reduceBneDiff, Option.toList, ← Int.ofNat_tmod, ← Int.ofNat_tdiv, optInt, fillP, repl, chunk, mkCols, mkCol, colInts, colBools, colStrs, colLits, colsApp, Col.app, tailOf, splice, colsPut, Col.put, mmFold, eqK, Nat.reduceLT, strmC_low, e1, e2, e3, e4, e5, e6, e7, e8, e9]
  have hfull : secs.take k = secs := List.take_of_length_le (by omega)
  rw [hfull]
  have hmany := wordMany_le secs
  obtain ⟨m, hm⟩ : ∃ m, wordMany secs = m := ⟨_, rfl⟩
  rw [hm] at hmany
  have hmin : min (sumMax secs) 40 = (m : Int) := by
    have := (smaxP hv hn secs.length).1
    rw [List.take_length] at this
    unfold wordMany at hm; omega
  rw [hmin]
  refine LP.mkP (fun j : Nat => j ≤ m) (fun j : Nat => ⟨[(23, .int .i64 j), (22, .int .i64 m), (8, .sl (nid + 52) 0 j), (0, .ptr s 0)], [(s, strmC nl A (p + 2 * j)), (nid + 52, some (.arr 3 j [.i .i64 fun i => word1 A (p + 2 * i)]))], nid + 56, nid⟩)
    (fun j => m + 1 - j) 0 (by omega) (Cov.go [] [(nid + 52, 1)] ?_) (fun j hj => ?_)
  · simp [retPV, over, keys, List.map_nil, List.map_cons, List.contains_cons, List.contains_nil, Bool.or_false, Bool.or_true, Bool.true_or, Bool.false_or, beq_self_eq_true, cond_true, cond_false, HeapCov, orNil, nilSz, onBlk, srcOf, getH_hit, getH_miss, getH.eq_1, getS_hit, getS_miss, getS.eq_1, BlkCov, PVCovs, PVCov, ColsEq, ColEq.refl, liveIds, SlotsCov, List.all_nil, List.all_cons, List.any_nil, List.any_cons, List.nil_append, List.cons_append, inRange, apart, nilBlk, idS1, idS2, readAll, readRes, onAll, step, res, AX.val, List.drop_zero, List.drop_succ_cons, List.take_succ_cons, List.take_zero, e1, e2, e3, e4, e5, e6, e7, e8, e9, strmC]
  simp -dsimp only [aqT, ROp, OX, ↓seqK, ↓blkK, ↓loopK, step, stepBin, res, stepIdx, mix, PV.cells, argSlots, Nat.reduceBEq, Nat.reduceBeqDiff, Nat.add_assoc nid, Nat.reduceAdd, reduceCtorEq, ↓reduceIte, Nat.reduceLeDiff, colPV, freeOf, indep, offO, neqO, disj, namesX, axSlot, opXs, rdXs, idsOf, idsOfs, lowH, lowAll, keys, Nat.reduceBneDiff, Option.toList, ← Int.ofNat_tmod, ← Int.ofNat_tdiv, optInt, fillP, repl, chunk, mkCols, mkCol, colInts, colBools, colStrs, colLits, colsApp, Col.app, tailOf, splice, colsPut, Col.put, mmFold, eqK, Nat.reduceLT, strmC_low, e1, e2, e3, e4, e5, e6, e7, e8, e9]
  refine S2.dec (fun h2 => ?_) (fun h2 => ?_)
  · simp -dsimp only [aqT, ROp, OX, ↓seqK, ↓blkK, ↓loopK, step, stepBin, res, stepIdx, mix, PV.cells, argSlots, Nat.reduceBEq, Nat.reduceBeqDiff, Nat.add_assoc nid, Nat.reduceAdd, reduceCtorEq, ↓reduceIte, Nat.reduceLeDiff, colPV, freeOf, indep, offO, neqO, disj, namesX, axSlot, opXs, rdXs, idsOf, idsOfs, lowH, lowAll, keys, Nat.reduceBneDiff, Option.toList, ← Int.ofNat_tmod, ← Int.ofNat_tdiv, optInt, fillP, repl, chunk, mkCols, mkCol, colInts, colBools, colStrs, colLits, colsApp, Col.app, tailOf, splice, colsPut, Col.put, mmFold, eqK, Nat.reduceLT, strmC_low, e1, e2, e3, e4, e5, e6, e7, e8, e9]
    refine CallO.on (next_c s _ nl A (p + 2 * j) _ (by omega) (by omega) hA (by omega)) (subH_get (by simp only [aqT, ROp, OX, ↓seqK, ↓blkK, ↓loopK, step, stepBin, res, stepIdx, mix, PV.cells, argSlots, Nat.reduceBEq, Nat.reduceBeqDiff, Nat.add_assoc nid, Nat.reduceAdd, reduceCtorEq, ↓reduceIte, Nat.reduceLeDiff, colPV, freeOf, indep, offO, neqO, disj, namesX, axSlot, opXs, rdXs, idsOf, idsOfs, lowH, lowAll, keys, Nat.reduceBneDiff, Option.toList, ← Int.ofNat_tmod, ← Int.ofNat_tdiv, optInt, fillP, repl, chunk, mkCols, mkCol, colInts, colBools, colStrs, colLits, colsApp, Col.app, tailOf, splice, colsPut, Col.put, mmFold, eqK, Nat.reduceLT, e1, e2, e3, e4, e5, e6, e7, e8, e9])) ?_
    simp -dsimp only [aqT, ROp, OX, ↓seqK, ↓blkK, ↓loopK, step, stepBin, res, stepIdx, mix, PV.cells, argSlots, Nat.reduceBEq, Nat.reduceBeqDiff, Nat.add_assoc nid, Nat.reduceAdd, reduceCtorEq, ↓reduceIte, Nat.reduceLeDiff, colPV, freeOf, indep, offO, neqO, disj, namesX, axSlot, opXs, rdXs, idsOf, idsOfs, lowH, lowAll, keys, Nat.reduceBneDiff, Option.toList, ← Int.ofNat_tmod, ← Int.ofNat_tdiv, optInt, fillP, repl, chunk, mkCols, mkCol, colInts, colBools, colStrs, colLits, colsApp, Col.app, tailOf, splice, colsPut, Col.put, mmFold, eqK, Nat.reduceLT, strmC_low, e1, e2, e3, e4, e5, e6, e7, e8, e9]
    refine CallO.pick_go (p := p + 2 * j + 1) (nl := nl) (A := A) (by simp only [aqT, ROp, OX, ↓seqK, ↓blkK, ↓loopK, step, stepBin, res, stepIdx, mix, PV.cells, argSlots, Nat.reduceBEq, Nat.reduceBeqDiff, Nat.add_assoc nid, Nat.reduceAdd, reduceCtorEq, ↓reduceIte, Nat.reduceLeDiff, colPV, freeOf, indep, offO, neqO, disj, namesX, axSlot, opXs, rdXs, idsOf, idsOfs, lowH, lowAll, keys, Nat.reduceBneDiff, Option.toList, ← Int.ofNat_tmod, ← Int.ofNat_tdiv, optInt, fillP, repl, chunk, mkCols, mkCol, colInts, colBools, colStrs, colLits, colsApp, Col.app, tailOf, splice, colsPut, Col.put, mmFold, eqK, Nat.reduceLT, e1, e2, e3, e4, e5, e6, e7, e8, e9]) (by simp only [aqT, ROp, OX, ↓seqK, ↓blkK, ↓loopK, step, stepBin, res, stepIdx, mix, PV.cells, argSlots, Nat.reduceBEq, Nat.reduceBeqDiff, Nat.add_assoc nid, Nat.reduceAdd, reduceCtorEq, ↓reduceIte, Nat.reduceLeDiff, colPV, freeOf, indep, offO, neqO, disj, namesX, axSlot, opXs, rdXs, idsOf, idsOfs, lowH, lowAll, keys, Nat.reduceBneDiff, Option.toList, ← Int.ofNat_tmod, ← Int.ofNat_tdiv, optInt, fillP, repl, chunk, mkCols, mkCol, colInts, colBools, colStrs, colLits, colsApp, Col.app, tailOf, splice, colsPut, Col.put, mmFold, eqK, Nat.reduceLT, e1, e2, e3, e4, e5, e6, e7, e8, e9]; rfl) (by simp only [e1, e2, e3, e4, e5, e6, e7, e8, e9]) (by omega) (by omega) hA (by omega) (by omega) ?_
    simp -dsimp only [aqT, ROp, OX, ↓seqK, ↓blkK, ↓loopK, step, stepBin, res, stepIdx, mix, PV.cells, argSlots, Nat.reduceBEq, Nat.reduceBeqDiff, Nat.add_assoc nid, Nat.reduceAdd, reduceCtorEq, ↓reduceIte, Nat.reduceLeDiff, colPV, freeOf, indep, offO, neqO, disj, namesX, axSlot, opXs, rdXs, idsOf, idsOfs, lowH, lowAll, keys, Nat.reduceBneDiff, Option.toList, ← Int.ofNat_tmod, ← Int.ofNat_tdiv, optInt, fillP, repl, chunk, mkCols, mkCol, colInts, colBools, colStrs, colLits, colsApp, Col.app, tailOf, splice, colsPut, Col.put, mmFold, eqK, Nat.reduceLT, kill, strmC_low, e1, e2, e3, e4, e5, e6, e7, e8, e9]
    refine ⟨⟨by omega, by omega⟩, by unfold inI64; omega, j + 1, ⟨by omega, by omega⟩, Cov.go [(nid + 52, nid + 88)] [] ?_⟩
    simp [retPV, over, keys, List.map_nil, List.map_cons, List.contains_cons, List.contains_nil, Bool.or_false, Bool.or_true, Bool.true_or, Bool.false_or, beq_self_eq_true, cond_true, cond_false, HeapCov, orNil, nilSz, onBlk, srcOf, getH_hit, getH_miss, getH.eq_1, getS_hit, getS_miss, getS.eq_1, BlkCov, PVCovs, PVCov, ColsEq, ColEq.refl, liveIds, SlotsCov, List.all_nil, List.all_cons, List.any_nil, List.any_cons, List.nil_append, List.cons_append, inRange, apart, nilBlk, idS1, idS2, readAll, readRes, onAll, step, res, AX.val, List.drop_zero, List.drop_succ_cons, List.take_succ_cons, List.take_zero, e1, e2, e3, e4, e5, e6, e7, e8, e9, strmC]
    refine ⟨by omega, ColEq.i fun i hi => ?_⟩
    by_cases hij : i < j
    · simp [hij]
    · have : i = j := by omega
      subst this
      simp [word1, pickV]
  simp -dsimp only [aqT, ROp, OX, ↓seqK, ↓blkK, ↓loopK, step, stepBin, res, stepIdx, mix, PV.cells, argSlots, Nat.reduceBEq, Nat.reduceBeqDiff, Nat.add_assoc nid, Nat.reduceAdd, reduceCtorEq, ↓reduceIte, Nat.reduceLeDiff, colPV, freeOf, indep, offO, neqO, disj, namesX, axSlot, opXs, rdXs, idsOf, idsOfs, lowH, lowAll, keys, Nat.reduceBneDiff, Option.toList, ← Int.ofNat_tmod, ← Int.ofNat_tdiv, optInt, fillP, repl, chunk, mkCols, mkCol, colInts, colBools, colStrs, colLits, colsApp, Col.app, tailOf, splice, colsPut, Col.put, mmFold, eqK, Nat.reduceLT, strmC_low, e1, e2, e3, e4, e5, e6, e7, e8, e9]
  refine S2.dec (fun h3 => ?_) (fun h3 => ?_)
  · simp -dsimp only [aqT, ROp, OX, ↓seqK, ↓blkK, ↓loopK, step, stepBin, res, stepIdx, mix, PV.cells, argSlots, Nat.reduceBEq, Nat.reduceBeqDiff, Nat.add_assoc nid, Nat.reduceAdd, reduceCtorEq, ↓reduceIte, Nat.reduceLeDiff, colPV, freeOf, indep, offO, neqO, disj, namesX, axSlot, opXs, rdXs, idsOf, idsOfs, lowH, lowAll, keys, Nat.reduceBneDiff, Option.toList, ← Int.ofNat_tmod, ← Int.ofNat_tdiv, optInt, fillP, repl, chunk, mkCols, mkCol, colInts, colBools, colStrs, colLits, colsApp, Col.app, tailOf, splice, colsPut, Col.put, mmFold, eqK, Nat.reduceLT, strmC_low, e1, e2, e3, e4, e5, e6, e7, e8, e9]
    refine CallO.on (flip_c s _ nl A (p + 2 * j) _ (by omega) (by omega) hA (by omega)) (subH_get (by simp only [aqT, ROp, OX, ↓seqK, ↓blkK, ↓loopK, step, stepBin, res, stepIdx, mix, PV.cells, argSlots, Nat.reduceBEq, Nat.reduceBeqDiff, Nat.add_assoc nid, Nat.reduceAdd, reduceCtorEq, ↓reduceIte, Nat.reduceLeDiff, colPV, freeOf, indep, offO, neqO, disj, namesX, axSlot, opXs, rdXs, idsOf, idsOfs, lowH, lowAll, keys, Nat.reduceBneDiff, Option.toList, ← Int.ofNat_tmod, ← Int.ofNat_tdiv, optInt, fillP, repl, chunk, mkCols, mkCol, colInts, colBools, colStrs, colLits, colsApp, Col.app, tailOf, splice, colsPut, Col.put, mmFold, eqK, Nat.reduceLT, e1, e2, e3, e4, e5, e6, e7, e8, e9])) ?_
    simp -dsimp only [aqT, ROp, OX, ↓seqK, ↓blkK, ↓loopK, step, stepBin, res, stepIdx, mix, PV.cells, argSlots, Nat.reduceBEq, Nat.reduceBeqDiff, Nat.add_assoc nid, Nat.reduceAdd, reduceCtorEq, ↓reduceIte, Nat.reduceLeDiff, colPV, freeOf, indep, offO, neqO, disj, namesX, axSlot, opXs, rdXs, idsOf, idsOfs, lowH, lowAll, keys, Nat.reduceBneDiff, Option.toList, ← Int.ofNat_tmod, ← Int.ofNat_tdiv, optInt, fillP, repl, chunk, mkCols, mkCol, colInts, colBools, colStrs, colLits, colsApp, Col.app, tailOf, splice, colsPut, Col.put, mmFold, eqK, Nat.reduceLT, strmC_low, e1, e2, e3, e4, e5, e6, e7, e8, e9]
    have hjm : j = m := by omega
    subst hjm
    have hw0 : ∀ i, i < j → word1 A (p + 2 * i) = (words0 A p j)[i]?.getD 0 := fun i hi => by rw [words0_get A p hi]; rfl
    have hl0 := words0_len A p j
    have hj0 : j ≠ 0 := by omega
    refine S2.intro (fun h4 => ?_) (fun h4 => ?_)
    · simp -dsimp only [aqT, ROp, OX, ↓seqK, ↓blkK, ↓loopK, step, stepBin, res, stepIdx, mix, PV.cells, argSlots, Nat.reduceBEq, Nat.reduceBeqDiff, Nat.add_assoc nid, Nat.reduceAdd, reduceCtorEq, ↓reduceIte, Nat.reduceLeDiff, colPV, freeOf, indep, offO, neqO, disj, namesX, axSlot, opXs, rdXs, idsOf, idsOfs, lowH, lowAll, keys, Nat.reduceBneDiff, Option.toList, ← Int.ofNat_tmod, ← Int.ofNat_tdiv, optInt, fillP, repl, chunk, mkCols, mkCol, colInts, colBools, colStrs, colLits, colsApp, Col.app, tailOf, splice, colsPut, Col.put, mmFold, eqK, Nat.reduceLT, strmC_low, e1, e2, e3, e4, e5, e6, e7, e8, e9]
      have hnx := nextV_bd A (p + 2 * j + 1) (n := (j : Int)) (by omega)
      have hpi : (nextV A (p + 2 * j + 1) (j : Int)).toNat = pickI A (p + 2 * j + 1) j := rfl
      refine CallO.on (next_c s _ nl A (p + 2 * j + 1) _ (by omega) (by omega) hA (by omega)) (subH_get (by simp only [aqT, ROp, OX, ↓seqK, ↓blkK, ↓loopK, step, stepBin, res, stepIdx, mix, PV.cells, argSlots, Nat.reduceBEq, Nat.reduceBeqDiff, Nat.add_assoc nid, Nat.reduceAdd, reduceCtorEq, ↓reduceIte, Nat.reduceLeDiff, colPV, freeOf, indep, offO, neqO, disj, namesX, axSlot, opXs, rdXs, idsOf, idsOfs, lowH, lowAll, keys, Nat.reduceBneDiff, Option.toList, ← Int.ofNat_tmod, ← Int.ofNat_tdiv, optInt, fillP, repl, chunk, mkCols, mkCol, colInts, colBools, colStrs, colLits, colsApp, Col.app, tailOf, splice, colsPut, Col.put, mmFold, eqK, Nat.reduceLT, e1, e2, e3, e4, e5, e6, e7, e8, e9])) ?_
      simp -dsimp only [aqT, ROp, OX, ↓seqK, ↓blkK, ↓loopK, step, stepBin, res, stepIdx, mix, PV.cells, argSlots, Nat.reduceBEq, Nat.reduceBeqDiff, Nat.add_assoc nid, Nat.reduceAdd, reduceCtorEq, ↓reduceIte, Nat.reduceLeDiff, colPV, freeOf, indep, offO, neqO, disj, namesX, axSlot, opXs, rdXs, idsOf, idsOfs, lowH, lowAll, keys, Nat.reduceBneDiff, Option.toList, ← Int.ofNat_tmod, ← Int.ofNat_tdiv, optInt, fillP, repl, chunk, mkCols, mkCol, colInts, colBools, colStrs, colLits, colsApp, Col.app, tailOf, splice, colsPut, Col.put, mmFold, eqK, Nat.reduceLT, strmC_low, e1, e2, e3, e4, e5, e6, e7, e8, e9]
      refine CallO.pick_go (p := p + 2 * j + 1 + 1) (nl := nl) (A := A) (by simp only [aqT, ROp, OX, ↓seqK, ↓blkK, ↓loopK, step, stepBin, res, stepIdx, mix, PV.cells, argSlots, Nat.reduceBEq, Nat.reduceBeqDiff, Nat.add_assoc nid, Nat.reduceAdd, reduceCtorEq, ↓reduceIte, Nat.reduceLeDiff, colPV, freeOf, indep, offO, neqO, disj, namesX, axSlot, opXs, rdXs, idsOf, idsOfs, lowH, lowAll, keys, Nat.reduceBneDiff, Option.toList, ← Int.ofNat_tmod, ← Int.ofNat_tdiv, optInt, fillP, repl, chunk, mkCols, mkCol, colInts, colBools, colStrs, colLits, colsApp, Col.app, tailOf, splice, colsPut, Col.put, mmFold, eqK, Nat.reduceLT, e1, e2, e3, e4, e5, e6, e7, e8, e9]) (by simp only [aqT, ROp, OX, ↓seqK, ↓blkK, ↓loopK, step, stepBin, res, stepIdx, mix, PV.cells, argSlots, Nat.reduceBEq, Nat.reduceBeqDiff, Nat.add_assoc nid, Nat.reduceAdd, reduceCtorEq, ↓reduceIte, Nat.reduceLeDiff, colPV, freeOf, indep, offO, neqO, disj, namesX, axSlot, opXs, rdXs, idsOf, idsOfs, lowH, lowAll, keys, Nat.reduceBneDiff, Option.toList, ← Int.ofNat_tmod, ← Int.ofNat_tdiv, optInt, fillP, repl, chunk, mkCols, mkCol, colInts, colBools, colStrs, colLits, colsApp, Col.app, tailOf, splice, colsPut, Col.put, mmFold, eqK, Nat.reduceLT, e1, e2, e3, e4, e5, e6, e7, e8, e9]; rfl) (by simp only [e1, e2, e3, e4, e5, e6, e7, e8, e9]) (by omega) (by omega) hA (by omega) (by omega) ?_
      simp -dsimp only [aqT, ROp, OX, ↓seqK, ↓blkK, ↓loopK, step, stepBin, res, stepIdx, mix, PV.cells, argSlots, Nat.reduceBEq, Nat.reduceBeqDiff, Nat.add_assoc nid, Nat.reduceAdd, reduceCtorEq, ↓reduceIte, Nat.reduceLeDiff, colPV, freeOf, indep, offO, neqO, disj, namesX, axSlot, opXs, rdXs, idsOf, idsOfs, lowH, lowAll, keys, Nat.reduceBneDiff, Option.toList, ← Int.ofNat_tmod, ← Int.ofNat_tdiv, optInt, fillP, repl, chunk, mkCols, mkCol, colInts, colBools, colStrs, colLits, colsApp, Col.app, tailOf, splice, colsPut, Col.put, mmFold, eqK, Nat.reduceLT, kill, strmC_low, e1, e2, e3, e4, e5, e6, e7, e8, e9, hpi]
      refine ⟨hnx, ?_⟩
      have hw : words1 A p j = ((words0 A p j).set (pickI A (p + 2 * j + 1) j) (pickV A (p + 2 * j + 1 + 1) [-1, 65536]), p + 2 * j + 1 + 1 + 1) := by unfold words1; rw [if_neg hj0, h4]; rfl
      have hl : ((words0 A p j).set (pickI A (p + 2 * j + 1) j) (pickV A (p + 2 * j + 1 + 1) [-1, 65536])).length = j := by simp [hl0]
      have hc : ∀ i, i < j → (if i = pickI A (p + 2 * j + 1) j then [-1, 65536].getD (pickI A (p + 2 * j + 1 + 1) 2) 0 else word1 A (p + 2 * i)) = ((words0 A p j).set (pickI A (p + 2 * j + 1) j) (pickV A (p + 2 * j + 1 + 1) [-1, 65536]))[i]?.getD 0 := fun i hi => by
        rw [List.getElem?_set]
        by_cases hji : i = pickI A (p + 2 * j + 1) j
        · subst hji; simp [hl0, hi, pickV]
        · rw [if_neg hji, if_neg (fun e => hji e.symm)]; exact hw0 i hi
      generalize hL1 : (words0 A p j).set (pickI A (p + 2 * j + 1) j) (pickV A (p + 2 * j + 1 + 1) [-1, 65536]) = L1 at hw hl hc
      refine CallO.on (flip_c s _ nl A (p + 2 * j + 1 + 1 + 1) _ (by omega) (by omega) hA (by omega)) (subH_get (by simp only [aqT, ROp, OX, ↓seqK, ↓blkK, ↓loopK, step, stepBin, res, stepIdx, mix, PV.cells, argSlots, Nat.reduceBEq, Nat.reduceBeqDiff, Nat.add_assoc nid, Nat.reduceAdd, reduceCtorEq, ↓reduceIte, Nat.reduceLeDiff, colPV, freeOf, indep, offO, neqO, disj, namesX, axSlot, opXs, rdXs, idsOf, idsOfs, lowH, lowAll, keys, Nat.reduceBneDiff, Option.toList, ← Int.ofNat_tmod, ← Int.ofNat_tdiv, optInt, fillP, repl, chunk, mkCols, mkCol, colInts, colBools, colStrs, colLits, colsApp, Col.app, tailOf, splice, colsPut, Col.put, mmFold, eqK, Nat.reduceLT, e1, e2, e3, e4, e5, e6, e7, e8, e9])) ?_
      simp -dsimp only [aqT, ROp, OX, ↓seqK, ↓blkK, ↓loopK, step, stepBin, res, stepIdx, mix, PV.cells, argSlots, Nat.reduceBEq, Nat.reduceBeqDiff, Nat.add_assoc nid, Nat.reduceAdd, reduceCtorEq, ↓reduceIte, Nat.reduceLeDiff, colPV, freeOf, indep, offO, neqO, disj, namesX, axSlot, opXs, rdXs, idsOf, idsOfs, lowH, lowAll, keys, Nat.reduceBneDiff, Option.toList, ← Int.ofNat_tmod, ← Int.ofNat_tdiv, optInt, fillP, repl, chunk, mkCols, mkCol, colInts, colBools, colStrs, colLits, colsApp, Col.app, tailOf, splice, colsPut, Col.put, mmFold, eqK, Nat.reduceLT, strmC_low, e1, e2, e3, e4, e5, e6, e7, e8, e9]
      refine S2.intro (fun h5 => ?_) (fun h5 => ?_)
      · simp -dsimp only [aqT, ROp, OX, ↓seqK, ↓blkK, ↓loopK, step, stepBin, res, stepIdx, mix, PV.cells, argSlots, Nat.reduceBEq, Nat.reduceBeqDiff, Nat.add_assoc nid, Nat.reduceAdd, reduceCtorEq, ↓reduceIte, Nat.reduceLeDiff, colPV, freeOf, indep, offO, neqO, disj, namesX, axSlot, opXs, rdXs, idsOf, idsOfs, lowH, lowAll, keys, Nat.reduceBneDiff, Option.toList, ← Int.ofNat_tmod, ← Int.ofNat_tdiv, optInt, fillP, repl, chunk, mkCols, mkCol, colInts, colBools, colStrs, colLits, colsApp, Col.app, tailOf, splice, colsPut, Col.put, mmFold, eqK, Nat.reduceLT, strmC_low, e1, e2, e3, e4, e5, e6, e7, e8, e9]
        have hf : wordListV A p secs = (L1 ++ [0], p + 2 * j + 1 + 1 + 1 + 1) := by unfold wordListV; rw [hm, hw]; simp only; rw [h5]; rfl
        rw [hf]
        refine ⟨⟨by omega, by omega⟩, RetOK.go [(nid, nid + 144)] [] (.inl rfl) ?_⟩
        simp [a10, retPV, over, keys, List.map_nil, List.map_cons, List.contains_cons, List.contains_nil, Bool.or_false, Bool.or_true, Bool.true_or, Bool.false_or, beq_self_eq_true, cond_true, cond_false, HeapCov, orNil, nilSz, onBlk, srcOf, getH_hit, getH_miss, getH.eq_1, getS_hit, getS_miss, getS.eq_1, BlkCov, PVCovs, PVCov, ColsEq, ColEq.refl, liveIds, SlotsCov, List.all_nil, List.all_cons, List.any_nil, List.any_cons, List.nil_append, List.cons_append, inRange, apart, nilBlk, idS1, idS2, readAll, readRes, onAll, step, res, AX.val, List.drop_zero, List.drop_succ_cons, List.take_succ_cons, List.take_zero, e1, e2, e3, e4, e5, e6, e7, e8, e9, strmC, arrI]
        exact ⟨⟨hl.symm, col_snoc hl hc 0⟩, hl.symm⟩
      · simp -dsimp only [aqT, ROp, OX, ↓seqK, ↓blkK, ↓loopK, step, stepBin, res, stepIdx, mix, PV.cells, argSlots, Nat.reduceBEq, Nat.reduceBeqDiff, Nat.add_assoc nid, Nat.reduceAdd, reduceCtorEq, ↓reduceIte, Nat.reduceLeDiff, colPV, freeOf, indep, offO, neqO, disj, namesX, axSlot, opXs, rdXs, idsOf, idsOfs, lowH, lowAll, keys, Nat.reduceBneDiff, Option.toList, ← Int.ofNat_tmod, ← Int.ofNat_tdiv, optInt, fillP, repl, chunk, mkCols, mkCol, colInts, colBools, colStrs, colLits, colsApp, Col.app, tailOf, splice, colsPut, Col.put, mmFold, eqK, Nat.reduceLT, strmC_low, e1, e2, e3, e4, e5, e6, e7, e8, e9]
        have hf : wordListV A p secs = (L1, p + 2 * j + 1 + 1 + 1 + 1) := by unfold wordListV; rw [hm, hw]; simp only; rw [h5]; rfl
        rw [hf]
        refine RetOK.go [(nid, nid + 52)] [] (.inl rfl) ?_
        simp [a10, retPV, over, keys, List.map_nil, List.map_cons, List.contains_cons, List.contains_nil, Bool.or_false, Bool.or_true, Bool.true_or, Bool.false_or, beq_self_eq_true, cond_true, cond_false, HeapCov, orNil, nilSz, onBlk, srcOf, getH_hit, getH_miss, getH.eq_1, getS_hit, getS_miss, getS.eq_1, BlkCov, PVCovs, PVCov, ColsEq, ColEq.refl, liveIds, SlotsCov, List.all_nil, List.all_cons, List.any_nil, List.any_cons, List.nil_append, List.cons_append, inRange, apart, nilBlk, idS1, idS2, readAll, readRes, onAll, step, res, AX.val, List.drop_zero, List.drop_succ_cons, List.take_succ_cons, List.take_zero, e1, e2, e3, e4, e5, e6, e7, e8, e9, strmC, arrI]
        exact ⟨⟨hl.symm, ColEq.i hc⟩, hl.symm⟩
    · simp -dsimp only [aqT, ROp, OX, ↓seqK, ↓blkK, ↓loopK, step, stepBin, res, stepIdx, mix, PV.cells, argSlots, Nat.reduceBEq, Nat.reduceBeqDiff, Nat.add_assoc nid, Nat.reduceAdd, reduceCtorEq, ↓reduceIte, Nat.reduceLeDiff, colPV, freeOf, indep, offO, neqO, disj, namesX, axSlot, opXs, rdXs, idsOf, idsOfs, lowH, lowAll, keys, Nat.reduceBneDiff, Option.toList, ← Int.ofNat_tmod, ← Int.ofNat_tdiv, optInt, fillP, repl, chunk, mkCols, mkCol, colInts, colBools, colStrs, colLits, colsApp, Col.app, tailOf, splice, colsPut, Col.put, mmFold, eqK, Nat.reduceLT, strmC_low, e1, e2, e3, e4, e5, e6, e7, e8, e9]
      have hw : words1 A p j = (words0 A p j, p + 2 * j + 1) := by unfold words1; rw [if_neg hj0, h4]; rfl
      have hl := hl0
      have hc := hw0
      refine CallO.on (flip_c s _ nl A (p + 2 * j + 1) _ (by omega) (by omega) hA (by omega)) (subH_get (by simp only [aqT, ROp, OX, ↓seqK, ↓blkK, ↓loopK, step, stepBin, res, stepIdx, mix, PV.cells, argSlots, Nat.reduceBEq, Nat.reduceBeqDiff, Nat.add_assoc nid, Nat.reduceAdd, reduceCtorEq, ↓reduceIte, Nat.reduceLeDiff, colPV, freeOf, indep, offO, neqO, disj, namesX, axSlot, opXs, rdXs, idsOf, idsOfs, lowH, lowAll, keys, Nat.reduceBneDiff, Option.toList, ← Int.ofNat_tmod, ← Int.ofNat_tdiv, optInt, fillP, repl, chunk, mkCols, mkCol, colInts, colBools, colStrs, colLits, colsApp, Col.app, tailOf, splice, colsPut, Col.put, mmFold, eqK, Nat.reduceLT, e1, e2, e3, e4, e5, e6, e7, e8, e9])) ?_
      simp -dsimp only [aqT, ROp, OX, ↓seqK, ↓blkK, ↓loopK, step, stepBin, res, stepIdx, mix, PV.cells, argSlots, Nat.reduceBEq, Nat.reduceBeqDiff, Nat.add_assoc nid, Nat.reduceAdd, reduceCtorEq, ↓reduceIte, Nat.reduceLeDiff, colPV, freeOf, indep, offO, neqO, disj, namesX, axSlot, opXs, rdXs, idsOf, idsOfs, lowH, lowAll, keys, Nat.reduceBneDiff, Option.toList, ← Int.ofNat_tmod, ← Int.ofNat_tdiv, optInt, fillP, repl, chunk, mkCols, mkCol, colInts, colBools, colStrs, colLits, colsApp, Col.app, tailOf, splice, colsPut, Col.put, mmFold, eqK, Nat.reduceLT, strmC_low, e1, e2, e3, e4, e5, e6, e7, e8, e9]
      refine S2.intro (fun h5 => ?_) (fun h5 => ?_)
      · simp -dsimp only [aqT, ROp, OX, ↓seqK, ↓blkK, ↓loopK, step, stepBin, res, stepIdx, mix, PV.cells, argSlots, Nat.reduceBEq, Nat.reduceBeqDiff, Nat.add_assoc nid, Nat.reduceAdd, reduceCtorEq, ↓reduceIte, Nat.reduceLeDiff, colPV, freeOf, indep, offO, neqO, disj, namesX, axSlot, opXs, rdXs, idsOf, idsOfs, lowH, lowAll, keys, Nat.reduceBneDiff, Option.toList, ← Int.ofNat_tmod, ← Int.ofNat_tdiv, optInt, fillP, repl, chunk, mkCols, mkCol, colInts, colBools, colStrs, colLits, colsApp, Col.app, tailOf, splice, colsPut, Col.put, mmFold, eqK, Nat.reduceLT, strmC_low, e1, e2, e3, e4, e5, e6, e7, e8, e9]
        have hf : wordListV A p secs = (words0 A p j ++ [0], p + 2 * j + 1 + 1) := by unfold wordListV; rw [hm, hw]; simp only; rw [h5]; rfl
        rw [hf]
        refine ⟨⟨by omega, by omega⟩, RetOK.go [(nid, nid + 104)] [] (.inl rfl) ?_⟩
        simp [a10, retPV, over, keys, List.map_nil, List.map_cons, List.contains_cons, List.contains_nil, Bool.or_false, Bool.or_true, Bool.true_or, Bool.false_or, beq_self_eq_true, cond_true, cond_false, HeapCov, orNil, nilSz, onBlk, srcOf, getH_hit, getH_miss, getH.eq_1, getS_hit, getS_miss, getS.eq_1, BlkCov, PVCovs, PVCov, ColsEq, ColEq.refl, liveIds, SlotsCov, List.all_nil, List.all_cons, List.any_nil, List.any_cons, List.nil_append, List.cons_append, inRange, apart, nilBlk, idS1, idS2, readAll, readRes, onAll, step, res, AX.val, List.drop_zero, List.drop_succ_cons, List.take_succ_cons, List.take_zero, e1, e2, e3, e4, e5, e6, e7, e8, e9, strmC, arrI]
        exact ⟨⟨hl.symm, col_snoc hl hc 0⟩, hl.symm⟩
      · simp -dsimp only [aqT, ROp, OX, ↓seqK, ↓blkK, ↓loopK, step, stepBin, res, stepIdx, mix, PV.cells, argSlots, Nat.reduceBEq, Nat.reduceBeqDiff, Nat.add_assoc nid, Nat.reduceAdd, reduceCtorEq, ↓reduceIte, Nat.reduceLeDiff, colPV, freeOf, indep, offO, neqO, disj, namesX, axSlot, opXs, rdXs, idsOf, idsOfs, lowH, lowAll, keys, Nat.reduceBneDiff, Option.toList, ← Int.ofNat_tmod, ← Int.ofNat_tdiv, optInt, fillP, repl, chunk, mkCols, mkCol, colInts, colBools, colStrs, colLits, colsApp, Col.app, tailOf, splice, colsPut, Col.put, mmFold, eqK, Nat.reduceLT, strmC_low, e1, e2, e3, e4, e5, e6, e7, e8, e9]
        have hf : wordListV A p secs = (words0 A p j, p + 2 * j + 1 + 1) := by unfold wordListV; rw [hm, hw]; simp only; rw [h5]; rfl
        rw [hf]
        refine RetOK.go [(nid, nid + 52)] [] (.inl rfl) ?_
        simp [a10, retPV, over, keys, List.map_nil, List.map_cons, List.contains_cons, List.contains_nil, Bool.or_false, Bool.or_true, Bool.true_or, Bool.false_or, beq_self_eq_true, cond_true, cond_false, HeapCov, orNil, nilSz, onBlk, srcOf, getH_hit, getH_miss, getH.eq_1, getS_hit, getS_miss, getS.eq_1, BlkCov, PVCovs, PVCov, ColsEq, ColEq.refl, liveIds, SlotsCov, List.all_nil, List.all_cons, List.any_nil, List.any_cons, List.nil_append, List.cons_append, inRange, apart, nilBlk, idS1, idS2, readAll, readRes, onAll, step, res, AX.val, List.drop_zero, List.drop_succ_cons, List.take_succ_cons, List.take_zero, e1, e2, e3, e4, e5, e6, e7, e8, e9, strmC, arrI]
        exact ⟨⟨hl.symm, ColEq.i hc⟩, hl.symm⟩
  · simp -dsimp only [aqT, ROp, OX, ↓seqK, ↓blkK, ↓loopK, step, stepBin, res, stepIdx, mix, PV.cells, argSlots, Nat.reduceBEq, Nat.reduceBeqDiff, Nat.add_assoc nid, Nat.reduceAdd, reduceCtorEq, ↓reduceIte, Nat.reduceLeDiff, colPV, freeOf, indep, offO, neqO, disj, namesX, axSlot, opXs, rdXs, idsOf, idsOfs, lowH, lowAll, keys, Nat.reduceBneDiff, Option.toList, ← Int.ofNat_tmod, ← Int.ofNat_tdiv, optInt, fillP, repl, chunk, mkCols, mkCol, colInts, colBools, colStrs, colLits, colsApp, Col.app, tailOf, splice, colsPut, Col.put, mmFold, eqK, Nat.reduceLT, strmC_low, e1, e2, e3, e4, e5, e6, e7, e8, e9]
    have hjm : j = m := by omega
    subst hjm
    have hw0 : ∀ i, i < j → word1 A (p + 2 * i) = (words0 A p j)[i]?.getD 0 := fun i hi => by rw [words0_get A p hi]; rfl
    have hl0 := words0_len A p j
    have hj0 : j = 0 := by omega
    have hw : words1 A p j = (words0 A p j, p + 2 * j) := by unfold words1; rw [if_pos hj0]
    have hl := hl0
    have hc := hw0
    refine CallO.on (flip_c s _ nl A (p + 2 * j) _ (by omega) (by omega) hA (by omega)) (subH_get (by simp only [aqT, ROp, OX, ↓seqK, ↓blkK, ↓loopK, step, stepBin, res, stepIdx, mix, PV.cells, argSlots, Nat.reduceBEq, Nat.reduceBeqDiff, Nat.add_assoc nid, Nat.reduceAdd, reduceCtorEq, ↓reduceIte, Nat.reduceLeDiff, colPV, freeOf, indep, offO, neqO, disj, namesX, axSlot, opXs, rdXs, idsOf, idsOfs, lowH, lowAll, keys, Nat.reduceBneDiff, Option.toList, ← Int.ofNat_tmod, ← Int.ofNat_tdiv, optInt, fillP, repl, chunk, mkCols, mkCol, colInts, colBools, colStrs, colLits, colsApp, Col.app, tailOf, splice, colsPut, Col.put, mmFold, eqK, Nat.reduceLT, e1, e2, e3, e4, e5, e6, e7, e8, e9])) ?_
    simp -dsimp only [aqT, ROp, OX, ↓seqK, ↓blkK, ↓loopK, step, stepBin, res, stepIdx, mix, PV.cells, argSlots, Nat.reduceBEq, Nat.reduceBeqDiff, Nat.add_assoc nid, Nat.reduceAdd, reduceCtorEq, ↓reduceIte, Nat.reduceLeDiff, colPV, freeOf, indep, offO, neqO, disj, namesX, axSlot, opXs, rdXs, idsOf, idsOfs, lowH, lowAll, keys, Nat.reduceBneDiff, Option.toList, ← Int.ofNat_tmod, ← Int.ofNat_tdiv, optInt, fillP, repl, chunk, mkCols, mkCol, colInts, colBools, colStrs, colLits, colsApp, Col.app, tailOf, splice, colsPut, Col.put, mmFold, eqK, Nat.reduceLT, strmC_low, e1, e2, e3, e4, e5, e6, e7, e8, e9]
    refine S2.intro (fun h5 => ?_) (fun h5 => ?_)
    · simp -dsimp only [aqT, ROp, OX, ↓seqK, ↓blkK, ↓loopK, step, stepBin, res, stepIdx, mix, PV.cells, argSlots, Nat.reduceBEq, Nat.reduceBeqDiff, Nat.add_assoc nid, Nat.reduceAdd, reduceCtorEq, ↓reduceIte, Nat.reduceLeDiff, colPV, freeOf, indep, offO, neqO, disj, namesX, axSlot, opXs, rdXs, idsOf, idsOfs, lowH, lowAll, keys, Nat.reduceBneDiff, Option.toList, ← Int.ofNat_tmod, ← Int.ofNat_tdiv, optInt, fillP, repl, chunk, mkCols, mkCol, colInts, colBools, colStrs, colLits, colsApp, Col.app, tailOf, splice, colsPut, Col.put, mmFold, eqK, Nat.reduceLT, strmC_low, e1, e2, e3, e4, e5, e6, e7, e8, e9]
      have hf : wordListV A p secs = (words0 A p j ++ [0], p + 2 * j + 1) := by unfold wordListV; rw [hm, hw]; simp only; rw [h5]; rfl
      rw [hf]
      refine ⟨⟨by omega, by omega⟩, RetOK.go [(nid, nid + 104)] [] (.inl rfl) ?_⟩
      simp [a10, retPV, over, keys, List.map_nil, List.map_cons, List.contains_cons, List.contains_nil, Bool.or_false, Bool.or_true, Bool.true_or, Bool.false_or, beq_self_eq_true, cond_true, cond_false, HeapCov, orNil, nilSz, onBlk, srcOf, getH_hit, getH_miss, getH.eq_1, getS_hit, getS_miss, getS.eq_1, BlkCov, PVCovs, PVCov, ColsEq, ColEq.refl, liveIds, SlotsCov, List.all_nil, List.all_cons, List.any_nil, List.any_cons, List.nil_append, List.cons_append, inRange, apart, nilBlk, idS1, idS2, readAll, readRes, onAll, step, res, AX.val, List.drop_zero, List.drop_succ_cons, List.take_succ_cons, List.take_zero, e1, e2, e3, e4, e5, e6, e7, e8, e9, strmC, arrI]
      exact ⟨⟨hl.symm, col_snoc hl hc 0⟩, hl.symm⟩
    · simp -dsimp only [aqT, ROp, OX, ↓seqK, ↓blkK, ↓loopK, step, stepBin, res, stepIdx, mix, PV.cells, argSlots, Nat.reduceBEq, Nat.reduceBeqDiff, Nat.add_assoc nid, Nat.reduceAdd, reduceCtorEq, ↓reduceIte, Nat.reduceLeDiff, colPV, freeOf, indep, offO, neqO, disj, namesX, axSlot, opXs, rdXs, idsOf, idsOfs, lowH, lowAll, keys, Nat.reduceBneDiff, Option.toList, ← Int.ofNat_tmod, ← Int.ofNat_tdiv, optInt, fillP, repl, chunk, mkCols, mkCol, colInts, colBools, colStrs, colLits, colsApp, Col.app, tailOf, splice, colsPut, Col.put, mmFold, eqK, Nat.reduceLT, strmC_low, e1, e2, e3, e4, e5, e6, e7, e8, e9]
      have hf : wordListV A p secs = (words0 A p j, p + 2 * j + 1) := by unfold wordListV; rw [hm, hw]; simp only; rw [h5]; rfl
      rw [hf]
      refine RetOK.go [(nid, nid + 52)] [] (.inl rfl) ?_
      simp [a10, retPV, over, keys, List.map_nil, List.map_cons, List.contains_cons, List.contains_nil, Bool.or_false, Bool.or_true, Bool.true_or, Bool.false_or, beq_self_eq_true, cond_true, cond_false, HeapCov, orNil, nilSz, onBlk, srcOf, getH_hit, getH_miss, getH.eq_1, getS_hit, getS_miss, getS.eq_1, BlkCov, PVCovs, PVCov, ColsEq, ColEq.refl, liveIds, SlotsCov, List.all_nil, List.all_cons, List.any_nil, List.any_cons, List.nil_append, List.cons_append, inRange, apart, nilBlk, idS1, idS2, readAll, readRes, onAll, step, res, AX.val, List.drop_zero, List.drop_succ_cons, List.take_succ_cons, List.take_zero, e1, e2, e3, e4, e5, e6, e7, e8, e9, strmC, arrI]
      exact ⟨⟨hl.symm, ColEq.i hc⟩, hl.symm⟩
end Go.Proofs.Ytmnhlfkphibhfaa
