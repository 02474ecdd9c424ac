/-
  What the stream's methods compute: the next number, one of a range, a yes once in n times, one of some numbers.
-/
import Derived.Test.YtmnhlfkphibhfaaChecked
import Derived.Test.YtmnhlfkphibhfaaGen
import Derived.Deep.QuietTactic
import Derived.BigQuiet
import Derived.Outline
import Derived.Deep.LoopGhost
namespace Go.Proofs.Ytmnhlfkphibhfaa
open Go.RowKit
set_option linter.unusedVariables false

theorem below_any (x n : Int) (w : World) (hx : -9223372036854775808 ≤ x) (hx2 : x ≤ 9223372036854775807) (hn : n ≤ 9223372036854775807) : Calls Try.prog 69 #[.int .i64 x, .int .i64 n] w fun e w' => e = .returned (.int .i64 (below x n)) ∧ w = w' := by
  by_cases h1 : n < 1
  · go_enter Try.func69, Try.ntmps69
    go_wp2
    go_ret
    exact ⟨ret_i64 (by unfold below; rw [if_pos h1]), rfl⟩
  · have h2 : 1 ≤ n := by omega
    have h3 : x.tmod n = x % n ∨ x.tmod n = x % n - n := by
      rw [Int.tmod_eq_emod]; split <;> first | (left; omega) | (right; omega)
    have h4 := Int.emod_nonneg x (b := n) (by omega)
    have h5 := Int.emod_lt_of_pos x (b := n) (by omega)
    by_cases h0 : x.tmod n < 0
    · have e : x.tmod n + n = x % n := by omega
      have E := Lib.hid e
      clear e h3
      go_enter Try.func69, Try.ntmps69
      go_wp2
      go_ret
      exact ⟨ret_i64 (by unfold below; rw [if_neg (by omega), E.out]; exact IntWalk.wrap64_in _ (by omega)), rfl⟩
    · have e : x.tmod n = x % n := by omega
      have E := Lib.hid e
      clear e h3
      go_enter Try.func69, Try.ntmps69
      go_wp2
      go_ret
      exact ⟨ret_i64 (by unfold below; rw [if_neg (by omega), E.out]), rfl⟩

/-- A stream in block s: its numbers L (each an int), and how many have been drawn. -/
structure Strm (w : World) (s : Nat) (A : Option Addr) (cap : Nat) (L : List Int) (p : Nat) : Prop where
  blk : Blk w s 25 #[.slice A L.length cap, .int .i64 p]
  row : RowV w A (ints L)
  off : Off A s
  wf : Within (-9223372036854775808) 9223372036854775807 L
  len : L.length ≤ 17592186044415
theorem Strm.kept {w w' : World} {s : Nat} {A : Option Addr} {cap : Nat} {L : List Int} {p : Nat} (h : Strm w s A cap L p) (hb : Below w.heap.size w w') : Strm w' s A cap L p :=
  ⟨h.blk.belowS hb, h.row.belowS hb, h.off, h.wf, h.len⟩
theorem Strm.kept' {w w' : World} {s : Nat} {A : Option Addr} {cap : Nat} {L : List Int} {p : Nat} (h : Strm w s A cap L p) {row : Option Nat} (hg : w.grownBy w' row) (h1 : some s ≠ row) (h2 : ∀ r, row = some r → Off A r) : Strm w' s A cap L p :=
  ⟨h.blk.grown hg h1, h.row.grown hg h2, h.off, h.wf, h.len⟩
theorem Strm.alloc {w : World} {s : Nat} {A : Option Addr} {cap : Nat} {L : List Int} {p : Nat} (h : Strm w s A cap L p) (o : Obj) : Strm (w.alloc o) s A cap L p :=
  ⟨h.blk.alloc o, h.row.alloc o, h.off, h.wf, h.len⟩
theorem Strm.drew {w : World} {s : Nat} {A : Option Addr} {cap : Nat} {L : List Int} {p : Nat} (h : Strm w s A cap L p) : Strm w.drew s A cap L p := ⟨h.blk, h.row, h.off, h.wf, h.len⟩
theorem Strm.drewN {w : World} {s : Nat} {A : Option Addr} {cap : Nat} {L : List Int} {p : Nat} (h : Strm w s A cap L p) (n : Nat) : Strm (w.drewN n) s A cap L p := ⟨h.blk, h.row, h.off, h.wf, h.len⟩
theorem Strm.re {w w' : World} {s : Nat} {A : Option Addr} {cap : Nat} {L : List Int} {p q : Nat} (h : Strm w s A cap L p) (hb : Blk w' s 25 #[.slice A L.length cap, .int .i64 q]) (hg : w.grownBy w' (some s)) : Strm w' s A cap L q :=
  ⟨hb, h.row.grown hg (by intro r e; injection e with e; subst e; exact h.off), h.off, h.wf, h.len⟩
theorem Strm.step {w : World} {s : Nat} {A : Option Addr} {cap : Nat} {L : List Int} {p : Nat} (h : Strm w s A cap L p) :
    Strm (w.setCell ⟨s, 1, none⟩ (.int .i64 ((p : Int) + 1))) s A cap L (p + 1) :=
  ⟨(by have := h.blk.set 1 (.int .i64 ((p : Int) + 1)); simpa using this), h.row.grown (grown_set (grown_refl w (some s)) (.inl rfl) _) (by intro r e; injection e with e; subst e; exact h.off), h.off, h.wf, h.len⟩

set_option maxHeartbeats 400000 in
theorem next_any (s : Nat) (A : Option Addr) (cap : Nat) (L : List Int) (p : Nat) (n : Int) (w : World) (h : Strm w s A cap L p) (hp : p ≤ 1099511627776) (hn : n ≤ 1099511627776) :
    Calls Try.prog 26 #[.pointer (some ⟨s, 0, none⟩), .int .i64 n] w fun e w' => e = .returned (.int .i64 (nextV L p n)) ∧ Strm w' s A cap L (p + 1) ∧ w.grownBy w' (some s) := by
  have h0 := h.blk.cell 0 rfl
  have h1 := h.blk.cell 1 rfl
  have f1 := h.blk.frozen 1
  have hs := h.step
  by_cases hz : L.length = 0
  · have hz' : ((L.length : Int) == 0) = true := beq_iff_eq.2 (by omega)
    go_enter Try.func26, Try.ntmps26
    go_wp2_with (go_at_call 69; refine (below_any _ _ _ (by omega) (by omega) (by omega)).mono ?_; rintro e w' ⟨rfl, rfl⟩)
    go_ret
    exact ⟨ret_i64 (by unfold nextV; rw [if_pos hz]), hs, grown_set (grown_refl w (some s)) (.inl rfl) _⟩
  · have hz' : ((L.length : Int) == 0) = false := beq_eq_false_iff_ne.2 (by omega)
    have hm : p % L.length < L.length := Nat.mod_lt _ (by omega)
    obtain ⟨x, hx⟩ := get_some L hm
    obtain ⟨b, o, rfl, hc⟩ := hs.row.int hx
    have hlen := h.len
    have hq := round_bd p L.length (by omega) hp
    have hpos : (1 : Int) ≤ (L.length : Int) := by omega
    have hd0 : 0 ≤ (p : Int) / (L.length : Int) := Int.ediv_nonneg (by omega) (by omega)
    have hd1 : (p : Int) / (L.length : Int) ≤ p := Int.ediv_le_self _ (by omega)
    have hs' := hs.drewN
    have hb1 := below_bd x (n := 1073741824) (by decide)
    have hwx := h.wf.get hx
    have HX := Lib.hid hx; clear hx
    go_enter Try.func26, Try.ntmps26
    go_wp2_with fail
    go_quiet (fail)
    go_wp2_with fail
    go_quiet (fail)
    go_wp2_with fail
    refine (below_any _ _ _ (by omega) (by omega) (by omega)).mono ?_
    rintro e w1 ⟨rfl, rfl⟩
    go_wp2_with fail
    refine (below_any _ _ _ (by omega) (by omega) (by omega)).mono ?_
    rintro e w2 ⟨rfl, rfl⟩
    go_wp2_with fail
    go_ret
    exact ⟨ret_i64 (by unfold nextV; rw [if_neg hz, List.getD_eq_getElem?_getD, HX.out]; rfl), hs' _, grown_drewN (grown_set (p := ⟨s, 1, none⟩) (grown_refl w (some s)) (.inl rfl) _) _⟩

theorem range_any (s : Nat) (A : Option Addr) (cap : Nat) (L : List Int) (p : Nat) (lo hi : Int) (w : World) (h : Strm w s A cap L p) (hp : p ≤ 1099511627776) (h1 : -1099511627776 ≤ lo) (h2 : hi ≤ 549755813888) (h3 : lo ≤ hi) (h4 : hi - lo + 1 ≤ 1099511627776) :
    Calls Try.prog 30 #[.pointer (some ⟨s, 0, none⟩), .int .i64 lo, .int .i64 hi] w fun e w' => e = .returned (.int .i64 (rangeV L p lo hi)) ∧ Strm w' s A cap L (p + 1) ∧ w.grownBy w' (some s) := by
  have hb := nextV_bd L p (n := hi - lo + 1) (by omega)
  go_enter Try.func30, Try.ntmps30
  go_wp2_with (go_at_call 26; refine (next_any _ _ _ _ _ _ _ h hp (by omega)).mono ?_; rintro e w1 ⟨rfl, hS, hg⟩)
  go_ret
  exact ⟨ret_i64 rfl, hS, hg⟩
theorem flip_any (s : Nat) (A : Option Addr) (cap : Nat) (L : List Int) (p : Nat) (n : Int) (w : World) (h : Strm w s A cap L p) (hp : p ≤ 1099511627776) (hn : n ≤ 1099511627776) :
    Calls Try.prog 31 #[.pointer (some ⟨s, 0, none⟩), .int .i64 n] w fun e w' => e = .returned (.bool (flipV L p n)) ∧ Strm w' s A cap L (p + 1) ∧ w.grownBy w' (some s) := by
  go_enter Try.func31, Try.ntmps31
  go_wp2_with (go_at_call 26; refine (next_any _ _ _ _ _ _ _ h hp hn).mono ?_; rintro e w1 ⟨rfl, hS, hg⟩)
  go_ret
  exact ⟨ret_bool rfl, hS, hg⟩
theorem pick_any (s : Nat) (A : Option Addr) (cap : Nat) (L : List Int) (p : Nat) (l : List Int) (B : Option Addr) (c : Nat) (w : World) (h : Strm w s A cap L p) (hp : p ≤ 1099511627776)
    (hl : RowV w B (ints l)) (hB : Off B s) (hl0 : 0 < l.length) (hl1 : l.length ≤ 1000) :
    Calls Try.prog 12 #[.pointer (some ⟨s, 0, none⟩), .slice B l.length c] w fun e w' => e = .returned (.int .i64 (pickV L p l)) ∧ Strm w' s A cap L (p + 1) ∧ w.grownBy w' (some s) := by
  have hb := nextV_bd L p (n := (l.length : Int)) (by omega)
  have hi := pickI_lt L p hl0
  obtain ⟨x, hx⟩ := get_some l hi
  obtain ⟨b, o, rfl, _⟩ := hl.int hx
  obtain ⟨i, hie⟩ : ∃ i, pickI L p l.length = i := ⟨_, rfl⟩
  have hn : nextV L p (l.length : Int) = (i : Int) := by unfold pickI at hie; omega
  rw [hie] at hx hi
  have HX := Lib.hid hx; clear hx
  have HIE := Lib.hid hie; clear hie
  have HN := Lib.hid hn; clear hn
  go_enter Try.func12, Try.ntmps12
  go_wp2_with fail
  refine (next_any _ _ _ _ _ _ _ h hp (by omega)).mono ?_
  rintro e w1 ⟨rfl, hS, hg⟩
  rw [HN.out]
  obtain ⟨b', o', he, hc⟩ := (hl.grown hg (by intro r e; injection e with e; subst e; exact hB)).int HX.out
  injection he with he
  injection he with he1 he2
  subst he1; subst he2
  go_wp2
  go_ret
  exact ⟨ret_i64 (by unfold pickV; rw [HIE.out, List.getD_eq_getElem?_getD, HX.out]; rfl), hS, hg⟩
theorem odd_any (s : Nat) (A : Option Addr) (cap : Nat) (L : List Int) (p : Nat) (lo hi : Int) (w : World) (h : Strm w s A cap L p) (hp : p ≤ 1099511627000) (h1 : -1099511627 ≤ lo) (h2 : hi ≤ 549755813) (h3 : lo ≤ hi) :
    Calls Try.prog 59 #[.pointer (some ⟨s, 0, none⟩), .int .i64 lo, .int .i64 hi] w fun e w' => e = .returned (.int .i64 (oddV L p lo hi).1) ∧ Strm w' s A cap L (p + 2) ∧ w.grownBy w' (some s) := by
  cases hf : flipV L p 12
  · have HF := Lib.hid hf; clear hf
    go_enter Try.func59, Try.ntmps59
    go_wp2_with fail
    refine (flip_any _ _ _ _ _ _ _ h (by omega) (by omega)).mono ?_
    rintro e w1 ⟨rfl, hS, hg⟩
    rw [HF.out]
    go_wp2_with fail
    refine (range_any _ _ _ _ _ _ _ _ hS (by omega) (by omega) (by omega) (by omega) (by omega)).mono ?_
    rintro e w2 ⟨rfl, hS2, hg2⟩
    go_wp2_with fail
    go_ret
    exact ⟨ret_i64 (by unfold oddV; rw [HF.out]; rfl), hS2, grown_trans hg hg2⟩
  · have HF := Lib.hid hf; clear hf
    go_enter Try.func59, Try.ntmps59
    go_wp2_with fail
    refine (flip_any _ _ _ _ _ _ _ h (by omega) (by omega)).mono ?_
    rintro e w1 ⟨rfl, hS, hg⟩
    rw [HF.out]
    go_wp2_with fail
    refine (pick_any s A cap L (p + 1) [lo - 1, hi + 1, lo, hi, -1099511627776, 1099511627776] _ _ _ (hS.alloc _) (by omega) (RowV.new w1 _ _) (Off.new hS.blk.lt) (by simp) (by simp)).mono ?_
    rintro e w2 ⟨rfl, hS2, hg2⟩
    go_wp2_with fail
    go_ret
    exact ⟨ret_i64 (by unfold oddV; rw [HF.out]; rfl), hS2, grown_trans (grown_alloc hg _) hg2⟩
end Go.Proofs.Ytmnhlfkphibhfaa
