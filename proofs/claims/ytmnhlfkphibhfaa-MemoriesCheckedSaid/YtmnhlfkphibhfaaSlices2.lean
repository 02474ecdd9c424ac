/-
  What the library's Equal of slices of operations computes.
-/
import Derived.Test.YtmnhlfkphibhfaaSlices
import Derived.Test.YtmnhlfkphibhfaaFOps
namespace Go.Proofs.Ytmnhlfkphibhfaa
open Go.RowKit
set_option linter.unusedVariables false
set_option linter.unusedSimpArgs false

def sameOp (x y : FOp) : Bool := x.k == y.k && x.a == y.a && x.v == y.v
theorem sameOp_eq {x y : FOp} : sameOp x y = true ↔ x = y := by
  cases x; cases y; simp [sameOp, and_assoc]

set_option maxHeartbeats 400000 in
theorem equalOps_any (A : Option Addr) (c : Nat) (l : List FOp) (B : Option Addr) (d : Nat) (m : List FOp) (w : World) (hr : RowV w A (ops l)) (hs : RowV w B (ops m)) (hl : l.length ≤ 100000) (hm : m.length ≤ 100000) :
    Calls Try.prog 34 #[.slice A l.length c, .slice B m.length d] w fun e w' => ∃ b, e = .returned (.bool b) ∧ (b = true ↔ l = m) ∧ Below w.heap.size w w' := by
  by_cases hlen : l.length = m.length
  · have hlen' : ((l.length : Int) != (m.length : Int)) = false := by rw [bne_eq_false_iff_eq]; omega
    have HL := Lib.hid hlen
    go_enter Try.func34, Try.ntmps34
    have hlm : m.length ≤ l.length := by omega
    have hml : l.length ≤ m.length := by omega
    clear hlen
    go_wp2_with fail
    go_loopg [5, 13] l.length (fun gm _ i wr => ∃ k, k + gm = l.length ∧ i = .int .i64 (k : Nat) ∧ Hid (l.take k = m.take k) ∧ Below w.heap.size w wr)
    case atStart => exact ⟨0, by omega, rfl, rfl, Below.refl _ _⟩
    case round =>
      obtain ⟨k, hkm, rfl, HT, hb⟩ := hrel
      by_cases hlt : k < l.length
      · obtain ⟨x, hx⟩ := get_some l hlt
        obtain ⟨y, hy⟩ := get_some m (k := k) (by omega)
        obtain ⟨b, o, rfl, hc1, hc2, hc3⟩ := (hr.belowS hb).op hx
        obtain ⟨b', o', rfl, hd1, hd2, hd3⟩ := (hs.belowS hb).op hy
        have H := Lib.hid (And.intro hx hy); clear hx hy
        have hk1 : (k : Int) < (l.length : Int) := by omega
        have hk2 : (k : Int) < (m.length : Int) := by omega
        have hk0 : (0 : Int) ≤ (k : Int) := by omega
        rcases x with ⟨xk, xa, xv⟩
        rcases y with ⟨yk, ya, yv⟩
        simp only at hc1 hc2 hc3 hd1 hd2 hd3
        by_cases hxy : sameOp ⟨xk, xa, xv⟩ ⟨yk, ya, yv⟩ = true
        · have he := sameOp_eq.1 hxy
          injection he with e1 e2 e3
          subst e1; subst e2; subst e3
          clear hxy
          go_wp2_with fail
          go_quiet (fail)
          go_wp2_with fail
          go_roundg (gk - 1)
          case measure => omega
          case rel => exact ⟨k + 1, by omega, by go_num, (by show _ = _; rw [take_snoc H.out.1, take_snoc H.out.2, HT.out]), hb.trans ⟨rfl, rfl, rfl, Nat.le_refl _, fun _ _ => rfl⟩⟩
        · have hne : ((⟨xk, xa, xv⟩ : FOp) ≠ ⟨yk, ya, yv⟩) := fun h => hxy (sameOp_eq.2 h)
          have HXY := Lib.hid hne; clear hne
          have hfin : ¬ l = m := by
            intro e
            have h1 := H.out.1
            rw [e, H.out.2] at h1
            injection h1 with h1
            exact HXY.out h1.symm
          have HFIN := Lib.hid hfin; clear hfin
          simp only [sameOp, Bool.not_eq_true, Bool.and_eq_false_iff] at hxy
          by_cases e1 : xk = yk
          · subst e1
            by_cases e2 : xa = ya
            · subst e2
              have e3 : (xv == yv) = false := by simpa using hxy
              have e3' : ¬ xv = yv := by simpa using e3
              clear hxy
              go_wp2_with fail
              go_quiet (fail)
              go_wp2_with fail
              go_ret
              exact ⟨false, rfl, ⟨fun h => Bool.noConfusion h, fun e => absurd e HFIN.out⟩, hb.trans ⟨rfl, rfl, rfl, Nat.le_refl _, fun _ _ => rfl⟩⟩
            · have e3 : (xa == ya) = false := by simpa using e2
              clear hxy
              go_wp2_with fail
              go_quiet (fail)
              go_wp2_with fail
              go_ret
              exact ⟨false, rfl, ⟨fun h => Bool.noConfusion h, fun e => absurd e HFIN.out⟩, hb.trans ⟨rfl, rfl, rfl, Nat.le_refl _, fun _ _ => rfl⟩⟩
          · have e3 : (xk == yk) = false := by simpa using e1
            clear hxy
            go_wp2_with fail
            go_quiet (fail)
            go_wp2_with fail
            go_ret
            exact ⟨false, rfl, ⟨fun h => Bool.noConfusion h, fun e => absurd e HFIN.out⟩, hb.trans ⟨rfl, rfl, rfl, Nat.le_refl _, fun _ _ => rfl⟩⟩
      · go_wp2_with fail
        go_ret
        refine ⟨true, rfl, ⟨fun _ => ?_, fun _ => rfl⟩, hb⟩
        have := HT.out
        have h5 := HL.out
        rwa [List.take_of_length_le (by omega), List.take_of_length_le (by omega)] at this
  · have hlen' : ((l.length : Int) != (m.length : Int)) = true := by rw [bne_iff_ne]; omega
    go_enter Try.func34, Try.ntmps34
    go_wp2_with fail
    go_ret
    exact ⟨false, rfl, ⟨fun h => Bool.noConfusion h, fun e => absurd (congrArg List.length e) hlen⟩, Below.refl _ _⟩
end Go.Proofs.Ytmnhlfkphibhfaa
