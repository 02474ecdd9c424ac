/-
  What flashed (scanlaw1) computes: true, always.
-/
import Derived.Test.YtmnhlfkphibhfaaSlices2
import Derived.Test.YtmnhlfkphibhfaaPlan
namespace Go.Proofs.Ytmnhlfkphibhfaa
open Go.RowKit
set_option linter.unusedVariables false
set_option linter.unusedSimpArgs false

theorem planR_one : planR [1] [65535] [1] = [⟨2, 0, 1⟩] := by
  rfl
theorem planFault_one : planFault [1] [65535] [1] = 0 := by
  rfl

set_option maxHeartbeats 400000 in
theorem flashed_any (w : World) :
    Calls Try.prog 22 #[] w fun e w' => e = .returned (.bool true) ∧ Below w.heap.size w w' := by
  go_enter Try.func22, Try.ntmps22
  go_wp2_with fail
  refine (plan_any (some ⟨w.heap.size, 0, none⟩) 1 [1] (some ⟨w.heap.size + 1, 0, none⟩) 1 [65535] (some ⟨w.heap.size + 2, 0, none⟩) 1 [1] _ ?_ (by simp) (by omega) ?_ (by simp) ?_ (by simp)).mono ?_
  · exact ((RowV.new w 3 #[.int .i64 1]).alloc _).alloc _
  · have := (RowV.new (w.alloc (.cells #[.int .i64 1] 3)) 3 #[.int .i64 65535]).alloc (.cells #[.int .i64 1] 3)
    simpa [ints] using this
  · have := (RowV.new ((w.alloc (.cells #[.int .i64 1] 3)).alloc (.cells #[.int .i64 65535] 3)) 3 #[.int .i64 1])
    simpa [ints] using this
  rintro e w1 ⟨D, n, rfl, hO, hb⟩
  rw [planR_one] at hO
  rw [planR_one, planFault_one]
  have hb1 : Below w.heap.size w w1 := ((((Below.refl _ _).alloc (Nat.le_refl _) _).alloc (by simp) _).alloc (by simp; omega) _).trans (hb.mono (by simp; omega))
  have hrow := hO.row
  clear hO hb
  go_wp2_with fail
  refine (equalOps_any D n [⟨2, 0, 1⟩] (some ⟨w1.heap.size, 0, none⟩) 1 [⟨2, 0, 1⟩] _ (hrow.alloc _) (RowV.new w1 63 #[.int .i64 2, .int .i64 0, .int .i64 1]) (by simp) (by simp)).mono ?_
  rintro e w2 ⟨b, rfl, hbe, hb2⟩
  obtain rfl : b = true := hbe.2 rfl
  go_wp2_with fail
  go_ret
  exact ⟨rfl, (hb1.alloc hb1.size _).trans (hb2.mono (by have := hb1.size; simp; omega))⟩
end Go.Proofs.Ytmnhlfkphibhfaa
