/-
  Bits of ints that are not negative: 'and not' against the words of a plan.
-/
import Derived.Test.YtmnhlfkphibhfaaFPlan
import Derived.Laws.BitsAllLaws
import Derived.Laws.BitsLemmas
namespace Go.Proofs.Ytmnhlfkphibhfaa
theorem bv_andNot (A B : BitVec 64) : A &&& ~~~B = 0#64 ↔ B &&& A = A := by
  constructor
  · intro h
    ext i hi
    have := congrArg (fun x => x.getLsbD i) h
    simp [hi] at this ⊢
    intro ha
    cases hb : B[i] <;> simp_all
  · intro h
    ext i hi
    have := congrArg (fun x => x.getLsbD i) h
    simp [hi] at this ⊢
    intro ha
    exact this ha
theorem ofInt_nat64' (a : Nat) (ha : a < 9223372036854775808) : (BitVec.ofInt 64 (a : Int)).toNat = a := by
  rw [BitVec.ofInt_natCast, BitVec.toNat_ofNat]; exact Nat.mod_eq_of_lt (by omega)
theorem andNot_lack {n w : Int} (hn0 : 0 ≤ n) (hn : n ≤ 65535) (hw0 : 0 ≤ w) (hw : w ≤ 65535) : (bits .andNot .i64 w n != 0) = lackI n w := by
  obtain ⟨N, rfl⟩ := Int.eq_ofNat_of_zero_le hn0
  obtain ⟨W, rfl⟩ := Int.eq_ofNat_of_zero_le hw0
  have e : bits .andNot .i64 (W : Int) (N : Int) = IntKind.i64.wrap ((BitVec.ofInt 64 (W : Int) &&& ~~~BitVec.ofInt 64 (N : Int)).toNat : Int) := rfl
  have hb := bv_andNot (BitVec.ofInt 64 (W : Int)) (BitVec.ofInt 64 (N : Int))
  have hle : (BitVec.ofInt 64 (W : Int) &&& ~~~BitVec.ofInt 64 (N : Int)).toNat ≤ W := by
    rw [BitVec.toNat_and, ofInt_nat64' W (by omega)]; exact Nat.and_le_left
  rw [e, IntKind.wrap_i64]
  have h2 : (BitVec.ofInt 64 (N : Int) &&& BitVec.ofInt 64 (W : Int) = BitVec.ofInt 64 (W : Int)) ↔ N &&& W = W := by
    rw [← BitVec.toNat_inj, BitVec.toNat_and, ofInt_nat64' W (by omega), ofInt_nat64' N (by omega)]
  rw [h2] at hb
  have h3 : (BitVec.ofInt 64 (W : Int) &&& ~~~BitVec.ofInt 64 (N : Int) = 0#64) ↔ (BitVec.ofInt 64 (W : Int) &&& ~~~BitVec.ofInt 64 (N : Int)).toNat = 0 := by
    rw [← BitVec.toNat_inj]; simp
  rw [h3] at hb
  generalize (BitVec.ofInt 64 (W : Int) &&& ~~~BitVec.ofInt 64 (N : Int)).toNat = r at *
  unfold lackI andI
  simp only [Int.toNat_natCast]
  rw [Bool.eq_iff_iff]
  simp only [bne_iff_ne, ne_eq, Bool.not_eq_true', beq_eq_false_iff_ne]
  constructor
  · intro h h4
    have h5 : N &&& W = W := by exact_mod_cast h4
    have := hb.2 h5
    omega
  · intro h h4
    apply h
    have h5 : r = 0 := by omega
    rw [hb.1 h5]
end Go.Proofs.Ytmnhlfkphibhfaa
