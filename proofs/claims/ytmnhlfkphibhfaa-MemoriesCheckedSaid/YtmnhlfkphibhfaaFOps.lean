/-
  Operations of a flash memory as data, and those that a stream makes, as plain functions. No program stands in this text.
-/
import Derived.Test.YtmnhlfkphibhfaaFGen
namespace Go.Proofs.Ytmnhlfkphibhfaa

structure FOp where
  k : Int
  a : Int
  v : Int
def FOp.cells (x : FOp) : List Value := [.int .i64 x.k, .int .i64 x.a, .int .i64 x.v]
def ops (l : List FOp) : List Value := l.flatMap FOp.cells
theorem ops_snoc (l : List FOp) (x : FOp) : ops (l ++ [x]) = ops l ++ x.cells := by simp [ops]
theorem ops_append (l m : List FOp) : ops (l ++ m) = ops l ++ ops m := by simp [ops]
theorem ops_len (l : List FOp) : (ops l).length = l.length * 3 := by
  induction l with
  | nil => rfl
  | cons x l ih => simp only [ops, List.flatMap_cons, List.length_append, List.length_cons] at ih ⊢; rw [ih]; simp [FOp.cells]; omega
theorem ops_get (l : List FOp) {i : Nat} {x : FOp} (h : l[i]? = some x) : (ops l)[i * 3]? = some (.int .i64 x.k) ∧ (ops l)[i * 3 + 1]? = some (.int .i64 x.a) ∧ (ops l)[i * 3 + 2]? = some (.int .i64 x.v) := by
  induction l generalizing i with
  | nil => simp at h
  | cons y l ih =>
    cases i with
    | zero =>
      simp at h; subst h
      simp [ops, FOp.cells]
    | succ i =>
      have := ih (i := i) (by simpa using h)
      have e : ops (y :: l) = .int .i64 y.k :: .int .i64 y.a :: .int .i64 y.v :: ops l := rfl
      rw [e, show (i + 1) * 3 = i * 3 + 1 + 1 + 1 from by omega]
      simpa using this
theorem ops_set (l : List FOp) (i : Nat) (x : FOp) : (((ops l).set (i * 3) (.int .i64 x.k)).set (i * 3 + 1) (.int .i64 x.a)).set (i * 3 + 2) (.int .i64 x.v) = ops (l.set i x) := by
  induction l generalizing i with
  | nil => simp [ops]
  | cons y l ih =>
    have e : ∀ (y : FOp) (l : List FOp), ops (y :: l) = .int .i64 y.k :: .int .i64 y.a :: .int .i64 y.v :: ops l := fun _ _ => rfl
    cases i with
    | zero => simp [e, List.set_cons_zero]
    | succ i =>
      rw [e, show (i + 1) * 3 = i * 3 + 1 + 1 + 1 from by omega]
      simp only [List.set_cons_succ, e]
      rw [ih i]
theorem RowV.op {w : World} {A : Option Addr} {l : List FOp} (h : RowV w A (ops l)) {k : Nat} {x : FOp} (hk : l[k]? = some x) :
    ∃ b o, A = some ⟨b, o, none⟩ ∧ w.cell? ⟨b, o + k * 3, none⟩ = some (.int .i64 x.k) ∧ w.cell? ⟨b, o + k * 3 + 1, none⟩ = some (.int .i64 x.a) ∧ w.cell? ⟨b, o + k * 3 + 2, none⟩ = some (.int .i64 x.v) := by
  obtain ⟨c0, c1, c2⟩ := ops_get l hk
  obtain ⟨b, o, rfl, h0⟩ := h _ _ c0
  obtain ⟨b1, o1, e1, h1⟩ := h _ _ c1
  obtain ⟨b2, o2, e2, h2⟩ := h _ _ c2
  injection e1 with e1; injection e1 with e1 e1'
  injection e2 with e2; injection e2 with e2 e2'
  subst e1; subst e1'; subst e2; subst e2'
  exact ⟨b, o, rfl, h0, h1, h2⟩
theorem oneCell_ops (l : List FOp) : ∀ u ∈ ops l, u.oneCell' = true := by
  intro u hu
  obtain ⟨x, _, hx⟩ := List.mem_flatMap.1 hu
  simp [FOp.cells] at hx
  rcases hx with rfl | rfl | rfl <;> rfl

/-- what is wrong with an operation of a memory of n sectors and sz words -/
def opFault (n : Nat) (sz : Int) (x : FOp) : Int :=
  if x.k = 1 then (if outB x.a 0 ((n : Int) - 1) = true then 1 else if x.v = 0 then 0 else 3)
  else if x.k = 2 then (if outB x.a 0 (sz - 1) = true then 1 else if outB x.v 0 65535 = true then 1 else 0) else 4
def opsFault (secs : List Int) (l : List FOp) : Int := if 50000 < l.length then 2 else firstBad (opFault secs.length (sumI secs)) l
def checkOps (secs : List Int) (l : List FOp) : Int := if flashFault secs = 0 then opsFault secs l else flashFault secs
/-- the operation made at draw q, and the draws behind it; n: how many sectors -/
def opAt (L : List Int) (q : Nat) (n : Nat) : FOp × Nat :=
  if flipV L q 3 then (⟨1, nextV L (q + 1) (max 1 (n : Int)), 0⟩, q + 2) else (⟨2, nextV L (q + 1) 4, pickV L (q + 2) [0, 1, 65535, 65534, 240]⟩, q + 3)
def opsTo (L : List Int) (p n : Nat) : Nat → List FOp × Nat
  | 0 => ([], p)
  | k + 1 => ((opsTo L p n k).1 ++ [(opAt L (opsTo L p n k).2 n).1], (opAt L (opsTo L p n k).2 n).2)
theorem opsTo_len (L : List Int) (p n k : Nat) : (opsTo L p n k).1.length = k := by
  induction k with
  | zero => rfl
  | succ k ih => simp [opsTo, ih]
theorem opAt_le (L : List Int) (q n : Nat) : (opAt L q n).2 ≤ q + 3 := by unfold opAt; split <;> simp only <;> omega
theorem opsTo_le (L : List Int) (p n k : Nat) : (opsTo L p n k).2 ≤ p + 3 * k := by
  induction k with
  | zero => simp [opsTo]
  | succ k ih => have := opAt_le L (opsTo L p n k).2 n; simp only [opsTo]; omega
def opMany (L : List Int) (p : Nat) : Nat := (rangeV L p 0 8).toNat
def spoilOp (L : List Int) (q : Nat) (x : FOp) : FOp := ⟨(oddV L q 1 2).1, pickV L (q + 2) [x.a, -1, 99], pickV L (q + 3) [x.v, -1, 65536]⟩
def opListV (L : List Int) (p n : Nat) : List FOp × Nat :=
  if opMany L p = 0 then (opsTo L (p + 1) n (opMany L p)) else
  if flipV L (opsTo L (p + 1) n (opMany L p)).2 15 then
    ((opsTo L (p + 1) n (opMany L p)).1.set (pickI L ((opsTo L (p + 1) n (opMany L p)).2 + 1) (opMany L p))
        (spoilOp L ((opsTo L (p + 1) n (opMany L p)).2 + 2) ((opsTo L (p + 1) n (opMany L p)).1.getD (pickI L ((opsTo L (p + 1) n (opMany L p)).2 + 1) (opMany L p)) ⟨0, 0, 0⟩)),
      (opsTo L (p + 1) n (opMany L p)).2 + 6)
  else ((opsTo L (p + 1) n (opMany L p)).1, (opsTo L (p + 1) n (opMany L p)).2 + 1)
theorem opMany_le (L : List Int) (p : Nat) : opMany L p ≤ 8 := by
  have := rangeV_bd L p (lo := 0) (hi := 8) (by decide)
  unfold opMany; omega
theorem opListV_bd (L : List Int) (p n : Nat) : (opListV L p n).1.length ≤ 8 ∧ (opListV L p n).2 ≤ p + 40 := by
  have h1 := opsTo_len L (p + 1) n (opMany L p)
  have h2 := opsTo_le L (p + 1) n (opMany L p)
  have h3 := opMany_le L p
  unfold opListV
  split
  · exact ⟨by omega, by omega⟩
  · split
    · exact ⟨by simp only [List.length_set]; omega, by simp only; omega⟩
    · exact ⟨by simp only; omega, by simp only; omega⟩
def IntsOk (x : FOp) : Prop := (-9223372036854775808 ≤ x.k ∧ x.k ≤ 9223372036854775807) ∧ (-9223372036854775808 ≤ x.a ∧ x.a ≤ 9223372036854775807) ∧ (-9223372036854775808 ≤ x.v ∧ x.v ≤ 9223372036854775807)
theorem opAt_ok (L : List Int) (q : Nat) {n : Nat} (hn : n ≤ 1000) : IntsOk (opAt L q n).1 := by
  have h1 := nextV_bd L (q + 1) (n := max 1 (n : Int)) (by omega)
  have h2 := nextV_bd L (q + 1) (n := 4) (by decide)
  have h3 := pickV_bd L (q + 2) (l := [0, 1, 65535, 65534, 240]) (lo := 0) (hi := 65535) (by simp) (by decide)
  unfold opAt IntsOk
  split <;> simp only <;> omega
theorem oddV_bd (L : List Int) (p : Nat) {lo hi : Int} (h : lo ≤ hi) (h1 : -1000000 ≤ lo) (h2 : hi ≤ 1000000) : -1099511627776 ≤ (oddV L p lo hi).1 ∧ (oddV L p lo hi).1 ≤ 1099511627776 := by
  have h3 := rangeV_bd L (p + 1) h
  have h4 : -1099511627776 ≤ pickV L (p + 1) [lo - 1, hi + 1, lo, hi, -1099511627776, 1099511627776] ∧ pickV L (p + 1) [lo - 1, hi + 1, lo, hi, -1099511627776, 1099511627776] ≤ 1099511627776 := by
    refine pickV_bd L (p + 1) (by simp) ?_
    intro x hx
    simp only [List.mem_cons, List.not_mem_nil, or_false] at hx
    rcases hx with rfl | rfl | rfl | rfl | rfl | rfl <;> omega
  unfold oddV
  split <;> simp only <;> omega
theorem spoilOp_ok (L : List Int) (q : Nat) {x : FOp} (hx : IntsOk x) : IntsOk (spoilOp L q x) := by
  have h1 := oddV_bd L q (lo := 1) (hi := 2) (by decide) (by decide) (by decide)
  have h2 : -9223372036854775808 ≤ pickV L (q + 2) [x.a, -1, 99] ∧ pickV L (q + 2) [x.a, -1, 99] ≤ 9223372036854775807 := by
    refine pickV_bd L (q + 2) (by simp) ?_
    intro y hy
    have := hx.2.1
    simp only [List.mem_cons, List.not_mem_nil, or_false] at hy
    rcases hy with rfl | rfl | rfl <;> omega
  have h3 : -9223372036854775808 ≤ pickV L (q + 3) [x.v, -1, 65536] ∧ pickV L (q + 3) [x.v, -1, 65536] ≤ 9223372036854775807 := by
    refine pickV_bd L (q + 3) (by simp) ?_
    intro y hy
    have := hx.2.2
    simp only [List.mem_cons, List.not_mem_nil, or_false] at hy
    rcases hy with rfl | rfl | rfl <;> omega
  unfold spoilOp IntsOk
  simp only
  omega
theorem opsTo_ok (L : List Int) (p : Nat) {n : Nat} (hn : n ≤ 1000) (k : Nat) : ∀ x ∈ (opsTo L p n k).1, IntsOk x := by
  induction k with
  | zero => intro x hx; cases hx
  | succ k ih =>
    intro x hx
    simp only [opsTo, List.mem_append, List.mem_singleton] at hx
    rcases hx with h | rfl
    · exact ih x h
    · exact opAt_ok L _ hn
theorem opListV_ok (L : List Int) (p : Nat) {n : Nat} (hn : n ≤ 1000) : ∀ x ∈ (opListV L p n).1, IntsOk x := by
  have h1 := opsTo_ok L (p + 1) hn (opMany L p)
  unfold opListV
  split
  · exact h1
  · split
    · intro x hx
      rcases List.mem_or_eq_of_mem_set hx with h | h
      · exact h1 x h
      · subst h
        refine spoilOp_ok L _ ?_
        rw [List.getD_eq_getElem?_getD]
        cases hg : (opsTo L (p + 1) n (opMany L p)).1[pickI L ((opsTo L (p + 1) n (opMany L p)).2 + 1) (opMany L p)]? with
        | none => simp [IntsOk]
        | some y => exact h1 y (mem_of_get hg)
    · exact h1
end Go.Proofs.Ytmnhlfkphibhfaa
