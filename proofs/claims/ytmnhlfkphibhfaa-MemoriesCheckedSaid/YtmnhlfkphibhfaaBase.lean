/-
  Words for memory that the texts of this claim share: a row of cells that a slice value leads to, a block that is known whole, frames. No program stands in this text.
-/
import Derived.WalkKit
import Derived.WalkSpells
import Derived.WalkLawsBesides
import Derived.Laws.OwnMore
import Derived.Deep.Draws
import Derived.Deep.AppendLies
import Derived.Maps.AppendAt
import Derived.RegionTactic
import Derived.Lib.Hide
namespace Go.Proofs.Ytmnhlfkphibhfaa
open Go.RowKit

/-- The slice address A leads to the cells cs (nothing is said where cs is empty). -/
def RowV (w : World) (A : Option Addr) (cs : List Value) : Prop :=
  ∀ k u, cs[k]? = some u → ∃ b o, A = some ⟨b, o, none⟩ ∧ w.cell? ⟨b, o + k, none⟩ = some u
def ints (l : List Int) : List Value := l.map (Value.int .i64)
/-- The slice address lies off a block. -/
def Off (A : Option Addr) (s : Nat) : Prop := ∀ a, A = some a → a.block ≠ s
/-- Block g holds just the cells cs of element type t, none frozen. -/
def Blk (w : World) (g : Nat) (t : TypeId) (cs : Array Value) : Prop := w.heap[g]? = some (.cells cs t (0, 0))

section rows
variable {w w' : World} {A : Option Addr} {cs : List Value}
theorem RowV.nil : RowV w A [] := fun k u h => by simp at h
theorem RowV.grown (h : RowV w A cs) {row : Option Nat} (hg : w.grownBy w' row) (ho : ∀ s, row = some s → Off A s) : RowV w' A cs := fun k u hu => by
  obtain ⟨b, o, rfl, hc⟩ := h k u hu
  refine ⟨b, o, rfl, ?_⟩
  refine hg.cell hc (fun e => ?_)
  exact ho b e.symm _ rfl rfl
theorem RowV.below (h : RowV w A cs) {B : Nat} (hb : Below B w w') (hB : ∀ a, A = some a → a.block < B) : RowV w' A cs := fun k u hu => by
  obtain ⟨b, o, rfl, hc⟩ := h k u hu
  exact ⟨b, o, rfl, (hb.cell (p := ⟨b, o + k, none⟩) (hB ⟨b, o, none⟩ rfl)).trans hc⟩
theorem RowV.belowS (h : RowV w A cs) (hb : Below w.heap.size w w') : RowV w' A cs := fun k u hu => by
  obtain ⟨b, o, rfl, hc⟩ := h k u hu
  exact ⟨b, o, rfl, (hb.cell (World.block_lt_of_cell? w _ hc)).trans hc⟩
theorem RowV.alloc (h : RowV w A cs) (o : Obj) : RowV (w.alloc o) A cs := h.grown (World.grownBy_alloc w o none) (fun s e => by cases e)
theorem RowV.drew (h : RowV w A cs) : RowV w.drew A cs := h
theorem RowV.drewN (h : RowV w A cs) (n : Nat) : RowV (w.drewN n) A cs := h
theorem RowV.int {l : List Int} (h : RowV w A (ints l)) {k : Nat} {x : Int} (hk : l[k]? = some x) : ∃ b o, A = some ⟨b, o, none⟩ ∧ w.cell? ⟨b, o + k, none⟩ = some (.int .i64 x) :=
  h k _ (by simp [ints, hk])
theorem RowV.ofOwn {base : Nat} {e : TypeId} {sz n c : Nat} (h : w.ownsRow base e sz (.slice A n c) n cs) : RowV w A cs := fun k u hu => by
  have hn : 0 < n := by
    rcases Nat.eq_zero_or_pos n with h0 | h0
    · have := h.1; subst h0; simp at this; subst this; simp at hu
    · exact h0
  obtain ⟨g, cap, hv, _, hlt⟩ := h.form hn
  injection hv with hA
  subst hA
  refine ⟨g, 0, rfl, ?_⟩
  have := h.cells (g := g) rfl k u hu
  unfold Addr.add at this
  split at this
  · rename_i h0; subst h0; simpa using this
  · simpa using this
theorem RowV.new (w : World) (t : TypeId) (cs : Array Value) : RowV (w.alloc (.cells cs t)) (some ⟨w.heap.size, 0, none⟩) cs.toList := fun k u hu => by
  refine ⟨_, _, rfl, ?_⟩
  rw [Nat.zero_add, cell_of_row _ w.heap.size k cs t (0, 0) (heap_alloc_new w _)]
  simpa using hu
theorem Off.new {w : World} {s : Nat} (h : s < w.heap.size) : Off (some ⟨w.heap.size, 0, none⟩) s := fun a e => by
  injection e with e
  subst e
  show w.heap.size ≠ s
  omega
end rows

section blocks
variable {w w' : World} {g : Nat} {t : TypeId} {cs : Array Value}
theorem Blk.lt (h : Blk w g t cs) : g < w.heap.size := by
  rcases Nat.lt_or_ge g w.heap.size with hlt | hge
  · exact hlt
  · unfold Blk at h; rw [Array.getElem?_eq_none hge] at h; cases h
theorem Blk.cell (h : Blk w g t cs) (i : Nat) {u : Value} (hu : cs[i]? = some u) : w.cell? ⟨g, i, none⟩ = some u := (cell_of_row w g i cs t (0, 0) h).trans hu
theorem Blk.frozen (h : Blk w g t cs) (i : Nat) : w.frozen? ⟨g, i, none⟩ = false := by
  unfold Blk at h
  simp [World.frozen?, h]
theorem Blk.new (w : World) (t : TypeId) (cs : Array Value) : Blk (w.alloc (.cells cs t)) w.heap.size t cs := heap_alloc_new w _
theorem Blk.drew (h : Blk w g t cs) : Blk w.drew g t cs := h
theorem Blk.drewN (h : Blk w g t cs) (n : Nat) : Blk (w.drewN n) g t cs := h
theorem Blk.alloc (h : Blk w g t cs) (o : Obj) : Blk (w.alloc o) g t cs := (Below.heap_alloc w o g h.lt).trans h
theorem Blk.set (h : Blk w g t cs) (i : Nat) (u : Value) : Blk (w.setCell ⟨g, i, none⟩ u) g t (cs.setIfInBounds i u) := by
  unfold Blk at h ⊢
  simp [World.setCell, Array.getElem?_modify, h]
theorem Blk.far (h : Blk w g t cs) {p : Addr} (hp : g ≠ p.block) (u : Value) : Blk (w.setCell p u) g t cs := (Below.heap_setCell w p u g hp).trans h
theorem Blk.grown {row : Option Nat} (h : Blk w g t cs) (hb : w.grownBy w' row) (hg : some g ≠ row) : Blk w' g t cs := (hb.block g h.lt hg).trans h
theorem Blk.belowS (h : Blk w g t cs) (hb : Below w.heap.size w w') : Blk w' g t cs := (hb.block g h.lt).trans h
end blocks

section frames
theorem grown_refl (w : World) (row : Option Nat) : w.grownBy w row := ⟨rfl, rfl, rfl, Nat.le_refl _, fun _ _ _ => rfl⟩
theorem grown_trans {a b c : World} {row : Option Nat} (h : a.grownBy b row) (k : b.grownBy c row) : a.grownBy c row :=
  ⟨k.os.trans h.os, k.tape.trans h.tape, k.output.trans h.output, Nat.le_trans h.size k.size, fun i hi hn => (k.block i (Nat.lt_of_lt_of_le hi h.size) hn).trans (h.block i hi hn)⟩
theorem grown_drew {a w : World} {row : Option Nat} (h : a.grownBy w row) : a.grownBy w.drew row := ⟨h.os, h.tape, h.output, h.size, h.block⟩
theorem grown_drewN {a w : World} {row : Option Nat} (h : a.grownBy w row) (n : Nat) : a.grownBy (w.drewN n) row := ⟨h.os, h.tape, h.output, h.size, h.block⟩
theorem grown_alloc {a w : World} {row : Option Nat} (h : a.grownBy w row) (o : Obj) : a.grownBy (w.alloc o) row := grown_trans h (World.grownBy_alloc w o row)
theorem grown_set {a w : World} {g : Nat} (h : a.grownBy w (some g)) {p : Addr} (hp : p.block = g ∨ a.heap.size ≤ p.block) (u : Value) : a.grownBy (w.setCell p u) (some g) :=
  ⟨h.os, h.tape, h.output, by simpa [World.setCell] using h.size, fun i hi hne => (Below.heap_setCell w p u i (by
    rintro rfl
    rcases hp with hp | hp
    · exact hne (by rw [hp])
    · omega)).trans (h.block i hi hne)⟩
theorem grown_setNew {a w : World} {row : Option Nat} (h : a.grownBy w row) {p : Addr} (hp : a.heap.size ≤ p.block) (u : Value) : a.grownBy (w.setCell p u) row :=
  ⟨h.os, h.tape, h.output, by simpa [World.setCell] using h.size, fun i hi hne => (Below.heap_setCell w p u i (by
    rintro rfl
    omega)).trans (h.block i hi hne)⟩
theorem grown_below {a w : World} (h : Below a.heap.size a w) (row : Option Nat) : a.grownBy w row := ⟨h.os, h.tape, h.output, h.size, fun i hi _ => h.block i hi⟩
theorem grown_row {a w w' : World} {row row' : Option Nat} (h : a.grownBy w row) (k : w.grownBy w' row') (hr : ∀ g, row' = some g → row = some g ∨ a.heap.size ≤ g) : a.grownBy w' row :=
  ⟨k.os.trans h.os, k.tape.trans h.tape, k.output.trans h.output, Nat.le_trans h.size k.size, fun i hi hn => (k.block i (Nat.lt_of_lt_of_le hi h.size) (fun e => by
    rcases hr i e.symm with e' | e'
    · exact hn e'.symm
    · omega)).trans (h.block i hi hn)⟩
theorem below_of_grown {a w : World} (h : a.grownBy w none) : Below a.heap.size a w := ⟨h.os, h.tape, h.output, h.size, fun i hi => h.block i hi (by simp)⟩
theorem below_of_grownNew {a w w' : World} {s : Nat} (h : Below a.heap.size a w) (k : w.grownBy w' (some s)) (hs : a.heap.size ≤ s) : Below a.heap.size a w' :=
  h.trans ⟨k.os, k.tape, k.output, k.size, fun i hi => k.block i (Nat.lt_of_lt_of_le hi h.size) (by intro e; injection e; omega)⟩
end frames


/-- A slice of n elements (of type e, sz cells each) that the call itself made, in a block from base on: it owns the cells xs. -/
def Own (w : World) (base : Nat) (e : TypeId) (sz : Nat) (A : Option Addr) (n c : Nat) (xs : List Value) : Prop := w.ownsRow base e sz (.slice A n c) n xs
def ablk (A : Option Addr) : Option Nat := A.map (·.block)
section owned
variable {w w' : World} {base : Nat} {e : TypeId} {sz n c : Nat} {A : Option Addr} {xs : List Value}
theorem ownBlock_ablk (A : Option Addr) (n c : Nat) : Value.ownBlock (.slice A n c) = ablk A := by cases A <;> rfl
theorem own_shape {v : Value} (h : w.ownsRow base e sz v n xs) : ∃ A c, v = .slice A n c := by
  rcases h.2 with ⟨rfl, rfl⟩ | ⟨g, cap, cur, rfl, _⟩
  · exact ⟨_, _, rfl⟩
  · exact ⟨_, _, rfl⟩
theorem Own.nil (w : World) (base : Nat) (e : TypeId) (sz : Nat) : Own w base e sz none 0 0 [] := World.ownsRow_nil w base e sz
theorem Own.row (h : Own w base e sz A n c xs) : RowV w A xs := RowV.ofOwn h
theorem Own.len (h : Own w base e sz A n c xs) : xs.length = n * sz := h.1
theorem Own.low (h : Own w base e sz A n c xs) : ∀ g, ablk A = some g → base ≤ g ∧ g < w.heap.size := fun g hg => World.ownsRow.lt h g (by rw [ownBlock_ablk]; exact hg)
theorem Own.off (h : Own w base e sz A n c xs) {s : Nat} (hs : s < base) : Off A s := fun a ha => by
  have := h.low a.block (by rw [ha]; rfl)
  omega
theorem Own.cap (h : Own w base e sz A n c xs) : n ≤ c ∧ c ≤ maxLen := by
  rcases h.2 with ⟨h1, rfl⟩ | ⟨g, cap, cur, h1, _, _, h2, h3, _⟩
  · injection h1 with _ _ h2
    subst h2
    exact ⟨Nat.le_refl _, Nat.zero_le _⟩
  · injection h1 with _ _ h4
    subst h4
    exact ⟨h2, h3⟩
theorem Own.kept {row : Option Nat} (h : Own w base e sz A n c xs) (hg : w.grownBy w' row) (ho : ∀ g, ablk A = some g → row ≠ some g) : Own w' base e sz A n c xs :=
  World.ownsRow.kept h hg (by
    rw [ownBlock_ablk]
    cases hA : ablk A with
    | none => exact .inl rfl
    | some g => exact .inr (fun e => ho g hA e.symm))
theorem Own.keptLow {s : Nat} (h : Own w base e sz A n c xs) (hg : w.grownBy w' (some s)) (hs : s < base) : Own w' base e sz A n c xs :=
  h.kept hg (fun g hA e => by injection e with e; have := (h.low g hA).1; omega)
theorem Own.keptAll (h : Own w base e sz A n c xs) (hg : Below w.heap.size w w') : Own w' base e sz A n c xs := h.kept (grown_below hg none) (fun _ _ => by simp)
theorem Own.alloc (h : Own w base e sz A n c xs) (o : Obj) : Own (w.alloc o) base e sz A n c xs := World.ownsRow.alloc h o
theorem Own.drew (h : Own w base e sz A n c xs) : Own w.drew base e sz A n c xs := h
theorem Own.drewN (h : Own w base e sz A n c xs) (k : Nat) : Own (w.drewN k) base e sz A n c xs := h
theorem Own.mono {b : Nat} (h : Own w base e sz A n c xs) (hb : b ≤ base) : Own w b e sz A n c xs := by
  refine ⟨h.1, ?_⟩
  rcases h.2 with h1 | ⟨g, cap, cur, h1, h2, r⟩
  · exact .inl h1
  · exact .inr ⟨g, cap, cur, h1, Nat.le_trans hb h2, r⟩
theorem Own.ne_blk {g : Nat} {t : TypeId} {cs : Array Value} (h : Own w base e sz A n c xs) (hb : Blk w g t cs) (hne : e ≠ t) : ablk A ≠ some g := by
  intro hA
  rcases h.2 with ⟨h1, _⟩ | ⟨g', cap, cur, h1, _, hh, _⟩
  · injection h1 with h1
    subst h1
    cases hA
  · injection h1 with h1
    subst h1
    injection hA with hA
    subst hA
    unfold Blk at hb
    rw [hh] at hb
    injection hb with hb
    injection hb with _ ht
    exact hne ht
theorem Own.frozen {g o : Nat} (h : Own w base e sz (some ⟨g, o, none⟩) n c xs) (i : Nat) : w.frozen? ⟨g, i, none⟩ = false := by
  rcases h.2 with ⟨h1, _⟩ | ⟨g', cap, cur, h1, _, hh, _⟩
  · injection h1 with h1
    cases h1
  · injection h1 with h1
    injection h1 with h1
    injection h1 with h1 h2
    subst h1
    simp [World.frozen?, hh]
theorem Own.cell {g o : Nat} (h : Own w base e sz (some ⟨g, o, none⟩) n c xs) {i : Nat} {u : Value} (hu : xs[i]? = some u) : w.cell? ⟨g, o + i, none⟩ = some u := by
  obtain ⟨b', o', he, hc⟩ := h.row i u hu
  injection he with he
  injection he with he1 he2
  subst he1; subst he2
  exact hc
theorem Own.zero {g o : Nat} (h : Own w base e sz (some ⟨g, o, none⟩) n c xs) : o = 0 := by
  rcases h.2 with ⟨h1, _⟩ | ⟨g', cap, cur, h1, _, hh, _⟩
  · injection h1 with h1
    cases h1
  · injection h1 with h1
    injection h1 with h1
    injection h1
/-- a store into a cell that is owned -/
theorem Own.set {g o : Nat} (h : Own w base e sz (some ⟨g, o, none⟩) n c xs) (i : Nat) (u : Value) : Own (w.setCell ⟨g, o + i, none⟩ u) base e sz (some ⟨g, o, none⟩) n c (xs.set i u) := by
  have ho := h.zero
  subst ho
  refine ⟨by rw [List.length_set]; exact h.1, ?_⟩
  rcases h.2 with ⟨h1, _⟩ | ⟨g', cap, cur, h1, hb, hh, hn, hm, hs, ht⟩
  · injection h1 with h1
    cases h1
  · injection h1 with h1 _ h4
    injection h1 with h1
    injection h1 with h1 h2
    subst h1; subst h4
    refine .inr ⟨g, c, cur.setIfInBounds i u, rfl, hb, ?_, hn, hm, by simpa using hs, ?_⟩
    · rw [Nat.zero_add]
      simp [World.setCell, Array.getElem?_modify, hh]
    · rw [Array.toList_setIfInBounds, List.take_set, ht]
theorem Own.set0 {g : Nat} (h : Own w base e sz (some ⟨g, 0, none⟩) n c xs) (i : Nat) (u : Value) : Own (w.setCell ⟨g, i, none⟩ u) base e sz (some ⟨g, 0, none⟩) n c (xs.set i u) := by
  have := h.set i u
  rwa [Nat.zero_add] at this
theorem Own.cell0 {g : Nat} (h : Own w base e sz (some ⟨g, 0, none⟩) n c xs) {i : Nat} {u : Value} (hu : xs[i]? = some u) : w.cell? ⟨g, i, none⟩ = some u := by
  have := h.cell hu
  rwa [Nat.zero_add] at this
end owned

/-- what a cell holds, whatever it is: a name that the walk's rewriting doesn't open -/
def valAt (w : World) (a : Addr) : Value := (w.cell? a).getD undef
theorem valAt_of {w : World} {a : Addr} {v : Value} (h : w.cell? a = some v) : valAt w a = v := by simp [valAt, h]
theorem valAt_some {w : World} {a : Addr} {v : Value} (h : w.cell? a = some v) : w.cell? a = some (valAt w a) := by rw [valAt_of h]; exact h
theorem Own.there {w : World} {base : Nat} {e : TypeId} {sz n c g : Nat} {xs : List Value} (h : Own w base e sz (some ⟨g, 0, none⟩) n c xs) {i : Nat} (hi : i < xs.length) : w.cell? ⟨g, i, none⟩ = some (valAt w ⟨g, i, none⟩) := by
  have := h.cell (i := i) (u := xs[i]) (List.getElem?_eq_getElem hi)
  rw [Nat.zero_add] at this
  exact valAt_some this
section append
variable {P : Program} (w : World)
theorem run_app_nil (base : Nat) (t ty e : TypeId) (i : TypeInfo) (size : Nat) (ht : P.underlying t = some (.slice e)) (hi : P.info? e = some i)
    (v : Value) (n : Nat) (xs : List Value) (hown : w.ownsRow base e size v n xs) (c : Nat) : (Builtin.append_ #[t, t] ty #[v, .slice none 0 c]).run P w = .ok v w := by
  rcases hown.2 with ⟨rfl, rfl⟩ | ⟨g, cap, cur, rfl, _, _, hnc, _⟩
  · simp [Builtin.append_, run_underlying ht, sizeOf, typeInfo, hi, Builtin.lenOf, Builtin.firstCells]
  · simp [Builtin.append_, run_underlying ht, sizeOf, typeInfo, hi, Builtin.lenOf, Builtin.firstCells, hnc, storeCells]

theorem run_app (base : Nat) (t ty e : TypeId) (z : Value) (size bytes : Nat) (ht : P.underlying t = some (.slice e))
    (hinfo : (P.info? e).map (fun i => (i.zero, i.size, i.bytes)) = some (some z, size, bytes)) (hzs : z.cells.size = size) (hsz : 0 < size)
    (A : Option Addr) (n c : Nat) (xs : List Value) (hown : Own w base e size A n c xs)
    (B : Option Addr) (m d : Nat) (news : List Value) (hl : news.length = m * size) (hr : RowV w B news) (h1 : ∀ u ∈ news, u.oneCell' = true)
    (h63 : n + m ≤ maxLen) (hbytes : (n + m) * bytes ≤ 140737488355328) (hbase : base ≤ w.heap.size) :
    ∃ A' c' w', (Builtin.append_ #[t, t] ty #[.slice A n c, .slice B m d]).run P w = .ok (.slice A' (n + m) c') w' ∧ Own w' base e size A' (n + m) c' (xs ++ news) ∧ w.grownBy w' (ablk A) ∧
      (ablk A' = ablk A ∨ ablk A' = some w.heap.size) := by
  obtain ⟨i, hi, hz, hs, hb⟩ := info_parts hinfo
  rcases Nat.eq_zero_or_pos m with h0 | h0
  · subst h0
    have hn : news = [] := List.eq_nil_of_length_eq_zero (by simpa using hl)
    subst hn
    rcases B with _ | ad
    · exact ⟨A, c, w, run_app_nil w base t ty e i size ht hi _ n xs hown d, by simpa using hown, grown_refl w _, .inl rfl⟩
    · obtain ⟨v', w', hrun, h2, h3, _, h5⟩ := run_append_own_at (P := P) w base t ty e i z size bytes ht hi hz hs hb hzs hsz _ n xs hown ad 0 d [] (by simp) (by simp) (by simp) h63 hbytes hbase
      obtain ⟨A', c', rfl⟩ := own_shape h2
      rw [ownBlock_ablk] at h3 h5
      rw [ownBlock_ablk] at h5
      exact ⟨A', c', w', hrun, h2, h3, h5⟩
  · have hpos : 0 < news.length := by rw [hl]; exact Nat.mul_pos h0 hsz
    obtain ⟨u0, hu0⟩ : ∃ u, news[0]? = some u := ⟨news[0], List.getElem?_eq_getElem hpos⟩
    obtain ⟨b, o, rfl, _⟩ := hr 0 u0 hu0
    have hcells : ∀ j u, news[j]? = some u → w.cell? ((⟨b, o, none⟩ : Addr).add j) = some u := by
      intro j u hu
      obtain ⟨b', o', he, hc⟩ := hr j u hu
      injection he with he
      injection he with he1 he2
      subst he1; subst he2
      unfold Addr.add
      split
      · rename_i hj; subst hj; simpa using hc
      · simpa using hc
    obtain ⟨v', w', hrun, h2, h3, _, h5⟩ := run_append_own_at (P := P) w base t ty e i z size bytes ht hi hz hs hb hzs hsz _ n xs hown ⟨b, o, none⟩ m d news hl hcells h1 h63 hbytes hbase
    obtain ⟨A', c', rfl⟩ := own_shape h2
    rw [ownBlock_ablk] at h3 h5
    rw [ownBlock_ablk] at h5
    exact ⟨A', c', w', hrun, h2, h3, h5⟩

theorem wp_app {o : Oper} {a : Act} {K : Act → World → Prop} {Q : Exit → Act → World → Prop} (s x : Operand) (t : TypeId)
    (ho : o.op = .call { callee := .builtin .append, args := #[s, x], argTypes := #[t, t] })
    (base : Nat) (e : TypeId) (z : Value) (size bytes : Nat) (ht : P.underlying t = some (.slice e))
    (hinfo : (P.info? e).map (fun i => (i.zero, i.size, i.bytes)) = some (some z, size, bytes)) (hzs : z.cells.size = size) (hsz : 0 < size)
    (A : Option Addr) (n c : Nat) (xs : List Value) (hs : a.eval s = .slice A n c) (hown : Own w base e size A n c xs)
    (B : Option Addr) (m d : Nat) (news : List Value) (hx : a.eval x = .slice B m d) (hl : news.length = m * size) (hr : RowV w B news) (h1 : ∀ u ∈ news, u.oneCell' = true)
    (h63 : n + m ≤ maxLen) (hbytes : (n + m) * bytes ≤ 140737488355328) (hbase : base ≤ w.heap.size)
    (h : ∀ A' c' w', Own w' base e size A' (n + m) c' (xs ++ news) → w.grownBy w' (ablk A) → (ablk A' = ablk A ∨ ablk A' = some w.heap.size) → K (a.put o.dst (.slice A' (n + m) c')) w') : o.wp P a w K Q := by
  obtain ⟨A', c', w', hrun, h2, h3, h4⟩ := run_app (P := P) w base t o.type e z size bytes ht hinfo hzs hsz A n c xs hown B m d news hl hr h1 h63 hbytes hbase
  unfold Oper.wp execOp
  simp only [ho, resolve, invoke, builtin, Sem.run_bind, Sem.run_pure, Result.andThen_ok, List.map_toArray, List.map_cons, List.map_nil, hs, hx, hrun]
  exact h A' c' w' h2 h3 h4

theorem wpList_app {ops : Array Oper} {rest : List Oper} {o : Oper} {a : Act} {Q : Exit → Act → World → Prop} (hgd : o.guard = none) (s x : Operand) (t : TypeId)
    (ho : o.op = .call { callee := .builtin .append, args := #[s, x], argTypes := #[t, t] })
    (base : Nat) (e : TypeId) (z : Value) (size bytes : Nat) (ht : P.underlying t = some (.slice e))
    (hinfo : (P.info? e).map (fun i => (i.zero, i.size, i.bytes)) = some (some z, size, bytes)) (hzs : z.cells.size = size) (hsz : 0 < size)
    (A : Option Addr) (n c : Nat) (xs : List Value) (hs : a.eval s = .slice A n c) (hown : Own w base e size A n c xs)
    (B : Option Addr) (m d : Nat) (news : List Value) (hx : a.eval x = .slice B m d) (hl : news.length = m * size) (hr : RowV w B news) (h1 : ∀ u ∈ news, u.oneCell' = true)
    (h63 : n + m ≤ maxLen) (hbytes : (n + m) * bytes ≤ 140737488355328) (hbase : base ≤ w.heap.size)
    (h : ∀ A' c' w', Own w' base e size A' (n + m) c' (xs ++ news) → w.grownBy w' (ablk A) → (ablk A' = ablk A ∨ ablk A' = some w.heap.size) → wpList P ops Q rest (a.put o.dst (.slice A' (n + m) c')) w') : wpList P ops Q (o :: rest) a w :=
  wpList_plain hgd fun _ hK => wp_app w s x t ho base e z size bytes ht hinfo hzs hsz A n c xs hs hown B m d news hx hl hr h1 h63 hbytes hbase fun A' c' w' h2 h3 h4 => hK _ _ (h A' c' w' h2 h3 h4)

theorem step_app {ops : Array Oper} {o : Oper} {a : Act} {K : Act → World → Prop} {Q : Exit → Act → World → Prop} {E : Prop} (hgd : o.guard = none) (s x : Operand) (t : TypeId)
    (ho : o.op = .call { callee := .builtin .append, args := #[s, x], argTypes := #[t, t] })
    (base : Nat) (e : TypeId) (z : Value) (size bytes : Nat) (ht : P.underlying t = some (.slice e))
    (hinfo : (P.info? e).map (fun i => (i.zero, i.size, i.bytes)) = some (some z, size, bytes)) (hzs : z.cells.size = size) (hsz : 0 < size)
    (A : Option Addr) (n c : Nat) (xs : List Value) (hs : a.eval s = .slice A n c) (hown : Own w base e size A n c xs)
    (B : Option Addr) (m d : Nat) (news : List Value) (hx : a.eval x = .slice B m d) (hl : news.length = m * size) (hr : RowV w B news) (h1 : ∀ u ∈ news, u.oneCell' = true)
    (h63 : n + m ≤ maxLen) (hbytes : (n + m) * bytes ≤ 140737488355328) (hbase : base ≤ w.heap.size)
    (h : ∀ A' c' w', Own w' base e size A' (n + m) c' (xs ++ news) → w.grownBy w' (ablk A) → (ablk A' = ablk A ∨ ablk A' = some w.heap.size) → K (a.put o.dst (.slice A' (n + m) c')) w') :
    if Region.wanted o (yielded ops a.tmps) = true then Oper.wp P o a w K Q else E := by
  have hw : Region.wanted o (yielded ops a.tmps) = true := by simp [Region.wanted, hgd]
  rw [if_pos hw]
  exact wp_app w s x t ho base e z size bytes ht hinfo hzs hsz A n c xs hs hown B m d news hx hl hr h1 h63 hbytes hbase h
end append
theorem oneCell_ints (l : List Int) : ∀ u ∈ ints l, u.oneCell' = true := by
  intro u hu
  obtain ⟨x, _, rfl⟩ := List.mem_map.1 hu
  rfl
theorem ints_len (l : List Int) : (ints l).length = l.length := by simp [ints]
theorem ints_snoc (l : List Int) (x : Int) : ints (l ++ [x]) = ints l ++ [.int .i64 x] := by simp [ints]
theorem ints_append (l m : List Int) : ints (l ++ m) = ints l ++ ints m := by simp [ints]
theorem grown_own {a w w' : World} {row : Option Nat} {base : Nat} {e : TypeId} {sz n c : Nat} {A : Option Addr} {xs : List Value} (h : a.grownBy w row) (hown : Own w base e sz A n c xs) (hb : a.heap.size ≤ base) (k : w.grownBy w' (ablk A)) : a.grownBy w' row :=
  grown_row h k (fun g hg => .inr (Nat.le_trans hb (hown.low g hg).1))
theorem ret_i64 {a b : Int} (h : a = b) : Ending.returned (.int .i64 a) = .returned (.int .i64 b) := by rw [h]
theorem ret_bool {a b : Bool} (h : a = b) : Ending.returned (.bool a) = .returned (.bool b) := by rw [h]
theorem int_eq {a b : Int} (h : a = b) : Value.int .i64 a = .int .i64 b := by rw [h]
theorem bool_eq {a b : Bool} (h : a = b) : Value.bool a = .bool b := by rw [h]
theorem get_some {α : Type} (l : List α) {k : Nat} (h : k < l.length) : ∃ x, l[k]? = some x := ⟨l[k], List.getElem?_eq_getElem h⟩
theorem take_snoc {α : Type} {l : List α} {k : Nat} {x : α} (h : l[k]? = some x) : l.take (k + 1) = l.take k ++ [x] := by
  rw [List.take_add_one, h]; rfl
theorem mem_of_get {α : Type} {l : List α} {k : Nat} {x : α} (h : l[k]? = some x) : x ∈ l := List.mem_of_getElem? h
/-- every number lies from lo to hi -/
def Within (lo hi : Int) (l : List Int) : Prop := ∀ x ∈ l, lo ≤ x ∧ x ≤ hi
theorem Within.take {lo hi : Int} {l : List Int} (h : Within lo hi l) (k : Nat) : Within lo hi (l.take k) := fun x hx => h x (List.mem_of_mem_take hx)
theorem Within.get {lo hi : Int} {l : List Int} (h : Within lo hi l) {k : Nat} {x : Int} (hk : l[k]? = some x) : lo ≤ x ∧ x ≤ hi := h x (mem_of_get hk)
end Go.Proofs.Ytmnhlfkphibhfaa
