/-
  Contracts that every chapter's functions use: lists of numbers, compared and copied; numbers out of their range.
-/
import Derived.Test.YtpifoghhaohhaaaGreatDoorKEE3
import Derived.Test.YtpifoghhaohhaaaGreatDoorKEE4
import Derived.Lib.Bytealg
import Derived.Laws.Externs
set_option linter.unusedVariables false
set_option linter.unusedSimpArgs false
set_option maxRecDepth 100000
namespace Go.Proofs.YtpifoghhaohhaaaGreatDoor
open Go.RowKit
def arrI (l : List Int) : Option ABlk := some (.arr 3 l.length [.i .i64 fun i => l.getD i 0])
def litI (nl : Bool) (l : List Int) : PV := .lit nl l.length [.i .i64 fun i => l.getD i 0]
theorem out_c (x lo hi : Int) (nid : Nat) : ACall Tryz.prog 155 [.int .i64 x, .int .i64 lo, .int .i64 hi] [] nid (.bool (outB x lo hi)) [] := by
  refine acall_run c155 (by simp [a155]) ?_
  simp -dsimp only [a155, aqT, aqU, aqN, ↓seqK, ↓blkK, ↓loopK, step, stepBin, Nat.reduceBEq, Nat.reduceBeqDiff, Nat.add_assoc nid, Nat.reduceAdd, reduceCtorEq, ↓reduceIte, Nat.reduceLeDiff, Nat.reduceBneDiff, Option.toList, ← Int.ofNat_tmod, ← Int.ofNat_tdiv, Nat.reduceLT]
  refine S2.dec (fun h => ?_) (fun h => ?_) <;> simp -dsimp only [aqT, aqU, aqN, ↓seqK, ↓blkK, ↓loopK, step, stepBin, Nat.reduceBEq, Nat.reduceBeqDiff, Nat.add_assoc nid, Nat.reduceAdd, reduceCtorEq, ↓reduceIte, Nat.reduceLeDiff, Nat.reduceBneDiff, Option.toList, ← Int.ofNat_tmod, ← Int.ofNat_tdiv, Nat.reduceLT] <;> refine RetOK.pure (.inl rfl) rfl ?_ <;> simp [cvT, step, res, outB] <;> omega
theorem in_c (x lo hi : Int) (nid : Nat) : ACall Tryz.prog 98 [.int .i64 x, .int .i64 lo, .int .i64 hi] [] nid (.bool (!outB x lo hi)) [] := by
  refine acall_run c98 (by simp [a98]) ?_
  simp -dsimp only [a98, aqT, aqU, aqN, ↓seqK, ↓blkK, ↓loopK, step, stepBin, Nat.reduceBEq, Nat.reduceBeqDiff, Nat.add_assoc nid, Nat.reduceAdd, reduceCtorEq, ↓reduceIte, Nat.reduceLeDiff, Nat.reduceBneDiff, Option.toList, ← Int.ofNat_tmod, ← Int.ofNat_tdiv, Nat.reduceLT]
  refine S2.dec (fun h => ?_) (fun h => ?_) <;> simp -dsimp only [aqT, aqU, aqN, ↓seqK, ↓blkK, ↓loopK, step, stepBin, Nat.reduceBEq, Nat.reduceBeqDiff, Nat.add_assoc nid, Nat.reduceAdd, reduceCtorEq, ↓reduceIte, Nat.reduceLeDiff, Nat.reduceBneDiff, Option.toList, ← Int.ofNat_tmod, ← Int.ofNat_tdiv, Nat.reduceLT] <;> refine RetOK.pure (.inl rfl) rfl ?_ <;> simp [cvT, step, res, outB] <;> first | omega | (rw [Bool.eq_iff_iff]; simp; omega)
theorem index_c (nl : Bool) (l : List Int) (x : Int) (nid : Nat) (hl : l.length ≤ 1000000000) : ∃ r : Int, (0 ≤ r ↔ x ∈ l) ∧ ACall Tryz.prog 186 [litI nl l, .int .i64 x] [] nid (.int .i64 r) [] := by
  refine ⟨match l.findIdx? (· == x) with | some k => (k : Int) | none => -1, ?_, ?_⟩
  · cases h : l.findIdx? (· == x) with
    | none =>
      rw [List.findIdx?_eq_none_iff] at h
      simp only [Int.reduceNeg, Int.reduceLE, false_iff]
      exact fun hx => by simpa using h x hx
    | some k =>
      simp only [Int.natCast_nonneg, true_iff]
      obtain ⟨hk, h1, _⟩ := List.findIdx?_eq_some_iff_getElem.1 h
      have : l[k] = x := by simpa using h1
      rw [← this]; exact List.getElem_mem hk
  refine acall_run c186 (by simp [a186]) ?_
  unfold litI
  simp -dsimp only [aqT, aqU, aqN, ↓seqK, ↓blkK, ↓loopK, step, stepBin, Nat.reduceBEq, Nat.reduceBeqDiff, Nat.add_assoc nid, Nat.reduceAdd, reduceCtorEq, ↓reduceIte, Nat.reduceLeDiff, Nat.reduceBneDiff, Option.toList, ← Int.ofNat_tmod, ← Int.ofNat_tdiv, Nat.reduceLT, a186]
  refine LP.mkP (fun k : Nat => k ≤ l.length ∧ ∀ i, i < k → l.getD i 0 ≠ x) (fun k : Nat => ⟨[(8, .int .i64 k), (7, .int .i64 l.length), (0, litI nl l), (1, .int .i64 x)], [], nid + 1000, nid⟩) (fun k => l.length + 1 - k) 0 ?_ (Cov.go [] [] ?_) (fun k hk => ?_)
  · exact ⟨by omega, fun i hi => by omega⟩
  · simp [cvT, step, res, litI]
  unfold litI
  obtain ⟨hk, hno⟩ := hk
  have get : ∀ i (hi : i < l.length), l.getD i 0 = l[i] := fun i hi => by rw [List.getD_eq_getElem?_getD, List.getElem?_eq_getElem hi]; rfl
  simp -dsimp only [aqT, aqU, aqN, ↓seqK, ↓blkK, ↓loopK, step, stepBin, Nat.reduceBEq, Nat.reduceBeqDiff, Nat.add_assoc nid, Nat.reduceAdd, reduceCtorEq, ↓reduceIte, Nat.reduceLeDiff, Nat.reduceBneDiff, Option.toList, ← Int.ofNat_tmod, ← Int.ofNat_tdiv, Nat.reduceLT]
  refine S2.dec (fun h3 => ?_) (fun h3 => ?_) <;> simp -dsimp only [aqT, aqU, aqN, ↓seqK, ↓blkK, ↓loopK, step, stepBin, Nat.reduceBEq, Nat.reduceBeqDiff, Nat.add_assoc nid, Nat.reduceAdd, reduceCtorEq, ↓reduceIte, Nat.reduceLeDiff, Nat.reduceBneDiff, Option.toList, ← Int.ofNat_tmod, ← Int.ofNat_tdiv, Nat.reduceLT]
  · have hkl : k < l.length := by omega
    refine ⟨by omega, S2.intro (fun h4 => ?_) (fun h4 => ?_)⟩ <;> simp -dsimp only [aqT, aqU, aqN, ↓seqK, ↓blkK, ↓loopK, step, stepBin, Nat.reduceBEq, Nat.reduceBeqDiff, Nat.add_assoc nid, Nat.reduceAdd, reduceCtorEq, ↓reduceIte, Nat.reduceLeDiff, Nat.reduceBneDiff, Option.toList, ← Int.ofNat_tmod, ← Int.ofNat_tdiv, Nat.reduceLT]
    · have h5 : x = l.getD k 0 := by simpa using h4
      have : l.findIdx? (· == x) = some k := by
        rw [List.findIdx?_eq_some_iff_getElem]
        refine ⟨hkl, by rw [← get k hkl, ← h5]; simp, fun i hi => ?_⟩
        have := hno i hi
        rw [get i (by omega)] at this
        simpa using this
      rw [this]
      refine RetOK.pure (.inl rfl) rfl ?_
      simp [cvT, step, res]
    · have h5 : x ≠ l.getD k 0 := by simpa using h4
      refine ⟨by unfold inI64; omega, k + 1, ⟨⟨by omega, fun i hi => ?_⟩, by omega⟩, Cov.go [] [] ?_⟩
      · by_cases e : i = k
        · subst e; exact fun h => h5 h.symm
        · exact hno i (by omega)
      · simp [cvT, step, res, litI]
  · have : l.findIdx? (· == x) = none := by
      rw [List.findIdx?_eq_none_iff]
      intro y hy
      obtain ⟨i, hi, rfl⟩ := List.mem_iff_getElem.1 hy
      have := hno i (by omega)
      rw [get i hi] at this
      simpa using this
    rw [this]
    refine RetOK.pure (.inl rfl) rfl ?_
    simp [cvT, step, res]
theorem contains_c (nl : Bool) (l : List Int) (x : Int) (nid : Nat) (hl : l.length ≤ 1000000000) : ACall Tryz.prog 99 [litI nl l, .int .i64 x] [] nid (.bool (l.contains x)) [] := by
  refine acall_run c99 (by simp [a99]) ?_
  simp -dsimp only [a99, aqT, aqU, aqN, ↓seqK, ↓blkK, ↓loopK, step, stepBin, Nat.reduceBEq, Nat.reduceBeqDiff, Nat.add_assoc nid, Nat.reduceAdd, reduceCtorEq, ↓reduceIte, Nat.reduceLeDiff, Nat.reduceBneDiff, Option.toList, ← Int.ofNat_tmod, ← Int.ofNat_tdiv, Nat.reduceLT]
  obtain ⟨r, h1, h2⟩ := index_c nl l x (nid + 12) hl
  refine CallO.pure (h2) ?_
  simp -dsimp only [aqT, aqU, aqN, ↓seqK, ↓blkK, ↓loopK, step, stepBin, Nat.reduceBEq, Nat.reduceBeqDiff, Nat.add_assoc nid, Nat.reduceAdd, reduceCtorEq, ↓reduceIte, Nat.reduceLeDiff, Nat.reduceBneDiff, Option.toList, ← Int.ofNat_tmod, ← Int.ofNat_tdiv, Nat.reduceLT]
  have : decide (0 ≤ r) = l.contains x := by
    rw [Bool.eq_iff_iff]
    simp [h1]
  rw [this]
  refine RetOK.pure (.inl rfl) rfl ?_
  simp [cvT, step, res]
end Go.Proofs.YtpifoghhaohhaaaGreatDoor
namespace Go.Proofs.YtpifoghhaohhaaaGreatDoor
open Go.RowKit Go.Shelf Go.Lib
theorem indexKS_c (s : List UInt8) (c : Int) (nid : Nat) : ACall Tryz.prog 279 [.str s, .int .u8 c] [] nid (.int .i64 (Lib.indexByte s c.toNat.toUInt8)) [] := by
  intro C vs hb hl hr hs
  obtain ⟨v0, v1, rfl⟩ : ∃ a b, vs = [a, b] := by
    rcases vs with _ | ⟨a, _ | ⟨b, _ | ⟨c, r⟩⟩⟩
    · simp at hl
    · simp at hl
    · exact ⟨a, b, rfl⟩
    · simp at hl
  have r0 := (hr 0 _ v0 rfl rfl).str_inv
  have r1 := (hr 1 _ v1 rfl rfl).int_inv
  subst r0; subst r1
  refine .inr ⟨.int .i64 (Lib.indexByte s c.toNat.toUInt8), C.w0, ?_, C.Y0, C.m0, .int, by simpa using hs.next (show nid ≤ nid + 4 by omega), Ev.refl _ _ _⟩
  rw [run_callFunc_extern (P := Tryz.prog) (f := 279) (fn := Tryz.f279) (e := Extern.BytealgIndexByte.indexByte) Tryz.func279 (by kernel_rfl) (by kernel_rfl) (by kernel_rfl) (by kernel_rfl)]
  have h := Lib.run_indexByteString (P := Tryz.prog) ⟨s.toArray⟩ c C.w0
  show ((Extern.BytealgIndexByte.indexByte #[.string ⟨s.toArray⟩, .int .u8 c]).run Tryz.prog C.w0).andThen _ = _
  rw [h]
  rfl
theorem indexK_c (s : List UInt8) (c : Int) (nid : Nat) : ACall Tryz.prog 181 [.str s, .int .u8 c] [] nid (.int .i64 (Lib.indexByte s c.toNat.toUInt8)) [] := by
  have h1 : ∀ nid, ACall Tryz.prog 237 [.str s, .int .u8 c] [] nid (.int .i64 (Lib.indexByte s c.toNat.toUInt8)) [] := fun nid => by
    refine acall_run c237 (by simp [a237]) ?_
    simp -dsimp only [a237, aqT, aqU, aqN, ↓seqK, ↓blkK, ↓loopK, step, stepBin, Nat.reduceBEq, Nat.reduceBeqDiff, Nat.add_assoc nid, Nat.reduceAdd, reduceCtorEq, ↓reduceIte, Nat.reduceLeDiff, Nat.reduceBneDiff, Option.toList, ← Int.ofNat_tmod, ← Int.ofNat_tdiv, Nat.reduceLT]
    refine CallO.pure (indexKS_c s c _) ?_
    simp -dsimp only [aqT, aqU, aqN, ↓seqK, ↓blkK, ↓loopK, step, stepBin, Nat.reduceBEq, Nat.reduceBeqDiff, Nat.add_assoc nid, Nat.reduceAdd, reduceCtorEq, ↓reduceIte, Nat.reduceLeDiff, Nat.reduceBneDiff, Option.toList, ← Int.ofNat_tmod, ← Int.ofNat_tdiv, Nat.reduceLT]
    refine RetOK.pure (.inl rfl) rfl ?_
    simp [cvT, step, res]
  refine acall_run c181 (by simp [a181]) ?_
  simp -dsimp only [a181, aqT, aqU, aqN, ↓seqK, ↓blkK, ↓loopK, step, stepBin, Nat.reduceBEq, Nat.reduceBeqDiff, Nat.add_assoc nid, Nat.reduceAdd, reduceCtorEq, ↓reduceIte, Nat.reduceLeDiff, Nat.reduceBneDiff, Option.toList, ← Int.ofNat_tmod, ← Int.ofNat_tdiv, Nat.reduceLT]
  refine CallO.pure (h1 _) ?_
  simp -dsimp only [aqT, aqU, aqN, ↓seqK, ↓blkK, ↓loopK, step, stepBin, Nat.reduceBEq, Nat.reduceBeqDiff, Nat.add_assoc nid, Nat.reduceAdd, reduceCtorEq, ↓reduceIte, Nat.reduceLeDiff, Nat.reduceBneDiff, Option.toList, ← Int.ofNat_tmod, ← Int.ofNat_tdiv, Nat.reduceLT]
  refine RetOK.pure (.inl rfl) rfl ?_
  simp [cvT, step, res]
theorem any_range {s : List UInt8} {F : UInt8 → Bool} : (List.range s.length).any (fun i => F (s.getD i 0)) = s.any F := by
  rw [Bool.eq_iff_iff, List.any_eq_true, List.any_eq_true]
  constructor
  · rintro ⟨i, hi, h⟩
    have hi' := List.mem_range.1 hi
    refine ⟨s[i], List.getElem_mem _, ?_⟩
    rwa [List.getD_eq_getElem?_getD, List.getElem?_eq_getElem hi'] at h
  · rintro ⟨x, hx, h⟩
    obtain ⟨i, hi, rfl⟩ := List.getElem_of_mem hx
    refine ⟨i, List.mem_range.2 hi, ?_⟩
    rw [List.getD_eq_getElem?_getD, List.getElem?_eq_getElem hi]
    exact h
theorem indexFB (f : Nat) (F : UInt8 → Bool) (hf : ∀ (b : UInt8) nid, ACall Tryz.prog f [.int .u8 ((b.toNat : Nat))] [] nid (.bool (F b)) []) (nl : Bool) (n : Nat) (g : Nat → UInt8) (nid : Nat) (hn : n ≤ 1000000000) :
    ∃ r : Int, (-1 ≤ r ∧ (0 ≤ r ↔ (List.range n).any (fun i => F (g i)) = true)) ∧ ACall Tryz.prog 229 [.lit nl n [.i .u8 fun i => ((g i).toNat : Nat)], .fn f []] [] nid (.int .i64 r) [] := by
  refine acall_ex c229 (by simp [a229]) ?_
  simp -dsimp only [aqT0, ROp0, aqT, aqU, aqN, aqS, ↓seqK, ↓blkK, ↓loopK, step, stepBin, Nat.add_assoc nid, ↓reduceIte, Option.toList, ← Int.ofNat_tmod, ← Int.ofNat_tdiv, simprocAttr, BEq.rfl, LN_succ, a229]
  refine LP0.mkP (fun k : Nat => k ≤ n ∧ ∀ j, j < k → F (g j) = false) (fun k : Nat => ⟨[(8, .int .i64 k), (7, .int .i64 n), (0, .lit nl n [.i .u8 fun i => ((g i).toNat : Nat)]), (1, .fn f [])], [], nid + 100, nid⟩) (fun k => n + 1 - k) 0 ⟨by omega, fun j hj => by omega⟩ (Cov.go [] [] ?_) (fun k hk => ?_)
  · simp [cvT, step, res]
  obtain ⟨hk, hall⟩ := hk
  simp -dsimp only [aqT0, ROp0, aqT, aqU, aqN, aqS, ↓seqK, ↓blkK, ↓loopK, step, stepBin, Nat.add_assoc nid, ↓reduceIte, Option.toList, ← Int.ofNat_tmod, ← Int.ofNat_tdiv, simprocAttr, BEq.rfl, LN_succ]
  refine S2.dec (fun h3 => ?_) (fun h3 => ?_) <;> simp -dsimp only [aqT0, ROp0, aqT, aqU, aqN, aqS, ↓seqK, ↓blkK, ↓loopK, step, stepBin, Nat.add_assoc nid, ↓reduceIte, Option.toList, ← Int.ofNat_tmod, ← Int.ofNat_tdiv, simprocAttr, BEq.rfl, LN_succ]
  · have hkl : k < n := by omega
    refine ⟨by omega, CallX.pure (hf _ _) ?_⟩
    simp -dsimp only [aqT0, ROp0, aqT, aqU, aqN, aqS, ↓seqK, ↓blkK, ↓loopK, step, stepBin, Nat.add_assoc nid, ↓reduceIte, Option.toList, ← Int.ofNat_tmod, ← Int.ofNat_tdiv, simprocAttr, BEq.rfl, LN_succ]
    refine S2.intro (fun h4 => ?_) (fun h4 => ?_) <;> simp -dsimp only [aqT0, ROp0, aqT, aqU, aqN, aqS, ↓seqK, ↓blkK, ↓loopK, step, stepBin, Nat.add_assoc nid, ↓reduceIte, Option.toList, ← Int.ofNat_tmod, ← Int.ofNat_tdiv, simprocAttr, BEq.rfl, LN_succ]
    · refine EndOK.mk (k : Int) ⟨by omega, ⟨fun _ => List.any_eq_true.2 ⟨k, List.mem_range.2 hkl, h4⟩, fun _ => by omega⟩⟩ ?_
      refine RetOK.pure (.inl rfl) rfl ?_
      simp [cvT, step, res]
    · refine ⟨by unfold inI64; omega, k + 1, ⟨⟨by omega, fun j hj => ?_⟩, by omega⟩, Cov.go [] [] ?_⟩
      · rcases (by omega : j < k ∨ j = k) with hj | hj
        · exact hall j hj
        · rw [hj]; exact h4
      · simp [cvT, step, res]
  · have hkn : k = n := by omega
    subst hkn
    refine EndOK.mk (-1 : Int) ⟨by omega, ⟨fun h => by omega, fun h => ?_⟩⟩ ?_
    · obtain ⟨i, hi, h⟩ := List.any_eq_true.1 h
      rw [hall i (List.mem_range.1 hi)] at h
      cases h
    · refine RetOK.pure (.inl rfl) rfl ?_
      simp [cvT, step, res]
theorem containsFB (f : Nat) (F : UInt8 → Bool) (hf : ∀ (b : UInt8) nid, ACall Tryz.prog f [.int .u8 ((b.toNat : Nat))] [] nid (.bool (F b)) []) (nl : Bool) (n : Nat) (g : Nat → UInt8) (nid : Nat) (hn : n ≤ 1000000000) :
    ACall Tryz.prog 178 [.lit nl n [.i .u8 fun i => ((g i).toNat : Nat)], .fn f []] [] nid (.bool ((List.range n).any (fun i => F (g i)))) [] := by
  refine acall_run c178 (by simp [a178]) ?_
  simp -dsimp only [aqT, aqU, aqN, ↓seqK, ↓blkK, ↓loopK, step, stepBin, Nat.reduceBEq, Nat.reduceBeqDiff, Nat.add_assoc nid, Nat.reduceAdd, reduceCtorEq, ↓reduceIte, Nat.reduceLeDiff, Nat.reduceBneDiff, Option.toList, ← Int.ofNat_tmod, ← Int.ofNat_tdiv, Nat.reduceLT, a178]
  refine CallO.onE (Hs := []) (indexFB f F hf nl n g _ hn) (subH_nil _) (fun r hr => ?_)
  simp -dsimp only [aqT, aqU, aqN, aqS, ↓seqK, ↓blkK, ↓loopK, step, stepBin, Nat.add_assoc nid, ↓reduceIte, Option.toList, ← Int.ofNat_tmod, ← Int.ofNat_tdiv, simprocAttr, BEq.rfl, LN_succ]
  have e : decide (0 ≤ r) = (List.range n).any (fun i => F (g i)) := by
    rw [Bool.eq_iff_iff, decide_eq_true_eq]; exact hr.2
  rw [e]
  refine RetOK.pure (.inl rfl) rfl ?_
  simp [cvT, step, res]
def oddC (b : UInt8) : Bool := outB ((b.toNat : Nat) : Int) 33 126
def respB (s : List UInt8) : Bool := !outB s.length 1 100 && !s.any oddC
theorem oddC_c (b : UInt8) (nid : Nat) : ACall Tryz.prog 179 [.int .u8 ((b.toNat : Nat))] [] nid (.bool (oddC b)) [] := by
  refine acall_run c179 (by simp [a179]) ?_
  simp -dsimp only [aqT, aqU, aqN, aqS, ↓seqK, ↓blkK, ↓loopK, step, stepBin, Nat.add_assoc nid, ↓reduceIte, Option.toList, ← Int.ofNat_tmod, ← Int.ofNat_tdiv, simprocAttr, BEq.rfl, LN_succ, a179]
  refine S2.dec (fun h => ?_) (fun h => ?_) <;> simp -dsimp only [aqT, aqU, aqN, aqS, ↓seqK, ↓blkK, ↓loopK, step, stepBin, Nat.add_assoc nid, ↓reduceIte, Option.toList, ← Int.ofNat_tmod, ← Int.ofNat_tdiv, simprocAttr, BEq.rfl, LN_succ] <;> refine RetOK.pure (.inl rfl) rfl ?_ <;> simp [cvT, step, res, oddC, outB] <;> omega
theorem respR_c (s : List UInt8) (nid : Nat) : ACall Tryz.prog 87 [.str s] [] nid (.bool (respB s)) [] := by
  refine acall_run c87 (by simp [a87]) ?_
  simp -dsimp only [aqT, aqU, aqN, ↓seqK, ↓blkK, ↓loopK, step, stepBin, Nat.reduceBEq, Nat.reduceBeqDiff, Nat.add_assoc nid, Nat.reduceAdd, reduceCtorEq, ↓reduceIte, Nat.reduceLeDiff, Nat.reduceBneDiff, Option.toList, ← Int.ofNat_tmod, ← Int.ofNat_tdiv, Nat.reduceLT, a87]
  refine CallO.pure (in_c _ _ _ _) ?_
  simp -dsimp only [aqT, aqU, aqN, ↓seqK, ↓blkK, ↓loopK, step, stepBin, Nat.reduceBEq, Nat.reduceBeqDiff, Nat.add_assoc nid, Nat.reduceAdd, reduceCtorEq, ↓reduceIte, Nat.reduceLeDiff, Nat.reduceBneDiff, Option.toList, ← Int.ofNat_tmod, ← Int.ofNat_tdiv, Nat.reduceLT]
  unfold respB
  cases h : outB s.length 1 100 <;> simp -dsimp only [aqT, aqU, aqN, aqS, ↓seqK, ↓blkK, ↓loopK, step, stepBin, Nat.add_assoc nid, ↓reduceIte, Option.toList, ← Int.ofNat_tmod, ← Int.ofNat_tdiv, simprocAttr, BEq.rfl, LN_succ, Bool.not_false, Bool.not_true]
  · have hl : s.length ≤ 100 := by unfold outB at h; have := of_decide_eq_false h; omega
    refine CallO.pure (containsFB _ oddC oddC_c _ s.length (fun i => s.getD i 0) _ (by omega)) ?_
    rw [any_range]
    simp -dsimp only [aqT, aqU, aqN, aqS, ↓seqK, ↓blkK, ↓loopK, step, stepBin, Nat.add_assoc nid, ↓reduceIte, Option.toList, ← Int.ofNat_tmod, ← Int.ofNat_tdiv, simprocAttr, BEq.rfl, LN_succ]
    refine RetOK.pure (.inl rfl) rfl ?_
    simp [cvT, step, res]
  · refine RetOK.pure (.inl rfl) rfl ?_
    simp [cvT, step, res]
theorem respD_c (s : List UInt8) (nid : Nat) (hs : s.length ≤ 1000000) : ACall Tryz.prog 153 [.str s] [] nid (.bool (respB s)) [] := by
  refine acall_run c153 (by simp [a153]) ?_
  simp -dsimp only [aqT, aqU, aqN, ↓seqK, ↓blkK, ↓loopK, step, stepBin, Nat.reduceBEq, Nat.reduceBeqDiff, Nat.add_assoc nid, Nat.reduceAdd, reduceCtorEq, ↓reduceIte, Nat.reduceLeDiff, Nat.reduceBneDiff, Option.toList, ← Int.ofNat_tmod, ← Int.ofNat_tdiv, Nat.reduceLT, a153]
  refine LP.mkP (fun k : Nat => k ≤ s.length ∧ ∀ j, j < k → oddC (s.getD j 0) = false) (fun k : Nat => ⟨[(6, .int .i64 k), (5, .int .i64 s.length), (0, .str s)], [], nid + 100, nid⟩) (fun k => s.length + 1 - k) 0 ⟨by omega, fun j hj => by omega⟩ (Cov.go [] [] ?_) (fun k hk => ?_)
  · simp [cvT, step, res]
  obtain ⟨hk, hall⟩ := hk
  simp -dsimp only [aqT, aqU, aqN, aqS, ↓seqK, ↓blkK, ↓loopK, step, stepBin, Nat.add_assoc nid, ↓reduceIte, Option.toList, ← Int.ofNat_tmod, ← Int.ofNat_tdiv, simprocAttr, BEq.rfl, LN_succ]
  refine S2.dec (fun h3 => ?_) (fun h3 => ?_) <;> simp -dsimp only [aqT, aqU, aqN, aqS, ↓seqK, ↓blkK, ↓loopK, step, stepBin, Nat.add_assoc nid, ↓reduceIte, Option.toList, ← Int.ofNat_tmod, ← Int.ofNat_tdiv, simprocAttr, BEq.rfl, LN_succ]
  · have hkl : k < s.length := by omega
    have hw : IntKind.i64.wrap (((s.getD k 0).toNat : Nat) : Int) = (((s.getD k 0).toNat : Nat) : Int) := IntWalk.i64_in _ (by have := (s.getD k 0).toNat_lt; omega)
    refine ⟨by omega, CallO.pure (out_c _ _ _ _) ?_⟩
    rw [hw]
    simp -dsimp only [aqT, aqU, aqN, aqS, ↓seqK, ↓blkK, ↓loopK, step, stepBin, Nat.add_assoc nid, ↓reduceIte, Option.toList, ← Int.ofNat_tmod, ← Int.ofNat_tdiv, simprocAttr, BEq.rfl, LN_succ]
    refine S2.intro (fun h4 => ?_) (fun h4 => ?_) <;> simp -dsimp only [aqT, aqU, aqN, aqS, ↓seqK, ↓blkK, ↓loopK, step, stepBin, Nat.add_assoc nid, ↓reduceIte, Option.toList, ← Int.ofNat_tmod, ← Int.ofNat_tdiv, simprocAttr, BEq.rfl, LN_succ]
    · have e : respB s = false := by
        unfold respB
        rw [← any_range, show (List.range s.length).any (fun i => oddC (s.getD i 0)) = true from List.any_eq_true.2 ⟨k, List.mem_range.2 hkl, h4⟩]
        simp
      rw [e]
      refine RetOK.pure (.inl rfl) rfl ?_
      simp [cvT, step, res]
    · refine ⟨by unfold inI64; omega, k + 1, ⟨⟨by omega, fun j hj => ?_⟩, by omega⟩, Cov.go [] [] ?_⟩
      · rcases (by omega : j < k ∨ j = k) with hj | hj
        · exact hall j hj
        · rw [hj]; exact h4
      · simp [cvT, step, res]
  · have e : respB s = !outB s.length 1 100 := by
      unfold respB
      have : (List.range s.length).any (fun i => oddC (s.getD i 0)) = false := by
        rw [List.any_eq_false]
        intro i hi
        rw [hall i (by have := List.mem_range.1 hi; omega)]
        simp
      rw [← any_range, this]
      simp
    refine CallO.pure (out_c _ _ _ _) ?_
    simp -dsimp only [aqT, aqU, aqN, ↓seqK, ↓blkK, ↓loopK, step, stepBin, Nat.reduceBEq, Nat.reduceBeqDiff, Nat.add_assoc nid, Nat.reduceAdd, reduceCtorEq, ↓reduceIte, Nat.reduceLeDiff, Nat.reduceBneDiff, Option.toList, ← Int.ofNat_tmod, ← Int.ofNat_tdiv, Nat.reduceLT]
    rw [e]
    refine RetOK.pure (.inl rfl) rfl ?_
    simp [cvT, step, res]
end Go.Proofs.YtpifoghhaohhaaaGreatDoor
namespace Go.Proofs.YtpifoghhaohhaaaGreatDoor
open Go.RowKit Go.Shelf Go.Lib
theorem trim_none (s cs : List UInt8) : (Lib.trimS s cs == []) = s.all cs.contains := by
  have key : Lib.trimS s cs = [] ↔ s.all cs.contains = true := by
    unfold Lib.trimS Lib.trimLeftS
    rw [dropW_nil]
    unfold Lib.trimRightS
    constructor
    · intro h
      cases hd : s.reverse.dropWhile cs.contains with
      | nil =>
        rw [dropW_nil, List.all_reverse] at hd
        exact hd
      | cons a r =>
        have hne : s.reverse.dropWhile cs.contains ≠ [] := by rw [hd]; simp
        have hh := List.head_dropWhile_not cs.contains hne
        have hm : ((s.reverse.dropWhile cs.contains).head hne) ∈ (s.reverse.dropWhile cs.contains).reverse := List.mem_reverse.2 (List.head_mem _)
        have := List.all_eq_true.1 h _ hm
        rw [this] at hh
        cases hh
    · intro h
      have : s.reverse.dropWhile cs.contains = [] := by rw [dropW_nil, List.all_reverse]; exact h
      rw [this]
      rfl
  rw [Bool.eq_iff_iff, beq_iff_eq]
  exact key
def keyL : List UInt8 := [97, 98, 99, 100, 101, 102, 103, 104, 105, 106, 107, 108, 109, 110, 111, 112, 113, 114, 115, 116, 117, 118, 119, 120, 121, 122, 48, 49, 50, 51, 52, 53, 54, 55, 56, 57, 45, 95]
def lowL : List UInt8 := [97, 98, 99, 100, 101, 102, 103, 104, 105, 106, 107, 108, 109, 110, 111, 112, 113, 114, 115, 116, 117, 118, 119, 120, 121, 122]
def lowI (c : Int) : Bool := decide (97 ≤ c) && decide (c ≤ 122)
def keyI (c : Int) : Bool := lowI c || (decide (48 ≤ c) && decide (c ≤ 57)) || c == 45 || c == 95
def keyC (b : UInt8) : Bool := keyI ((b.toNat : Nat) : Int)
theorem keyC_in (b : UInt8) : keyL.contains b = keyC b := by
  have h : ∀ n : Nat, n < 256 → keyL.contains n.toUInt8 = keyI (n : Int) := by decide +kernel
  have := h b.toNat (UInt8.toNat_lt b)
  rwa [show b.toNat.toUInt8 = b by simp] at this
theorem lowC_in (b : UInt8) : decide (0 ≤ Lib.indexByte lowL b) = lowI ((b.toNat : Nat) : Int) := by
  have h : ∀ n : Nat, n < 256 → decide (0 ≤ Lib.indexByte lowL n.toUInt8) = lowI (n : Int) := by decide +kernel
  have := h b.toNat (UInt8.toNat_lt b)
  rwa [show b.toNat.toUInt8 = b by simp] at this
def keyB (s : List UInt8) : Bool := !outB s.length 1 40 && s.all keyC && lowI (((s.getD 0 0).toNat : Nat) : Int)
theorem keyR_c (s : List UInt8) (nid : Nat) : ACall Tryz.prog 88 [.str s] [] nid (.bool (keyB s)) [] := by
  refine acall_run c88 (by simp [a88]) ?_
  simp -dsimp only [aqT, aqU, aqN, ↓seqK, ↓blkK, ↓loopK, step, stepBin, Nat.reduceBEq, Nat.reduceBeqDiff, Nat.add_assoc nid, Nat.reduceAdd, reduceCtorEq, ↓reduceIte, Nat.reduceLeDiff, Nat.reduceBneDiff, Option.toList, ← Int.ofNat_tmod, ← Int.ofNat_tdiv, Nat.reduceLT, a88]
  refine CallO.pure (in_c _ _ _ _) ?_
  simp -dsimp only [aqT, aqU, aqN, ↓seqK, ↓blkK, ↓loopK, step, stepBin, Nat.reduceBEq, Nat.reduceBeqDiff, Nat.add_assoc nid, Nat.reduceAdd, reduceCtorEq, ↓reduceIte, Nat.reduceLeDiff, Nat.reduceBneDiff, Option.toList, ← Int.ofNat_tmod, ← Int.ofNat_tdiv, Nat.reduceLT]
  have ht : (Lib.trimS s keyL == []) = s.all keyC := by rw [trim_none]; congr 1; funext b; exact keyC_in b
  unfold keyL at ht
  have hi := lowC_in (s.getD 0 0)
  unfold lowL at hi
  unfold keyB
  cases h : outB s.length 1 40 <;> simp -dsimp only [aqT, aqU, aqN, aqS, ↓seqK, ↓blkK, ↓loopK, step, stepBin, Nat.add_assoc nid, ↓reduceIte, Option.toList, ← Int.ofNat_tmod, ← Int.ofNat_tdiv, simprocAttr, BEq.rfl, LN_succ, Bool.not_false, Bool.not_true]
  · have hl : 1 ≤ s.length ∧ s.length ≤ 40 := by unfold outB at h; have := of_decide_eq_false h; omega
    refine CallO.pure (trim_cc s _ _ (by omega) (by decide) (by decide)) ?_
    simp -dsimp only [aqT, aqU, aqN, aqS, ↓seqK, ↓blkK, ↓loopK, step, stepBin, Nat.add_assoc nid, ↓reduceIte, Option.toList, ← Int.ofNat_tmod, ← Int.ofNat_tdiv, simprocAttr, BEq.rfl, LN_succ]
    rw [ht]
    cases h2 : s.all keyC <;> simp -dsimp only [aqT, aqU, aqN, aqS, ↓seqK, ↓blkK, ↓loopK, step, stepBin, Nat.add_assoc nid, ↓reduceIte, Option.toList, ← Int.ofNat_tmod, ← Int.ofNat_tdiv, simprocAttr, BEq.rfl, LN_succ, Bool.not_false, Bool.not_true]
    · refine RetOK.pure (.inl rfl) rfl ?_
      simp [cvT, step, res]
    · refine ⟨by omega, ?_⟩
      refine CallO.pure (indexK_c _ _ _) ?_
      simp -dsimp only [aqT, aqU, aqN, aqS, ↓seqK, ↓blkK, ↓loopK, step, stepBin, Nat.add_assoc nid, ↓reduceIte, Option.toList, ← Int.ofNat_tmod, ← Int.ofNat_tdiv, simprocAttr, BEq.rfl, LN_succ]
      rw [show (s.getD 0 0).toNat.toUInt8 = s.getD 0 0 by simp, hi]
      refine RetOK.pure (.inl rfl) rfl ?_
      simp [cvT, step, res]
  · refine RetOK.pure (.inl rfl) rfl ?_
    simp [cvT, step, res]
theorem keyI_iff {c : Int} : keyI c = true ↔ (97 ≤ c ∧ c ≤ 122) ∨ (48 ≤ c ∧ c ≤ 57) ∨ c = 45 ∨ c = 95 := by
  unfold keyI lowI
  simp only [Bool.or_eq_true, Bool.and_eq_true, decide_eq_true_eq, beq_iff_eq]
  omega
theorem keyI_no {c : Int} (h : ¬ ((97 ≤ c ∧ c ≤ 122) ∨ (48 ≤ c ∧ c ≤ 57) ∨ c = 45 ∨ c = 95)) : keyI c = false := by
  have := mt keyI_iff.1 h
  simpa using this
theorem keyB_bad {s : List UInt8} (h : s.length < 1 ∨ 40 < s.length ∨ (((s.getD 0 0).toNat : Nat) : Int) < 97 ∨ (122 : Int) < ((s.getD 0 0).toNat : Nat)) : keyB s = false := by
  have : ¬ keyB s = true := fun e => by
    unfold keyB outB lowI at e
    simp only [Bool.and_eq_true, Bool.not_eq_true', decide_eq_true_eq, decide_eq_false_iff_not] at e
    omega
  simpa using this
theorem keyB_good {s : List UInt8} (h1 : 1 ≤ s.length) (h2 : s.length ≤ 40) (h3 : (97 : Int) ≤ ((s.getD 0 0).toNat : Nat)) (h4 : (((s.getD 0 0).toNat : Nat) : Int) ≤ 122) : keyB s = s.all keyC := by
  have a : outB s.length 1 40 = false := by unfold outB; exact decide_eq_false (by omega)
  have b : lowI (((s.getD 0 0).toNat : Nat) : Int) = true := by unfold lowI; rw [decide_eq_true h3, decide_eq_true h4]; rfl
  unfold keyB
  rw [a, b, Bool.and_true, Bool.not_false, Bool.true_and]
theorem keyC_all {s : List UInt8} (h : ∀ j, j < s.length → keyC (s.getD j 0) = true) : s.all keyC = true := by
  rw [List.all_eq_true]
  intro x hx
  obtain ⟨j, hj, rfl⟩ := List.getElem_of_mem hx
  have := h j hj
  rwa [List.getD_eq_getElem?_getD, List.getElem?_eq_getElem hj] at this
theorem keyC_not {s : List UInt8} {k : Nat} (hk : k < s.length) (h : keyC (s.getD k 0) = false) : s.all keyC = false := by
  rw [List.all_eq_false]
  refine ⟨s[k], List.getElem_mem _, ?_⟩
  rw [List.getD_eq_getElem?_getD, List.getElem?_eq_getElem hk] at h
  rw [show s[k] = (some s[k]).getD 0 from rfl, h]
  simp
set_option maxHeartbeats 1000000 in
theorem keyD_c (s : List UInt8) (nid : Nat) (hs : s.length ≤ 1000000) : ACall Tryz.prog 154 [.str s] [] nid (.bool (keyB s)) [] := by
  refine acall_sr c154 (by simp [a154]) ?_
  unfold a154
  refine SR.seq ?_
  simp -dsimp only [aqT, aqU, aqN, aqS, ↓seqK, ↓blkK, ↓loopK, step, stepBin, Nat.add_assoc nid, ↓reduceIte, Option.toList, ← Int.ofNat_tmod, ← Int.ofNat_tdiv, simprocAttr, BEq.rfl, LN_succ]
  refine SR.seqW (ι := {_u : Unit // (1 ≤ s.length ∧ s.length ≤ 40) ∧ (97 : Int) ≤ ((s.getD 0 0).toNat : Nat) ∧ (((s.getD 0 0).toNat : Nat) : Int) ≤ 122}) (fun _ => ⟨[(0, .str s)], [], nid + 80, nid⟩) ?_ (fun ⟨_, ⟨h1, h2⟩, h3, h4⟩ => ?_)
  · refine SR.run (t := .mk) ?_
    simp -dsimp only [aqT, aqU, aqN, aqS, ↓seqK, ↓blkK, ↓loopK, step, stepBin, Nat.add_assoc nid, ↓reduceIte, Option.toList, ← Int.ofNat_tmod, ← Int.ofNat_tdiv, simprocAttr, BEq.rfl, LN_succ]
    refine S2.intro (fun h1 => ?_) (fun h1 => ?_) <;> simp -dsimp only [aqT, aqU, aqN, aqS, ↓seqK, ↓blkK, ↓loopK, step, stepBin, Nat.add_assoc nid, ↓reduceIte, Option.toList, ← Int.ofNat_tmod, ← Int.ofNat_tdiv, simprocAttr, BEq.rfl, LN_succ]
    · rw [keyB_bad (.inl (by simp at h1; subst h1; simp))]
      refine RetOK.pure (.inl rfl) rfl ?_
      simp [cvT, step, res]
    have h1 : 1 ≤ s.length := by have : s ≠ [] := by simpa using h1
                                 have := List.length_pos_iff.2 this
                                 omega
    refine S2.dec (fun h2 => ?_) (fun h2 => ?_) <;> simp -dsimp only [aqT, aqU, aqN, aqS, ↓seqK, ↓blkK, ↓loopK, step, stepBin, Nat.add_assoc nid, ↓reduceIte, Option.toList, ← Int.ofNat_tmod, ← Int.ofNat_tdiv, simprocAttr, BEq.rfl, LN_succ]
    · rw [keyB_bad (.inr (.inl (by omega)))]
      refine RetOK.pure (.inl rfl) rfl ?_
      simp [cvT, step, res]
    refine ⟨by omega, ?_⟩
    refine S2.dec (fun h3 => ?_) (fun h3 => ?_) <;> simp -dsimp only [aqT, aqU, aqN, aqS, ↓seqK, ↓blkK, ↓loopK, step, stepBin, Nat.add_assoc nid, ↓reduceIte, Option.toList, ← Int.ofNat_tmod, ← Int.ofNat_tdiv, simprocAttr, BEq.rfl, LN_succ]
    · rw [keyB_bad (.inr (.inr (.inl (by omega))))]
      refine RetOK.pure (.inl rfl) rfl ?_
      simp [cvT, step, res]
    refine ⟨by omega, ?_⟩
    refine S2.dec (fun h4 => ?_) (fun h4 => ?_) <;> simp -dsimp only [aqT, aqU, aqN, aqS, ↓seqK, ↓blkK, ↓loopK, step, stepBin, Nat.add_assoc nid, ↓reduceIte, Option.toList, ← Int.ofNat_tmod, ← Int.ofNat_tdiv, simprocAttr, BEq.rfl, LN_succ]
    · rw [keyB_bad (.inr (.inr (.inr (by omega))))]
      refine RetOK.pure (.inl rfl) rfl ?_
      simp [cvT, step, res]
    refine ⟨⟨(), ⟨h1, by omega⟩, by omega, by omega⟩, Cov.drop (by omega) ?_⟩
    simp only [SlotsIn, aqT, aqU, aqN, ↓seqK, ↓blkK, ↓loopK, step, stepBin, Nat.reduceBEq, Nat.reduceBeqDiff, Nat.add_assoc nid, Nat.reduceAdd, reduceCtorEq, ↓reduceIte, Nat.reduceLeDiff, Nat.reduceBneDiff, Option.toList, ← Int.ofNat_tmod, ← Int.ofNat_tdiv, Nat.reduceLT]
    try simp
  rw [keyB_good h1 h2 h3 h4]
  clear h3 h4
  refine SR.seqW (ι := {_u : Unit // s.all keyC = true}) (fun _ => ⟨[(0, .str s)], [], nid + 400, nid⟩) ?_ (fun ⟨_, h5⟩ => ?_)
  · refine SR.seqTo ⟨[(24, .int .i64 0), (23, .int .i64 s.length), (0, .str s)], [], nid + 100, nid⟩ ?_ ?_
    · simp -dsimp only [aqT, aqU, aqN, aqS, ↓seqK, ↓blkK, ↓loopK, step, stepBin, Nat.add_assoc nid, ↓reduceIte, Option.toList, ← Int.ofNat_tmod, ← Int.ofNat_tdiv, simprocAttr, BEq.rfl, LN_succ]
      refine Cov.drop (by omega) ?_
      simp only [SlotsIn, aqT, aqU, aqN, ↓seqK, ↓blkK, ↓loopK, step, stepBin, Nat.reduceBEq, Nat.reduceBeqDiff, Nat.add_assoc nid, Nat.reduceAdd, reduceCtorEq, ↓reduceIte, Nat.reduceLeDiff, Nat.reduceBneDiff, Option.toList, ← Int.ofNat_tmod, ← Int.ofNat_tdiv, Nat.reduceLT]
      try simp
    refine SR.block ?_
    refine SR.loopP (fun k : Nat => k ≤ s.length ∧ ∀ j, j < k → keyC (s.getD j 0) = true) (fun k : Nat => ⟨[(24, .int .i64 k), (23, .int .i64 s.length), (0, .str s)], [], nid + 100, nid⟩) (fun k => s.length + 1 - k) 0 ⟨by omega, fun j hj => by omega⟩ (Cov.drop (by omega) ?_) (fun k hk => ?_)
    · simp only [SlotsIn, aqT, aqU, aqN, ↓seqK, ↓blkK, ↓loopK, step, stepBin, Nat.reduceBEq, Nat.reduceBeqDiff, Nat.add_assoc nid, Nat.reduceAdd, reduceCtorEq, ↓reduceIte, Nat.reduceLeDiff, Nat.reduceBneDiff, Option.toList, ← Int.ofNat_tmod, ← Int.ofNat_tdiv, Nat.reduceLT]
      try simp
    obtain ⟨hk, hall⟩ := hk
    refine SR.seq ?_
    simp -dsimp only [aqT, aqU, aqN, aqS, ↓seqK, ↓blkK, ↓loopK, step, stepBin, Nat.add_assoc nid, ↓reduceIte, Option.toList, ← Int.ofNat_tmod, ← Int.ofNat_tdiv, simprocAttr, BEq.rfl, LN_succ]
    refine SR.seq ?_
    simp -dsimp only [aqT, aqU, aqN, aqS, ↓seqK, ↓blkK, ↓loopK, step, stepBin, Nat.add_assoc nid, ↓reduceIte, Option.toList, ← Int.ofNat_tmod, ← Int.ofNat_tdiv, simprocAttr, BEq.rfl, LN_succ]
    refine S2.dec (fun h3 => ?_) (fun h3 => ?_) <;> simp -dsimp only [aqT, aqU, aqN, aqS, ↓seqK, ↓blkK, ↓loopK, step, stepBin, Nat.add_assoc nid, ↓reduceIte, Option.toList, ← Int.ofNat_tmod, ← Int.ofNat_tdiv, simprocAttr, BEq.rfl, LN_succ]
    · have hkl : k < s.length := by omega
      have hno := keyC_not hkl
      have hyes : keyC (s.getD k 0) = true → ∀ j, j < k + 1 → keyC (s.getD j 0) = true := fun h j hj => by
        rcases (by omega : j < k ∨ j = k) with hj | hj
        · exact hall j hj
        · rw [hj]; exact h
      have ek : keyC (s.getD k 0) = keyI (((s.getD k 0).toNat : Nat) : Int) := rfl
      rw [ek] at hno hyes
      clear ek hall h3
      refine SR.seqW (ι := {_u : Unit // keyI (((s.getD k 0).toNat : Nat) : Int) = true}) (fun _ => ⟨[(24, .int .i64 k), (23, .int .i64 s.length), (0, .str s)], [], nid + 400, nid⟩) ?_ (fun ⟨_, h6⟩ => ?_)
      · refine SR.block ?_
        refine SR.seq ?_
        simp -dsimp only [aqT, aqU, aqN, aqS, ↓seqK, ↓blkK, ↓loopK, step, stepBin, Nat.add_assoc nid, ↓reduceIte, Option.toList, ← Int.ofNat_tmod, ← Int.ofNat_tdiv, simprocAttr, BEq.rfl, LN_succ]
        refine SR.seqTo ⟨[(4, .int .u8 (((s.getD k 0).toNat : Nat) : Int)), (24, .int .i64 k), (23, .int .i64 s.length), (0, .str s)], [], nid + 200, nid⟩ ?_ ?_
        · simp -dsimp only [aqT, aqU, aqN, aqS, ↓seqK, ↓blkK, ↓loopK, step, stepBin, Nat.add_assoc nid, ↓reduceIte, Option.toList, ← Int.ofNat_tmod, ← Int.ofNat_tdiv, simprocAttr, BEq.rfl, LN_succ]
          refine ⟨by omega, Cov.drop (by omega) ?_⟩
          simp only [SlotsIn, aqT, aqU, aqN, ↓seqK, ↓blkK, ↓loopK, step, stepBin, Nat.reduceBEq, Nat.reduceBeqDiff, Nat.add_assoc nid, Nat.reduceAdd, reduceCtorEq, ↓reduceIte, Nat.reduceLeDiff, Nat.reduceBneDiff, Option.toList, ← Int.ofNat_tmod, ← Int.ofNat_tdiv, Nat.reduceLT]
          try simp
        clear hyes
        generalize (((s.getD k 0).toNat : Nat) : Int) = c at *
        refine SR.seqTo ⟨[(52, .bool (!keyI c)), (24, .int .i64 k), (23, .int .i64 s.length), (0, .str s)], [], nid + 300, nid⟩ ?_ ?_
        · have cls : (97 ≤ c ∧ c ≤ 122) ∨ (48 ≤ c ∧ c ≤ 57) ∨ c = 45 ∨ c = 95 ∨ 122 < c ∨ (57 < c ∧ c < 97 ∧ c ≠ 95) ∨ (c < 48 ∧ c ≠ 45) := by omega
          clear hno
          rcases cls with hc | hc | hc | hc | hc | hc | hc
          · rw [keyI_iff.2 (by omega)]
            simp -dsimp only [aqT, aqU, aqN, aqS, ↓seqK, ↓blkK, ↓loopK, step, stepBin, Nat.add_assoc nid, ↓reduceIte, Option.toList, ← Int.ofNat_tmod, ← Int.ofNat_tdiv, simprocAttr, BEq.rfl, LN_succ, decide_eq_true hc.1, decide_eq_true hc.2]
            exact Cov.drop (by omega) (by simp only [SlotsIn, aqT, aqU, aqN, ↓seqK, ↓blkK, ↓loopK, step, stepBin, Nat.reduceBEq, Nat.reduceBeqDiff, Nat.add_assoc nid, Nat.reduceAdd, reduceCtorEq, ↓reduceIte, Nat.reduceLeDiff, Nat.reduceBneDiff, Option.toList, ← Int.ofNat_tmod, ← Int.ofNat_tdiv, Nat.reduceLT])
          · rw [keyI_iff.2 (by omega)]
            simp -dsimp only [aqT, aqU, aqN, aqS, ↓seqK, ↓blkK, ↓loopK, step, stepBin, Nat.add_assoc nid, ↓reduceIte, Option.toList, ← Int.ofNat_tmod, ← Int.ofNat_tdiv, simprocAttr, BEq.rfl, LN_succ, decide_eq_false (show ¬ (97 : Int) ≤ c by omega), decide_eq_true hc.1, decide_eq_true hc.2]
            exact Cov.drop (by omega) (by simp only [SlotsIn, aqT, aqU, aqN, ↓seqK, ↓blkK, ↓loopK, step, stepBin, Nat.reduceBEq, Nat.reduceBeqDiff, Nat.add_assoc nid, Nat.reduceAdd, reduceCtorEq, ↓reduceIte, Nat.reduceLeDiff, Nat.reduceBneDiff, Option.toList, ← Int.ofNat_tmod, ← Int.ofNat_tdiv, Nat.reduceLT])
          · rw [keyI_iff.2 (by omega)]
            simp -dsimp only [aqT, aqU, aqN, aqS, ↓seqK, ↓blkK, ↓loopK, step, stepBin, Nat.add_assoc nid, ↓reduceIte, Option.toList, ← Int.ofNat_tmod, ← Int.ofNat_tdiv, simprocAttr, BEq.rfl, LN_succ, decide_eq_false (show ¬ (97 : Int) ≤ c by omega), decide_eq_false (show ¬ (48 : Int) ≤ c by omega), show (c == 45) = true by simp [hc]]
            exact Cov.drop (by omega) (by simp only [SlotsIn, aqT, aqU, aqN, ↓seqK, ↓blkK, ↓loopK, step, stepBin, Nat.reduceBEq, Nat.reduceBeqDiff, Nat.add_assoc nid, Nat.reduceAdd, reduceCtorEq, ↓reduceIte, Nat.reduceLeDiff, Nat.reduceBneDiff, Option.toList, ← Int.ofNat_tmod, ← Int.ofNat_tdiv, Nat.reduceLT])
          · rw [keyI_iff.2 (by omega)]
            simp -dsimp only [aqT, aqU, aqN, aqS, ↓seqK, ↓blkK, ↓loopK, step, stepBin, Nat.add_assoc nid, ↓reduceIte, Option.toList, ← Int.ofNat_tmod, ← Int.ofNat_tdiv, simprocAttr, BEq.rfl, LN_succ, decide_eq_false (show ¬ (97 : Int) ≤ c by omega), decide_eq_true (show (48 : Int) ≤ c by omega), decide_eq_false (show ¬ c ≤ (57 : Int) by omega), show (c == 45) = false by simp [hc], show (c == 95) = true by simp [hc]]
            exact Cov.drop (by omega) (by simp only [SlotsIn, aqT, aqU, aqN, ↓seqK, ↓blkK, ↓loopK, step, stepBin, Nat.reduceBEq, Nat.reduceBeqDiff, Nat.add_assoc nid, Nat.reduceAdd, reduceCtorEq, ↓reduceIte, Nat.reduceLeDiff, Nat.reduceBneDiff, Option.toList, ← Int.ofNat_tmod, ← Int.ofNat_tdiv, Nat.reduceLT])
          · rw [keyI_no (by omega)]
            simp -dsimp only [aqT, aqU, aqN, aqS, ↓seqK, ↓blkK, ↓loopK, step, stepBin, Nat.add_assoc nid, ↓reduceIte, Option.toList, ← Int.ofNat_tmod, ← Int.ofNat_tdiv, simprocAttr, BEq.rfl, LN_succ, decide_eq_true (show (97 : Int) ≤ c by omega), decide_eq_false (show ¬ c ≤ (122 : Int) by omega), decide_eq_true (show (48 : Int) ≤ c by omega), decide_eq_false (show ¬ c ≤ (57 : Int) by omega), show (c == 45) = false by simp; omega, show (c == 95) = false by simp; omega]
            exact Cov.drop (by omega) (by simp only [SlotsIn, aqT, aqU, aqN, ↓seqK, ↓blkK, ↓loopK, step, stepBin, Nat.reduceBEq, Nat.reduceBeqDiff, Nat.add_assoc nid, Nat.reduceAdd, reduceCtorEq, ↓reduceIte, Nat.reduceLeDiff, Nat.reduceBneDiff, Option.toList, ← Int.ofNat_tmod, ← Int.ofNat_tdiv, Nat.reduceLT])
          · rw [keyI_no (by omega)]
            simp -dsimp only [aqT, aqU, aqN, aqS, ↓seqK, ↓blkK, ↓loopK, step, stepBin, Nat.add_assoc nid, ↓reduceIte, Option.toList, ← Int.ofNat_tmod, ← Int.ofNat_tdiv, simprocAttr, BEq.rfl, LN_succ, decide_eq_false (show ¬ (97 : Int) ≤ c by omega), decide_eq_true (show (48 : Int) ≤ c by omega), decide_eq_false (show ¬ c ≤ (57 : Int) by omega), show (c == 45) = false by simp; omega, show (c == 95) = false by simp; omega]
            exact Cov.drop (by omega) (by simp only [SlotsIn, aqT, aqU, aqN, ↓seqK, ↓blkK, ↓loopK, step, stepBin, Nat.reduceBEq, Nat.reduceBeqDiff, Nat.add_assoc nid, Nat.reduceAdd, reduceCtorEq, ↓reduceIte, Nat.reduceLeDiff, Nat.reduceBneDiff, Option.toList, ← Int.ofNat_tmod, ← Int.ofNat_tdiv, Nat.reduceLT])
          · rw [keyI_no (by omega)]
            simp -dsimp only [aqT, aqU, aqN, aqS, ↓seqK, ↓blkK, ↓loopK, step, stepBin, Nat.add_assoc nid, ↓reduceIte, Option.toList, ← Int.ofNat_tmod, ← Int.ofNat_tdiv, simprocAttr, BEq.rfl, LN_succ, decide_eq_false (show ¬ (97 : Int) ≤ c by omega), decide_eq_false (show ¬ (48 : Int) ≤ c by omega), show (c == 45) = false by simp; omega, show (c == 95) = false by simp; omega]
            exact Cov.drop (by omega) (by simp only [SlotsIn, aqT, aqU, aqN, ↓seqK, ↓blkK, ↓loopK, step, stepBin, Nat.reduceBEq, Nat.reduceBeqDiff, Nat.add_assoc nid, Nat.reduceAdd, reduceCtorEq, ↓reduceIte, Nat.reduceLeDiff, Nat.reduceBneDiff, Option.toList, ← Int.ofNat_tmod, ← Int.ofNat_tdiv, Nat.reduceLT])
        refine SR.run (t := .mk) ?_
        cases hb : keyI c
        · rw [hno hb]
          simp -dsimp only [aqT, aqU, aqN, aqS, ↓seqK, ↓blkK, ↓loopK, step, stepBin, Nat.add_assoc nid, ↓reduceIte, Option.toList, ← Int.ofNat_tmod, ← Int.ofNat_tdiv, simprocAttr, BEq.rfl, LN_succ]
          refine RetOK.pure (.inl rfl) rfl ?_
          simp [cvT, step, res]
        · simp -dsimp only [aqT, aqU, aqN, aqS, ↓seqK, ↓blkK, ↓loopK, step, stepBin, Nat.add_assoc nid, ↓reduceIte, Option.toList, ← Int.ofNat_tmod, ← Int.ofNat_tdiv, simprocAttr, BEq.rfl, LN_succ]
          refine ⟨⟨(), rfl⟩, Cov.drop (by omega) ?_⟩
          simp only [SlotsIn, aqT, aqU, aqN, ↓seqK, ↓blkK, ↓loopK, step, stepBin, Nat.reduceBEq, Nat.reduceBeqDiff, Nat.add_assoc nid, Nat.reduceAdd, reduceCtorEq, ↓reduceIte, Nat.reduceLeDiff, Nat.reduceBneDiff, Option.toList, ← Int.ofNat_tmod, ← Int.ofNat_tdiv, Nat.reduceLT]
          try simp
      refine SR.run (t := .mk) ?_
      simp -dsimp only [aqT, aqU, aqN, aqS, ↓seqK, ↓blkK, ↓loopK, step, stepBin, Nat.add_assoc nid, ↓reduceIte, Option.toList, ← Int.ofNat_tmod, ← Int.ofNat_tdiv, simprocAttr, BEq.rfl, LN_succ]
      refine ⟨by unfold inI64; omega, k + 1, ⟨⟨by omega, hyes h6⟩, by omega⟩, Cov.go [] [] ?_⟩
      simp [cvT, step, res]
    · refine ⟨⟨(), keyC_all (fun j hj => hall j (by omega))⟩, Cov.drop (by omega) ?_⟩
      simp only [SlotsIn, aqT, aqU, aqN, ↓seqK, ↓blkK, ↓loopK, step, stepBin, Nat.reduceBEq, Nat.reduceBeqDiff, Nat.add_assoc nid, Nat.reduceAdd, reduceCtorEq, ↓reduceIte, Nat.reduceLeDiff, Nat.reduceBneDiff, Option.toList, ← Int.ofNat_tmod, ← Int.ofNat_tdiv, Nat.reduceLT]
      try simp
  · rw [h5]
    refine SR.run (t := .mk) ?_
    simp -dsimp only [aqT, aqU, aqN, aqS, ↓seqK, ↓blkK, ↓loopK, step, stepBin, Nat.add_assoc nid, ↓reduceIte, Option.toList, ← Int.ofNat_tmod, ← Int.ofNat_tdiv, simprocAttr, BEq.rfl, LN_succ]
    refine RetOK.pure (.inl rfl) rfl ?_
    simp [cvT, step, res]
end Go.Proofs.YtpifoghhaohhaaaGreatDoor
namespace Go.Proofs.YtpifoghhaohhaaaGreatDoor
open Go.RowKit Go.Shelf Go.Lib
theorem getD_lt {l : List (List UInt8)} {k : Nat} (hk : k < l.length) : l.getD k [] = l[k] := by rw [List.getD_eq_getElem?_getD, List.getElem?_eq_getElem hk]; rfl
def idxF (F : List UInt8 → Bool) (l : List (List UInt8)) : Int := if l.any F = true then ((l.findIdx F : Nat) : Int) else -1
theorem idxF_at {F : List UInt8 → Bool} {l : List (List UInt8)} {k : Nat} (hk : k < l.length) (h : F (l.getD k []) = true) (h0 : ∀ j, j < k → F (l.getD j []) = false) : idxF F l = (k : Nat) := by
  have e : l.findIdx F = k := (List.findIdx_eq hk).2 ⟨by rw [getD_lt hk] at h; exact h, fun j hj => by have := h0 j hj; rw [getD_lt (by omega)] at this; exact this⟩
  unfold idxF
  rw [if_pos, e]
  refine List.any_eq_true.2 ⟨l[k], List.getElem_mem hk, ?_⟩
  rw [getD_lt hk] at h; exact h
theorem idxF_no {F : List UInt8 → Bool} {l : List (List UInt8)} (h0 : ∀ j, j < l.length → F (l.getD j []) = false) : idxF F l = -1 := by
  unfold idxF
  rw [if_neg]
  intro h
  obtain ⟨x, hx, hf⟩ := List.any_eq_true.1 h
  obtain ⟨j, hj, rfl⟩ := List.getElem_of_mem hx
  have := h0 j hj
  rw [getD_lt hj, hf] at this; cases this
theorem indexM_c (f : Nat) (F : List UInt8 → Bool) (nl : Bool) (l : List (List UInt8)) (nid : Nat) (hl : l.length ≤ 1000000) (hs : ShortRows 1000000 l) (hf : ∀ x m, x.length ≤ 1000000 → ACall Tryz.prog f [.str x] [] m (.bool (F x)) []) :
    ACall Tryz.prog 151 [litS nl l, .fn f []] [] nid (.int .i64 (idxF F l)) [] := by
  refine acall_run c151 (by simp [a151]) ?_
  unfold litS
  simp -dsimp only [aqT, aqU, aqN, aqS, ↓seqK, ↓blkK, ↓loopK, step, stepBin, Nat.add_assoc nid, ↓reduceIte, Option.toList, ← Int.ofNat_tmod, ← Int.ofNat_tdiv, simprocAttr, BEq.rfl, LN_succ, a151]
  refine LP.mkP (fun k : Nat => k ≤ l.length ∧ ∀ j, j < k → F (l.getD j []) = false) (fun k : Nat => ⟨[(8, .int .i64 k), (7, .int .i64 l.length), (0, litS nl l), (1, .fn f [])], [], nid + 100, nid⟩) (fun k => l.length + 1 - k) 0 ⟨by omega, fun j hj => by omega⟩ (Cov.go [] [] ?_) (fun k hk => ?_)
  · simp [cvT, step, res, litS]
  obtain ⟨hk, hb⟩ := hk
  unfold litS
  simp -dsimp only [aqT, aqU, aqN, aqS, ↓seqK, ↓blkK, ↓loopK, step, stepBin, Nat.add_assoc nid, ↓reduceIte, Option.toList, ← Int.ofNat_tmod, ← Int.ofNat_tdiv, simprocAttr, BEq.rfl, LN_succ]
  refine S2.dec (fun h3 => ?_) (fun h3 => ?_) <;> simp -dsimp only [aqT, aqU, aqN, aqS, ↓seqK, ↓blkK, ↓loopK, step, stepBin, Nat.add_assoc nid, ↓reduceIte, Option.toList, ← Int.ofNat_tmod, ← Int.ofNat_tdiv, simprocAttr, BEq.rfl, LN_succ]
  · have hkl : k < l.length := by omega
    have hat := fun h => idxF_at (F := F) hkl h hb
    have hnx : F (l.getD k []) = false → ∀ j, j < k + 1 → F (l.getD j []) = false := fun h j hj => by
      by_cases e : j = k
      · rw [e]; exact h
      · exact hb j (by omega)
    have hx := hs.at k
    generalize l.getD k [] = x at *
    refine ⟨by omega, CallO.pure (hf x _ hx) ?_⟩
    simp -dsimp only [aqT, aqU, aqN, aqS, ↓seqK, ↓blkK, ↓loopK, step, stepBin, Nat.add_assoc nid, ↓reduceIte, Option.toList, ← Int.ofNat_tmod, ← Int.ofNat_tdiv, simprocAttr, BEq.rfl, LN_succ]
    cases hx : F x <;> simp -dsimp only [aqT, aqU, aqN, aqS, ↓seqK, ↓blkK, ↓loopK, step, stepBin, Nat.add_assoc nid, ↓reduceIte, Option.toList, ← Int.ofNat_tmod, ← Int.ofNat_tdiv, simprocAttr, BEq.rfl, LN_succ]
    · refine ⟨by unfold inI64; omega, k + 1, ⟨⟨by omega, hnx hx⟩, by omega⟩, Cov.go [] [] ?_⟩
      simp [cvT, step, res, litS]
    · rw [hat hx]
      refine RetOK.pure (.inl rfl) rfl ?_
      simp [cvT, step, res]
  · have hkn : k = l.length := by omega
    subst hkn
    rw [idxF_no hb]
    refine RetOK.pure (.inl rfl) rfl ?_
    simp [cvT, step, res]
theorem containsM_c (f : Nat) (F : List UInt8 → Bool) (nl : Bool) (l : List (List UInt8)) (nid : Nat) (hl : l.length ≤ 1000000) (hs : ShortRows 1000000 l) (hf : ∀ x m, x.length ≤ 1000000 → ACall Tryz.prog f [.str x] [] m (.bool (F x)) []) :
    ACall Tryz.prog 61 [litS nl l, .fn f []] [] nid (.bool (l.any F)) [] := by
  have e : decide (0 ≤ idxF F l) = l.any F := by
    unfold idxF
    cases h : l.any F <;> simp
  refine acall_run c61 (by simp [a61]) ?_
  simp -dsimp only [aqT, aqU, aqN, aqS, ↓seqK, ↓blkK, ↓loopK, step, stepBin, Nat.add_assoc nid, ↓reduceIte, Option.toList, ← Int.ofNat_tmod, ← Int.ofNat_tdiv, simprocAttr, BEq.rfl, LN_succ, a61]
  refine CallO.pure (indexM_c f F nl l _ hl hs hf) ?_
  simp -dsimp only [aqT, aqU, aqN, aqS, ↓seqK, ↓blkK, ↓loopK, step, stepBin, Nat.add_assoc nid, ↓reduceIte, Option.toList, ← Int.ofNat_tmod, ← Int.ofNat_tdiv, simprocAttr, BEq.rfl, LN_succ]
  rw [e]
  refine RetOK.pure (.inl rfl) rfl ?_
  simp [cvT, step, res]
def oddS (s : List UInt8) : Bool := !respB s
theorem oddR_c (s : List UInt8) (nid : Nat) (hs : s.length ≤ 1000000) : ACall Tryz.prog 86 [.str s] [] nid (.bool (oddS s)) [] := by
  refine acall_run c86 (by simp [a86]) ?_
  simp -dsimp only [aqT, aqU, aqN, aqS, ↓seqK, ↓blkK, ↓loopK, step, stepBin, Nat.add_assoc nid, ↓reduceIte, Option.toList, ← Int.ofNat_tmod, ← Int.ofNat_tdiv, simprocAttr, BEq.rfl, LN_succ, a86]
  refine CallO.pure (respR_c _ _) ?_
  simp -dsimp only [aqT, aqU, aqN, ↓seqK, ↓blkK, ↓loopK, step, stepBin, Nat.reduceBEq, Nat.reduceBeqDiff, Nat.add_assoc nid, Nat.reduceAdd, reduceCtorEq, ↓reduceIte, Nat.reduceLeDiff, Nat.reduceBneDiff, Option.toList, ← Int.ofNat_tmod, ← Int.ofNat_tdiv, Nat.reduceLT]
  refine RetOK.pure (.inl rfl) rfl ?_
  simp [cvT, step, res, oddS]
theorem oddD_c (s : List UInt8) (nid : Nat) (hs : s.length ≤ 1000000) : ACall Tryz.prog 152 [.str s] [] nid (.bool (oddS s)) [] := by
  refine acall_run c152 (by simp [a152]) ?_
  simp -dsimp only [aqT, aqU, aqN, aqS, ↓seqK, ↓blkK, ↓loopK, step, stepBin, Nat.add_assoc nid, ↓reduceIte, Option.toList, ← Int.ofNat_tmod, ← Int.ofNat_tdiv, simprocAttr, BEq.rfl, LN_succ, a152]
  refine CallO.pure (respD_c _ _ hs) ?_
  simp -dsimp only [aqT, aqU, aqN, ↓seqK, ↓blkK, ↓loopK, step, stepBin, Nat.reduceBEq, Nat.reduceBeqDiff, Nat.add_assoc nid, Nat.reduceAdd, reduceCtorEq, ↓reduceIte, Nat.reduceLeDiff, Nat.reduceBneDiff, Option.toList, ← Int.ofNat_tmod, ← Int.ofNat_tdiv, Nat.reduceLT]
  refine RetOK.pure (.inl rfl) rfl ?_
  simp [cvT, step, res, oddS]
def rowBad (n : Nat) (R : RowL) (k : Nat) : Int :=
  if keyB (rowF R k) = false then 5 else if (rowR R k).length ≠ n then 3 else if (rowR R k).any oddS = true then 9 else if 0 < k ∧ (Op.bytesLess (rowF R k) (rowF R (k - 1)) || rowF R k == rowF R (k - 1)) = true then 7 else 0
def dictV (G : List (List UInt8)) (R : RowL) : Int :=
  if G.length = 0 then 8 else if 100 < G.length ∨ 300 < R.length then 2 else if G.any oddS = true then 9 else firstBad (rowBad G.length R) (List.range R.length)
structure DictW (G : List (List UInt8)) (R : RowL) : Prop where
  gl : G.length ≤ 1000000
  gs : ShortRows 1000000 G
  rl : R.length ≤ 1000000
  rs : ∀ k, (rowF R k).length ≤ 1000000 ∧ (rowR R k).length ≤ 1000000 ∧ ShortRows 1000000 (rowR R k)
theorem firstR_hit {f : Nat → Int} {n k : Nat} (hk : k < n) (h0 : ∀ j, j < k → f j = 0) (h : f k ≠ 0) : firstBad f (List.range n) = f k := by
  have e : List.range n = List.range k ++ (List.range' k (n - k)) := by
    rw [List.range_eq_range', List.range_eq_range', show List.range' 0 n = List.range' 0 (k + (n - k)) by congr 1; omega, ← List.range'_append_1]
    simp
  rw [e, firstBad_append]
  · rw [show n - k = (n - k - 1) + 1 by omega, List.range'_succ]
    simp [firstBad, h]
  · have : ∀ l : List Nat, (∀ j ∈ l, f j = 0) → firstBad f l = 0 := fun l => by
      induction l with
      | nil => intro _; rfl
      | cons a l ih => intro hl; simp only [firstBad]; rw [if_pos (hl a (by simp))]; exact ih (fun j hj => hl j (by simp [hj]))
    exact this _ (fun j hj => h0 j (List.mem_range.1 hj))
theorem firstR_none {f : Nat → Int} {n : Nat} (h0 : ∀ j, j < n → f j = 0) : firstBad f (List.range n) = 0 := by
  have : ∀ l : List Nat, (∀ j ∈ l, f j = 0) → firstBad f l = 0 := fun l => by
    induction l with
    | nil => intro _; rfl
    | cons a l ih => intro hl; simp only [firstBad]; rw [if_pos (hl a (by simp))]; exact ih (fun j hj => hl j (by simp [hj]))
  exact this _ (fun j hj => h0 j (List.mem_range.1 hj))
theorem dictV_row {G : List (List UInt8)} {R : RowL} {k : Nat} {e : Int} (h1 : G.length ≠ 0) (h2 : ¬ (100 < G.length ∨ 300 < R.length)) (h3 : G.any oddS = false) (hk : k < R.length) (h0 : ∀ j, j < k → rowBad G.length R j = 0) (h : rowBad G.length R k = e) (he : e ≠ 0) : dictV G R = e := by
  unfold dictV
  rw [if_neg h1, if_neg h2, if_neg (by simp [h3]), firstR_hit hk h0 (by rw [h]; exact he), h]
theorem dictV_good {G : List (List UInt8)} {R : RowL} (h1 : G.length ≠ 0) (h2 : ¬ (100 < G.length ∨ 300 < R.length)) (h3 : G.any oddS = false) (h0 : ∀ j, j < R.length → rowBad G.length R j = 0) : dictV G R = 0 := by
  unfold dictV
  rw [if_neg h1, if_neg h2, if_neg (by simp [h3]), firstR_none h0]
end Go.Proofs.YtpifoghhaohhaaaGreatDoor
namespace Go.Proofs.YtpifoghhaohhaaaGreatDoor
open Go.RowKit Go.Shelf Go.Lib
def boxP2 (g0 r0 : Bool) (b : Nat → Bool) (G : List (List UInt8)) (R : RowL) : Option ABlk := some (.box 29 [.lit g0 G.length [.s fun k => G.getD k []], .lit r0 R.length [.s fun k => rowF R k, .l b (fun k => (rowR R k).length) (fun k => [.s fun j => (rowR R k).getD j []])]])
set_option maxHeartbeats 1000000 in
theorem dictR_c (g0 r0 : Bool) (b : Nat → Bool) (G : List (List UInt8)) (R : RowL) (nid : Nat) (hB : DictW G R) : ACall Tryz.prog 17 [dictP g0 r0 b G R] [] nid (.int .i64 (dictV G R)) [] := by
  have hgl := hB.gl
  have hrl := hB.rl
  refine acall_sr c17 (by simp [a17]) ?_
  unfold a17
  refine SR.seq ?_
  unfold dictP
  simp -dsimp only [aqT, aqU, aqN, aqS, ↓seqK, ↓blkK, ↓loopK, step, stepBin, Nat.add_assoc nid, ↓reduceIte, Option.toList, ← Int.ofNat_tmod, ← Int.ofNat_tdiv, simprocAttr, BEq.rfl, LN_succ]
  refine SR.seq ?_
  simp -dsimp only [aqT, aqU, aqN, aqS, ↓seqK, ↓blkK, ↓loopK, step, stepBin, Nat.add_assoc nid, ↓reduceIte, Option.toList, ← Int.ofNat_tmod, ← Int.ofNat_tdiv, simprocAttr, BEq.rfl, LN_succ]
  refine SR.seqW (ι := {_u : Unit // (G.length ≠ 0 ∧ ¬ (100 < G.length ∨ 300 < R.length)) ∧ G.any oddS = false}) (fun _ => ⟨[(3, .fn 86 []), (1, .ptr nid 0)], [(nid, boxP2 g0 r0 b G R)], nid + 100, nid⟩) ?_ (fun ⟨_, ⟨h1, h2⟩, h3⟩ => ?_)
  · refine SR.run (t := .mk) ?_
    simp -dsimp only [aqT, aqU, aqN, aqS, ↓seqK, ↓blkK, ↓loopK, step, stepBin, Nat.add_assoc nid, ↓reduceIte, Option.toList, ← Int.ofNat_tmod, ← Int.ofNat_tdiv, simprocAttr, BEq.rfl, LN_succ]
    refine S2.intro (fun h1 => ?_) (fun h1 => ?_) <;> simp -dsimp only [aqT, aqU, aqN, aqS, ↓seqK, ↓blkK, ↓loopK, step, stepBin, Nat.add_assoc nid, ↓reduceIte, Option.toList, ← Int.ofNat_tmod, ← Int.ofNat_tdiv, simprocAttr, BEq.rfl, LN_succ]
    · have e : dictV G R = 8 := by unfold dictV; rw [if_pos (by simp at h1; exact congrArg List.length h1)]
      rw [e]
      refine RetOK.pure (.inl rfl) rfl ?_
      simp [cvT, step, res]
    have h1' : G.length ≠ 0 := by simp at h1; exact fun e => h1 (List.eq_nil_of_length_eq_zero e)
    refine S2.dec (fun h2 => ?_) (fun h2 => ?_) <;> simp -dsimp only [aqT, aqU, aqN, aqS, ↓seqK, ↓blkK, ↓loopK, step, stepBin, Nat.add_assoc nid, ↓reduceIte, Option.toList, ← Int.ofNat_tmod, ← Int.ofNat_tdiv, simprocAttr, BEq.rfl, LN_succ]
    · have e : dictV G R = 2 := by unfold dictV; rw [if_neg h1', if_pos (.inl (by omega))]
      rw [e]
      refine RetOK.pure (.inl rfl) rfl ?_
      simp [cvT, step, res]
    refine S2.dec (fun h4 => ?_) (fun h4 => ?_) <;> simp -dsimp only [aqT, aqU, aqN, aqS, ↓seqK, ↓blkK, ↓loopK, step, stepBin, Nat.add_assoc nid, ↓reduceIte, Option.toList, ← Int.ofNat_tmod, ← Int.ofNat_tdiv, simprocAttr, BEq.rfl, LN_succ]
    · have e : dictV G R = 2 := by unfold dictV; rw [if_neg h1', if_pos (.inr (by omega))]
      rw [e]
      refine RetOK.pure (.inl rfl) rfl ?_
      simp [cvT, step, res]
    have h2' : ¬ (100 < G.length ∨ 300 < R.length) := by omega
    refine CallO.pure (containsM_c 86 oddS g0 G _ hB.gl hB.gs (fun x m hx => oddR_c x m hx)) ?_
    simp -dsimp only [aqT, aqU, aqN, aqS, ↓seqK, ↓blkK, ↓loopK, step, stepBin, Nat.add_assoc nid, ↓reduceIte, Option.toList, ← Int.ofNat_tmod, ← Int.ofNat_tdiv, simprocAttr, BEq.rfl, LN_succ]
    refine S2.intro (fun h5 => ?_) (fun h5 => ?_) <;> simp -dsimp only [aqT, aqU, aqN, aqS, ↓seqK, ↓blkK, ↓loopK, step, stepBin, Nat.add_assoc nid, ↓reduceIte, Option.toList, ← Int.ofNat_tmod, ← Int.ofNat_tdiv, simprocAttr, BEq.rfl, LN_succ]
    · have e : dictV G R = 9 := by unfold dictV; rw [if_neg h1', if_neg h2', if_pos h5]
      rw [e]
      refine RetOK.pure (.inl rfl) rfl ?_
      simp [cvT, step, res]
    refine ⟨⟨(), ⟨h1', h2'⟩, h5⟩, Cov.go [] [] ?_⟩
    simp [cvT, step, res, boxP2]
  refine SR.seqW (ι := {_u : Unit // ∀ j, j < R.length → rowBad G.length R j = 0}) (fun _ => ⟨[], [], nid + 2000, nid⟩) ?_ (fun ⟨_, h5⟩ => ?_)
  · unfold boxP2
    refine SR.seqTo ⟨[(30, .int .i64 0), (29, .int .i64 R.length), (28, .lit r0 R.length [.s fun k => rowF R k, .l b (fun k => (rowR R k).length) (fun k => [.s fun j => (rowR R k).getD j []])]), (3, .fn 86 []), (1, .ptr nid 0)], [(nid, boxP2 g0 r0 b G R)], nid + 200, nid⟩ ?_ ?_
    · simp -dsimp only [aqT, aqU, aqN, aqS, ↓seqK, ↓blkK, ↓loopK, step, stepBin, Nat.add_assoc nid, ↓reduceIte, Option.toList, ← Int.ofNat_tmod, ← Int.ofNat_tdiv, simprocAttr, BEq.rfl, LN_succ]
      refine Cov.go [] [] ?_
      simp [cvT, step, res, boxP2, -List.getD_eq_getElem?_getD]
    refine SR.block ?_
    refine SR.loopP (fun k : Nat => k ≤ R.length ∧ ∀ j, j < k → rowBad G.length R j = 0) (fun k : Nat => ⟨[(30, .int .i64 k), (29, .int .i64 R.length), (28, .lit r0 R.length [.s fun k => rowF R k, .l b (fun k => (rowR R k).length) (fun k => [.s fun j => (rowR R k).getD j []])]), (3, .fn 86 []), (1, .ptr nid 0)], [(nid, boxP2 g0 r0 b G R)], nid + 200, nid⟩) (fun k => R.length + 1 - k) 0 ⟨by omega, fun j hj => by omega⟩ (Cov.drop (by omega) ?_) (fun k hk => ?_)
    · simp only [SlotsIn, aqT, aqU, aqN, ↓seqK, ↓blkK, ↓loopK, step, stepBin, Nat.reduceBEq, Nat.reduceBeqDiff, Nat.add_assoc nid, Nat.reduceAdd, reduceCtorEq, ↓reduceIte, Nat.reduceLeDiff, Nat.reduceBneDiff, Option.toList, ← Int.ofNat_tmod, ← Int.ofNat_tdiv, Nat.reduceLT]
      try simp
    obtain ⟨hk, hall⟩ := hk
    refine SR.seq ?_
    simp -dsimp only [aqT, aqU, aqN, aqS, ↓seqK, ↓blkK, ↓loopK, step, stepBin, Nat.add_assoc nid, ↓reduceIte, Option.toList, ← Int.ofNat_tmod, ← Int.ofNat_tdiv, simprocAttr, BEq.rfl, LN_succ]
    refine SR.seq ?_
    simp -dsimp only [aqT, aqU, aqN, aqS, ↓seqK, ↓blkK, ↓loopK, step, stepBin, Nat.add_assoc nid, ↓reduceIte, Option.toList, ← Int.ofNat_tmod, ← Int.ofNat_tdiv, simprocAttr, BEq.rfl, LN_succ]
    refine S2.dec (fun h4 => ?_) (fun h4 => ?_) <;> simp -dsimp only [aqT, aqU, aqN, aqS, ↓seqK, ↓blkK, ↓loopK, step, stepBin, Nat.add_assoc nid, ↓reduceIte, Option.toList, ← Int.ofNat_tmod, ← Int.ofNat_tdiv, simprocAttr, BEq.rfl, LN_succ]
    · have hkl : k < R.length := by omega
      have hbad := fun e => dictV_row (e := e) h1 h2 h3 hkl hall
      obtain ⟨hf1, hr1, hs1⟩ := hB.rs k
      refine SR.seqW (ι := {_u : Unit // rowBad G.length R k = 0}) (fun _ => ⟨[(30, .int .i64 k), (29, .int .i64 R.length), (28, .lit r0 R.length [.s fun k => rowF R k, .l b (fun k => (rowR R k).length) (fun k => [.s fun j => (rowR R k).getD j []])]), (3, .fn 86 []), (1, .ptr nid 0)], [(nid, boxP2 g0 r0 b G R)], nid + 900, nid⟩) ?_ (fun ⟨_, h6⟩ => ?_)
      · refine SR.block ?_
        refine SR.seqTo ⟨[(5, .ptr (nid + 300) 0), (4, .int .i64 k), (30, .int .i64 k), (29, .int .i64 R.length), (28, .lit r0 R.length [.s fun k => rowF R k, .l b (fun k => (rowR R k).length) (fun k => [.s fun j => (rowR R k).getD j []])]), (3, .fn 86 []), (1, .ptr nid 0)], [(nid + 300, some (.box 67 [.str (rowF R k), .lit (b k) (rowR R k).length [.s fun j => (rowR R k).getD j []]])), (nid, boxP2 g0 r0 b G R)], nid + 400, nid⟩ ?_ ?_
        · simp -dsimp only [aqT, aqU, aqN, aqS, ↓seqK, ↓blkK, ↓loopK, step, stepBin, Nat.add_assoc nid, ↓reduceIte, Option.toList, ← Int.ofNat_tmod, ← Int.ofNat_tdiv, simprocAttr, BEq.rfl, LN_succ]
          refine ⟨by omega, Cov.go [(nid + 300, nid + 216)] [] ?_⟩
          simp [cvT, step, res, boxP2, -List.getD_eq_getElem?_getD]
        refine SR.block ?_
        refine SR.seq ?_
        simp -dsimp only [aqT, aqU, aqN, aqS, ↓seqK, ↓blkK, ↓loopK, step, stepBin, Nat.add_assoc nid, ↓reduceIte, Option.toList, ← Int.ofNat_tmod, ← Int.ofNat_tdiv, simprocAttr, BEq.rfl, LN_succ]
        refine CallO.pure (keyR_c _ _) ?_
        simp -dsimp only [aqT, aqU, aqN, aqS, ↓seqK, ↓blkK, ↓loopK, step, stepBin, Nat.add_assoc nid, ↓reduceIte, Option.toList, ← Int.ofNat_tmod, ← Int.ofNat_tdiv, simprocAttr, BEq.rfl, LN_succ]
        refine SR.cond (b := !keyB (rowF R k)) (by simp [AX.val, getS]) (fun h => ?_) (fun h => ?_)
        · have hk : keyB (rowF R k) = false := by simpa using h
          rw [hbad 5 (by unfold rowBad; rw [if_pos hk]) (by decide)]
          refine SR.run (t := .mk) ?_
          simp -dsimp only [aqT, aqU, aqN, aqS, ↓seqK, ↓blkK, ↓loopK, step, stepBin, Nat.add_assoc nid, ↓reduceIte, Option.toList, ← Int.ofNat_tmod, ← Int.ofNat_tdiv, simprocAttr, BEq.rfl, LN_succ]
          refine RetOK.pure (.inl rfl) rfl ?_
          simp [cvT, step, res]
        have hk1 : ¬ keyB (rowF R k) = false := by simpa using h
        unfold boxP2
        refine SR.seq ?_
        simp -dsimp only [aqT, aqU, aqN, aqS, ↓seqK, ↓blkK, ↓loopK, step, stepBin, Nat.add_assoc nid, ↓reduceIte, Option.toList, ← Int.ofNat_tmod, ← Int.ofNat_tdiv, simprocAttr, BEq.rfl, LN_succ]
        refine SR.cond (b := (((rowR R k).length : Nat) : Int) != (G.length : Nat)) (by simp [AX.val, getS]) (fun h => ?_) (fun h => ?_)
        · have hk : (rowR R k).length ≠ G.length := fun e => by rw [e] at h; simp at h
          rw [hbad 3 (by unfold rowBad; rw [if_neg hk1, if_pos hk]) (by decide)]
          refine SR.run (t := .mk) ?_
          simp -dsimp only [aqT, aqU, aqN, aqS, ↓seqK, ↓blkK, ↓loopK, step, stepBin, Nat.add_assoc nid, ↓reduceIte, Option.toList, ← Int.ofNat_tmod, ← Int.ofNat_tdiv, simprocAttr, BEq.rfl, LN_succ]
          refine RetOK.pure (.inl rfl) rfl ?_
          simp [cvT, step, res]
        have hk2 : ¬ (rowR R k).length ≠ G.length := by
          have : (((rowR R k).length : Nat) : Int) = (G.length : Nat) := by simpa only [bne_eq_false_iff_eq] using h
          omega
        refine SR.seq ?_
        simp -dsimp only [aqT, aqU, aqN, aqS, ↓seqK, ↓blkK, ↓loopK, step, stepBin, Nat.add_assoc nid, ↓reduceIte, Option.toList, ← Int.ofNat_tmod, ← Int.ofNat_tdiv, simprocAttr, BEq.rfl, LN_succ]
        refine CallO.pure (containsM_c 86 oddS (b k) (rowR R k) _ hr1 hs1 (fun x m hx => oddR_c x m hx)) ?_
        simp -dsimp only [aqT, aqU, aqN, aqS, ↓seqK, ↓blkK, ↓loopK, step, stepBin, Nat.add_assoc nid, ↓reduceIte, Option.toList, ← Int.ofNat_tmod, ← Int.ofNat_tdiv, simprocAttr, BEq.rfl, LN_succ]
        refine SR.cond (b := (rowR R k).any oddS) (by simp [AX.val, getS]) (fun h => ?_) (fun h => ?_)
        · rw [hbad 9 (by unfold rowBad; rw [if_neg hk1, if_neg hk2, if_pos h]) (by decide)]
          refine SR.run (t := .mk) ?_
          simp -dsimp only [aqT, aqU, aqN, aqS, ↓seqK, ↓blkK, ↓loopK, step, stepBin, Nat.add_assoc nid, ↓reduceIte, Option.toList, ← Int.ofNat_tmod, ← Int.ofNat_tdiv, simprocAttr, BEq.rfl, LN_succ]
          refine RetOK.pure (.inl rfl) rfl ?_
          simp [cvT, step, res]
        have hk3 : ¬ (rowR R k).any oddS = true := by simp [h]
        refine SR.seqTo ⟨[(53, .bool (decide ((0 : Int) < k) && (Op.bytesLess (rowF R k) (rowF R (k - 1)) || rowF R k == rowF R (k - 1)))), (30, .int .i64 k), (29, .int .i64 R.length), (28, .lit r0 R.length [.s fun k => rowF R k, .l b (fun k => (rowR R k).length) (fun k => [.s fun j => (rowR R k).getD j []])]), (3, .fn 86 []), (1, .ptr nid 0)], [(nid, boxP2 g0 r0 b G R)], nid + 700, nid⟩ ?_ ?_
        · simp -dsimp only [aqT, aqU, aqN, aqS, ↓seqK, ↓blkK, ↓loopK, step, stepBin, Nat.add_assoc nid, ↓reduceIte, Option.toList, ← Int.ofNat_tmod, ← Int.ofNat_tdiv, simprocAttr, BEq.rfl, LN_succ]
          refine S2.dec (fun h0 => ?_) (fun h0 => ?_) <;> simp -dsimp only [aqT, aqU, aqN, aqS, ↓seqK, ↓blkK, ↓loopK, step, stepBin, Nat.add_assoc nid, ↓reduceIte, Option.toList, ← Int.ofNat_tmod, ← Int.ofNat_tdiv, simprocAttr, BEq.rfl, LN_succ]
          · have e : ((k : Int) - 1).toNat = k - 1 := by omega
            rw [e]
            refine ⟨by unfold inI64; omega, by omega, Cov.go [] [] ?_⟩
            simp [cvT, step, res, boxP2, decide_eq_true h0, -List.getD_eq_getElem?_getD]
            try omega
          · refine Cov.go [] [] ?_
            simp [cvT, step, res, boxP2, decide_eq_false h0, -List.getD_eq_getElem?_getD]
            try omega
        refine SR.cond (b := decide ((0 : Int) < k) && (Op.bytesLess (rowF R k) (rowF R (k - 1)) || rowF R k == rowF R (k - 1))) (by simp [AX.val, getS]) (fun h => ?_) (fun h => ?_)
        · simp only [Bool.and_eq_true, decide_eq_true_eq] at h
          rw [hbad 7 (by unfold rowBad; rw [if_neg hk1, if_neg hk2, if_neg hk3, if_pos ⟨by omega, h.2⟩]) (by decide)]
          refine SR.run (t := .mk) ?_
          simp -dsimp only [aqT, aqU, aqN, aqS, ↓seqK, ↓blkK, ↓loopK, step, stepBin, Nat.add_assoc nid, ↓reduceIte, Option.toList, ← Int.ofNat_tmod, ← Int.ofNat_tdiv, simprocAttr, BEq.rfl, LN_succ]
          refine RetOK.pure (.inl rfl) rfl ?_
          simp [cvT, step, res]
        have hk4 : ¬ (0 < k ∧ (Op.bytesLess (rowF R k) (rowF R (k - 1)) || rowF R k == rowF R (k - 1)) = true) := fun ⟨e1, e2⟩ => by
          rw [e2, decide_eq_true (by omega)] at h
          simp at h
        refine SR.run (t := .mk) ?_
        simp -dsimp only [aqT, aqU, aqN, aqS, ↓seqK, ↓blkK, ↓loopK, step, stepBin, Nat.add_assoc nid, ↓reduceIte, Option.toList, ← Int.ofNat_tmod, ← Int.ofNat_tdiv, simprocAttr, BEq.rfl, LN_succ]
        refine ⟨⟨(), by unfold rowBad; rw [if_neg hk1, if_neg hk2, if_neg hk3, if_neg hk4]⟩, Cov.go [] [] ?_⟩
        simp [cvT, step, res, boxP2, -List.getD_eq_getElem?_getD]
      refine SR.run (t := .mk) ?_
      simp -dsimp only [aqT, aqU, aqN, aqS, ↓seqK, ↓blkK, ↓loopK, step, stepBin, Nat.add_assoc nid, ↓reduceIte, Option.toList, ← Int.ofNat_tmod, ← Int.ofNat_tdiv, simprocAttr, BEq.rfl, LN_succ]
      refine ⟨by unfold inI64; omega, k + 1, ⟨⟨by omega, fun j hj => ?_⟩, by omega⟩, Cov.go [] [] ?_⟩
      · rcases (by omega : j < k ∨ j = k) with hj | hj
        · exact hall j hj
        · rw [hj]; exact h6
      simp [cvT, step, res, boxP2, -List.getD_eq_getElem?_getD]
    · refine ⟨⟨(), fun j hj => hall j (by omega)⟩, Cov.go [] [] ?_⟩
      simp [cvT, step, res, boxP2, -List.getD_eq_getElem?_getD]
  · rw [dictV_good h1 h2 h3 h5]
    refine SR.run (t := .mk) ?_
    simp -dsimp only [aqT, aqU, aqN, aqS, ↓seqK, ↓blkK, ↓loopK, step, stepBin, Nat.add_assoc nid, ↓reduceIte, Option.toList, ← Int.ofNat_tmod, ← Int.ofNat_tdiv, simprocAttr, BEq.rfl, LN_succ]
    refine RetOK.pure (.inl rfl) rfl ?_
    simp [cvT, step, res]
set_option maxHeartbeats 1000000 in
theorem dictD_c (g0 r0 : Bool) (b : Nat → Bool) (G : List (List UInt8)) (R : RowL) (nid : Nat) (hB : DictW G R) : ACall Tryz.prog 63 [dictP g0 r0 b G R] [] nid (.int .i64 (dictV G R)) [] := by
  have hgl := hB.gl
  have hrl := hB.rl
  refine acall_sr c63 (by simp [a63]) ?_
  unfold a63
  refine SR.seq ?_
  unfold dictP
  simp -dsimp only [aqT, aqU, aqN, aqS, ↓seqK, ↓blkK, ↓loopK, step, stepBin, Nat.add_assoc nid, ↓reduceIte, Option.toList, ← Int.ofNat_tmod, ← Int.ofNat_tdiv, simprocAttr, BEq.rfl, LN_succ]
  refine SR.seqW (ι := {_u : Unit // G.length ≠ 0 ∧ ¬ (100 < G.length ∨ 300 < R.length)}) (fun _ => ⟨[(1, .ptr nid 0)], [(nid, boxP2 g0 r0 b G R)], nid + 100, nid⟩) ?_ (fun ⟨_, h1, h2⟩ => ?_)
  · refine SR.run (t := .mk) ?_
    simp -dsimp only [aqT, aqU, aqN, aqS, ↓seqK, ↓blkK, ↓loopK, step, stepBin, Nat.add_assoc nid, ↓reduceIte, Option.toList, ← Int.ofNat_tmod, ← Int.ofNat_tdiv, simprocAttr, BEq.rfl, LN_succ]
    refine S2.intro (fun h1 => ?_) (fun h1 => ?_) <;> simp -dsimp only [aqT, aqU, aqN, aqS, ↓seqK, ↓blkK, ↓loopK, step, stepBin, Nat.add_assoc nid, ↓reduceIte, Option.toList, ← Int.ofNat_tmod, ← Int.ofNat_tdiv, simprocAttr, BEq.rfl, LN_succ]
    · have e : dictV G R = 8 := by unfold dictV; rw [if_pos (by simp at h1; exact congrArg List.length h1)]
      rw [e]
      refine RetOK.pure (.inl rfl) rfl ?_
      simp [cvT, step, res]
    have h1' : G.length ≠ 0 := by simp at h1; exact fun e => h1 (List.eq_nil_of_length_eq_zero e)
    refine S2.dec (fun h2 => ?_) (fun h2 => ?_) <;> simp -dsimp only [aqT, aqU, aqN, aqS, ↓seqK, ↓blkK, ↓loopK, step, stepBin, Nat.add_assoc nid, ↓reduceIte, Option.toList, ← Int.ofNat_tmod, ← Int.ofNat_tdiv, simprocAttr, BEq.rfl, LN_succ]
    · have e : dictV G R = 2 := by unfold dictV; rw [if_neg h1', if_pos (.inl (by omega))]
      rw [e]
      refine RetOK.pure (.inl rfl) rfl ?_
      simp [cvT, step, res]
    refine S2.dec (fun h4 => ?_) (fun h4 => ?_) <;> simp -dsimp only [aqT, aqU, aqN, aqS, ↓seqK, ↓blkK, ↓loopK, step, stepBin, Nat.add_assoc nid, ↓reduceIte, Option.toList, ← Int.ofNat_tmod, ← Int.ofNat_tdiv, simprocAttr, BEq.rfl, LN_succ]
    · have e : dictV G R = 2 := by unfold dictV; rw [if_neg h1', if_pos (.inr (by omega))]
      rw [e]
      refine RetOK.pure (.inl rfl) rfl ?_
      simp [cvT, step, res]
    have h2' : ¬ (100 < G.length ∨ 300 < R.length) := by omega
    refine ⟨⟨(), h1', h2'⟩, Cov.go [] [] ?_⟩
    simp [cvT, step, res, boxP2]
  refine SR.seq ?_
  simp -dsimp only [aqT, aqU, aqN, aqS, ↓seqK, ↓blkK, ↓loopK, step, stepBin, Nat.add_assoc nid, ↓reduceIte, Option.toList, ← Int.ofNat_tmod, ← Int.ofNat_tdiv, simprocAttr, BEq.rfl, LN_succ]
  refine SR.seqW (ι := {_u : Unit // G.any oddS = false}) (fun _ => ⟨[(3, .fn 152 []), (1, .ptr nid 0)], [(nid, boxP2 g0 r0 b G R)], nid + 150, nid⟩) ?_ (fun ⟨_, h3⟩ => ?_)
  · unfold boxP2
    refine SR.run (t := .mk) ?_
    simp -dsimp only [aqT, aqU, aqN, aqS, ↓seqK, ↓blkK, ↓loopK, step, stepBin, Nat.add_assoc nid, ↓reduceIte, Option.toList, ← Int.ofNat_tmod, ← Int.ofNat_tdiv, simprocAttr, BEq.rfl, LN_succ]
    refine CallO.pure (containsM_c 152 oddS g0 G _ hB.gl hB.gs (fun x m hx => oddD_c x m hx)) ?_
    simp -dsimp only [aqT, aqU, aqN, aqS, ↓seqK, ↓blkK, ↓loopK, step, stepBin, Nat.add_assoc nid, ↓reduceIte, Option.toList, ← Int.ofNat_tmod, ← Int.ofNat_tdiv, simprocAttr, BEq.rfl, LN_succ]
    refine S2.intro (fun h5 => ?_) (fun h5 => ?_) <;> simp -dsimp only [aqT, aqU, aqN, aqS, ↓seqK, ↓blkK, ↓loopK, step, stepBin, Nat.add_assoc nid, ↓reduceIte, Option.toList, ← Int.ofNat_tmod, ← Int.ofNat_tdiv, simprocAttr, BEq.rfl, LN_succ]
    · have e : dictV G R = 9 := by unfold dictV; rw [if_neg h1, if_neg h2, if_pos h5]
      rw [e]
      refine RetOK.pure (.inl rfl) rfl ?_
      simp [cvT, step, res]
    refine ⟨⟨(), h5⟩, Cov.go [] [] ?_⟩
    simp [cvT, step, res, boxP2]
  refine SR.seqW (ι := {_u : Unit // ∀ j, j < R.length → rowBad G.length R j = 0}) (fun _ => ⟨[], [], nid + 2000, nid⟩) ?_ (fun ⟨_, h5⟩ => ?_)
  · unfold boxP2
    refine SR.seqTo ⟨[(29, .int .i64 0), (28, .int .i64 R.length), (27, .lit r0 R.length [.s fun k => rowF R k, .l b (fun k => (rowR R k).length) (fun k => [.s fun j => (rowR R k).getD j []])]), (3, .fn 152 []), (1, .ptr nid 0)], [(nid, boxP2 g0 r0 b G R)], nid + 200, nid⟩ ?_ ?_
    · simp -dsimp only [aqT, aqU, aqN, aqS, ↓seqK, ↓blkK, ↓loopK, step, stepBin, Nat.add_assoc nid, ↓reduceIte, Option.toList, ← Int.ofNat_tmod, ← Int.ofNat_tdiv, simprocAttr, BEq.rfl, LN_succ]
      refine Cov.go [] [] ?_
      simp [cvT, step, res, boxP2, -List.getD_eq_getElem?_getD]
    refine SR.block ?_
    refine SR.loopP (fun k : Nat => k ≤ R.length ∧ ∀ j, j < k → rowBad G.length R j = 0) (fun k : Nat => ⟨[(29, .int .i64 k), (28, .int .i64 R.length), (27, .lit r0 R.length [.s fun k => rowF R k, .l b (fun k => (rowR R k).length) (fun k => [.s fun j => (rowR R k).getD j []])]), (3, .fn 152 []), (1, .ptr nid 0)], [(nid, boxP2 g0 r0 b G R)], nid + 200, nid⟩) (fun k => R.length + 1 - k) 0 ⟨by omega, fun j hj => by omega⟩ (Cov.drop (by omega) ?_) (fun k hk => ?_)
    · simp only [SlotsIn, aqT, aqU, aqN, ↓seqK, ↓blkK, ↓loopK, step, stepBin, Nat.reduceBEq, Nat.reduceBeqDiff, Nat.add_assoc nid, Nat.reduceAdd, reduceCtorEq, ↓reduceIte, Nat.reduceLeDiff, Nat.reduceBneDiff, Option.toList, ← Int.ofNat_tmod, ← Int.ofNat_tdiv, Nat.reduceLT]
      try simp
    obtain ⟨hk, hall⟩ := hk
    refine SR.seq ?_
    simp -dsimp only [aqT, aqU, aqN, aqS, ↓seqK, ↓blkK, ↓loopK, step, stepBin, Nat.add_assoc nid, ↓reduceIte, Option.toList, ← Int.ofNat_tmod, ← Int.ofNat_tdiv, simprocAttr, BEq.rfl, LN_succ]
    refine SR.seq ?_
    simp -dsimp only [aqT, aqU, aqN, aqS, ↓seqK, ↓blkK, ↓loopK, step, stepBin, Nat.add_assoc nid, ↓reduceIte, Option.toList, ← Int.ofNat_tmod, ← Int.ofNat_tdiv, simprocAttr, BEq.rfl, LN_succ]
    refine S2.dec (fun h4 => ?_) (fun h4 => ?_) <;> simp -dsimp only [aqT, aqU, aqN, aqS, ↓seqK, ↓blkK, ↓loopK, step, stepBin, Nat.add_assoc nid, ↓reduceIte, Option.toList, ← Int.ofNat_tmod, ← Int.ofNat_tdiv, simprocAttr, BEq.rfl, LN_succ]
    · have hkl : k < R.length := by omega
      have hbad := fun e => dictV_row (e := e) h1 h2 h3 hkl hall
      obtain ⟨hf1, hr1, hs1⟩ := hB.rs k
      refine SR.seqW (ι := {_u : Unit // rowBad G.length R k = 0}) (fun _ => ⟨[(29, .int .i64 k), (28, .int .i64 R.length), (27, .lit r0 R.length [.s fun k => rowF R k, .l b (fun k => (rowR R k).length) (fun k => [.s fun j => (rowR R k).getD j []])]), (3, .fn 152 []), (1, .ptr nid 0)], [(nid, boxP2 g0 r0 b G R)], nid + 900, nid⟩) ?_ (fun ⟨_, h6⟩ => ?_)
      · refine SR.block ?_
        refine SR.seqTo ⟨[(5, .ptr (nid + 300) 0), (4, .int .i64 k), (29, .int .i64 k), (28, .int .i64 R.length), (27, .lit r0 R.length [.s fun k => rowF R k, .l b (fun k => (rowR R k).length) (fun k => [.s fun j => (rowR R k).getD j []])]), (3, .fn 152 []), (1, .ptr nid 0)], [(nid + 300, some (.box 67 [.str (rowF R k), .lit (b k) (rowR R k).length [.s fun j => (rowR R k).getD j []]])), (nid, boxP2 g0 r0 b G R)], nid + 400, nid⟩ ?_ ?_
        · simp -dsimp only [aqT, aqU, aqN, aqS, ↓seqK, ↓blkK, ↓loopK, step, stepBin, Nat.add_assoc nid, ↓reduceIte, Option.toList, ← Int.ofNat_tmod, ← Int.ofNat_tdiv, simprocAttr, BEq.rfl, LN_succ]
          refine ⟨by omega, Cov.go [(nid + 300, nid + 216)] [] ?_⟩
          simp [cvT, step, res, boxP2, -List.getD_eq_getElem?_getD]
        refine SR.block ?_
        refine SR.seq ?_
        simp -dsimp only [aqT, aqU, aqN, aqS, ↓seqK, ↓blkK, ↓loopK, step, stepBin, Nat.add_assoc nid, ↓reduceIte, Option.toList, ← Int.ofNat_tmod, ← Int.ofNat_tdiv, simprocAttr, BEq.rfl, LN_succ]
        refine CallO.pure (keyD_c _ _ hf1) ?_
        simp -dsimp only [aqT, aqU, aqN, aqS, ↓seqK, ↓blkK, ↓loopK, step, stepBin, Nat.add_assoc nid, ↓reduceIte, Option.toList, ← Int.ofNat_tmod, ← Int.ofNat_tdiv, simprocAttr, BEq.rfl, LN_succ]
        refine SR.cond (b := !keyB (rowF R k)) (by simp [AX.val, getS]) (fun h => ?_) (fun h => ?_)
        · have hk : keyB (rowF R k) = false := by simpa using h
          rw [hbad 5 (by unfold rowBad; rw [if_pos hk]) (by decide)]
          refine SR.run (t := .mk) ?_
          simp -dsimp only [aqT, aqU, aqN, aqS, ↓seqK, ↓blkK, ↓loopK, step, stepBin, Nat.add_assoc nid, ↓reduceIte, Option.toList, ← Int.ofNat_tmod, ← Int.ofNat_tdiv, simprocAttr, BEq.rfl, LN_succ]
          refine RetOK.pure (.inl rfl) rfl ?_
          simp [cvT, step, res]
        have hk1 : ¬ keyB (rowF R k) = false := by simpa using h
        unfold boxP2
        refine SR.seq ?_
        simp -dsimp only [aqT, aqU, aqN, aqS, ↓seqK, ↓blkK, ↓loopK, step, stepBin, Nat.add_assoc nid, ↓reduceIte, Option.toList, ← Int.ofNat_tmod, ← Int.ofNat_tdiv, simprocAttr, BEq.rfl, LN_succ]
        refine SR.cond (b := (((rowR R k).length : Nat) : Int) != (G.length : Nat)) (by simp [AX.val, getS]) (fun h => ?_) (fun h => ?_)
        · have hk : (rowR R k).length ≠ G.length := fun e => by rw [e] at h; simp at h
          rw [hbad 3 (by unfold rowBad; rw [if_neg hk1, if_pos hk]) (by decide)]
          refine SR.run (t := .mk) ?_
          simp -dsimp only [aqT, aqU, aqN, aqS, ↓seqK, ↓blkK, ↓loopK, step, stepBin, Nat.add_assoc nid, ↓reduceIte, Option.toList, ← Int.ofNat_tmod, ← Int.ofNat_tdiv, simprocAttr, BEq.rfl, LN_succ]
          refine RetOK.pure (.inl rfl) rfl ?_
          simp [cvT, step, res]
        have hk2 : ¬ (rowR R k).length ≠ G.length := by
          have : (((rowR R k).length : Nat) : Int) = (G.length : Nat) := by simpa only [bne_eq_false_iff_eq] using h
          omega
        refine SR.seq ?_
        simp -dsimp only [aqT, aqU, aqN, aqS, ↓seqK, ↓blkK, ↓loopK, step, stepBin, Nat.add_assoc nid, ↓reduceIte, Option.toList, ← Int.ofNat_tmod, ← Int.ofNat_tdiv, simprocAttr, BEq.rfl, LN_succ]
        refine CallO.pure (containsM_c 152 oddS (b k) (rowR R k) _ hr1 hs1 (fun x m hx => oddD_c x m hx)) ?_
        simp -dsimp only [aqT, aqU, aqN, aqS, ↓seqK, ↓blkK, ↓loopK, step, stepBin, Nat.add_assoc nid, ↓reduceIte, Option.toList, ← Int.ofNat_tmod, ← Int.ofNat_tdiv, simprocAttr, BEq.rfl, LN_succ]
        refine SR.cond (b := (rowR R k).any oddS) (by simp [AX.val, getS]) (fun h => ?_) (fun h => ?_)
        · rw [hbad 9 (by unfold rowBad; rw [if_neg hk1, if_neg hk2, if_pos h]) (by decide)]
          refine SR.run (t := .mk) ?_
          simp -dsimp only [aqT, aqU, aqN, aqS, ↓seqK, ↓blkK, ↓loopK, step, stepBin, Nat.add_assoc nid, ↓reduceIte, Option.toList, ← Int.ofNat_tmod, ← Int.ofNat_tdiv, simprocAttr, BEq.rfl, LN_succ]
          refine RetOK.pure (.inl rfl) rfl ?_
          simp [cvT, step, res]
        have hk3 : ¬ (rowR R k).any oddS = true := by simp [h]
        refine SR.seqTo ⟨[(52, .bool (decide ((0 : Int) < k) && (Op.bytesLess (rowF R k) (rowF R (k - 1)) || rowF R k == rowF R (k - 1)))), (29, .int .i64 k), (28, .int .i64 R.length), (27, .lit r0 R.length [.s fun k => rowF R k, .l b (fun k => (rowR R k).length) (fun k => [.s fun j => (rowR R k).getD j []])]), (3, .fn 152 []), (1, .ptr nid 0)], [(nid, boxP2 g0 r0 b G R)], nid + 700, nid⟩ ?_ ?_
        · simp -dsimp only [aqT, aqU, aqN, aqS, ↓seqK, ↓blkK, ↓loopK, step, stepBin, Nat.add_assoc nid, ↓reduceIte, Option.toList, ← Int.ofNat_tmod, ← Int.ofNat_tdiv, simprocAttr, BEq.rfl, LN_succ]
          refine S2.dec (fun h0 => ?_) (fun h0 => ?_) <;> simp -dsimp only [aqT, aqU, aqN, aqS, ↓seqK, ↓blkK, ↓loopK, step, stepBin, Nat.add_assoc nid, ↓reduceIte, Option.toList, ← Int.ofNat_tmod, ← Int.ofNat_tdiv, simprocAttr, BEq.rfl, LN_succ]
          · have e : ((k : Int) - 1).toNat = k - 1 := by omega
            rw [e]
            refine ⟨by unfold inI64; omega, by omega, Cov.go [] [] ?_⟩
            simp [cvT, step, res, boxP2, decide_eq_true h0, -List.getD_eq_getElem?_getD]
            try omega
          · refine Cov.go [] [] ?_
            simp [cvT, step, res, boxP2, decide_eq_false h0, -List.getD_eq_getElem?_getD]
            try omega
        refine SR.cond (b := decide ((0 : Int) < k) && (Op.bytesLess (rowF R k) (rowF R (k - 1)) || rowF R k == rowF R (k - 1))) (by simp [AX.val, getS]) (fun h => ?_) (fun h => ?_)
        · simp only [Bool.and_eq_true, decide_eq_true_eq] at h
          rw [hbad 7 (by unfold rowBad; rw [if_neg hk1, if_neg hk2, if_neg hk3, if_pos ⟨by omega, h.2⟩]) (by decide)]
          refine SR.run (t := .mk) ?_
          simp -dsimp only [aqT, aqU, aqN, aqS, ↓seqK, ↓blkK, ↓loopK, step, stepBin, Nat.add_assoc nid, ↓reduceIte, Option.toList, ← Int.ofNat_tmod, ← Int.ofNat_tdiv, simprocAttr, BEq.rfl, LN_succ]
          refine RetOK.pure (.inl rfl) rfl ?_
          simp [cvT, step, res]
        have hk4 : ¬ (0 < k ∧ (Op.bytesLess (rowF R k) (rowF R (k - 1)) || rowF R k == rowF R (k - 1)) = true) := fun ⟨e1, e2⟩ => by
          rw [e2, decide_eq_true (by omega)] at h
          simp at h
        refine SR.run (t := .mk) ?_
        simp -dsimp only [aqT, aqU, aqN, aqS, ↓seqK, ↓blkK, ↓loopK, step, stepBin, Nat.add_assoc nid, ↓reduceIte, Option.toList, ← Int.ofNat_tmod, ← Int.ofNat_tdiv, simprocAttr, BEq.rfl, LN_succ]
        refine ⟨⟨(), by unfold rowBad; rw [if_neg hk1, if_neg hk2, if_neg hk3, if_neg hk4]⟩, Cov.go [] [] ?_⟩
        simp [cvT, step, res, boxP2, -List.getD_eq_getElem?_getD]
      refine SR.run (t := .mk) ?_
      simp -dsimp only [aqT, aqU, aqN, aqS, ↓seqK, ↓blkK, ↓loopK, step, stepBin, Nat.add_assoc nid, ↓reduceIte, Option.toList, ← Int.ofNat_tmod, ← Int.ofNat_tdiv, simprocAttr, BEq.rfl, LN_succ]
      refine ⟨by unfold inI64; omega, k + 1, ⟨⟨by omega, fun j hj => ?_⟩, by omega⟩, Cov.go [] [] ?_⟩
      · rcases (by omega : j < k ∨ j = k) with hj | hj
        · exact hall j hj
        · rw [hj]; exact h6
      simp [cvT, step, res, boxP2, -List.getD_eq_getElem?_getD]
    · refine ⟨⟨(), fun j hj => hall j (by omega)⟩, Cov.go [] [] ?_⟩
      simp [cvT, step, res, boxP2, -List.getD_eq_getElem?_getD]
  · rw [dictV_good h1 h2 h3 h5]
    refine SR.run (t := .mk) ?_
    simp -dsimp only [aqT, aqU, aqN, aqS, ↓seqK, ↓blkK, ↓loopK, step, stepBin, Nat.add_assoc nid, ↓reduceIte, Option.toList, ← Int.ofNat_tmod, ← Int.ofNat_tdiv, simprocAttr, BEq.rfl, LN_succ]
    refine RetOK.pure (.inl rfl) rfl ?_
    simp [cvT, step, res]
end Go.Proofs.YtpifoghhaohhaaaGreatDoor
namespace Go.Proofs.YtpifoghhaohhaaaGreatDoor
open Go.RowKit Go.Shelf Go.Lib
theorem namesL_len {x : List UInt8} (h : x ∈ namesL) : x.length ≤ 2 := by
  unfold namesL at h
  simp only [List.mem_cons, List.not_mem_nil, or_false] at h
  rcases h with rfl | rfl | rfl | rfl | rfl | rfl | rfl | rfl | rfl <;> decide
theorem rowF_out {R : RowL} {k : Nat} (h : ¬ k < R.length) : rowF R k = [] := by unfold rowF; rw [List.getD_eq_getElem?_getD, List.getElem?_eq_none (by omega)]; rfl
theorem rowR_out {R : RowL} {k : Nat} (h : ¬ k < R.length) : rowR R k = [] := by unfold rowR; rw [List.getD_eq_getElem?_getD, List.getElem?_eq_none (by omega)]; rfl
theorem row_mem {R : RowL} {k : Nat} (h : k < R.length) : (rowF R k, rowR R k) ∈ R := by
  unfold rowF rowR
  rw [List.getD_eq_getElem?_getD, List.getElem?_eq_getElem h]
  exact List.getElem_mem h
theorem DictB.w {m : Nat} {G : List (List UInt8)} {R : RowL} (h : DictB m G R) (hm : m ≤ 100) : DictW G R :=
  ⟨by have := h.gl; omega, h.gs.mono (by omega), by have := h.rl; omega, fun k => by
    by_cases hk : k < R.length
    · obtain ⟨a, b, c⟩ := h.rs _ (row_mem hk)
      have := namesL_len a
      exact ⟨by simp only at this; omega, by simp only at b; omega, c.mono (by omega)⟩
    · rw [rowF_out hk, rowR_out hk]
      exact ⟨by simp, by simp, fun r hr => by simp at hr⟩⟩
set_option maxHeartbeats 1000000 in
theorem rightDict_I (s nid : Nat) (nl : Bool) (A : List Int) (p faults tests : Nat) (h : s < nid) (hp : p ≤ 1099400000000) (hA : A.length ≤ 17592186044416) (hf : faults ≤ 7) (ht1 : 1 ≤ tests) (ht : tests ≤ 6) :
    ACallI Tryz.prog 42 [.ptr s 0, .int .i64 (faults : Nat), .int .i64 (tests : Nat)] [(s, strmC nl A p)] nid (fun x : DictX => (DictB tests x.G x.R ∧ dictV x.G x.R = 0) ∧ x.q ≤ p + 6000) (fun x => dictP x.g0 x.r0 x.b x.G x.R) (fun x => [(s, strmC nl A x.q)]) := by
  obtain ⟨e1, e2, e3, e4, e5, e6, e7, e8, e9⟩ := id_all h
  refine acallI_sr c42 (by simp [a42]) ?_
  unfold a42
  refine SR.seq ?_
  simp -dsimp only [aqT, aqU, aqN, aqS, ↓seqK, ↓blkK, ↓loopK, step, stepBin, Nat.add_assoc nid, ↓reduceIte, Option.toList, ← Int.ofNat_tmod, ← Int.ofNat_tdiv, simprocAttr, BEq.rfl, LN_succ, e1, e2, e3, e4, e5, e6, e7, e8, e9]
  refine SR.seqW (ι := {q : Nat // q ≤ p + 6000}) (fun q => ⟨[(6, .ptr (nid + 4) 0)], [(nid + 4, some (.box 29 [.lit true 0 [], .lit true 0 []])), (s, strmC nl A q)], nid + 2000, nid⟩) ?_ (fun ⟨q, hq⟩ => ?_)
  · refine SR.seq ?_
    simp -dsimp only [aqT, aqU, aqN, aqS, ↓seqK, ↓blkK, ↓loopK, step, stepBin, Nat.add_assoc nid, ↓reduceIte, Option.toList, ← Int.ofNat_tmod, ← Int.ofNat_tdiv, simprocAttr, BEq.rfl, LN_succ, e1, e2, e3, e4, e5, e6, e7, e8, e9]
    refine SR.block ?_
    refine SR.loopP (fun x : Nat × Nat => x.1 ≤ 6 ∧ x.2 ≤ p + 1000 * x.1) (fun x => ⟨[(8, .int .i64 x.1), (6, .ptr (nid + 4) 0), (0, .ptr s 0), (1, .int .i64 (faults : Nat)), (2, .int .i64 (tests : Nat))], [(nid + 4, some (.box 29 [.lit true 0 [], .lit true 0 []])), (s, strmC nl A x.2)], nid + 100, nid⟩) (fun x => 7 - x.1) (0, p) ⟨by simp, by simp⟩ (Cov.go [(nid + 4, nid)] [] ?_) (fun x hx => ?_)
    · simp [cvT, step, res, e1, e2, e3, e4, e5, e6, e7, e8, e9, strmC]
    obtain ⟨i, q⟩ := x
    obtain ⟨hi, hq⟩ := hx
    simp only at hi hq ⊢
    refine SR.seq ?_
    simp -dsimp only [aqT, aqU, aqN, aqS, ↓seqK, ↓blkK, ↓loopK, step, stepBin, Nat.add_assoc nid, ↓reduceIte, Option.toList, ← Int.ofNat_tmod, ← Int.ofNat_tdiv, simprocAttr, BEq.rfl, LN_succ, e1, e2, e3, e4, e5, e6, e7, e8, e9]
    refine SR.seq ?_
    simp -dsimp only [aqT, aqU, aqN, aqS, ↓seqK, ↓blkK, ↓loopK, step, stepBin, Nat.add_assoc nid, ↓reduceIte, Option.toList, ← Int.ofNat_tmod, ← Int.ofNat_tdiv, simprocAttr, BEq.rfl, LN_succ, e1, e2, e3, e4, e5, e6, e7, e8, e9]
    refine S2.dec (fun h4 => ?_) (fun h4 => ?_) <;> simp -dsimp only [aqT, aqU, aqN, aqS, ↓seqK, ↓blkK, ↓loopK, step, stepBin, Nat.add_assoc nid, ↓reduceIte, Option.toList, ← Int.ofNat_tmod, ← Int.ofNat_tdiv, simprocAttr, BEq.rfl, LN_succ]
    · refine SR.seqW (ι := {q2 : Nat // q2 ≤ q + 1000}) (fun q2 => ⟨[(8, .int .i64 i), (6, .ptr (nid + 4) 0), (0, .ptr s 0), (1, .int .i64 (faults : Nat)), (2, .int .i64 (tests : Nat))], [(nid + 4, some (.box 29 [.lit true 0 [], .lit true 0 []])), (s, strmC nl A q2)], nid + 900, nid⟩) ?_ (fun ⟨q2, hq2⟩ => ?_)
      · refine SR.block ?_
        refine SR.seqW (ι := {x : DictX // DictB tests x.G x.R ∧ x.q ≤ q + 1000}) (fun x => ⟨[(7, .ptr (nid + 300) 0), (8, .int .i64 i), (6, .ptr (nid + 4) 0), (0, .ptr s 0), (1, .int .i64 (faults : Nat)), (2, .int .i64 (tests : Nat))], [(nid + 300, boxP2 x.1.g0 x.1.r0 x.1.b x.1.G x.1.R), (nid + 4, some (.box 29 [.lit true 0 [], .lit true 0 []])), (s, strmC nl A x.1.q)], nid + 400, nid⟩) ?_ (fun ⟨x, hx1, hx2⟩ => ?_)
        · refine SR.run (t := .mk) ?_
          simp -dsimp only [aqT, aqU, aqN, aqS, ↓seqK, ↓blkK, ↓loopK, step, stepBin, Nat.add_assoc nid, ↓reduceIte, Option.toList, ← Int.ofNat_tmod, ← Int.ofNat_tdiv, simprocAttr, BEq.rfl, LN_succ, e1, e2, e3, e4, e5, e6, e7, e8, e9]
          refine CallO.any (dict_I s _ nl A q faults tests (by omega) (by omega) hA hf ht1 ht) (subH_get (by simp only [aqT, aqU, aqN, ↓seqK, ↓blkK, ↓loopK, step, stepBin, Nat.reduceBEq, Nat.reduceBeqDiff, Nat.add_assoc nid, Nat.reduceAdd, reduceCtorEq, ↓reduceIte, Nat.reduceLeDiff, Nat.reduceBneDiff, Option.toList, ← Int.ofNat_tmod, ← Int.ofNat_tdiv, Nat.reduceLT, e1, e2, e3, e4, e5, e6, e7, e8, e9, Int.cast_ofNat_Int, Int.reduceBEq, Int.reduceBNe, Int.reduceLT, Int.reduceLE, Int.reduceAdd, Int.reduceSub, Int.reduceMul, Int.reduceToNat, Int.reduceNeg, Int.reduceTMod, Int.reduceEq, not_false_eq_true, Int.reducePow, Int.reduceFDiv, Nat.reducePow, Nat.reduceSub, Nat.reduceMul, Nat.min_eq_left, Nat.reduceEqDiff, BEq.rfl, Int.tdiv_one, LN_succ])) (fun x hx => ?_)
          unfold dictP
          simp -dsimp only [aqT, aqU, aqN, aqS, ↓seqK, ↓blkK, ↓loopK, step, stepBin, Nat.add_assoc nid, ↓reduceIte, Option.toList, ← Int.ofNat_tmod, ← Int.ofNat_tdiv, simprocAttr, BEq.rfl, LN_succ, e1, e2, e3, e4, e5, e6, e7, e8, e9]
          refine ⟨⟨x, hx⟩, Cov.go [(nid + 300, nid + 120)] [] ?_⟩
          simp [cvT, step, res, e1, e2, e3, e4, e5, e6, e7, e8, e9, strmC, boxP2, ColsEq.refl, -List.getD_eq_getElem?_getD]
        · unfold boxP2
          have hr := fun m => dictR_c x.g0 x.r0 x.b x.G x.R m (hx1.w (by omega))
          unfold dictP at hr
          refine SR.run (t := .mk) ?_
          simp -dsimp only [aqT, aqU, aqN, aqS, ↓seqK, ↓blkK, ↓loopK, step, stepBin, Nat.add_assoc nid, ↓reduceIte, Option.toList, ← Int.ofNat_tmod, ← Int.ofNat_tdiv, simprocAttr, BEq.rfl, LN_succ, e1, e2, e3, e4, e5, e6, e7, e8, e9]
          refine CallO.pure (hr _) ?_
          simp -dsimp only [aqT, aqU, aqN, aqS, ↓seqK, ↓blkK, ↓loopK, step, stepBin, Nat.add_assoc nid, ↓reduceIte, Option.toList, ← Int.ofNat_tmod, ← Int.ofNat_tdiv, simprocAttr, BEq.rfl, LN_succ, e1, e2, e3, e4, e5, e6, e7, e8, e9]
          refine S2.intro (fun h5 => ?_) (fun h5 => ?_) <;> simp -dsimp only [aqT, aqU, aqN, aqS, ↓seqK, ↓blkK, ↓loopK, step, stepBin, Nat.add_assoc nid, ↓reduceIte, Option.toList, ← Int.ofNat_tmod, ← Int.ofNat_tdiv, simprocAttr, BEq.rfl, LN_succ, e1, e2, e3, e4, e5, e6, e7, e8, e9]
          · refine ⟨x, ⟨⟨hx1, by simpa using h5⟩, by omega⟩, RetOK.go [] [] (.inl rfl) ?_⟩
            simp [cvT, step, res, e1, e2, e3, e4, e5, e6, e7, e8, e9, a42, strmC, dictP, ColsEq.refl, -List.getD_eq_getElem?_getD]
          · refine ⟨⟨x.q, by omega⟩, Cov.go [] [] ?_⟩
            simp [cvT, step, res, e1, e2, e3, e4, e5, e6, e7, e8, e9, strmC, -List.getD_eq_getElem?_getD]
      refine SR.run (t := .mk) ?_
      simp -dsimp only [aqT, aqU, aqN, aqS, ↓seqK, ↓blkK, ↓loopK, step, stepBin, Nat.add_assoc nid, ↓reduceIte, Option.toList, ← Int.ofNat_tmod, ← Int.ofNat_tdiv, simprocAttr, BEq.rfl, LN_succ, e1, e2, e3, e4, e5, e6, e7, e8, e9]
      refine ⟨by unfold inI64; omega, (i + 1, q2), ⟨⟨by simp only; omega, by simp only; omega⟩, by simp only; omega⟩, Cov.go [] [] ?_⟩
      simp [cvT, step, res, e1, e2, e3, e4, e5, e6, e7, e8, e9, strmC, -List.getD_eq_getElem?_getD]
    · refine ⟨⟨q, by omega⟩, Cov.go [] [] ?_⟩
      simp [cvT, step, res, e1, e2, e3, e4, e5, e6, e7, e8, e9, strmC, -List.getD_eq_getElem?_getD]
  · refine SR.seqTo ⟨[(6, .ptr (nid + 4) 0)], [(nid + 4, boxD (nid + 2500) 1 (nid + 2504) 0), (nid + 2500, arrS [[48]]), (nid + 2504, some (.arr 67 0 [.s fun k => rowF [] k, .l (fun _ => false) (fun k => (rowR [] k).length) (fun k => [.s fun j => (rowR [] k).getD j []])])), (s, strmC nl A q)], nid + 3000, nid⟩ ?_ ?_
    · simp -dsimp only [aqT, aqU, aqN, aqS, ↓seqK, ↓blkK, ↓loopK, step, stepBin, Nat.add_assoc nid, ↓reduceIte, Option.toList, ← Int.ofNat_tmod, ← Int.ofNat_tdiv, simprocAttr, BEq.rfl, LN_succ, e1, e2, e3, e4, e5, e6, e7, e8, e9]
      refine Cov.go [(nid + 2500, nid + 2000)] [(nid + 2504, 2)] ?_
      simp [cvT, step, res, e1, e2, e3, e4, e5, e6, e7, e8, e9, strmC, boxD, arrS, -List.getD_eq_getElem?_getD]
    unfold boxD arrS
    refine SR.freezeB [nid + 2500, nid + 2504] (fun n2 => ?_)
    simp only [frzS, frzH, frzBlk, lends, lend, kill, strmC, noOs, aqT, aqU, aqN, aqS, ↓seqK, ↓blkK, ↓loopK, step, stepBin, Nat.add_assoc nid, ↓reduceIte, Option.toList, ← Int.ofNat_tmod, ← Int.ofNat_tdiv, simprocAttr, BEq.rfl, LN_succ, e1, e2, e3, e4, e5, e6, e7, e8, e9]
    refine SR.run (t := .mk) ?_
    simp -dsimp only [aqT, aqU, aqN, aqS, ↓seqK, ↓blkK, ↓loopK, step, stepBin, Nat.add_assoc nid, ↓reduceIte, Option.toList, ← Int.ofNat_tmod, ← Int.ofNat_tdiv, simprocAttr, BEq.rfl, LN_succ, e1, e2, e3, e4, e5, e6, e7, e8, e9]
    refine ⟨⟨n2 (nid + 2500), n2 (nid + 2504), fun _ => false, [[48]], [], q⟩, ⟨⟨⟨by simpa using ht1, ?_, by simp, by simp⟩, by rfl⟩, by simp only; omega⟩, RetOK.go [] [] (.inl rfl) ?_⟩
    · intro r hr
      simp only [List.mem_singleton] at hr
      subst hr
      decide
    simp [cvT, step, res, e1, e2, e3, e4, e5, e6, e7, e8, e9, a42, strmC, dictP, ColsEq.refl, -List.getD_eq_getElem?_getD]
end Go.Proofs.YtpifoghhaohhaaaGreatDoor
namespace Go.Proofs.YtpifoghhaohhaaaGreatDoor
open Go.RowKit Go.Shelf Go.Lib
abbrev SeenL := List (Int × List UInt8)
def sT (S : SeenL) (k : Nat) : Int := (S.getD k (0, [])).1
def sR (S : SeenL) (k : Nat) : List UInt8 := (S.getD k (0, [])).2
def arrSn (S : SeenL) : Option ABlk := some (.arr 69 S.length [.i .i64 fun k => sT S k, .s fun k => sR S k])
def litSn (nl : Bool) (S : SeenL) : PV := .lit nl S.length [.i .i64 fun k => sT S k, .s fun k => sR S k]
def boxRw (f : List UInt8) (b : Bool) (L : List (List UInt8)) : Option ABlk := some (.box 67 [.str f, .lit b L.length [.s fun j => L.getD j []]])
def offB (L : List (List UInt8)) (t : Int) (r : List UInt8) : Bool := !(L.getD t.toNat [] == r)
def SnIn (n : Nat) (S : SeenL) : Prop := ∀ k, k < S.length → 0 ≤ sT S k ∧ sT S k < n
def idxR (F : Nat → Bool) (n : Nat) : Int := if (List.range n).any F = true then (((List.range n).findIdx F : Nat) : Int) else -1
theorem idxR_at {F : Nat → Bool} {n k : Nat} (hk : k < n) (h : F k = true) (h0 : ∀ j, j < k → F j = false) : idxR F n = (k : Nat) := by
  have e : (List.range n).findIdx F = k := (List.findIdx_eq (by simpa using hk)).2 ⟨by simpa using h, fun j hj => by simpa using h0 j hj⟩
  unfold idxR
  rw [if_pos, e]
  exact List.any_eq_true.2 ⟨k, List.mem_range.2 hk, h⟩
theorem idxR_no {F : Nat → Bool} {n : Nat} (h0 : ∀ j, j < n → F j = false) : idxR F n = -1 := by
  unfold idxR
  rw [if_neg]
  intro h
  obtain ⟨x, hx, hf⟩ := List.any_eq_true.1 h
  rw [h0 x (List.mem_range.1 hx)] at hf; cases hf
theorem idxR_any (F : Nat → Bool) (n : Nat) : decide (0 ≤ idxR F n) = (List.range n).any F := by
  unfold idxR
  cases h : (List.range n).any F <;> simp
def consB (L : List (List UInt8)) (S : SeenL) : Bool := !(List.range S.length).any (fun k => offB L (sT S k) (sR S k))
end Go.Proofs.YtpifoghhaohhaaaGreatDoor
namespace Go.Proofs.YtpifoghhaohhaaaGreatDoor
open Go.RowKit Go.Shelf Go.Lib
theorem indexI_h (f : Nat) (caps : List PV) (Hs : Heap) (F : Nat → Bool) (nl : Bool) (n : Nat) (G : Nat → Int) (nid : Nat) (hs : Scoped nid Hs) (hcap : lowAll nid (idsOfs caps) = true) (hl : n ≤ 1000000)
    (hf : ∀ k, k < n → ∀ nid', nid ≤ nid' → ACall Tryz.prog f (.int .i64 (G k) :: caps) Hs nid' (.bool (F k)) []) :
    ACall Tryz.prog 182 [.lit nl n [.i .i64 G], .fn f caps] Hs nid (.int .i64 (idxR F n)) [] := by
  have hcv := capsC hcap
  refine acall_run c182 (by simp [a182]) ?_
  simp -dsimp only [a182, aqT, aqU, aqN, aqS, ↓seqK, ↓blkK, ↓loopK, step, stepBin, Nat.add_assoc nid, ↓reduceIte, Option.toList, ← Int.ofNat_tmod, ← Int.ofNat_tdiv, simprocAttr, BEq.rfl, LN_succ]
  refine LP.mkP (fun k : Nat => k ≤ n ∧ ∀ j, j < k → F j = false) (fun k : Nat => ⟨[(8, .int .i64 k), (7, .int .i64 n), (0, .lit nl n [.i .i64 G]), (1, .fn f caps)], Hs, nid + 100, nid⟩) (fun k => n + 1 - k) 0 ⟨by omega, fun j hj => by omega⟩ (Cov.goF Hs [] [] [] [] hs (by simp [kOK]) rfl ?_) (fun k hk => ?_)
  · simp [cvT, step, res, hcv]
  obtain ⟨hk, hb⟩ := hk
  simp -dsimp only [aqT, aqU, aqN, aqS, ↓seqK, ↓blkK, ↓loopK, step, stepBin, Nat.add_assoc nid, ↓reduceIte, Option.toList, ← Int.ofNat_tmod, ← Int.ofNat_tdiv, simprocAttr, BEq.rfl, LN_succ]
  refine S2.dec (fun h3 => ?_) (fun h3 => ?_) <;> simp -dsimp only [aqT, aqU, aqN, aqS, ↓seqK, ↓blkK, ↓loopK, step, stepBin, Nat.add_assoc nid, ↓reduceIte, Option.toList, ← Int.ofNat_tmod, ← Int.ofNat_tdiv, simprocAttr, BEq.rfl, LN_succ]
  · have hkl : k < n := by omega
    refine ⟨by omega, CallO.on (hf k hkl _ (by omega)) (subH_frame (X := []) hs (by simp [kOK])) ?_⟩
    simp -dsimp only [aqT, aqU, aqN, aqS, ↓seqK, ↓blkK, ↓loopK, step, stepBin, Nat.add_assoc nid, ↓reduceIte, Option.toList, ← Int.ofNat_tmod, ← Int.ofNat_tdiv, simprocAttr, BEq.rfl, LN_succ]
    refine S2.intro (fun h4 => ?_) (fun h4 => ?_) <;> simp -dsimp only [aqT, aqU, aqN, aqS, ↓seqK, ↓blkK, ↓loopK, step, stepBin, Nat.add_assoc nid, ↓reduceIte, Option.toList, ← Int.ofNat_tmod, ← Int.ofNat_tdiv, simprocAttr, BEq.rfl, LN_succ]
    · rw [idxR_at hkl h4 hb]
      refine RetOK.goF Hs [] [] [] [] [] (.inl rfl) hs (by simp [kOK]) rfl ?_
      simp [a182, cvT, step, res]
    · refine ⟨by unfold inI64; omega, k + 1, ⟨⟨by omega, fun j hj => ?_⟩, by omega⟩, Cov.goF Hs [] [] [] [] hs (by simp [kOK]) rfl ?_⟩
      · rcases (by omega : j < k ∨ j = k) with hj | hj
        · exact hb j hj
        · rw [hj]; exact h4
      · simp [cvT, step, res, hcv]
  · have hkn : k = n := by omega
    subst hkn
    rw [idxR_no hb]
    refine RetOK.goF Hs [] [] [] [] [] (.inl rfl) hs (by simp [kOK]) rfl ?_
    simp [a182, cvT, step, res]
theorem containsI_h (f : Nat) (caps : List PV) (Hs : Heap) (F : Nat → Bool) (nl : Bool) (n : Nat) (G : Nat → Int) (nid : Nat) (hs : Scoped nid Hs) (hcap : lowAll nid (idsOfs caps) = true) (hl : n ≤ 1000000)
    (hf : ∀ k, k < n → ∀ nid', nid ≤ nid' → ACall Tryz.prog f (.int .i64 (G k) :: caps) Hs nid' (.bool (F k)) []) :
    ACall Tryz.prog 90 [.lit nl n [.i .i64 G], .fn f caps] Hs nid (.bool ((List.range n).any F)) [] := by
  have hcv := capsC hcap
  refine acall_run c90 (by simp [a90]) ?_
  simp -dsimp only [a90, aqT, aqU, aqN, aqS, ↓seqK, ↓blkK, ↓loopK, step, stepBin, Nat.add_assoc nid, ↓reduceIte, Option.toList, ← Int.ofNat_tmod, ← Int.ofNat_tdiv, simprocAttr, BEq.rfl, LN_succ]
  refine CallO.on (indexI_h f caps Hs F nl n G _ (hs.mono (by omega)) (lowAll_mono hcap (by omega)) hl (fun k hk nid' h' => hf k hk nid' (by omega))) (fun _ _ h => h) ?_
  simp -dsimp only [aqT, aqU, aqN, aqS, ↓seqK, ↓blkK, ↓loopK, step, stepBin, Nat.add_assoc nid, ↓reduceIte, Option.toList, ← Int.ofNat_tmod, ← Int.ofNat_tdiv, simprocAttr, BEq.rfl, LN_succ]
  have e := idxR_any F n
  generalize idxR F n = i at *
  rw [← e]
  refine RetOK.goF Hs [] [] [] [] [] (.inl rfl) hs (by simp [kOK]) rfl ?_
  simp [a90, cvT, step, res]
theorem indexS_h (f : Nat) (caps : List PV) (Hs : Heap) (F : Nat → Bool) (nl : Bool) (n : Nat) (G : Nat → List UInt8) (nid : Nat) (hs : Scoped nid Hs) (hcap : lowAll nid (idsOfs caps) = true) (hl : n ≤ 1000000)
    (hf : ∀ k, k < n → ∀ nid', nid ≤ nid' → ACall Tryz.prog f (.str (G k) :: caps) Hs nid' (.bool (F k)) []) :
    ACall Tryz.prog 151 [.lit nl n [.s G], .fn f caps] Hs nid (.int .i64 (idxR F n)) [] := by
  have hcv := capsC hcap
  refine acall_run c151 (by simp [a151]) ?_
  simp -dsimp only [a151, aqT, aqU, aqN, aqS, ↓seqK, ↓blkK, ↓loopK, step, stepBin, Nat.add_assoc nid, ↓reduceIte, Option.toList, ← Int.ofNat_tmod, ← Int.ofNat_tdiv, simprocAttr, BEq.rfl, LN_succ]
  refine LP.mkP (fun k : Nat => k ≤ n ∧ ∀ j, j < k → F j = false) (fun k : Nat => ⟨[(8, .int .i64 k), (7, .int .i64 n), (0, .lit nl n [.s G]), (1, .fn f caps)], Hs, nid + 100, nid⟩) (fun k => n + 1 - k) 0 ⟨by omega, fun j hj => by omega⟩ (Cov.goF Hs [] [] [] [] hs (by simp [kOK]) rfl ?_) (fun k hk => ?_)
  · simp [cvT, step, res, hcv]
  obtain ⟨hk, hb⟩ := hk
  simp -dsimp only [aqT, aqU, aqN, aqS, ↓seqK, ↓blkK, ↓loopK, step, stepBin, Nat.add_assoc nid, ↓reduceIte, Option.toList, ← Int.ofNat_tmod, ← Int.ofNat_tdiv, simprocAttr, BEq.rfl, LN_succ]
  refine S2.dec (fun h3 => ?_) (fun h3 => ?_) <;> simp -dsimp only [aqT, aqU, aqN, aqS, ↓seqK, ↓blkK, ↓loopK, step, stepBin, Nat.add_assoc nid, ↓reduceIte, Option.toList, ← Int.ofNat_tmod, ← Int.ofNat_tdiv, simprocAttr, BEq.rfl, LN_succ]
  · have hkl : k < n := by omega
    refine ⟨by omega, CallO.on (hf k hkl _ (by omega)) (subH_frame (X := []) hs (by simp [kOK])) ?_⟩
    simp -dsimp only [aqT, aqU, aqN, aqS, ↓seqK, ↓blkK, ↓loopK, step, stepBin, Nat.add_assoc nid, ↓reduceIte, Option.toList, ← Int.ofNat_tmod, ← Int.ofNat_tdiv, simprocAttr, BEq.rfl, LN_succ]
    refine S2.intro (fun h4 => ?_) (fun h4 => ?_) <;> simp -dsimp only [aqT, aqU, aqN, aqS, ↓seqK, ↓blkK, ↓loopK, step, stepBin, Nat.add_assoc nid, ↓reduceIte, Option.toList, ← Int.ofNat_tmod, ← Int.ofNat_tdiv, simprocAttr, BEq.rfl, LN_succ]
    · rw [idxR_at hkl h4 hb]
      refine RetOK.goF Hs [] [] [] [] [] (.inl rfl) hs (by simp [kOK]) rfl ?_
      simp [a151, cvT, step, res]
    · refine ⟨by unfold inI64; omega, k + 1, ⟨⟨by omega, fun j hj => ?_⟩, by omega⟩, Cov.goF Hs [] [] [] [] hs (by simp [kOK]) rfl ?_⟩
      · rcases (by omega : j < k ∨ j = k) with hj | hj
        · exact hb j hj
        · rw [hj]; exact h4
      · simp [cvT, step, res, hcv]
  · have hkn : k = n := by omega
    subst hkn
    rw [idxR_no hb]
    refine RetOK.goF Hs [] [] [] [] [] (.inl rfl) hs (by simp [kOK]) rfl ?_
    simp [a151, cvT, step, res]
theorem containsS_h (f : Nat) (caps : List PV) (Hs : Heap) (F : Nat → Bool) (nl : Bool) (n : Nat) (G : Nat → List UInt8) (nid : Nat) (hs : Scoped nid Hs) (hcap : lowAll nid (idsOfs caps) = true) (hl : n ≤ 1000000)
    (hf : ∀ k, k < n → ∀ nid', nid ≤ nid' → ACall Tryz.prog f (.str (G k) :: caps) Hs nid' (.bool (F k)) []) :
    ACall Tryz.prog 61 [.lit nl n [.s G], .fn f caps] Hs nid (.bool ((List.range n).any F)) [] := by
  have hcv := capsC hcap
  refine acall_run c61 (by simp [a61]) ?_
  simp -dsimp only [a61, aqT, aqU, aqN, aqS, ↓seqK, ↓blkK, ↓loopK, step, stepBin, Nat.add_assoc nid, ↓reduceIte, Option.toList, ← Int.ofNat_tmod, ← Int.ofNat_tdiv, simprocAttr, BEq.rfl, LN_succ]
  refine CallO.on (indexS_h f caps Hs F nl n G _ (hs.mono (by omega)) (lowAll_mono hcap (by omega)) hl (fun k hk nid' h' => hf k hk nid' (by omega))) (fun _ _ h => h) ?_
  simp -dsimp only [aqT, aqU, aqN, aqS, ↓seqK, ↓blkK, ↓loopK, step, stepBin, Nat.add_assoc nid, ↓reduceIte, Option.toList, ← Int.ofNat_tmod, ← Int.ofNat_tdiv, simprocAttr, BEq.rfl, LN_succ]
  have e := idxR_any F n
  generalize idxR F n = i at *
  rw [← e]
  refine RetOK.goF Hs [] [] [] [] [] (.inl rfl) hs (by simp [kOK]) rfl ?_
  simp [a61, cvT, step, res]
theorem indexSn_h (f : Nat) (caps : List PV) (Hs : Heap) (F : Nat → Bool) (nl : Bool) (n : Nat) (G : Nat → Int) (G2 : Nat → List UInt8) (nid : Nat) (hs : Scoped nid Hs) (hcap : lowAll nid (idsOfs caps) = true) (hl : n ≤ 1000000)
    (hf : ∀ k, k < n → ∀ nid', nid ≤ nid' → ACall Tryz.prog f (.agg [.int .i64 (G k), .str (G2 k)] :: caps) Hs nid' (.bool (F k)) []) :
    ACall Tryz.prog 205 [.lit nl n [.i .i64 G, .s G2], .fn f caps] Hs nid (.int .i64 (idxR F n)) [] := by
  have hcv := capsC hcap
  refine acall_run c205 (by simp [a205]) ?_
  simp -dsimp only [a205, aqT, aqU, aqN, aqS, ↓seqK, ↓blkK, ↓loopK, step, stepBin, Nat.add_assoc nid, ↓reduceIte, Option.toList, ← Int.ofNat_tmod, ← Int.ofNat_tdiv, simprocAttr, BEq.rfl, LN_succ]
  refine LP.mkP (fun k : Nat => k ≤ n ∧ ∀ j, j < k → F j = false) (fun k : Nat => ⟨[(8, .int .i64 k), (7, .int .i64 n), (0, .lit nl n [.i .i64 G, .s G2]), (1, .fn f caps)], Hs, nid + 100, nid⟩) (fun k => n + 1 - k) 0 ⟨by omega, fun j hj => by omega⟩ (Cov.goF Hs [] [] [] [] hs (by simp [kOK]) rfl ?_) (fun k hk => ?_)
  · simp [cvT, step, res, hcv]
  obtain ⟨hk, hb⟩ := hk
  simp -dsimp only [aqT, aqU, aqN, aqS, ↓seqK, ↓blkK, ↓loopK, step, stepBin, Nat.add_assoc nid, ↓reduceIte, Option.toList, ← Int.ofNat_tmod, ← Int.ofNat_tdiv, simprocAttr, BEq.rfl, LN_succ]
  refine S2.dec (fun h3 => ?_) (fun h3 => ?_) <;> simp -dsimp only [aqT, aqU, aqN, aqS, ↓seqK, ↓blkK, ↓loopK, step, stepBin, Nat.add_assoc nid, ↓reduceIte, Option.toList, ← Int.ofNat_tmod, ← Int.ofNat_tdiv, simprocAttr, BEq.rfl, LN_succ]
  · have hkl : k < n := by omega
    refine ⟨by omega, CallO.on (hf k hkl _ (by omega)) (subH_frame (X := []) hs (by simp [kOK])) ?_⟩
    simp -dsimp only [aqT, aqU, aqN, aqS, ↓seqK, ↓blkK, ↓loopK, step, stepBin, Nat.add_assoc nid, ↓reduceIte, Option.toList, ← Int.ofNat_tmod, ← Int.ofNat_tdiv, simprocAttr, BEq.rfl, LN_succ]
    refine S2.intro (fun h4 => ?_) (fun h4 => ?_) <;> simp -dsimp only [aqT, aqU, aqN, aqS, ↓seqK, ↓blkK, ↓loopK, step, stepBin, Nat.add_assoc nid, ↓reduceIte, Option.toList, ← Int.ofNat_tmod, ← Int.ofNat_tdiv, simprocAttr, BEq.rfl, LN_succ]
    · rw [idxR_at hkl h4 hb]
      refine RetOK.goF Hs [] [] [] [] [] (.inl rfl) hs (by simp [kOK]) rfl ?_
      simp [a205, cvT, step, res]
    · refine ⟨by unfold inI64; omega, k + 1, ⟨⟨by omega, fun j hj => ?_⟩, by omega⟩, Cov.goF Hs [] [] [] [] hs (by simp [kOK]) rfl ?_⟩
      · rcases (by omega : j < k ∨ j = k) with hj | hj
        · exact hb j hj
        · rw [hj]; exact h4
      · simp [cvT, step, res, hcv]
  · have hkn : k = n := by omega
    subst hkn
    rw [idxR_no hb]
    refine RetOK.goF Hs [] [] [] [] [] (.inl rfl) hs (by simp [kOK]) rfl ?_
    simp [a205, cvT, step, res]
theorem containsSn_h (f : Nat) (caps : List PV) (Hs : Heap) (F : Nat → Bool) (nl : Bool) (n : Nat) (G : Nat → Int) (G2 : Nat → List UInt8) (nid : Nat) (hs : Scoped nid Hs) (hcap : lowAll nid (idsOfs caps) = true) (hl : n ≤ 1000000)
    (hf : ∀ k, k < n → ∀ nid', nid ≤ nid' → ACall Tryz.prog f (.agg [.int .i64 (G k), .str (G2 k)] :: caps) Hs nid' (.bool (F k)) []) :
    ACall Tryz.prog 125 [.lit nl n [.i .i64 G, .s G2], .fn f caps] Hs nid (.bool ((List.range n).any F)) [] := by
  have hcv := capsC hcap
  refine acall_run c125 (by simp [a125]) ?_
  simp -dsimp only [a125, aqT, aqU, aqN, aqS, ↓seqK, ↓blkK, ↓loopK, step, stepBin, Nat.add_assoc nid, ↓reduceIte, Option.toList, ← Int.ofNat_tmod, ← Int.ofNat_tdiv, simprocAttr, BEq.rfl, LN_succ]
  refine CallO.on (indexSn_h f caps Hs F nl n G G2 _ (hs.mono (by omega)) (lowAll_mono hcap (by omega)) hl (fun k hk nid' h' => hf k hk nid' (by omega))) (fun _ _ h => h) ?_
  simp -dsimp only [aqT, aqU, aqN, aqS, ↓seqK, ↓blkK, ↓loopK, step, stepBin, Nat.add_assoc nid, ↓reduceIte, Option.toList, ← Int.ofNat_tmod, ← Int.ofNat_tdiv, simprocAttr, BEq.rfl, LN_succ]
  have e := idxR_any F n
  generalize idxR F n = i at *
  rw [← e]
  refine RetOK.goF Hs [] [] [] [] [] (.inl rfl) hs (by simp [kOK]) rfl ?_
  simp [a125, cvT, step, res]
end Go.Proofs.YtpifoghhaohhaaaGreatDoor
namespace Go.Proofs.YtpifoghhaohhaaaGreatDoor
open Go.RowKit Go.Shelf Go.Lib
def popZ (n : Nat) : Nat := ((List.range 7).filter fun j => n.testBit j).length
def andZ (a b : Int) : Int := IntKind.u64.wrap ((BitVec.ofInt IntKind.u64.bits a &&& BitVec.ofInt IntKind.u64.bits b).toNat : Int)
def oz1 (x : Int) : Int := IntKind.u64.wrap (andZ (x.fdiv (2 ^ min 1 IntKind.u64.bits)) 6148914691236517205 + andZ x 6148914691236517205)
def oz2 (x : Int) : Int := IntKind.u64.wrap (andZ (x.fdiv (2 ^ min 2 IntKind.u64.bits)) 3689348814741910323 + andZ x 3689348814741910323)
def oz4 (x : Int) : Int := andZ (IntKind.u64.wrap (x.fdiv (2 ^ min 4 IntKind.u64.bits) + x)) 1085102592571150095
def oz8 (x : Int) : Int := IntKind.u64.wrap (x + x.fdiv (2 ^ min 8 IntKind.u64.bits))
def oz16 (x : Int) : Int := IntKind.u64.wrap (x + x.fdiv (2 ^ min 16 IntKind.u64.bits))
def oz32 (x : Int) : Int := IntKind.u64.wrap (x + x.fdiv (2 ^ min 32 IntKind.u64.bits))
def ozF (x : Int) : Int := IntKind.i64.wrap ((BitVec.ofInt IntKind.i64.bits (IntKind.i64.wrap x) &&& BitVec.ofInt IntKind.i64.bits 127).toNat : Int)
def onesZ (n : Nat) : Int := ozF (oz32 (oz16 (oz8 (oz4 (oz2 (oz1 (n : Nat)))))))
theorem onesZ_all : ((List.range 128).all fun n => decide (onesZ n = (popZ n : Nat))) = true := by kernel_rfl
theorem onesZ_eq {n : Nat} (hn : n < 128) : onesZ n = (popZ n : Nat) := of_decide_eq_true (List.all_eq_true.1 onesZ_all n (List.mem_range.2 hn))
set_option maxHeartbeats 4000000 in
theorem onesZ64_c (n : Nat) (nid : Nat) (hn : n < 128) : ACall Tryz.prog 207 [.int .u64 (n : Nat)] [] nid (.int .i64 (popZ n : Nat)) [] := by
  have e := onesZ_eq hn
  refine acall_run c207 (by simp [a207]) ?_
  simp -dsimp only [aqT, aqU, aqN, aqS, ↓seqK, ↓blkK, ↓loopK, step, stepBin, Nat.add_assoc nid, ↓reduceIte, Option.toList, ← Int.ofNat_tmod, ← Int.ofNat_tdiv, simprocAttr, BEq.rfl, LN_succ, a207]
  simp only [onesZ, ozF, oz32, oz16, oz8, oz4, oz2, oz1, andZ] at e
  rw [e]
  refine RetOK.pure (.inl rfl) rfl ?_
  simp [cvT, step, res]
theorem onesZ_c (n : Nat) (nid : Nat) (hn : n < 128) : ACall Tryz.prog 127 [.int .u64 (n : Nat)] [] nid (.int .i64 (popZ n : Nat)) [] := by
  refine acall_run c127 (by simp [a127]) ?_
  simp -dsimp only [aqT, aqU, aqN, aqS, ↓seqK, ↓blkK, ↓loopK, step, stepBin, Nat.add_assoc nid, ↓reduceIte, Option.toList, ← Int.ofNat_tmod, ← Int.ofNat_tdiv, simprocAttr, BEq.rfl, LN_succ, a127]
  refine CallO.pure (onesZ64_c n _ hn) ?_
  simp -dsimp only [aqT, aqU, aqN, aqS, ↓seqK, ↓blkK, ↓loopK, step, stepBin, Nat.add_assoc nid, ↓reduceIte, Option.toList, ← Int.ofNat_tmod, ← Int.ofNat_tdiv, simprocAttr, BEq.rfl, LN_succ]
  refine RetOK.pure (.inl rfl) rfl ?_
  simp [cvT, step, res]
theorem popZ_le (n : Nat) : popZ n ≤ 7 := Nat.le_trans (List.length_filter_le _ _) (by simp)
def worseZ (best mask : Nat) : Bool :=
  let d : Int := IntKind.u64.wrap ((BitVec.ofInt IntKind.u64.bits ((mask : Nat) : Int) ^^^ BitVec.ofInt IntKind.u64.bits ((best : Nat) : Int)).toNat : Int)
  let low : Int := IntKind.u64.wrap ((BitVec.ofInt IntKind.u64.bits d &&& BitVec.ofInt IntKind.u64.bits (IntKind.u64.wrap (0 - d))).toNat : Int)
  IntKind.u64.wrap ((BitVec.ofInt IntKind.u64.bits ((mask : Nat) : Int) &&& BitVec.ofInt IntKind.u64.bits low).toNat : Int) == 0
def skipZ (best mask : Nat) : Bool := decide (0 < ((popZ mask : Nat) : Int) - ((popZ best : Nat) : Int)) || (((((popZ mask : Nat) : Int) - ((popZ best : Nat) : Int)) == 0) && worseZ best mask)
def fewZ (B x : Nat) : List Nat := (List.range x).filter fun i => B.testBit i
theorem fewZ_yes {B x : Nat} (h : B.testBit x = true) : fewZ B (x + 1) = fewZ B x ++ [x] := by
  unfold fewZ
  rw [List.range_succ, List.filter_append]
  simp [h]
theorem fewZ_no {B x : Nat} (h : B.testBit x = false) : fewZ B (x + 1) = fewZ B x := by
  unfold fewZ
  rw [List.range_succ, List.filter_append]
  simp [h]
theorem fewZ_len (B x : Nat) : (fewZ B x).length ≤ x := Nat.le_trans (List.length_filter_le _ _) (by simp)
def bitZ (B i : Nat) : Bool := IntKind.u64.wrap ((BitVec.ofInt IntKind.u64.bits (((B : Nat) : Int).fdiv (2 ^ min i IntKind.u64.bits)) &&& BitVec.ofInt IntKind.u64.bits 1).toNat : Int) == 1
theorem bitZ_all : ((List.range 128).all fun b => (List.range 7).all fun i => bitZ b i == b.testBit i) = true := by kernel_rfl
theorem bitZ_eq {b i : Nat} (hb : b < 128) (hi : i < 7) : bitZ b i = b.testBit i :=
  beq_iff_eq.1 (List.all_eq_true.1 (List.all_eq_true.1 bitZ_all b (List.mem_range.2 hb)) i (List.mem_range.2 hi))
theorem powZ_all : ((List.range 8).all fun j => decide (IntKind.u64.wrap (1 * 2 ^ (min ((j : Nat) : Int).toNat IntKind.u64.bits)) = ((2 ^ j : Nat) : Int) ∧ IntKind.i64.wrap (1 * 2 ^ (min ((j : Nat) : Int).toNat IntKind.i64.bits)) = ((2 ^ j : Nat) : Int))) = true := by kernel_rfl
theorem powZ_eq {j : Nat} (hj : j < 8) : IntKind.u64.wrap (1 * 2 ^ (min j IntKind.u64.bits)) = ((2 ^ j : Nat) : Int) ∧ IntKind.i64.wrap (1 * 2 ^ (min j IntKind.i64.bits)) = ((2 ^ j : Nat) : Int) :=
  of_decide_eq_true (List.all_eq_true.1 powZ_all j (List.mem_range.2 hj))
end Go.Proofs.YtpifoghhaohhaaaGreatDoor
namespace Go.Proofs.YtpifoghhaohhaaaGreatDoor
open Go.RowKit Go.Shelf Go.Lib
abbrev Rw := List UInt8 × Bool × List (List UInt8)
def z0 : Rw := ([], true, [])
def rwV (p : Rw) : PV := .agg [.str p.1, .lit p.2.1 p.2.2.length [.s fun j => p.2.2.getD j []]]
def colsRw (l : List Rw) : List Col := [.s fun k => (l.getD k z0).1, .l (fun k => (l.getD k z0).2.1) (fun k => (l.getD k z0).2.2.length) (fun k => [.s fun j => (l.getD k z0).2.2.getD j []])]
def arrRw (l : List Rw) : Option ABlk := some (.arr 67 l.length (colsRw l))
def arrRz (n : Nat) (l : List Rw) : Option ABlk := some (.arr 67 n [.s fun k => if k < l.length then (l.getD k z0).1 else [], .l (fun k => if k < l.length then (l.getD k z0).2.1 else true) (fun k => if k < l.length then (l.getD k z0).2.2.length else 0) (fun k => if k < l.length then [.s fun j => (l.getD k z0).2.2.getD j []] else [])])
theorem rwMem {l : List Rw} {k : Nat} (h : k < l.length) : l.getD k z0 ∈ l := by
  rw [List.getD_eq_getElem?_getD, List.getElem?_eq_getElem h]; exact List.getElem_mem _
def idxW (F : Rw → Bool) (l : List Rw) : Int := match l.findIdx? F with
  | some i => (i : Int)
  | none => -1
theorem idxW_hit {F : Rw → Bool} : ∀ {l : List Rw} {k : Nat}, k < l.length → (∀ j, j < k → F (l.getD j z0) = false) → F (l.getD k z0) = true → l.findIdx? F = some k
  | [], k, hk, _, _ => by simp at hk
  | a :: l, 0, _, _, h => by
    have h' : F a = true := by simpa using h
    simp [List.findIdx?_cons, h']
  | a :: l, k + 1, hk, hall, h => by
    have h0 : F a = false := by simpa using hall 0 (by omega)
    have := idxW_hit (F := F) (l := l) (k := k) (by simpa using hk) (fun j hj => by simpa using hall (j + 1) (by omega)) (by simpa using h)
    simp [List.findIdx?_cons, h0, this]
theorem idxW_none {F : Rw → Bool} : ∀ {l : List Rw}, (∀ j, j < l.length → F (l.getD j z0) = false) → l.findIdx? F = none
  | [], _ => rfl
  | a :: l, hall => by
    have h0 : F a = false := by simpa using hall 0 (by simp)
    have := idxW_none (F := F) (l := l) (fun j hj => by simpa using hall (j + 1) (by simpa using hj))
    simp [List.findIdx?_cons, h0, this]
set_option maxHeartbeats 4000000 in
theorem indexW_h (f id : Nat) (caps : List PV) (Hs : Heap) (F : Rw → Bool) (l : List Rw) (nid : Nat) (hid : id < nid) (hnk : id ∉ keys Hs) (hs : Scoped nid Hs) (hcap : lowAll nid (idsOfs caps) = true) (hl : l.length ≤ 2000000)
    (hf : ∀ p ∈ l, ∀ nid', nid ≤ nid' → ACall Tryz.prog f (rwV p :: caps) Hs nid' (.bool (F p)) []) :
    ACall Tryz.prog 188 [.sl id 0 l.length, .fn f caps] ((id, arrRw l) :: Hs) nid (.int .i64 (idxW F l)) [] := by
  have hcv := capsC hcap
  obtain ⟨a1, a2, a3, a4, a5, a6, a7, a8, a9⟩ := id_all hid
  refine acall_run c188 (by simp [a188]) ?_
  unfold arrRw colsRw
  simp -dsimp only [a188, aqT, aqU, aqN, aqS, ↓seqK, ↓blkK, ↓loopK, step, stepBin, Nat.add_assoc nid, ↓reduceIte, Option.toList, ← Int.ofNat_tmod, ← Int.ofNat_tdiv, simprocAttr, BEq.rfl, LN_succ, a1, a2, a3, a4, a5, a6, a7, a8, a9]
  refine LP.mkP (fun k : Nat => k ≤ l.length ∧ ∀ j, j < k → F (l.getD j z0) = false) (fun k : Nat => ⟨[(8, .int .i64 k), (7, .int .i64 l.length), (0, .sl id 0 l.length), (1, .fn f caps)], (id, arrRw l) :: Hs, nid + 100, nid⟩) (fun k => l.length + 1 - k) 0 ⟨by omega, fun j hj => by omega⟩ (Cov.goF Hs [_] [_] [] [] hs (by simp [kOK, hnk]) rfl ?_) (fun k hk => ?_)
  · simp [cvT, step, res, a1, a2, a3, a4, a5, a6, a7, a8, a9, arrRw, colsRw, hcv, ColsEq.refl, -List.getD_eq_getElem?_getD]
  obtain ⟨hk, hall⟩ := hk
  unfold arrRw colsRw
  simp -dsimp only [aqT, aqU, aqN, aqS, ↓seqK, ↓blkK, ↓loopK, step, stepBin, Nat.add_assoc nid, ↓reduceIte, Option.toList, ← Int.ofNat_tmod, ← Int.ofNat_tdiv, simprocAttr, BEq.rfl, LN_succ, a1, a2, a3, a4, a5, a6, a7, a8, a9]
  refine S2.dec (fun h1 => ?_) (fun h1 => ?_) <;> simp -dsimp only [aqT, aqU, aqN, aqS, ↓seqK, ↓blkK, ↓loopK, step, stepBin, Nat.add_assoc nid, ↓reduceIte, Option.toList, ← Int.ofNat_tmod, ← Int.ofNat_tdiv, simprocAttr, BEq.rfl, LN_succ, a1, a2, a3, a4, a5, a6, a7, a8, a9]
  · have hkl : k < l.length := by omega
    have hf1 := hf (l.getD k z0) (rwMem hkl)
    unfold rwV at hf1
    refine ⟨by omega, CallO.on (hf1 _ (by omega)) (subH_frame (X := [_]) hs (by simp [kOK, hnk])) ?_⟩
    simp -dsimp only [aqT, aqU, aqN, aqS, ↓seqK, ↓blkK, ↓loopK, step, stepBin, Nat.add_assoc nid, ↓reduceIte, Option.toList, ← Int.ofNat_tmod, ← Int.ofNat_tdiv, simprocAttr, BEq.rfl, LN_succ, a1, a2, a3, a4, a5, a6, a7, a8, a9]
    refine S2.intro (fun h2 => ?_) (fun h2 => ?_) <;> simp -dsimp only [aqT, aqU, aqN, aqS, ↓seqK, ↓blkK, ↓loopK, step, stepBin, Nat.add_assoc nid, ↓reduceIte, Option.toList, ← Int.ofNat_tmod, ← Int.ofNat_tdiv, simprocAttr, BEq.rfl, LN_succ, a1, a2, a3, a4, a5, a6, a7, a8, a9]
    · have e : idxW F l = (k : Int) := by unfold idxW; rw [idxW_hit hkl hall h2]
      rw [e]
      refine RetOK.goF Hs [(id, _)] [(id, _)] [] [] [] (.inl rfl) hs (by simp [kOK, hnk]) rfl ?_
      simp [a188, cvT, step, res, a1, a2, a3, a4, a5, a6, a7, a8, a9, arrRw, colsRw, ColsEq.refl, -List.getD_eq_getElem?_getD]
    · refine ⟨by unfold inI64; omega, k + 1, ⟨⟨by omega, fun j hj => ?_⟩, by omega⟩, Cov.goF Hs [_] [_] [] [] hs (by simp [kOK, hnk]) rfl ?_⟩
      · rcases (by omega : j < k ∨ j = k) with hj | hj
        · exact hall j hj
        · rw [hj]; exact h2
      · simp [cvT, step, res, a1, a2, a3, a4, a5, a6, a7, a8, a9, arrRw, colsRw, hcv, ColsEq.refl, -List.getD_eq_getElem?_getD]
  · have hkn : k = l.length := by omega
    subst hkn
    have e : idxW F l = -1 := by unfold idxW; rw [idxW_none hall]
    rw [e]
    refine RetOK.goF Hs [(id, _)] [(id, _)] [] [] [] (.inl rfl) hs (by simp [kOK, hnk]) rfl ?_
    simp [a188, cvT, step, res, a1, a2, a3, a4, a5, a6, a7, a8, a9, arrRw, colsRw, ColsEq.refl, -List.getD_eq_getElem?_getD]
def keepW (F : Rw → Bool) (l : List Rw) : List Rw := l.filter fun p => !F p
theorem keepW_len (F : Rw → Bool) (l : List Rw) : (keepW F l).length ≤ l.length := List.length_filter_le _ _
theorem keepW_succ {F : Rw → Bool} {l : List Rw} {k : Nat} (h : k < l.length) : keepW F (l.take (k + 1)) = keepW F (l.take k) ++ (if F (l.getD k z0) = true then [] else [l.getD k z0]) := by
  unfold keepW
  rw [List.take_add_one, List.getElem?_eq_getElem h, List.filter_append]
  congr 1
  have e : l.getD k z0 = l[k] := by rw [List.getD_eq_getElem?_getD, List.getElem?_eq_getElem h]; rfl
  rw [e]
  cases hf : F l[k] <;> simp [hf]
theorem keepW_all {F : Rw → Bool} {l : List Rw} {k : Nat} (hk : k ≤ l.length) (h : ∀ j, j < k → F (l.getD j z0) = false) : keepW F (l.take k) = l.take k := by
  unfold keepW
  rw [List.filter_eq_self]
  intro a ha
  obtain ⟨j, hj, rfl⟩ := List.getElem_of_mem ha
  have hj' : j < k := by rw [List.length_take] at hj; omega
  have := h j hj'
  rw [List.getD_eq_getElem?_getD, List.getElem?_eq_getElem (by omega)] at this
  simp only [List.getElem_take]
  simpa using this
def partW (F : Rw → Bool) (l : List Rw) (k : Nat) : List Rw := keepW F (l.take k) ++ l.drop (keepW F (l.take k)).length
theorem partW_len {F : Rw → Bool} {l : List Rw} {k : Nat} (hk : k ≤ l.length) : (partW F l k).length = l.length := by
  have := keepW_len F (l.take k)
  rw [List.length_take] at this
  unfold partW; rw [List.length_append, List.length_drop]; omega
theorem partW_at {F : Rw → Bool} {l : List Rw} {k : Nat} (hk : k < l.length) : (partW F l k).getD k z0 = l.getD k z0 := by
  have := keepW_len F (l.take k)
  rw [List.length_take] at this
  unfold partW
  rw [List.getD_eq_getElem?_getD, List.getElem?_append_right (by omega), List.getElem?_drop, List.getD_eq_getElem?_getD]
  congr 2
  omega
theorem partW_set {F : Rw → Bool} {l : List Rw} {k : Nat} (hk : k < l.length) (h : F (l.getD k z0) = false) : (partW F l k).set (keepW F (l.take k)).length (l.getD k z0) = partW F l (k + 1) ∧ (keepW F (l.take (k + 1))).length = (keepW F (l.take k)).length + 1 := by
  have := keepW_len F (l.take k)
  rw [List.length_take] at this
  have e := keepW_succ (F := F) hk
  rw [if_neg (by rw [h]; simp)] at e
  refine ⟨?_, by rw [e]; simp⟩
  unfold partW
  rw [e, List.set_append_right _ _ (Nat.le_refl _), Nat.sub_self, List.length_append, List.append_assoc]
  congr 1
  rw [List.drop_eq_getElem_cons (by omega : (keepW F (l.take k)).length < l.length)]
  rfl
theorem partW_skip {F : Rw → Bool} {l : List Rw} {k : Nat} (hk : k < l.length) (h : F (l.getD k z0) = true) : partW F l (k + 1) = partW F l k ∧ keepW F (l.take (k + 1)) = keepW F (l.take k) := by
  have e := keepW_succ (F := F) hk
  rw [if_pos h, List.append_nil] at e
  exact ⟨by unfold partW; rw [e], e⟩
theorem setW {β : Type} (q : List Rw) (x : Rw) {i : Nat} (hi : i < q.length) (f : Rw → β) {v : β} (hv : v = f x) : (fun j => if j = i then v else f (q.getD j z0)) = fun j => f ((q.set i x).getD j z0) := by
  subst hv
  funext j
  simp only [List.getD_eq_getElem?_getD, List.getElem?_set]
  by_cases h : j = i
  · subst h; simp [hi]
  · rw [if_neg h, if_neg (fun e => h e.symm)]
theorem partW_low {F : Rw → Bool} {l : List Rw} {j : Nat} (hj : j < (keepW F l).length) : (partW F l l.length).getD j z0 = (keepW F l).getD j z0 := by
  unfold partW
  rw [List.take_length, List.getD_eq_getElem?_getD, List.getElem?_append_left hj, ← List.getD_eq_getElem?_getD]
theorem doneW {β : Type} {F : Rw → Bool} {l : List Rw} (g : Rw → β) (z : β) : ∀ j, j < l.length → (if (keepW F l).length ≤ j ∧ j < (keepW F l).length + (l.length - (keepW F l).length) then z else g ((partW F l l.length).getD j z0)) = if j < (keepW F l).length then g ((keepW F l).getD j z0) else z := fun j hj => by
  have hk := keepW_len F l
  by_cases h : j < (keepW F l).length
  · rw [if_neg (by omega), if_pos h, partW_low h]
  · rw [if_pos ⟨by omega, by omega⟩, if_neg h]
set_option maxHeartbeats 8000000 in
theorem deleteW_h (f id : Nat) (caps : List PV) (Hs : Heap) (F : Rw → Bool) (l : List Rw) (nid : Nat) (hid : id < nid) (hnk : id ∉ keys Hs) (hs : Scoped nid Hs) (hcap : lowAll nid (idsOfs caps) = true) (hl : l.length ≤ 2000000)
    (hf : ∀ p ∈ l, ∀ nid', nid ≤ nid' → ACall Tryz.prog f (rwV p :: caps) Hs nid' (.bool (F p)) []) :
    ACall Tryz.prog 122 [.sl id 0 l.length, .fn f caps] ((id, arrRw l) :: Hs) nid (.sl id 0 (keepW F l).length) [(id, arrRz l.length (keepW F l))] := by
  have hcv := capsC hcap
  obtain ⟨a1, a2, a3, a4, a5, a6, a7, a8, a9⟩ := id_all hid
  refine acall_sr c122 (by simp [a122]) ?_
  unfold a122
  refine SR.seq ?_
  simp -dsimp only [aqT, aqU, aqN, aqS, ↓seqK, ↓blkK, ↓loopK, step, stepBin, Nat.add_assoc nid, ↓reduceIte, Option.toList, ← Int.ofNat_tmod, ← Int.ofNat_tdiv, simprocAttr, BEq.rfl, LN_succ, a1, a2, a3, a4, a5, a6, a7, a8, a9]
  refine SR.seqTo ⟨[(5, .int .i64 (idxW F l)), (0, .sl id 0 l.length), (1, .fn f caps)], (id, arrRw l) :: Hs, nid + 100, nid⟩ ?_ ?_
  · simp -dsimp only [aqT, aqU, aqN, aqS, ↓seqK, ↓blkK, ↓loopK, step, stepBin, Nat.add_assoc nid, ↓reduceIte, Option.toList, ← Int.ofNat_tmod, ← Int.ofNat_tdiv, simprocAttr, BEq.rfl, LN_succ, a1, a2, a3, a4, a5, a6, a7, a8, a9]
    refine CallO.on (indexW_h f id caps Hs F l _ (by omega) hnk (hs.mono (by omega)) (lowAll_mono hcap (by omega)) hl (fun p hp nid' h' => hf p hp nid' (by omega))) (fun _ _ h => h) ?_
    simp -dsimp only [aqT, aqU, aqN, aqS, ↓seqK, ↓blkK, ↓loopK, step, stepBin, Nat.add_assoc nid, ↓reduceIte, Option.toList, ← Int.ofNat_tmod, ← Int.ofNat_tdiv, simprocAttr, BEq.rfl, LN_succ, a1, a2, a3, a4, a5, a6, a7, a8, a9]
    refine Cov.goF Hs [_] [_] [] [] hs (by simp [kOK, hnk]) rfl ?_
    simp [cvT, step, res, a1, a2, a3, a4, a5, a6, a7, a8, a9, arrRw, colsRw, hcv, ColsEq.refl, -List.getD_eq_getElem?_getD]
  by_cases hnone : ∀ j, j < l.length → F (l.getD j z0) = false
  · have e : idxW F l = -1 := by unfold idxW; rw [idxW_none hnone]
    have hk : keepW F l = l := by
      have := keepW_all (F := F) (l := l) (Nat.le_refl _) hnone
      rwa [List.take_length] at this
    rw [e, hk]
    refine SR.run (t := .mk) ?_
    unfold arrRw colsRw
    simp -dsimp only [aqT, aqU, aqN, aqS, ↓seqK, ↓blkK, ↓loopK, step, stepBin, Nat.add_assoc nid, ↓reduceIte, Option.toList, ← Int.ofNat_tmod, ← Int.ofNat_tdiv, simprocAttr, BEq.rfl, LN_succ, a1, a2, a3, a4, a5, a6, a7, a8, a9]
    refine RetOK.goF Hs [(id, arrRw l)] [(id, _)] [(id, arrRz l.length l)] [] [] (.inl rfl) hs (by simp [kOK, hnk]) rfl ?_
    simp [a122, cvT, step, res, a1, a2, a3, a4, a5, a6, a7, a8, a9, arrRz, -List.getD_eq_getElem?_getD]
    exact ⟨ColEq.s fun j hj => by rw [if_pos hj], ColEq.l fun j hj => by simp [hj, ColsEq.refl, -List.getD_eq_getElem?_getD]⟩
  obtain ⟨i0, hi0, hi1, hi2⟩ : ∃ i, i < l.length ∧ F (l.getD i z0) = true ∧ ∀ j, j < i → F (l.getD j z0) = false := by
    cases hfi : l.findIdx? F with
    | none =>
      exfalso
      refine hnone fun j hj => ?_
      have := List.findIdx?_eq_none_iff.1 hfi (l.getD j z0) (rwMem hj)
      simpa using this
    | some i =>
      obtain ⟨h1, h2, h3⟩ := List.findIdx?_eq_some_iff_getElem.1 hfi
      refine ⟨i, h1, ?_, fun j hj => ?_⟩
      · rw [List.getD_eq_getElem?_getD, List.getElem?_eq_getElem h1]; exact h2
      · rw [List.getD_eq_getElem?_getD, List.getElem?_eq_getElem (by omega)]; simpa using h3 j hj
  have e : idxW F l = (i0 : Int) := by unfold idxW; rw [idxW_hit hi0 hi2 hi1]
  rw [e]
  have hne1 : ((i0 : Int) == -1) = false := by rw [beq_eq_false_iff_ne]; omega
  have hk0 : keepW F (l.take (i0 + 1)) = l.take i0 := by rw [(partW_skip hi0 hi1).2, keepW_all (by omega) hi2]
  have hkl0 : (keepW F (l.take (i0 + 1))).length = i0 := by rw [hk0, List.length_take]; omega
  have hp0 : partW F l (i0 + 1) = l := by unfold partW; rw [hkl0, hk0, List.take_append_drop]
  refine SR.seq ?_
  unfold arrRw colsRw
  simp -dsimp only [aqT, aqU, aqN, aqS, ↓seqK, ↓blkK, ↓loopK, step, stepBin, Nat.add_assoc nid, ↓reduceIte, Option.toList, ← Int.ofNat_tmod, ← Int.ofNat_tdiv, simprocAttr, BEq.rfl, LN_succ, a1, a2, a3, a4, a5, a6, a7, a8, a9, hne1]
  refine SR.seqTo ⟨[(5, .int .i64 ((keepW F l).length : Nat)), (0, .sl id 0 l.length)], (id, arrRw (partW F l l.length)) :: Hs, nid + 1000, nid⟩ ?_ ?_
  · simp -dsimp only [aqT, aqU, aqN, aqS, ↓seqK, ↓blkK, ↓loopK, step, stepBin, Nat.add_assoc nid, ↓reduceIte, Option.toList, ← Int.ofNat_tmod, ← Int.ofNat_tdiv, simprocAttr, BEq.rfl, LN_succ, a1, a2, a3, a4, a5, a6, a7, a8, a9]
    refine ⟨by unfold inI64; omega, ?_⟩
    refine LP.mkP (fun k : Nat => i0 + 1 ≤ k ∧ k ≤ l.length) (fun k : Nat => ⟨[(6, .int .i64 k), (5, .int .i64 ((keepW F (l.take k)).length : Nat)), (0, .sl id 0 l.length), (1, .fn f caps)], (id, arrRw (partW F l k)) :: Hs, nid + 300, nid⟩) (fun k => l.length + 1 - k) (i0 + 1) ⟨Nat.le_refl _, by omega⟩ (Cov.goF Hs [_] [_] [] [] hs (by simp [kOK, hnk]) rfl ?_) (fun k hk => ?_)
    · rw [hkl0, hp0]
      simp [cvT, step, res, a1, a2, a3, a4, a5, a6, a7, a8, a9, arrRw, colsRw, hcv, ColsEq.refl, -List.getD_eq_getElem?_getD]
    obtain ⟨hk1, hk2⟩ := hk
    have hpl := partW_len (F := F) hk2
    have hkl := keepW_len F (l.take k)
    rw [List.length_take] at hkl
    unfold arrRw colsRw
    rw [hpl]
    simp -dsimp only [aqT, aqU, aqN, aqS, ↓seqK, ↓blkK, ↓loopK, step, stepBin, Nat.add_assoc nid, ↓reduceIte, Option.toList, ← Int.ofNat_tmod, ← Int.ofNat_tdiv, simprocAttr, BEq.rfl, LN_succ, a1, a2, a3, a4, a5, a6, a7, a8, a9]
    refine S2.dec (fun h1 => ?_) (fun h1 => ?_) <;> simp -dsimp only [aqT, aqU, aqN, aqS, ↓seqK, ↓blkK, ↓loopK, step, stepBin, Nat.add_assoc nid, ↓reduceIte, Option.toList, ← Int.ofNat_tmod, ← Int.ofNat_tdiv, simprocAttr, BEq.rfl, LN_succ, a1, a2, a3, a4, a5, a6, a7, a8, a9]
    · have hkn : k < l.length := by omega
      have hf1 := hf (l.getD k z0) (rwMem hkn)
      unfold rwV at hf1
      rw [partW_at hkn]
      refine ⟨by omega, ?_⟩
      first
        | refine CallO.on (hf1 _ (by omega)) (subH_frame (X := [_, _]) hs (by simp [kOK, hnk])) ?_
        | refine CallO.on (hf1 _ (by omega)) (subH_frame (X := [_, _, _]) hs (by simp [kOK, hnk])) ?_
      simp -dsimp only [aqT, aqU, aqN, aqS, ↓seqK, ↓blkK, ↓loopK, step, stepBin, Nat.add_assoc nid, ↓reduceIte, Option.toList, ← Int.ofNat_tmod, ← Int.ofNat_tdiv, simprocAttr, BEq.rfl, LN_succ, a1, a2, a3, a4, a5, a6, a7, a8, a9]
      cases hF : F (l.getD k z0) <;> simp -dsimp only [aqT, aqU, aqN, aqS, ↓seqK, ↓blkK, ↓loopK, step, stepBin, Nat.add_assoc nid, ↓reduceIte, Option.toList, ← Int.ofNat_tmod, ← Int.ofNat_tdiv, simprocAttr, BEq.rfl, LN_succ, a1, a2, a3, a4, a5, a6, a7, a8, a9]
      · obtain ⟨q1, q2⟩ := partW_set hkn hF
        rw [setW (partW F l k) (l.getD k z0) (by omega) (fun p => p.1) rfl, setW (partW F l k) (l.getD k z0) (by omega) (fun p => p.2.1) rfl, setW (partW F l k) (l.getD k z0) (by omega) (fun p => p.2.2.length) rfl, setW (partW F l k) (l.getD k z0) (by omega) (fun p => [Col.s fun j => p.2.2.getD j []]) rfl, q1]
        refine ⟨by omega, by unfold inI64; omega, by unfold inI64; omega, k + 1, ⟨⟨by omega, by omega⟩, by omega⟩, ?_⟩
        first | refine Cov.goF Hs [_] [_] [] [] hs (by simp [kOK, hnk]) rfl ?_ | refine Cov.goF Hs [_, _] [_] [] [] hs (by simp [kOK, hnk]) rfl ?_ | refine Cov.goF Hs [_, _, _] [_] [] [] hs (by simp [kOK, hnk]) rfl ?_ | refine Cov.goF Hs [_, _, _, _] [_] [] [] hs (by simp [kOK, hnk]) rfl ?_ | refine Cov.goF Hs [_, _, _, _, _] [_] [] [] hs (by simp [kOK, hnk]) rfl ?_
        rw [q2]
        simp [cvT, step, res, a1, a2, a3, a4, a5, a6, a7, a8, a9, arrRw, colsRw, hcv, partW_len (F := F) (l := l) (k := k + 1) (by omega), ColsEq.refl, -List.getD_eq_getElem?_getD]
      · obtain ⟨q1, q2⟩ := partW_skip hkn hF
        refine ⟨by unfold inI64; omega, k + 1, ⟨⟨by omega, by omega⟩, by omega⟩, ?_⟩
        first | refine Cov.goF Hs [_] [_] [] [] hs (by simp [kOK, hnk]) rfl ?_ | refine Cov.goF Hs [_, _] [_] [] [] hs (by simp [kOK, hnk]) rfl ?_ | refine Cov.goF Hs [_, _, _] [_] [] [] hs (by simp [kOK, hnk]) rfl ?_ | refine Cov.goF Hs [_, _, _, _] [_] [] [] hs (by simp [kOK, hnk]) rfl ?_ | refine Cov.goF Hs [_, _, _, _, _] [_] [] [] hs (by simp [kOK, hnk]) rfl ?_
        rw [q1, q2]
        simp [cvT, step, res, a1, a2, a3, a4, a5, a6, a7, a8, a9, arrRw, colsRw, hcv, hpl, ColsEq.refl, -List.getD_eq_getElem?_getD]
    · have hkn : k = l.length := by omega
      subst hkn
      rw [List.take_length]
      refine Cov.goF Hs [_] [_] [] [] hs (by simp [kOK, hnk]) rfl ?_
      simp [cvT, step, res, a1, a2, a3, a4, a5, a6, a7, a8, a9, arrRw, colsRw, hpl, ColsEq.refl, -List.getD_eq_getElem?_getD]
  have hpl := partW_len (F := F) (l := l) (Nat.le_refl _)
  have hkl := keepW_len F l
  unfold arrRw colsRw
  rw [hpl]
  refine SR.run (t := .mk) ?_
  simp -dsimp only [aqT, aqU, aqN, aqS, ↓seqK, ↓blkK, ↓loopK, step, stepBin, Nat.add_assoc nid, ↓reduceIte, Option.toList, ← Int.ofNat_tmod, ← Int.ofNat_tdiv, simprocAttr, BEq.rfl, LN_succ, a1, a2, a3, a4, a5, a6, a7, a8, a9, Col.const]
  have hlt : (keepW F l).length < l.length := by
    have e1 : keepW F l = keepW F (l.take (i0 + 1)) ++ keepW F (l.drop (i0 + 1)) := by
      unfold keepW
      rw [← List.filter_append, List.take_append_drop]
    have e2 := keepW_len F (l.drop (i0 + 1))
    rw [List.length_drop] at e2
    rw [e1, List.length_append, hkl0]
    omega
  refine ⟨⟨by omega, by omega⟩, by omega, ⟨by omega, by omega⟩, ?_⟩
  first | refine RetOK.goF Hs [_] [_] [(id, arrRz l.length (keepW F l))] [] [] (.inl rfl) hs (by simp [kOK, hnk]) rfl ?_ | refine RetOK.goF Hs [_] [_, _] [(id, arrRz l.length (keepW F l))] [] [] (.inl rfl) hs (by simp [kOK, hnk]) rfl ?_ | refine RetOK.goF Hs [_] [_, _, _] [(id, arrRz l.length (keepW F l))] [] [] (.inl rfl) hs (by simp [kOK, hnk]) rfl ?_
  simp [a122, cvT, step, res, a1, a2, a3, a4, a5, a6, a7, a8, a9, arrRz, -List.getD_eq_getElem?_getD]
  exact ⟨ColEq.s (doneW (fun p => p.1) []), ColEq.l fun j hj => ⟨(doneW (fun p => p.2.1) true j hj).trans (by simp), doneW (fun p => p.2.2.length) 0 j hj, colsEq_of (doneW (fun p => [Col.s fun j => p.2.2.getD j []]) [] j hj)⟩⟩
end Go.Proofs.YtpifoghhaohhaaaGreatDoor
namespace Go.Proofs.YtpifoghhaohhaaaGreatDoor
open Go.RowKit Go.Shelf Go.Lib
def seenBad (n : Nat) (S : SeenL) (k : Nat) : Int :=
  if outB (sT S k) 0 ((n : Int) - 1) = true then 1 else if oddS (sR S k) = true then 9 else if 0 < k ∧ sT S k ≤ sT S (k - 1) then 7 else 0
def seenV (G : List (List UInt8)) (R : RowL) (S : SeenL) : Int :=
  if dictV G R ≠ 0 then dictV G R else if 100 < S.length then 2 else firstBad (seenBad G.length S) (List.range S.length)
structure SnW (S : SeenL) : Prop where
  l : S.length ≤ 1000000
  r : ∀ k, (sR S k).length ≤ 1000000
theorem seenV_row {G : List (List UInt8)} {R : RowL} {S : SeenL} {k : Nat} {e : Int} (h1 : dictV G R = 0) (h2 : ¬ 100 < S.length) (hk : k < S.length) (h0 : ∀ j, j < k → seenBad G.length S j = 0) (h : seenBad G.length S k = e) (he : e ≠ 0) : seenV G R S = e := by
  unfold seenV
  rw [if_neg (by simp [h1]), if_neg h2, firstR_hit hk h0 (by rw [h]; exact he), h]
theorem seenV_good {G : List (List UInt8)} {R : RowL} {S : SeenL} (h1 : dictV G R = 0) (h2 : ¬ 100 < S.length) (h0 : ∀ j, j < S.length → seenBad G.length S j = 0) : seenV G R S = 0 := by
  unfold seenV
  rw [if_neg (by simp [h1]), if_neg h2, firstR_none h0]
set_option maxHeartbeats 1000000 in
theorem seenD_c (g0 r0 : Bool) (b : Nat → Bool) (G : List (List UInt8)) (R : RowL) (nl : Bool) (S : SeenL) (nid : Nat) (hB : DictW G R) (hS : SnW S) : ACall Tryz.prog 64 [dictP g0 r0 b G R, litSn nl S] [] nid (.int .i64 (seenV G R S)) [] := by
  have hgl := hB.gl
  have hsl := hS.l
  have hd := fun m => dictD_c g0 r0 b G R m hB
  refine acall_sr c64 (by simp [a64]) ?_
  unfold a64
  refine SR.seq ?_
  unfold dictP litSn at *
  simp -dsimp only [aqT, aqU, aqN, aqS, ↓seqK, ↓blkK, ↓loopK, step, stepBin, Nat.add_assoc nid, ↓reduceIte, Option.toList, ← Int.ofNat_tmod, ← Int.ofNat_tdiv, simprocAttr, BEq.rfl, LN_succ]
  refine SR.seqW (ι := {_u : Unit // dictV G R = 0}) (fun _ => ⟨[(2, .ptr nid 0), (1, litSn nl S)], [(nid, boxP2 g0 r0 b G R)], nid + 100, nid⟩) ?_ (fun ⟨_, h1⟩ => ?_)
  · refine SR.run (t := .mk) ?_
    simp -dsimp only [aqT, aqU, aqN, aqS, ↓seqK, ↓blkK, ↓loopK, step, stepBin, Nat.add_assoc nid, ↓reduceIte, Option.toList, ← Int.ofNat_tmod, ← Int.ofNat_tdiv, simprocAttr, BEq.rfl, LN_succ]
    refine CallO.pure (hd _) ?_
    simp -dsimp only [aqT, aqU, aqN, aqS, ↓seqK, ↓blkK, ↓loopK, step, stepBin, Nat.add_assoc nid, ↓reduceIte, Option.toList, ← Int.ofNat_tmod, ← Int.ofNat_tdiv, simprocAttr, BEq.rfl, LN_succ]
    refine S2.intro (fun h1 => ?_) (fun h1 => ?_) <;> simp -dsimp only [aqT, aqU, aqN, aqS, ↓seqK, ↓blkK, ↓loopK, step, stepBin, Nat.add_assoc nid, ↓reduceIte, Option.toList, ← Int.ofNat_tmod, ← Int.ofNat_tdiv, simprocAttr, BEq.rfl, LN_succ]
    · have e : seenV G R S = dictV G R := by unfold seenV; rw [if_pos (by simpa using h1)]
      rw [e]
      refine RetOK.pure (.inl rfl) rfl ?_
      simp [cvT, step, res]
    · refine ⟨⟨(), by simpa using h1⟩, Cov.go [] [] ?_⟩
      simp [cvT, step, res, boxP2, litSn, ColsEq.refl, -List.getD_eq_getElem?_getD]
  refine SR.seqW (ι := {_u : Unit // ¬ 100 < S.length}) (fun _ => ⟨[(2, .ptr nid 0), (1, litSn nl S)], [(nid, boxP2 g0 r0 b G R)], nid + 150, nid⟩) ?_ (fun ⟨_, h2⟩ => ?_)
  · unfold litSn
    refine SR.run (t := .mk) ?_
    simp -dsimp only [aqT, aqU, aqN, aqS, ↓seqK, ↓blkK, ↓loopK, step, stepBin, Nat.add_assoc nid, ↓reduceIte, Option.toList, ← Int.ofNat_tmod, ← Int.ofNat_tdiv, simprocAttr, BEq.rfl, LN_succ]
    refine S2.dec (fun h2 => ?_) (fun h2 => ?_) <;> simp -dsimp only [aqT, aqU, aqN, aqS, ↓seqK, ↓blkK, ↓loopK, step, stepBin, Nat.add_assoc nid, ↓reduceIte, Option.toList, ← Int.ofNat_tmod, ← Int.ofNat_tdiv, simprocAttr, BEq.rfl, LN_succ]
    · have e : seenV G R S = 2 := by unfold seenV; rw [if_neg (by simp [h1]), if_pos (by omega)]
      rw [e]
      refine RetOK.pure (.inl rfl) rfl ?_
      simp [cvT, step, res]
    · refine ⟨⟨(), by omega⟩, Cov.go [] [] ?_⟩
      simp [cvT, step, res, boxP2, litSn, ColsEq.refl, -List.getD_eq_getElem?_getD]
  refine SR.seqW (ι := {_u : Unit // ∀ j, j < S.length → seenBad G.length S j = 0}) (fun _ => ⟨[], [], nid + 2000, nid⟩) ?_ (fun ⟨_, h5⟩ => ?_)
  · unfold boxP2 litSn
    refine SR.seqTo ⟨[(18, .int .i64 0), (17, .int .i64 S.length), (16, litSn nl S), (2, .ptr nid 0), (1, litSn nl S)], [(nid, boxP2 g0 r0 b G R)], nid + 200, nid⟩ ?_ ?_
    · simp -dsimp only [aqT, aqU, aqN, aqS, ↓seqK, ↓blkK, ↓loopK, step, stepBin, Nat.add_assoc nid, ↓reduceIte, Option.toList, ← Int.ofNat_tmod, ← Int.ofNat_tdiv, simprocAttr, BEq.rfl, LN_succ]
      refine Cov.go [] [] ?_
      simp [cvT, step, res, boxP2, litSn, ColsEq.refl, -List.getD_eq_getElem?_getD]
    refine SR.block ?_
    refine SR.loopP (fun k : Nat => k ≤ S.length ∧ ∀ j, j < k → seenBad G.length S j = 0) (fun k : Nat => ⟨[(18, .int .i64 k), (17, .int .i64 S.length), (16, litSn nl S), (2, .ptr nid 0), (1, litSn nl S)], [(nid, boxP2 g0 r0 b G R)], nid + 200, nid⟩) (fun k => S.length + 1 - k) 0 ⟨by omega, fun j hj => by omega⟩ (Cov.drop (by omega) ?_) (fun k hk => ?_)
    · simp only [SlotsIn, aqT, aqU, aqN, ↓seqK, ↓blkK, ↓loopK, step, stepBin, Nat.reduceBEq, Nat.reduceBeqDiff, Nat.add_assoc nid, Nat.reduceAdd, reduceCtorEq, ↓reduceIte, Nat.reduceLeDiff, Nat.reduceBneDiff, Option.toList, ← Int.ofNat_tmod, ← Int.ofNat_tdiv, Nat.reduceLT]
      try simp
    obtain ⟨hk, hall⟩ := hk
    refine SR.seq ?_
    simp -dsimp only [aqT, aqU, aqN, aqS, ↓seqK, ↓blkK, ↓loopK, step, stepBin, Nat.add_assoc nid, ↓reduceIte, Option.toList, ← Int.ofNat_tmod, ← Int.ofNat_tdiv, simprocAttr, BEq.rfl, LN_succ]
    refine SR.seq ?_
    simp -dsimp only [aqT, aqU, aqN, aqS, ↓seqK, ↓blkK, ↓loopK, step, stepBin, Nat.add_assoc nid, ↓reduceIte, Option.toList, ← Int.ofNat_tmod, ← Int.ofNat_tdiv, simprocAttr, BEq.rfl, LN_succ]
    refine S2.dec (fun h4 => ?_) (fun h4 => ?_) <;> simp -dsimp only [aqT, aqU, aqN, aqS, ↓seqK, ↓blkK, ↓loopK, step, stepBin, Nat.add_assoc nid, ↓reduceIte, Option.toList, ← Int.ofNat_tmod, ← Int.ofNat_tdiv, simprocAttr, BEq.rfl, LN_succ]
    · have hkl : k < S.length := by omega
      have hbad := fun e => seenV_row (e := e) h1 h2 hkl hall
      have hr1 := hS.r k
      refine SR.seqW (ι := {_u : Unit // seenBad G.length S k = 0}) (fun _ => ⟨[(18, .int .i64 k), (17, .int .i64 S.length), (16, litSn nl S), (2, .ptr nid 0), (1, litSn nl S)], [(nid, boxP2 g0 r0 b G R)], nid + 900, nid⟩) ?_ (fun ⟨_, h6⟩ => ?_)
      · refine SR.block ?_
        unfold litSn
        refine SR.seqTo ⟨[(7, .ptr (nid + 300) 0), (6, .int .i64 k), (18, .int .i64 k), (17, .int .i64 S.length), (16, litSn nl S), (2, .ptr nid 0), (1, litSn nl S)], [(nid + 300, some (.box 69 [.int .i64 (sT S k), .str (sR S k)])), (nid, boxP2 g0 r0 b G R)], nid + 400, nid⟩ ?_ ?_
        · simp -dsimp only [aqT, aqU, aqN, aqS, ↓seqK, ↓blkK, ↓loopK, step, stepBin, Nat.add_assoc nid, ↓reduceIte, Option.toList, ← Int.ofNat_tmod, ← Int.ofNat_tdiv, simprocAttr, BEq.rfl, LN_succ]
          refine ⟨by omega, Cov.go [(nid + 300, nid + 216)] [] ?_⟩
          simp [cvT, step, res, boxP2, litSn, ColsEq.refl, -List.getD_eq_getElem?_getD]
        unfold boxP2 litSn
        refine SR.block ?_
        refine SR.seq ?_
        simp -dsimp only [aqT, aqU, aqN, aqS, ↓seqK, ↓blkK, ↓loopK, step, stepBin, Nat.add_assoc nid, ↓reduceIte, Option.toList, ← Int.ofNat_tmod, ← Int.ofNat_tdiv, simprocAttr, BEq.rfl, LN_succ]
        refine ⟨by unfold inI64; omega, CallO.pure (out_c _ _ _ _) ?_⟩
        simp -dsimp only [aqT, aqU, aqN, aqS, ↓seqK, ↓blkK, ↓loopK, step, stepBin, Nat.add_assoc nid, ↓reduceIte, Option.toList, ← Int.ofNat_tmod, ← Int.ofNat_tdiv, simprocAttr, BEq.rfl, LN_succ]
        refine SR.cond (b := outB (sT S k) 0 ((G.length : Int) - 1)) (by simp [AX.val, getS]) (fun h => ?_) (fun h => ?_)
        · rw [hbad 1 (by unfold seenBad; rw [if_pos h]) (by decide)]
          refine SR.run (t := .mk) ?_
          simp -dsimp only [aqT, aqU, aqN, aqS, ↓seqK, ↓blkK, ↓loopK, step, stepBin, Nat.add_assoc nid, ↓reduceIte, Option.toList, ← Int.ofNat_tmod, ← Int.ofNat_tdiv, simprocAttr, BEq.rfl, LN_succ]
          refine RetOK.pure (.inl rfl) rfl ?_
          simp [cvT, step, res]
        have hk1 : ¬ outB (sT S k) 0 ((G.length : Int) - 1) = true := by simp [h]
        refine SR.seq ?_
        simp -dsimp only [aqT, aqU, aqN, aqS, ↓seqK, ↓blkK, ↓loopK, step, stepBin, Nat.add_assoc nid, ↓reduceIte, Option.toList, ← Int.ofNat_tmod, ← Int.ofNat_tdiv, simprocAttr, BEq.rfl, LN_succ]
        refine CallO.pure (respD_c _ _ hr1) ?_
        simp -dsimp only [aqT, aqU, aqN, aqS, ↓seqK, ↓blkK, ↓loopK, step, stepBin, Nat.add_assoc nid, ↓reduceIte, Option.toList, ← Int.ofNat_tmod, ← Int.ofNat_tdiv, simprocAttr, BEq.rfl, LN_succ]
        refine SR.cond (b := !respB (sR S k)) (by simp [AX.val, getS]) (fun h => ?_) (fun h => ?_)
        · rw [hbad 9 (by unfold seenBad; rw [if_neg hk1, if_pos (show oddS (sR S k) = true from h)]) (by decide)]
          refine SR.run (t := .mk) ?_
          simp -dsimp only [aqT, aqU, aqN, aqS, ↓seqK, ↓blkK, ↓loopK, step, stepBin, Nat.add_assoc nid, ↓reduceIte, Option.toList, ← Int.ofNat_tmod, ← Int.ofNat_tdiv, simprocAttr, BEq.rfl, LN_succ]
          refine RetOK.pure (.inl rfl) rfl ?_
          simp [cvT, step, res]
        have hk2 : ¬ oddS (sR S k) = true := by unfold oddS; simpa using h
        refine SR.seqTo ⟨[(36, .bool (decide ((0 : Int) < k) && decide (sT S k ≤ sT S (k - 1)))), (18, .int .i64 k), (17, .int .i64 S.length), (16, litSn nl S), (2, .ptr nid 0), (1, litSn nl S)], [(nid, boxP2 g0 r0 b G R)], nid + 700, nid⟩ ?_ ?_
        · simp -dsimp only [aqT, aqU, aqN, aqS, ↓seqK, ↓blkK, ↓loopK, step, stepBin, Nat.add_assoc nid, ↓reduceIte, Option.toList, ← Int.ofNat_tmod, ← Int.ofNat_tdiv, simprocAttr, BEq.rfl, LN_succ]
          refine S2.dec (fun h0 => ?_) (fun h0 => ?_) <;> simp -dsimp only [aqT, aqU, aqN, aqS, ↓seqK, ↓blkK, ↓loopK, step, stepBin, Nat.add_assoc nid, ↓reduceIte, Option.toList, ← Int.ofNat_tmod, ← Int.ofNat_tdiv, simprocAttr, BEq.rfl, LN_succ]
          · have e : ((k : Int) - 1).toNat = k - 1 := by omega
            rw [e]
            refine ⟨by unfold inI64; omega, by omega, Cov.go [] [] ?_⟩
            simp [cvT, step, res, boxP2, litSn, ColsEq.refl, decide_eq_true h0, -List.getD_eq_getElem?_getD]
            try omega
          · refine Cov.go [] [] ?_
            simp [cvT, step, res, boxP2, litSn, ColsEq.refl, decide_eq_false h0, -List.getD_eq_getElem?_getD]
            try omega
        refine SR.cond (b := decide ((0 : Int) < k) && decide (sT S k ≤ sT S (k - 1))) (by simp [AX.val, getS]) (fun h => ?_) (fun h => ?_)
        · simp only [Bool.and_eq_true, decide_eq_true_eq] at h
          rw [hbad 7 (by unfold seenBad; rw [if_neg hk1, if_neg hk2, if_pos ⟨by omega, h.2⟩]) (by decide)]
          refine SR.run (t := .mk) ?_
          simp -dsimp only [aqT, aqU, aqN, aqS, ↓seqK, ↓blkK, ↓loopK, step, stepBin, Nat.add_assoc nid, ↓reduceIte, Option.toList, ← Int.ofNat_tmod, ← Int.ofNat_tdiv, simprocAttr, BEq.rfl, LN_succ]
          refine RetOK.pure (.inl rfl) rfl ?_
          simp [cvT, step, res]
        have hk4 : ¬ (0 < k ∧ sT S k ≤ sT S (k - 1)) := fun ⟨e1, e2⟩ => by
          rw [decide_eq_true e2, decide_eq_true (by omega)] at h
          simp at h
        refine SR.run (t := .mk) ?_
        simp -dsimp only [aqT, aqU, aqN, aqS, ↓seqK, ↓blkK, ↓loopK, step, stepBin, Nat.add_assoc nid, ↓reduceIte, Option.toList, ← Int.ofNat_tmod, ← Int.ofNat_tdiv, simprocAttr, BEq.rfl, LN_succ]
        refine ⟨⟨(), by unfold seenBad; rw [if_neg hk1, if_neg hk2, if_neg hk4]⟩, Cov.go [] [] ?_⟩
        simp [cvT, step, res, boxP2, litSn, ColsEq.refl, -List.getD_eq_getElem?_getD]
      refine SR.run (t := .mk) ?_
      simp -dsimp only [aqT, aqU, aqN, aqS, ↓seqK, ↓blkK, ↓loopK, step, stepBin, Nat.add_assoc nid, ↓reduceIte, Option.toList, ← Int.ofNat_tmod, ← Int.ofNat_tdiv, simprocAttr, BEq.rfl, LN_succ]
      refine ⟨by unfold inI64; omega, k + 1, ⟨⟨by omega, fun j hj => ?_⟩, by omega⟩, Cov.go [] [] ?_⟩
      · rcases (by omega : j < k ∨ j = k) with hj | hj
        · exact hall j hj
        · rw [hj]; exact h6
      simp [cvT, step, res, boxP2, litSn, ColsEq.refl, -List.getD_eq_getElem?_getD]
    · refine ⟨⟨(), fun j hj => hall j (by omega)⟩, Cov.go [] [] ?_⟩
      simp [cvT, step, res, boxP2, -List.getD_eq_getElem?_getD]
  · rw [seenV_good h1 h2 h5]
    refine SR.run (t := .mk) ?_
    simp -dsimp only [aqT, aqU, aqN, aqS, ↓seqK, ↓blkK, ↓loopK, step, stepBin, Nat.add_assoc nid, ↓reduceIte, Option.toList, ← Int.ofNat_tmod, ← Int.ofNat_tdiv, simprocAttr, BEq.rfl, LN_succ]
    refine RetOK.pure (.inl rfl) rfl ?_
    simp [cvT, step, res]
end Go.Proofs.YtpifoghhaohhaaaGreatDoor
namespace Go.Proofs.YtpifoghhaohhaaaGreatDoor
open Go.RowKit Go.Shelf Go.Lib
theorem firstBad_all0 {f : Nat → Int} {n : Nat} (h : firstBad f (List.range n) = 0) : ∀ j, j < n → f j = 0 := fun j hj => firstBad_all h j (List.mem_range.2 hj)
theorem dictV_rows {G : List (List UInt8)} {R : RowL} (h : dictV G R = 0) : ∀ j, j < R.length → (rowR R j).length = G.length := fun j hj => by
  unfold dictV at h
  split at h
  · omega
  split at h
  · omega
  split at h
  · omega
  have := firstBad_all0 h j hj
  unfold rowBad at this
  split at this
  · omega
  split at this
  · omega
  omega
def rowsP (r0 : Bool) (b : Nat → Bool) (R : RowL) : PV := .lit r0 R.length [.s fun k => rowF R k, .l b (fun k => (rowR R k).length) (fun k => [.s fun j => (rowR R k).getD j []])]
end Go.Proofs.YtpifoghhaohhaaaGreatDoor
namespace Go.Proofs.YtpifoghhaohhaaaGreatDoor
theorem sT_old {S : SeenL} {y : Int × List UInt8} {k : Nat} (h : k < S.length) : sT (S ++ [y]) k = sT S k := by unfold sT; rw [List.getD_eq_getElem?_getD, List.getElem?_append_left h, ← List.getD_eq_getElem?_getD]
theorem sR_old {S : SeenL} {y : Int × List UInt8} {k : Nat} (h : k < S.length) : sR (S ++ [y]) k = sR S k := by unfold sR; rw [List.getD_eq_getElem?_getD, List.getElem?_append_left h, ← List.getD_eq_getElem?_getD]
theorem sT_new {S : SeenL} {y : Int × List UInt8} {k : Nat} (h : k = S.length) : sT (S ++ [y]) k = y.1 := by unfold sT; subst h; simp
theorem sR_new {S : SeenL} {y : Int × List UInt8} {k : Nat} (h : k = S.length) : sR (S ++ [y]) k = y.2 := by unfold sR; subst h; simp
theorem consB_iff {L : List (List UInt8)} {S : SeenL} : consB L S = true ↔ ∀ k, k < S.length → L.getD (sT S k).toNat [] = sR S k := by
  unfold consB offB
  simp only [Bool.not_eq_true', List.any_eq_false, List.mem_range, Bool.not_eq_false, beq_iff_eq]
theorem sT_app (S : SeenL) (t : Int) (r : List UInt8) : (fun i => if i < S.length then sT S i else [t].getD (i - S.length) 0) = fun k => sT (S ++ [(t, r)]) k := by
  funext i
  by_cases h : i < S.length
  · rw [if_pos h, sT_old h]
  · rw [if_neg h]
    by_cases h' : i = S.length
    · rw [sT_new h', h']; simp
    · have h2 : (S ++ [(t, r)])[i]? = none := List.getElem?_eq_none (by simp; omega)
      have h1 : [t][i - S.length]? = none := List.getElem?_eq_none (by simp; omega)
      unfold sT
      rw [List.getD_eq_getElem?_getD, h1, List.getD_eq_getElem?_getD, h2]
      rfl
theorem sR_app (S : SeenL) (t : Int) (r : List UInt8) : (fun i => if i < S.length then sR S i else [r].getD (i - S.length) []) = fun k => sR (S ++ [(t, r)]) k := by
  funext i
  by_cases h : i < S.length
  · rw [if_pos h, sR_old h]
  · rw [if_neg h]
    by_cases h' : i = S.length
    · rw [sR_new h', h']; simp
    · have h2 : (S ++ [(t, r)])[i]? = none := List.getElem?_eq_none (by simp; omega)
      have h1 : [r][i - S.length]? = none := List.getElem?_eq_none (by simp; omega)
      unfold sR
      rw [List.getD_eq_getElem?_getD, h1, List.getD_eq_getElem?_getD, h2]
      rfl
structure SeenOk (G L : List (List UInt8)) (S : SeenL) (m : Nat) : Prop where
  i : ∀ k, k < S.length → 0 ≤ sT S k ∧ sT S k < m
  o : ∀ k, k + 1 < S.length → sT S k < sT S (k + 1)
  r : ∀ k, k < S.length → sR S k = L.getD (sT S k).toNat []
theorem SeenOk.skip {G L : List (List UInt8)} {S : SeenL} {m : Nat} (h : SeenOk G L S m) : SeenOk G L S (m + 1) := ⟨fun k hk => by have := h.i k hk; omega, h.o, h.r⟩
theorem SeenOk.more {G L : List (List UInt8)} {S : SeenL} {m : Nat} (h : SeenOk G L S m) : SeenOk G L (S ++ [((m : Int), L.getD m [])]) (m + 1) := by
  have hl : (S ++ [((m : Int), L.getD m [])]).length = S.length + 1 := by simp
  refine ⟨fun k hk => ?_, fun k hk => ?_, fun k hk => ?_⟩
  · rw [hl] at hk
    by_cases e : k < S.length
    · rw [sT_old e]; have := h.i k e; omega
    · rw [sT_new (by omega)]; simp only; omega
  · rw [hl] at hk
    by_cases e : k + 1 < S.length
    · rw [sT_old e, sT_old (by omega)]; exact h.o k e
    · rw [sT_old (by omega), sT_new (by omega)]; exact (h.i k (by omega)).2
  · rw [hl] at hk
    by_cases e : k < S.length
    · rw [sT_old e, sR_old e]; exact h.r k e
    · rw [sT_new (by omega), sR_new (by omega)]; simp
theorem SeenOk.len {G L : List (List UInt8)} {S : SeenL} {m : Nat} (h : SeenOk G L S m) : S.length ≤ m := by
  have : ∀ k, k < S.length → (k : Int) ≤ sT S k := fun k => by
    induction k with
    | zero => intro hk; exact (h.i 0 hk).1
    | succ k ih => intro hk; have := ih (by omega); have := h.o k hk; omega
  by_cases e : S.length = 0
  · omega
  · have h1 := this (S.length - 1) (by omega)
    have h2 := (h.i (S.length - 1) (by omega)).2
    omega
theorem SeenOk.w {G L : List (List UInt8)} {S : SeenL} {m : Nat} (h : SeenOk G L S m) (hm : m ≤ 1000000) (hL : ShortRows 1000000 L) (hl : S.length ≤ m) : SnW S := ⟨by omega, fun k => by
  by_cases hk : k < S.length
  · rw [h.r k hk]; exact hL.at _
  · unfold sR; rw [List.getD_eq_getElem?_getD, List.getElem?_eq_none (by omega)]; simp⟩
theorem SeenOk.cons {G L : List (List UInt8)} {S : SeenL} {m : Nat} (h : SeenOk G L S m) : consB L S = true := consB_iff.2 fun k hk => (h.r k hk).symm
theorem SeenOk.bad {G L : List (List UInt8)} {S : SeenL} {m : Nat} (h : SeenOk G L S m) (hm : m ≤ G.length) (hL : L.length = G.length) (hr : L.any oddS = false) : ∀ k, k < S.length → seenBad G.length S k = 0 := fun k hk => by
  have hi := h.i k hk
  unfold seenBad outB
  rw [if_neg (by simp only [decide_eq_true_eq]; omega)]
  have hno : ¬ oddS (sR S k) = true := by
    rw [h.r k hk]
    have hlt : (sT S k).toNat < L.length := by omega
    rw [List.getD_eq_getElem?_getD, List.getElem?_eq_getElem hlt]
    have := List.any_eq_false.1 hr _ (List.getElem_mem hlt)
    exact this
  rw [if_neg hno, if_neg]
  rintro ⟨h1, h2⟩
  have := h.o (k - 1) (by omega)
  rw [show k - 1 + 1 = k by omega] at this
  omega
end Go.Proofs.YtpifoghhaohhaaaGreatDoor
namespace Go.Proofs.YtpifoghhaohhaaaGreatDoor
open Go.RowKit Go.Shelf Go.Lib
structure SnB (m : Nat) (S : SeenL) : Prop where
  l : S.length ≤ m
  r : ∀ x ∈ S, (-1 ≤ x.1 ∧ x.1 ≤ 1000000) ∧ x.2.length ≤ 101
theorem SnB.w {m : Nat} {S : SeenL} (h : SnB m S) (hm : m ≤ 1000000) : SnW S := ⟨by have := h.l; omega, fun k => by
  unfold sR
  rw [List.getD_eq_getElem?_getD]
  cases e : S[k]? with
  | none => simp
  | some x => have := (h.r x (List.mem_of_getElem? e)).2; simp only [Option.getD_some]; omega⟩
theorem SnB.at {m : Nat} {S : SeenL} (h : SnB m S) {k : Nat} (hk : k < S.length) : (-1 ≤ sT S k ∧ sT S k ≤ 1000000) ∧ (sR S k).length ≤ 101 := by
  have := h.r _ (List.getElem_mem hk)
  unfold sT sR
  rw [List.getD_eq_getElem?_getD, List.getElem?_eq_getElem hk]
  exact this
theorem SnB.snoc {m : Nat} {S : SeenL} (h : SnB m S) {t : Int} {r : List UInt8} (ht : -1 ≤ t ∧ t ≤ 1000000) (hr : r.length ≤ 101) : SnB (m + 1) (S ++ [(t, r)]) := ⟨by have := h.l; simp; omega, fun x hx => by
  rcases List.mem_append.1 hx with hx | hx
  · exact h.r x hx
  · simp only [List.mem_singleton] at hx; subst hx; exact ⟨ht, hr⟩⟩
theorem SnB.more {m m' : Nat} {S : SeenL} (h : SnB m S) (hm : m ≤ m') : SnB m' S := ⟨by have := h.l; omega, h.r⟩
theorem SnB.put {m : Nat} {S : SeenL} (h : SnB m S) {t : Int} {r : List UInt8} (ht : -1 ≤ t ∧ t ≤ 1000000) (hr : r.length ≤ 101) (I : Nat) : SnB m (S.set I (t, r)) := ⟨by rw [List.length_set]; exact h.l, fun x hx => by
  rcases List.mem_or_eq_of_mem_set hx with hx | rfl
  · exact h.r x hx
  · exact ⟨ht, hr⟩⟩
theorem sT_set {S : SeenL} {I : Nat} (t : Int) (r : List UInt8) (hI : I < S.length) : (fun j => if j = I then t else sT S j) = fun k => sT (S.set I (t, r)) k := by
  funext j
  unfold sT
  rw [List.getD_eq_getElem?_getD, List.getD_eq_getElem?_getD, List.getElem?_set]
  by_cases h : j = I
  · subst h; simp [hI]
  · rw [if_neg h, if_neg (fun e => h e.symm)]
theorem sR_set {S : SeenL} {I : Nat} (t : Int) (r : List UInt8) (hI : I < S.length) : (fun j => if j = I then r else sR S j) = fun k => sR (S.set I (t, r)) k := by
  funext j
  unfold sR
  rw [List.getD_eq_getElem?_getD, List.getD_eq_getElem?_getD, List.getElem?_set]
  by_cases h : j = I
  · subst h; simp [hI]
  · rw [if_neg h, if_neg (fun e => h e.symm)]
set_option maxHeartbeats 4000000 in
theorem seenOf_I (s nid : Nat) (nl : Bool) (A : List Int) (p : Nat) (g0 r0 : Bool) (b : Nat → Bool) (G : List (List UInt8)) (R : RowL) (h : s < nid) (hp : p ≤ 1099400000000) (hA : A.length ≤ 17592186044416) (hG : G.length ≤ 100) (hGs : ShortRows 101 G) (hR : R.length ≤ 1000000) (hRs : ∀ x ∈ R, x.2.length ≤ 101 ∧ ShortRows 101 x.2) :
    ACallI Tryz.prog 46 [.ptr s 0, dictP g0 r0 b G R] [(s, strmC nl A p)] nid (fun x : SeenL × Nat => SnB G.length x.1 ∧ x.2 ≤ p + 300) (fun x => .sl nid 0 x.1.length) (fun x => [(nid, arrSn x.1), (s, strmC nl A x.2)]) := by
  obtain ⟨e1, e2, e3, e4, e5, e6, e7, e8, e9⟩ := id_all h
  refine acallI_sr c46 (by simp [a46]) ?_
  unfold a46 dictP
  refine SR.seq ?_
  simp -dsimp only [aqT, aqU, aqN, aqS, ↓seqK, ↓blkK, ↓loopK, step, stepBin, Nat.add_assoc nid, ↓reduceIte, Option.toList, ← Int.ofNat_tmod, ← Int.ofNat_tdiv, simprocAttr, BEq.rfl, LN_succ, e1, e2, e3, e4, e5, e6, e7, e8, e9]
  refine SR.seq ?_
  simp -dsimp only [aqT, aqU, aqN, aqS, ↓seqK, ↓blkK, ↓loopK, step, stepBin, Nat.add_assoc nid, ↓reduceIte, Option.toList, ← Int.ofNat_tmod, ← Int.ofNat_tdiv, simprocAttr, BEq.rfl, LN_succ, e1, e2, e3, e4, e5, e6, e7, e8, e9]
  refine SR.seq ?_
  simp -dsimp only [aqT, aqU, aqN, aqS, ↓seqK, ↓blkK, ↓loopK, step, stepBin, Nat.add_assoc nid, ↓reduceIte, Option.toList, ← Int.ofNat_tmod, ← Int.ofNat_tdiv, simprocAttr, BEq.rfl, LN_succ, e1, e2, e3, e4, e5, e6, e7, e8, e9]
  refine SR.seqW (ι := {x : Bool × List (List UInt8) × Nat // x.2.1.length ≤ 101 ∧ ShortRows 101 x.2.1 ∧ x.2.2 ≤ p + 2}) (fun x => ⟨[(6, litS x.1.1 x.1.2.1), (5, .lit true 0 []), (3, .ptr (nid + 4) 0), (0, .ptr s 0)], [(nid + 4, boxP2 g0 r0 b G R), (s, strmC nl A x.1.2.2)], nid + 200, nid⟩) ?_ (fun ⟨⟨nb, L, q⟩, hL, hLs, hq⟩ => ?_)
  · refine SR.run (t := .mk) ?_
    simp -dsimp only [aqT, aqU, aqN, aqS, ↓seqK, ↓blkK, ↓loopK, step, stepBin, Nat.add_assoc nid, ↓reduceIte, Option.toList, ← Int.ofNat_tmod, ← Int.ofNat_tdiv, simprocAttr, BEq.rfl, LN_succ, e1, e2, e3, e4, e5, e6, e7, e8, e9]
    refine S2.dec (fun h1 => ?_) (fun h1 => ?_) <;> simp -dsimp only [aqT, aqU, aqN, aqS, ↓seqK, ↓blkK, ↓loopK, step, stepBin, Nat.add_assoc nid, ↓reduceIte, Option.toList, ← Int.ofNat_tmod, ← Int.ofNat_tdiv, simprocAttr, BEq.rfl, LN_succ, e1, e2, e3, e4, e5, e6, e7, e8, e9]
    · refine CallO.on (flip_c s _ nl A p 4 (by omega) (by omega) hA (by omega)) (subH_get (by simp only [aqT, aqU, aqN, aqS, ↓seqK, ↓blkK, ↓loopK, step, stepBin, Nat.add_assoc nid, ↓reduceIte, Option.toList, ← Int.ofNat_tmod, ← Int.ofNat_tdiv, simprocAttr, BEq.rfl, LN_succ, e1, e2, e3, e4, e5, e6, e7, e8, e9])) ?_
      simp -dsimp only [aqT, aqU, aqN, aqS, ↓seqK, ↓blkK, ↓loopK, step, stepBin, Nat.add_assoc nid, ↓reduceIte, Option.toList, ← Int.ofNat_tmod, ← Int.ofNat_tdiv, simprocAttr, BEq.rfl, LN_succ, e1, e2, e3, e4, e5, e6, e7, e8, e9, strmC_low]
      cases hf : flipV A p 4 <;> simp -dsimp only [aqT, aqU, aqN, aqS, ↓seqK, ↓blkK, ↓loopK, step, stepBin, Nat.add_assoc nid, ↓reduceIte, Option.toList, ← Int.ofNat_tmod, ← Int.ofNat_tdiv, simprocAttr, BEq.rfl, LN_succ, e1, e2, e3, e4, e5, e6, e7, e8, e9, strmC_low, Bool.not_false, Bool.not_true]
      · have hnd := nextV_bd A (p + 1) (n := (R.length : Nat)) (by omega)
        obtain ⟨I, hI⟩ : ∃ I : Nat, nextV A (p + 1) ((R.length : Nat) : Int) = I := ⟨_, (Int.toNat_of_nonneg hnd.1).symm⟩
        refine CallX.on (next_c s _ nl A (p + 1) _ (by omega) (by omega) hA (by omega)) (subH_get (by simp only [aqT, aqU, aqN, aqS, ↓seqK, ↓blkK, ↓loopK, step, stepBin, Nat.add_assoc nid, ↓reduceIte, Option.toList, ← Int.ofNat_tmod, ← Int.ofNat_tdiv, simprocAttr, BEq.rfl, LN_succ, e1, e2, e3, e4, e5, e6, e7, e8, e9])) ?_
        rw [hI]
        simp -dsimp only [aqT, aqU, aqN, aqS, ↓seqK, ↓blkK, ↓loopK, step, stepBin, Nat.add_assoc nid, ↓reduceIte, Option.toList, ← Int.ofNat_tmod, ← Int.ofNat_tdiv, simprocAttr, BEq.rfl, LN_succ, e1, e2, e3, e4, e5, e6, e7, e8, e9, strmC_low]
        have hIR : I < R.length := by omega
        have hrow := hRs _ (row_mem hIR)
        refine ⟨⟨by omega, by omega⟩, ⟨(b I, rowR R I, p + 1 + 1), hrow.1, hrow.2, by simp only; omega⟩, Cov.go [(nid + 4, nid)] [] ?_⟩
        simp [cvT, step, res, e1, e2, e3, e4, e5, e6, e7, e8, e9, boxP2, strmC, litS, ColsEq.refl, -List.getD_eq_getElem?_getD]
      · refine ⟨⟨(g0, G, p + 1), by simp only; omega, hGs, by simp only; omega⟩, Cov.go [(nid + 4, nid)] [] ?_⟩
        simp [cvT, step, res, e1, e2, e3, e4, e5, e6, e7, e8, e9, boxP2, strmC, litS, ColsEq.refl, -List.getD_eq_getElem?_getD]
    · refine ⟨⟨(g0, G, p), by simp only; omega, hGs, by simp only; omega⟩, Cov.go [(nid + 4, nid)] [] ?_⟩
      simp [cvT, step, res, e1, e2, e3, e4, e5, e6, e7, e8, e9, boxP2, strmC, litS, ColsEq.refl, -List.getD_eq_getElem?_getD]
  simp only at hL hLs hq ⊢
  refine SR.seqW (ι := {x : SeenL × Nat // SnB G.length x.1 ∧ x.2 ≤ p + 220}) (fun x => ⟨[(5, .sl (nid + 16) 0 x.1.1.length), (3, .ptr (nid + 4) 0), (0, .ptr s 0)], [(nid + 16, arrSn x.1.1), (nid + 4, boxP2 g0 r0 b G R), (s, strmC nl A x.1.2)], nid + 400, nid⟩) ?_ (fun ⟨⟨S, q2⟩, hS, hq2⟩ => ?_)
  · unfold boxP2
    refine SR.seqTo ⟨[(33, .int .i64 0), (32, .int .i64 G.length), (6, litS nb L), (5, .lit true 0 []), (3, .ptr (nid + 4) 0), (0, .ptr s 0)], [(nid + 4, boxP2 g0 r0 b G R), (s, strmC nl A q)], nid + 250, nid⟩ ?_ ?_
    · simp -dsimp only [aqT, aqU, aqN, aqS, ↓seqK, ↓blkK, ↓loopK, step, stepBin, Nat.add_assoc nid, ↓reduceIte, Option.toList, ← Int.ofNat_tmod, ← Int.ofNat_tdiv, simprocAttr, BEq.rfl, LN_succ, e1, e2, e3, e4, e5, e6, e7, e8, e9, strmC_low]
      refine Cov.go [] [] ?_
      simp [cvT, step, res, e1, e2, e3, e4, e5, e6, e7, e8, e9, boxP2, strmC, litS, ColsEq.refl, -List.getD_eq_getElem?_getD]
    refine SR.block ?_
    refine SR.loopP (fun x : Nat × SeenL × Nat => x.1 ≤ G.length ∧ SnB x.1 x.2.1 ∧ x.2.2 ≤ q + 2 * x.1) (fun x => ⟨[(33, .int .i64 x.1), (32, .int .i64 G.length), (6, litS nb L), (5, .sl (nid + 16) 0 x.2.1.length), (3, .ptr (nid + 4) 0), (0, .ptr s 0)], [(nid + 16, arrSn x.2.1), (nid + 4, boxP2 g0 r0 b G R), (s, strmC nl A x.2.2)], nid + 300, nid⟩) (fun x => G.length + 1 - x.1) (0, [], q) ⟨by simp, ⟨by simp, by simp⟩, by simp⟩ (Cov.go [] [(nid + 16, 2)] ?_) (fun x hx => ?_)
    · simp [cvT, step, res, e1, e2, e3, e4, e5, e6, e7, e8, e9, boxP2, strmC, litS, arrSn, ColsEq.refl, -List.getD_eq_getElem?_getD]
    obtain ⟨t, S, q1⟩ := x
    obtain ⟨ht, hS, hq1⟩ := hx
    simp only at ht hS hq1 ⊢
    have hSl := hS.l
    refine SR.seq ?_
    simp -dsimp only [aqT, aqU, aqN, aqS, ↓seqK, ↓blkK, ↓loopK, step, stepBin, Nat.add_assoc nid, ↓reduceIte, Option.toList, ← Int.ofNat_tmod, ← Int.ofNat_tdiv, simprocAttr, BEq.rfl, LN_succ, e1, e2, e3, e4, e5, e6, e7, e8, e9]
    refine SR.seq ?_
    simp -dsimp only [aqT, aqU, aqN, aqS, ↓seqK, ↓blkK, ↓loopK, step, stepBin, Nat.add_assoc nid, ↓reduceIte, Option.toList, ← Int.ofNat_tmod, ← Int.ofNat_tdiv, simprocAttr, BEq.rfl, LN_succ, e1, e2, e3, e4, e5, e6, e7, e8, e9]
    refine S2.dec (fun h4 => ?_) (fun h4 => ?_) <;> simp -dsimp only [aqT, aqU, aqN, aqS, ↓seqK, ↓blkK, ↓loopK, step, stepBin, Nat.add_assoc nid, ↓reduceIte, Option.toList, ← Int.ofNat_tmod, ← Int.ofNat_tdiv, simprocAttr, BEq.rfl, LN_succ]
    · have htl : t < G.length := by omega
      refine SR.seqW (ι := {x : SeenL × Nat // SnB (t + 1) x.1 ∧ x.2 ≤ q + 2 * (t + 1)}) (fun x => ⟨[(33, .int .i64 t), (32, .int .i64 G.length), (6, litS nb L), (5, .sl (nid + 16) 0 x.1.1.length), (3, .ptr (nid + 4) 0), (0, .ptr s 0)], [(nid + 16, arrSn x.1.1), (nid + 4, boxP2 g0 r0 b G R), (s, strmC nl A x.1.2)], nid + 900, nid⟩) ?_ (fun ⟨⟨S2, q2⟩, hS2, hq2⟩ => ?_)
      · refine SR.block ?_
        refine SR.run (t := .mk) ?_
        unfold litS arrSn
        simp -dsimp only [aqT, aqU, aqN, aqS, ↓seqK, ↓blkK, ↓loopK, step, stepBin, Nat.add_assoc nid, ↓reduceIte, Option.toList, ← Int.ofNat_tmod, ← Int.ofNat_tdiv, simprocAttr, BEq.rfl, LN_succ, e1, e2, e3, e4, e5, e6, e7, e8, e9, strmC_low]
        refine CallO.on (flip_c s _ nl A q1 3 (by omega) (by omega) hA (by omega)) (subH_get (by simp only [aqT, aqU, aqN, aqS, ↓seqK, ↓blkK, ↓loopK, step, stepBin, Nat.add_assoc nid, ↓reduceIte, Option.toList, ← Int.ofNat_tmod, ← Int.ofNat_tdiv, simprocAttr, BEq.rfl, LN_succ, e1, e2, e3, e4, e5, e6, e7, e8, e9])) ?_
        simp -dsimp only [aqT, aqU, aqN, aqS, ↓seqK, ↓blkK, ↓loopK, step, stepBin, Nat.add_assoc nid, ↓reduceIte, Option.toList, ← Int.ofNat_tmod, ← Int.ofNat_tdiv, simprocAttr, BEq.rfl, LN_succ, e1, e2, e3, e4, e5, e6, e7, e8, e9, strmC_low]
        cases hf : flipV A q1 3 <;> simp -dsimp only [aqT, aqU, aqN, aqS, ↓seqK, ↓blkK, ↓loopK, step, stepBin, Nat.add_assoc nid, ↓reduceIte, Option.toList, ← Int.ofNat_tmod, ← Int.ofNat_tdiv, simprocAttr, BEq.rfl, LN_succ, e1, e2, e3, e4, e5, e6, e7, e8, e9, strmC_low, Bool.not_false, Bool.not_true]
        · refine S2.dec (fun h5 => ?_) (fun h5 => ?_) <;> simp -dsimp only [aqT, aqU, aqN, aqS, ↓seqK, ↓blkK, ↓loopK, step, stepBin, Nat.add_assoc nid, ↓reduceIte, Option.toList, ← Int.ofNat_tmod, ← Int.ofNat_tdiv, simprocAttr, BEq.rfl, LN_succ, e1, e2, e3, e4, e5, e6, e7, e8, e9, strmC_low]
          · have htL : t < L.length := by omega
            have hlt := hLs.at t
            refine ⟨by omega, by omega, by omega, ?_⟩
            refine CallX.some_go (T := 9) (nl := nl) (A := A) (p := q1 + 1) (g := fun i => [L.getD t [], L.getD t [], L.getD t [], [48], [49]].getD i []) (by simp only [aqT, aqU, aqN, aqS, ↓seqK, ↓blkK, ↓loopK, step, stepBin, Nat.add_assoc nid, ↓reduceIte, Option.toList, ← Int.ofNat_tmod, ← Int.ofNat_tdiv, simprocAttr, BEq.rfl, LN_succ, e1, e2, e3, e4, e5, e6, e7, e8, e9]) (by simp only [aqT, aqU, aqN, aqS, ↓seqK, ↓blkK, ↓loopK, step, stepBin, Nat.add_assoc nid, ↓reduceIte, Option.toList, ← Int.ofNat_tmod, ← Int.ofNat_tdiv, simprocAttr, BEq.rfl, LN_succ, e1, e2, e3, e4, e5, e6, e7, e8, e9]) (by simp only [aqT, aqU, aqN, aqS, ↓seqK, ↓blkK, ↓loopK, step, stepBin, Nat.add_assoc nid, ↓reduceIte, Option.toList, ← Int.ofNat_tmod, ← Int.ofNat_tdiv, simprocAttr, BEq.rfl, LN_succ, e1, e2, e3, e4, e5, e6, e7, e8, e9]) (by omega) (by omega) hA (by omega) (by omega) ?_
            have hb := getD_all (P := fun x : List UInt8 => x.length ≤ 101) (l := [L.getD t [], L.getD t [], L.getD t [], [48], [49]]) (d := []) (by intro x hx; simp only [List.mem_cons, List.not_mem_nil, or_false] at hx; rcases hx with rfl | rfl | rfl | rfl | rfl <;> first | assumption | simp) (pickI_lt A (q1 + 1) (n := 5) (by omega))
            generalize ([L.getD t [], L.getD t [], L.getD t [], [48], [49]].getD (pickI A (q1 + 1) 5) [] : List UInt8) = v at hb ⊢
            simp -dsimp only [aqT, aqU, aqN, aqS, ↓seqK, ↓blkK, ↓loopK, step, stepBin, Nat.add_assoc nid, ↓reduceIte, Option.toList, ← Int.ofNat_tmod, ← Int.ofNat_tdiv, simprocAttr, BEq.rfl, LN_succ, e1, e2, e3, e4, e5, e6, e7, e8, e9, strmC_low]
            rw [sT_app S t v, sR_app S t v]
            have hl1 : (S ++ [((t : Int), v)]).length = S.length + 1 := by simp
            have hS1 : SnB (t + 1) (S ++ [((t : Int), v)]) := hS.snoc (by omega) hb
            generalize S ++ [((t : Int), v)] = S1 at *
            refine ⟨by omega, ⟨(S1, q1 + 1 + 1), hS1, by simp only; omega⟩, Cov.go [(nid + 16, nid + 424)] [] ?_⟩
            simp [cvT, step, res, e1, e2, e3, e4, e5, e6, e7, e8, e9, boxP2, strmC, litS, arrSn, hl1, ColsEq.refl, -List.getD_eq_getElem?_getD]
          · refine ⟨⟨(S, q1 + 1), hS.more (by omega), by simp only; omega⟩, Cov.go [] [] ?_⟩
            simp [cvT, step, res, e1, e2, e3, e4, e5, e6, e7, e8, e9, boxP2, strmC, litS, arrSn, ColsEq.refl, -List.getD_eq_getElem?_getD]
        · refine ⟨⟨(S, q1 + 1), hS.more (by omega), by simp only; omega⟩, Cov.go [] [] ?_⟩
          simp [cvT, step, res, e1, e2, e3, e4, e5, e6, e7, e8, e9, boxP2, strmC, litS, arrSn, ColsEq.refl, -List.getD_eq_getElem?_getD]
      · refine SR.run (t := .mk) ?_
        simp -dsimp only [aqT, aqU, aqN, aqS, ↓seqK, ↓blkK, ↓loopK, step, stepBin, Nat.add_assoc nid, ↓reduceIte, Option.toList, ← Int.ofNat_tmod, ← Int.ofNat_tdiv, simprocAttr, BEq.rfl, LN_succ, e1, e2, e3, e4, e5, e6, e7, e8, e9]
        refine ⟨by unfold inI64; omega, (t + 1, S2, q2), ⟨⟨by simp only; omega, hS2, hq2⟩, by simp only; omega⟩, Cov.go [] [] ?_⟩
        simp [cvT, step, res, e1, e2, e3, e4, e5, e6, e7, e8, e9, boxP2, strmC, litS, arrSn, ColsEq.refl, -List.getD_eq_getElem?_getD]
    · refine ⟨⟨(S, q1), hS.more ht, by simp only; omega⟩, Cov.go [] [] ?_⟩
      simp [cvT, step, res, e1, e2, e3, e4, e5, e6, e7, e8, e9, boxP2, strmC, litS, arrSn, ColsEq.refl, -List.getD_eq_getElem?_getD]
  simp only at hS hq2 ⊢
  have hSl := hS.l
  refine SR.seqW (ι := {x : SeenL × Nat // SnB G.length x.1 ∧ x.2 ≤ p + 300}) (fun x => ⟨[(5, .sl (nid + 16) 0 x.1.1.length)], [(nid + 16, arrSn x.1.1), (s, strmC nl A x.1.2)], nid + 1000, nid⟩) ?_ (fun ⟨⟨S2, q3⟩, hS2, hq3⟩ => ?_)
  · refine SR.run (t := .mk) ?_
    unfold boxP2 arrSn
    simp -dsimp only [aqT, aqU, aqN, aqS, ↓seqK, ↓blkK, ↓loopK, step, stepBin, Nat.add_assoc nid, ↓reduceIte, Option.toList, ← Int.ofNat_tmod, ← Int.ofNat_tdiv, simprocAttr, BEq.rfl, LN_succ, e1, e2, e3, e4, e5, e6, e7, e8, e9, strmC_low]
    refine S2.dec (fun h1 => ?_) (fun h1 => ?_) <;> simp -dsimp only [aqT, aqU, aqN, aqS, ↓seqK, ↓blkK, ↓loopK, step, stepBin, Nat.add_assoc nid, ↓reduceIte, Option.toList, ← Int.ofNat_tmod, ← Int.ofNat_tdiv, simprocAttr, BEq.rfl, LN_succ, e1, e2, e3, e4, e5, e6, e7, e8, e9, strmC_low]
    · refine CallO.on (flip_c s _ nl A q2 15 (by omega) (by omega) hA (by omega)) (subH_get (by simp only [aqT, aqU, aqN, aqS, ↓seqK, ↓blkK, ↓loopK, step, stepBin, Nat.add_assoc nid, ↓reduceIte, Option.toList, ← Int.ofNat_tmod, ← Int.ofNat_tdiv, simprocAttr, BEq.rfl, LN_succ, e1, e2, e3, e4, e5, e6, e7, e8, e9])) ?_
      simp -dsimp only [aqT, aqU, aqN, aqS, ↓seqK, ↓blkK, ↓loopK, step, stepBin, Nat.add_assoc nid, ↓reduceIte, Option.toList, ← Int.ofNat_tmod, ← Int.ofNat_tdiv, simprocAttr, BEq.rfl, LN_succ, e1, e2, e3, e4, e5, e6, e7, e8, e9, strmC_low]
      cases hf : flipV A q2 15 <;> simp -dsimp only [aqT, aqU, aqN, aqS, ↓seqK, ↓blkK, ↓loopK, step, stepBin, Nat.add_assoc nid, ↓reduceIte, Option.toList, ← Int.ofNat_tmod, ← Int.ofNat_tdiv, simprocAttr, BEq.rfl, LN_succ, e1, e2, e3, e4, e5, e6, e7, e8, e9, strmC_low]
      · refine ⟨⟨(S, q2 + 1), hS, by simp only; omega⟩, Cov.go [] [] ?_⟩
        simp [cvT, step, res, e1, e2, e3, e4, e5, e6, e7, e8, e9, strmC, arrSn, -List.getD_eq_getElem?_getD]
      · have hnd := nextV_bd A (q2 + 1) (n := (S.length : Nat)) (by omega)
        obtain ⟨I, hI⟩ : ∃ I : Nat, nextV A (q2 + 1) ((S.length : Nat) : Int) = I := ⟨_, (Int.toNat_of_nonneg hnd.1).symm⟩
        have hIS : I < S.length := by omega
        obtain ⟨ha1, ha2⟩ := hS.at hIS
        refine CallO.on (next_c s _ nl A (q2 + 1) _ (by omega) (by omega) hA (by omega)) (subH_get (by simp only [aqT, aqU, aqN, aqS, ↓seqK, ↓blkK, ↓loopK, step, stepBin, Nat.add_assoc nid, ↓reduceIte, Option.toList, ← Int.ofNat_tmod, ← Int.ofNat_tdiv, simprocAttr, BEq.rfl, LN_succ, e1, e2, e3, e4, e5, e6, e7, e8, e9])) ?_
        rw [hI]
        simp -dsimp only [aqT, aqU, aqN, aqS, ↓seqK, ↓blkK, ↓loopK, step, stepBin, Nat.add_assoc nid, ↓reduceIte, Option.toList, ← Int.ofNat_tmod, ← Int.ofNat_tdiv, simprocAttr, BEq.rfl, LN_succ, e1, e2, e3, e4, e5, e6, e7, e8, e9, strmC_low]
        refine ⟨⟨by omega, by omega⟩, ?_⟩
        refine CallX.pick_go (T := 3) (nl := nl) (A := A) (p := q2 + 1 + 1) (g := fun i => [sT S I, -1, (G.length : Int), 0].getD i 0) (by simp only [aqT, aqU, aqN, aqS, ↓seqK, ↓blkK, ↓loopK, step, stepBin, Nat.add_assoc nid, ↓reduceIte, Option.toList, ← Int.ofNat_tmod, ← Int.ofNat_tdiv, simprocAttr, BEq.rfl, LN_succ, e1, e2, e3, e4, e5, e6, e7, e8, e9]) (by simp only [aqT, aqU, aqN, aqS, ↓seqK, ↓blkK, ↓loopK, step, stepBin, Nat.add_assoc nid, ↓reduceIte, Option.toList, ← Int.ofNat_tmod, ← Int.ofNat_tdiv, simprocAttr, BEq.rfl, LN_succ, e1, e2, e3, e4, e5, e6, e7, e8, e9]) (by simp only [aqT, aqU, aqN, aqS, ↓seqK, ↓blkK, ↓loopK, step, stepBin, Nat.add_assoc nid, ↓reduceIte, Option.toList, ← Int.ofNat_tmod, ← Int.ofNat_tdiv, simprocAttr, BEq.rfl, LN_succ, e1, e2, e3, e4, e5, e6, e7, e8, e9]) (by omega) (by omega) hA (by omega) (by omega) ?_
        have hb := getD_all (P := fun x : Int => -1 ≤ x ∧ x ≤ 1000000) (l := [sT S I, -1, (G.length : Int), 0]) (d := 0) (by intro x hx; simp only [List.mem_cons, List.not_mem_nil, or_false] at hx; rcases hx with rfl | rfl | rfl | rfl <;> omega) (pickI_lt A (q2 + 1 + 1) (n := 4) (by omega))
        generalize ([sT S I, -1, (G.length : Int), 0].getD (pickI A (q2 + 1 + 1) 4) 0 : Int) = v at hb ⊢
        simp -dsimp only [aqT, aqU, aqN, aqS, ↓seqK, ↓blkK, ↓loopK, step, stepBin, Nat.add_assoc nid, ↓reduceIte, Option.toList, ← Int.ofNat_tmod, ← Int.ofNat_tdiv, simprocAttr, BEq.rfl, LN_succ, e1, e2, e3, e4, e5, e6, e7, e8, e9, strmC_low]
        refine CallX.some_go (T := 9) (nl := nl) (A := A) (p := q2 + 1 + 1 + 1) (g := fun i => [sR S I, [], [32]].getD i []) (by simp only [aqT, aqU, aqN, aqS, ↓seqK, ↓blkK, ↓loopK, step, stepBin, Nat.add_assoc nid, ↓reduceIte, Option.toList, ← Int.ofNat_tmod, ← Int.ofNat_tdiv, simprocAttr, BEq.rfl, LN_succ, e1, e2, e3, e4, e5, e6, e7, e8, e9]) (by simp only [aqT, aqU, aqN, aqS, ↓seqK, ↓blkK, ↓loopK, step, stepBin, Nat.add_assoc nid, ↓reduceIte, Option.toList, ← Int.ofNat_tmod, ← Int.ofNat_tdiv, simprocAttr, BEq.rfl, LN_succ, e1, e2, e3, e4, e5, e6, e7, e8, e9]) (by simp only [aqT, aqU, aqN, aqS, ↓seqK, ↓blkK, ↓loopK, step, stepBin, Nat.add_assoc nid, ↓reduceIte, Option.toList, ← Int.ofNat_tmod, ← Int.ofNat_tdiv, simprocAttr, BEq.rfl, LN_succ, e1, e2, e3, e4, e5, e6, e7, e8, e9]) (by omega) (by omega) hA (by omega) (by omega) ?_
        have hb2 := getD_all (P := fun x : List UInt8 => x.length ≤ 101) (l := [sR S I, [], [32]]) (d := []) (by intro x hx; simp only [List.mem_cons, List.not_mem_nil, or_false] at hx; rcases hx with rfl | rfl | rfl <;> first | assumption | simp) (pickI_lt A (q2 + 1 + 1 + 1) (n := 3) (by omega))
        generalize ([sR S I, [], [32]].getD (pickI A (q2 + 1 + 1 + 1) 3) [] : List UInt8) = r at hb2 ⊢
        simp -dsimp only [aqT, aqU, aqN, aqS, ↓seqK, ↓blkK, ↓loopK, step, stepBin, Nat.add_assoc nid, ↓reduceIte, Option.toList, ← Int.ofNat_tmod, ← Int.ofNat_tdiv, simprocAttr, BEq.rfl, LN_succ, e1, e2, e3, e4, e5, e6, e7, e8, e9, strmC_low]
        rw [sT_set v r hIS, sR_set v r hIS]
        have hl1 : (S.set I (v, r)).length = S.length := List.length_set
        have hS1 : SnB G.length (S.set I (v, r)) := hS.put hb hb2 I
        generalize S.set I (v, r) = S1 at *
        refine ⟨⟨(S1, q2 + 1 + 1 + 1 + 1), hS1, by simp only; omega⟩, Cov.go [] [] ?_⟩
        simp [cvT, step, res, e1, e2, e3, e4, e5, e6, e7, e8, e9, strmC, arrSn, hl1, -List.getD_eq_getElem?_getD]
    · refine ⟨⟨(S, q2), hS, by simp only; omega⟩, Cov.go [] [] ?_⟩
      simp [cvT, step, res, e1, e2, e3, e4, e5, e6, e7, e8, e9, strmC, arrSn, -List.getD_eq_getElem?_getD]
  · refine SR.run (t := .mk) ?_
    unfold arrSn
    simp -dsimp only [aqT, aqU, aqN, aqS, ↓seqK, ↓blkK, ↓loopK, step, stepBin, Nat.add_assoc nid, ↓reduceIte, Option.toList, ← Int.ofNat_tmod, ← Int.ofNat_tdiv, simprocAttr, BEq.rfl, LN_succ, e1, e2, e3, e4, e5, e6, e7, e8, e9, strmC_low]
    refine ⟨(S2, q3), ⟨hS2, hq3⟩, RetOK.go [(nid, nid + 16)] [] (.inl rfl) ?_⟩
    simp [a46, cvT, step, res, e1, e2, e3, e4, e5, e6, e7, e8, e9, strmC, arrSn, -List.getD_eq_getElem?_getD]
end Go.Proofs.YtpifoghhaohhaaaGreatDoor
namespace Go.Proofs.YtpifoghhaohhaaaGreatDoor
open Go.RowKit Go.Shelf Go.Lib
set_option maxHeartbeats 1000000 in
theorem seenR_c (g0 r0 : Bool) (b : Nat → Bool) (G : List (List UInt8)) (R : RowL) (nl : Bool) (S : SeenL) (nid : Nat) (hB : DictW G R) (hS : SnW S) : ACall Tryz.prog 47 [dictP g0 r0 b G R, litSn nl S] [] nid (.int .i64 (seenV G R S)) [] := by
  have hgl := hB.gl
  have hsl := hS.l
  have hd := fun m => dictR_c g0 r0 b G R m hB
  refine acall_sr c47 (by simp [a47]) ?_
  unfold a47
  refine SR.seq ?_
  unfold dictP litSn at *
  simp -dsimp only [aqT, aqU, aqN, aqS, ↓seqK, ↓blkK, ↓loopK, step, stepBin, Nat.add_assoc nid, ↓reduceIte, Option.toList, ← Int.ofNat_tmod, ← Int.ofNat_tdiv, simprocAttr, BEq.rfl, LN_succ]
  refine SR.seqW (ι := {_u : Unit // dictV G R = 0}) (fun _ => ⟨[(2, .ptr nid 0), (1, litSn nl S)], [(nid, boxP2 g0 r0 b G R)], nid + 100, nid⟩) ?_ (fun ⟨_, h1⟩ => ?_)
  · refine SR.run (t := .mk) ?_
    simp -dsimp only [aqT, aqU, aqN, aqS, ↓seqK, ↓blkK, ↓loopK, step, stepBin, Nat.add_assoc nid, ↓reduceIte, Option.toList, ← Int.ofNat_tmod, ← Int.ofNat_tdiv, simprocAttr, BEq.rfl, LN_succ]
    refine CallO.pure (hd _) ?_
    simp -dsimp only [aqT, aqU, aqN, aqS, ↓seqK, ↓blkK, ↓loopK, step, stepBin, Nat.add_assoc nid, ↓reduceIte, Option.toList, ← Int.ofNat_tmod, ← Int.ofNat_tdiv, simprocAttr, BEq.rfl, LN_succ]
    refine S2.intro (fun h1 => ?_) (fun h1 => ?_) <;> simp -dsimp only [aqT, aqU, aqN, aqS, ↓seqK, ↓blkK, ↓loopK, step, stepBin, Nat.add_assoc nid, ↓reduceIte, Option.toList, ← Int.ofNat_tmod, ← Int.ofNat_tdiv, simprocAttr, BEq.rfl, LN_succ]
    · have e : seenV G R S = dictV G R := by unfold seenV; rw [if_pos (by simpa using h1)]
      rw [e]
      refine RetOK.pure (.inl rfl) rfl ?_
      simp [cvT, step, res]
    · refine ⟨⟨(), by simpa using h1⟩, Cov.go [] [] ?_⟩
      simp [cvT, step, res, boxP2, litSn, ColsEq.refl, -List.getD_eq_getElem?_getD]
  refine SR.seqW (ι := {_u : Unit // ¬ 100 < S.length}) (fun _ => ⟨[(2, .ptr nid 0), (1, litSn nl S)], [(nid, boxP2 g0 r0 b G R)], nid + 150, nid⟩) ?_ (fun ⟨_, h2⟩ => ?_)
  · unfold litSn
    refine SR.run (t := .mk) ?_
    simp -dsimp only [aqT, aqU, aqN, aqS, ↓seqK, ↓blkK, ↓loopK, step, stepBin, Nat.add_assoc nid, ↓reduceIte, Option.toList, ← Int.ofNat_tmod, ← Int.ofNat_tdiv, simprocAttr, BEq.rfl, LN_succ]
    refine S2.dec (fun h2 => ?_) (fun h2 => ?_) <;> simp -dsimp only [aqT, aqU, aqN, aqS, ↓seqK, ↓blkK, ↓loopK, step, stepBin, Nat.add_assoc nid, ↓reduceIte, Option.toList, ← Int.ofNat_tmod, ← Int.ofNat_tdiv, simprocAttr, BEq.rfl, LN_succ]
    · have e : seenV G R S = 2 := by unfold seenV; rw [if_neg (by simp [h1]), if_pos (by omega)]
      rw [e]
      refine RetOK.pure (.inl rfl) rfl ?_
      simp [cvT, step, res]
    · refine ⟨⟨(), by omega⟩, Cov.go [] [] ?_⟩
      simp [cvT, step, res, boxP2, litSn, ColsEq.refl, -List.getD_eq_getElem?_getD]
  refine SR.seqW (ι := {_u : Unit // ∀ j, j < S.length → seenBad G.length S j = 0}) (fun _ => ⟨[], [], nid + 2000, nid⟩) ?_ (fun ⟨_, h5⟩ => ?_)
  · unfold boxP2 litSn
    refine SR.seqTo ⟨[(18, .int .i64 0), (17, .int .i64 S.length), (16, litSn nl S), (2, .ptr nid 0), (1, litSn nl S)], [(nid, boxP2 g0 r0 b G R)], nid + 200, nid⟩ ?_ ?_
    · simp -dsimp only [aqT, aqU, aqN, aqS, ↓seqK, ↓blkK, ↓loopK, step, stepBin, Nat.add_assoc nid, ↓reduceIte, Option.toList, ← Int.ofNat_tmod, ← Int.ofNat_tdiv, simprocAttr, BEq.rfl, LN_succ]
      refine Cov.go [] [] ?_
      simp [cvT, step, res, boxP2, litSn, ColsEq.refl, -List.getD_eq_getElem?_getD]
    refine SR.block ?_
    refine SR.loopP (fun k : Nat => k ≤ S.length ∧ ∀ j, j < k → seenBad G.length S j = 0) (fun k : Nat => ⟨[(18, .int .i64 k), (17, .int .i64 S.length), (16, litSn nl S), (2, .ptr nid 0), (1, litSn nl S)], [(nid, boxP2 g0 r0 b G R)], nid + 200, nid⟩) (fun k => S.length + 1 - k) 0 ⟨by omega, fun j hj => by omega⟩ (Cov.drop (by omega) ?_) (fun k hk => ?_)
    · simp only [SlotsIn, aqT, aqU, aqN, ↓seqK, ↓blkK, ↓loopK, step, stepBin, Nat.reduceBEq, Nat.reduceBeqDiff, Nat.add_assoc nid, Nat.reduceAdd, reduceCtorEq, ↓reduceIte, Nat.reduceLeDiff, Nat.reduceBneDiff, Option.toList, ← Int.ofNat_tmod, ← Int.ofNat_tdiv, Nat.reduceLT]
      try simp
    obtain ⟨hk, hall⟩ := hk
    refine SR.seq ?_
    simp -dsimp only [aqT, aqU, aqN, aqS, ↓seqK, ↓blkK, ↓loopK, step, stepBin, Nat.add_assoc nid, ↓reduceIte, Option.toList, ← Int.ofNat_tmod, ← Int.ofNat_tdiv, simprocAttr, BEq.rfl, LN_succ]
    refine SR.seq ?_
    simp -dsimp only [aqT, aqU, aqN, aqS, ↓seqK, ↓blkK, ↓loopK, step, stepBin, Nat.add_assoc nid, ↓reduceIte, Option.toList, ← Int.ofNat_tmod, ← Int.ofNat_tdiv, simprocAttr, BEq.rfl, LN_succ]
    refine S2.dec (fun h4 => ?_) (fun h4 => ?_) <;> simp -dsimp only [aqT, aqU, aqN, aqS, ↓seqK, ↓blkK, ↓loopK, step, stepBin, Nat.add_assoc nid, ↓reduceIte, Option.toList, ← Int.ofNat_tmod, ← Int.ofNat_tdiv, simprocAttr, BEq.rfl, LN_succ]
    · have hkl : k < S.length := by omega
      have hbad := fun e => seenV_row (e := e) h1 h2 hkl hall
      have hr1 := hS.r k
      refine SR.seqW (ι := {_u : Unit // seenBad G.length S k = 0}) (fun _ => ⟨[(18, .int .i64 k), (17, .int .i64 S.length), (16, litSn nl S), (2, .ptr nid 0), (1, litSn nl S)], [(nid, boxP2 g0 r0 b G R)], nid + 900, nid⟩) ?_ (fun ⟨_, h6⟩ => ?_)
      · refine SR.block ?_
        unfold litSn
        refine SR.seqTo ⟨[(7, .ptr (nid + 300) 0), (6, .int .i64 k), (18, .int .i64 k), (17, .int .i64 S.length), (16, litSn nl S), (2, .ptr nid 0), (1, litSn nl S)], [(nid + 300, some (.box 69 [.int .i64 (sT S k), .str (sR S k)])), (nid, boxP2 g0 r0 b G R)], nid + 400, nid⟩ ?_ ?_
        · simp -dsimp only [aqT, aqU, aqN, aqS, ↓seqK, ↓blkK, ↓loopK, step, stepBin, Nat.add_assoc nid, ↓reduceIte, Option.toList, ← Int.ofNat_tmod, ← Int.ofNat_tdiv, simprocAttr, BEq.rfl, LN_succ]
          refine ⟨by omega, Cov.go [(nid + 300, nid + 216)] [] ?_⟩
          simp [cvT, step, res, boxP2, litSn, ColsEq.refl, -List.getD_eq_getElem?_getD]
        unfold boxP2 litSn
        refine SR.block ?_
        refine SR.seq ?_
        simp -dsimp only [aqT, aqU, aqN, aqS, ↓seqK, ↓blkK, ↓loopK, step, stepBin, Nat.add_assoc nid, ↓reduceIte, Option.toList, ← Int.ofNat_tmod, ← Int.ofNat_tdiv, simprocAttr, BEq.rfl, LN_succ]
        refine ⟨by unfold inI64; omega, CallO.pure (in_c _ _ _ _) ?_⟩
        simp -dsimp only [aqT, aqU, aqN, aqS, ↓seqK, ↓blkK, ↓loopK, step, stepBin, Nat.add_assoc nid, ↓reduceIte, Option.toList, ← Int.ofNat_tmod, ← Int.ofNat_tdiv, simprocAttr, BEq.rfl, LN_succ, Bool.not_not]
        refine SR.cond (b := outB (sT S k) 0 ((G.length : Int) - 1)) (by simp [AX.val, getS]) (fun h => ?_) (fun h => ?_)
        · rw [hbad 1 (by unfold seenBad; rw [if_pos h]) (by decide)]
          refine SR.run (t := .mk) ?_
          simp -dsimp only [aqT, aqU, aqN, aqS, ↓seqK, ↓blkK, ↓loopK, step, stepBin, Nat.add_assoc nid, ↓reduceIte, Option.toList, ← Int.ofNat_tmod, ← Int.ofNat_tdiv, simprocAttr, BEq.rfl, LN_succ]
          refine RetOK.pure (.inl rfl) rfl ?_
          simp [cvT, step, res]
        have hk1 : ¬ outB (sT S k) 0 ((G.length : Int) - 1) = true := by simp [h]
        refine SR.seq ?_
        simp -dsimp only [aqT, aqU, aqN, aqS, ↓seqK, ↓blkK, ↓loopK, step, stepBin, Nat.add_assoc nid, ↓reduceIte, Option.toList, ← Int.ofNat_tmod, ← Int.ofNat_tdiv, simprocAttr, BEq.rfl, LN_succ]
        refine CallO.pure (respR_c _ _) ?_
        simp -dsimp only [aqT, aqU, aqN, aqS, ↓seqK, ↓blkK, ↓loopK, step, stepBin, Nat.add_assoc nid, ↓reduceIte, Option.toList, ← Int.ofNat_tmod, ← Int.ofNat_tdiv, simprocAttr, BEq.rfl, LN_succ]
        refine SR.cond (b := !respB (sR S k)) (by simp [AX.val, getS]) (fun h => ?_) (fun h => ?_)
        · rw [hbad 9 (by unfold seenBad; rw [if_neg hk1, if_pos (show oddS (sR S k) = true from h)]) (by decide)]
          refine SR.run (t := .mk) ?_
          simp -dsimp only [aqT, aqU, aqN, aqS, ↓seqK, ↓blkK, ↓loopK, step, stepBin, Nat.add_assoc nid, ↓reduceIte, Option.toList, ← Int.ofNat_tmod, ← Int.ofNat_tdiv, simprocAttr, BEq.rfl, LN_succ]
          refine RetOK.pure (.inl rfl) rfl ?_
          simp [cvT, step, res]
        have hk2 : ¬ oddS (sR S k) = true := by unfold oddS; simpa using h
        refine SR.seqTo ⟨[(37, .bool (decide ((0 : Int) < k) && decide (sT S k ≤ sT S (k - 1)))), (18, .int .i64 k), (17, .int .i64 S.length), (16, litSn nl S), (2, .ptr nid 0), (1, litSn nl S)], [(nid, boxP2 g0 r0 b G R)], nid + 700, nid⟩ ?_ ?_
        · simp -dsimp only [aqT, aqU, aqN, aqS, ↓seqK, ↓blkK, ↓loopK, step, stepBin, Nat.add_assoc nid, ↓reduceIte, Option.toList, ← Int.ofNat_tmod, ← Int.ofNat_tdiv, simprocAttr, BEq.rfl, LN_succ]
          refine S2.dec (fun h0 => ?_) (fun h0 => ?_) <;> simp -dsimp only [aqT, aqU, aqN, aqS, ↓seqK, ↓blkK, ↓loopK, step, stepBin, Nat.add_assoc nid, ↓reduceIte, Option.toList, ← Int.ofNat_tmod, ← Int.ofNat_tdiv, simprocAttr, BEq.rfl, LN_succ]
          · have e : ((k : Int) - 1).toNat = k - 1 := by omega
            rw [e]
            refine ⟨by unfold inI64; omega, by omega, Cov.go [] [] ?_⟩
            simp [cvT, step, res, boxP2, litSn, ColsEq.refl, decide_eq_true h0, -List.getD_eq_getElem?_getD]
            try omega
          · refine Cov.go [] [] ?_
            simp [cvT, step, res, boxP2, litSn, ColsEq.refl, decide_eq_false h0, -List.getD_eq_getElem?_getD]
            try omega
        refine SR.cond (b := decide ((0 : Int) < k) && decide (sT S k ≤ sT S (k - 1))) (by simp [AX.val, getS]) (fun h => ?_) (fun h => ?_)
        · simp only [Bool.and_eq_true, decide_eq_true_eq] at h
          rw [hbad 7 (by unfold seenBad; rw [if_neg hk1, if_neg hk2, if_pos ⟨by omega, h.2⟩]) (by decide)]
          refine SR.run (t := .mk) ?_
          simp -dsimp only [aqT, aqU, aqN, aqS, ↓seqK, ↓blkK, ↓loopK, step, stepBin, Nat.add_assoc nid, ↓reduceIte, Option.toList, ← Int.ofNat_tmod, ← Int.ofNat_tdiv, simprocAttr, BEq.rfl, LN_succ]
          refine RetOK.pure (.inl rfl) rfl ?_
          simp [cvT, step, res]
        have hk4 : ¬ (0 < k ∧ sT S k ≤ sT S (k - 1)) := fun ⟨e1, e2⟩ => by
          rw [decide_eq_true e2, decide_eq_true (by omega)] at h
          simp at h
        refine SR.run (t := .mk) ?_
        simp -dsimp only [aqT, aqU, aqN, aqS, ↓seqK, ↓blkK, ↓loopK, step, stepBin, Nat.add_assoc nid, ↓reduceIte, Option.toList, ← Int.ofNat_tmod, ← Int.ofNat_tdiv, simprocAttr, BEq.rfl, LN_succ]
        refine ⟨⟨(), by unfold seenBad; rw [if_neg hk1, if_neg hk2, if_neg hk4]⟩, Cov.go [] [] ?_⟩
        simp [cvT, step, res, boxP2, litSn, ColsEq.refl, -List.getD_eq_getElem?_getD]
      refine SR.run (t := .mk) ?_
      simp -dsimp only [aqT, aqU, aqN, aqS, ↓seqK, ↓blkK, ↓loopK, step, stepBin, Nat.add_assoc nid, ↓reduceIte, Option.toList, ← Int.ofNat_tmod, ← Int.ofNat_tdiv, simprocAttr, BEq.rfl, LN_succ]
      refine ⟨by unfold inI64; omega, k + 1, ⟨⟨by omega, fun j hj => ?_⟩, by omega⟩, Cov.go [] [] ?_⟩
      · rcases (by omega : j < k ∨ j = k) with hj | hj
        · exact hall j hj
        · rw [hj]; exact h6
      simp [cvT, step, res, boxP2, litSn, ColsEq.refl, -List.getD_eq_getElem?_getD]
    · refine ⟨⟨(), fun j hj => hall j (by omega)⟩, Cov.go [] [] ?_⟩
      simp [cvT, step, res, boxP2, -List.getD_eq_getElem?_getD]
  · rw [seenV_good h1 h2 h5]
    refine SR.run (t := .mk) ?_
    simp -dsimp only [aqT, aqU, aqN, aqS, ↓seqK, ↓blkK, ↓loopK, step, stepBin, Nat.add_assoc nid, ↓reduceIte, Option.toList, ← Int.ofNat_tmod, ← Int.ofNat_tdiv, simprocAttr, BEq.rfl, LN_succ]
    refine RetOK.pure (.inl rfl) rfl ?_
    simp [cvT, step, res]
end Go.Proofs.YtpifoghhaohhaaaGreatDoor
namespace Go.Proofs.YtpifoghhaohhaaaGreatDoor
open Go.RowKit Go.Shelf Go.Lib
end Go.Proofs.YtpifoghhaohhaaaGreatDoor
namespace Go.Proofs.YtpifoghhaohhaaaGreatDoor
open Go.RowKit Go.Shelf Go.Lib
def rowsB (b : Nat → Bool) (R : RowL) : List Rw := (List.range R.length).map fun k => (rowF R k, b k, rowR R k)
theorem rowsB_len (b : Nat → Bool) (R : RowL) : (rowsB b R).length = R.length := by simp [rowsB]
theorem rowsB_at (b : Nat → Bool) (R : RowL) {k : Nat} (hk : k < R.length) : (rowsB b R).getD k z0 = (rowF R k, b k, rowR R k) := by
  unfold rowsB
  rw [List.getD_eq_getElem?_getD, List.getElem?_map, List.getElem?_range hk]
  rfl
theorem rowsB_mem {b : Nat → Bool} {R : RowL} {p : Rw} (h : p ∈ rowsB b R) : ∃ k, k < R.length ∧ p = (rowF R k, b k, rowR R k) := by
  obtain ⟨k, hk, rfl⟩ := List.mem_map.1 h
  exact ⟨k, List.mem_range.1 hk, rfl⟩
def colsRz (l : List Rw) : List Col := [.s fun k => if k < l.length then (l.getD k z0).1 else [], .l (fun k => if k < l.length then (l.getD k z0).2.1 else true) (fun k => if k < l.length then (l.getD k z0).2.2.length else 0) (fun k => if k < l.length then [.s fun j => (l.getD k z0).2.2.getD j []] else [])]
theorem colsRz_eq (l : List Rw) : ColsEq l.length (colsRz l) (colsRw l) := by
  unfold colsRz colsRw
  refine ⟨ColEq.s fun j hj => if_pos hj, ColEq.l fun j hj => ⟨if_pos hj, ?_, ?_⟩, trivial⟩
  · exact if_pos hj
  · exact colsEq_of (if_pos hj)
theorem cloneRw_c (r0 : Bool) (b : Nat → Bool) (R : RowL) (nid : Nat) (hR : R.length ≤ 1000000) (hn : r0 = true → R.length = 0) :
    ACall Tryz.prog 123 [rowsP r0 b R] [] nid (.sl nid 0 R.length) [(nid, arrRw (rowsB b R))] := by
  have hl := rowsB_len b R
  have hc : ∀ n, n = R.length → ColEq n (.s fun k => rowF R k) (.s fun k => ((rowsB b R).getD k z0).1) ∧ ColEq n (.l b (fun k => (rowR R k).length) (fun k => [.s fun j => (rowR R k).getD j []])) (.l (fun k => ((rowsB b R).getD k z0).2.1) (fun k => ((rowsB b R).getD k z0).2.2.length) (fun k => [.s fun j => ((rowsB b R).getD k z0).2.2.getD j []])) := fun n hn =>
    ⟨ColEq.s fun j hj => by rw [rowsB_at b R (by omega)], ColEq.l fun j hj => by rw [rowsB_at b R (by omega)]; exact ⟨rfl, rfl, ColsEq.refl _ _⟩⟩
  refine acall_run c123 (by simp [a123]) ?_
  unfold rowsP
  simp -dsimp only [aqT, aqU, aqN, aqS, ↓seqK, ↓blkK, ↓loopK, step, stepBin, Nat.add_assoc nid, ↓reduceIte, Option.toList, ← Int.ofNat_tmod, ← Int.ofNat_tdiv, simprocAttr, BEq.rfl, LN_succ, a123]
  refine S2.intro (fun h => ?_) (fun h => ?_) <;> simp -dsimp only [aqT, aqU, aqN, aqS, ↓seqK, ↓blkK, ↓loopK, step, stepBin, Nat.add_assoc nid, ↓reduceIte, Option.toList, ← Int.ofNat_tmod, ← Int.ofNat_tdiv, simprocAttr, BEq.rfl, LN_succ]
  · refine RetOK.go [] [(nid, 2)] (.inl rfl) ?_
    have h0 := hn h
    simp [a123, cvT, step, res, arrRw, colsRw, hl, h0, -List.getD_eq_getElem?_getD]
  · refine ⟨⟨by omega, by omega⟩, RetOK.go [(nid, nid + 20)] [] (.inl rfl) ?_⟩
    simp [a123, cvT, step, res, arrRw, colsRw, hl, -List.getD_eq_getElem?_getD]
    exact hc _ (by omega)
theorem keyFact {b : Nat} {Hs : Heap} (hs : Scoped b Hs) {i : Nat} {x : ABlk} (h : getH Hs i = some x) : (b == i) = false ∧ (∀ k, (b + k == i) = false) ∧ i < b := by
  have hlt := hs.lt i (by simpa using getH_key h)
  refine ⟨?_, fun k => ?_, hlt⟩
  · simp; omega
  · simp; omega
def boxS (nl : Bool) (S : SeenL) : Option ABlk := some (.box 65 [litSn nl S])
end Go.Proofs.YtpifoghhaohhaaaGreatDoor
namespace Go.Proofs.YtpifoghhaohhaaaGreatDoor
open Go.RowKit Go.Shelf Go.Lib
theorem scoped1 {b i : Nat} {x : ABlk} (h : i < b) (hx : lowBlk b (some x) = true) : Scoped b [(i, some x)] := ⟨fun j hj => by simp [keys] at hj; omega, fun j y hy => by
  simp only [getH] at hy
  by_cases e : (i == j) = true
  · simp only [e, cond_true, Option.some.injEq] at hy; subst hy; exact hx
  · simp only [Bool.not_eq_true] at e; simp [e] at hy⟩
theorem arrRz_eq (n : Nat) (l : List Rw) : arrRz n l = some (.arr 67 n (colsRz l)) := rfl
theorem colsRz_self {hi : Nat} {ren nils : List (Nat × Nat)} {n : Nat} (l : List Rw) : AColsEq hi ren nils n (colsRz l) (colsRz l) := AColsEq.self _ rfl
end Go.Proofs.YtpifoghhaohhaaaGreatDoor
namespace Go.Proofs.YtpifoghhaohhaaaGreatDoor
open Go.RowKit Go.Shelf Go.Lib
end Go.Proofs.YtpifoghhaohhaaaGreatDoor
namespace Go.Proofs.YtpifoghhaohhaaaGreatDoor
open Go.RowKit Go.Shelf Go.Lib
end Go.Proofs.YtpifoghhaohhaaaGreatDoor
namespace Go.Proofs.YtpifoghhaohhaaaGreatDoor
open Go.RowKit Go.Shelf Go.Lib
theorem getD_appI (l : List Int) (x : Int) : (fun i => if i < l.length then l.getD i 0 else [x].getD (i - l.length) 0) = fun i => (l ++ [x]).getD i 0 := by
  funext i
  simp only [List.getD_eq_getElem?_getD, List.getElem?_append]
  by_cases h : i < l.length
  · rw [if_pos h, if_pos h]
  · rw [if_neg h, if_neg h]
theorem keyLt {b : Nat} {Hs : Heap} (hs : Scoped b Hs) {i : Nat} {x : ABlk} (h : getH Hs i = some x) : (∀ k, i < b + k) ∧ ¬ b = i ∧ ∀ k, ¬ b + k = i := by
  have := (keyFact hs h).2.2
  exact ⟨fun k => by omega, by omega, fun k => by omega⟩
theorem Scoped.cons {b b' i : Nat} {x : ABlk} {Hs : Heap} (hs : Scoped b Hs) (hb : b ≤ i) (hi : i < b') (hx : lowBlk b' (some x) = true) : Scoped b' ((i, some x) :: Hs) := by
  have hs' := hs.mono (b' := b') (by omega)
  refine ⟨fun j hj => ?_, fun j y hy => ?_⟩
  · simp only [keys, List.map_cons, List.mem_cons] at hj
    rcases hj with rfl | hj
    · exact hi
    · exact hs'.lt j hj
  · simp only [getH] at hy
    by_cases e : (i == j) = true
    · simp only [e, cond_true, Option.some.injEq] at hy; subst hy; exact hx
    · simp only [Bool.not_eq_true] at e; simp only [e, cond_false] at hy
      exact hs'.blk j y hy
def detB (G L : List (List UInt8)) (t : Int) : Bool := !(L.getD t.toNat [] == G.getD t.toNat [])
theorem detects_c (g0 r0 : Bool) (b : Nat → Bool) (G : List (List UInt8)) (R : RowL) (f : List UInt8) (bl : Bool) (L : List (List UInt8)) (t : Int) (nid : Nat) (h0 : 0 ≤ t) (h1 : t < G.length) (h2 : L.length = G.length) (hG : G.length ≤ 1000000) :
    ACall Tryz.prog 92 [dictP g0 r0 b G R, .agg [.str f, litS bl L], .int .i64 t] [] nid (.bool (detB G L t)) [] := by
  refine acall_run c92 (by simp [a92]) ?_
  unfold dictP litS
  simp -dsimp only [aqT, aqU, aqN, aqS, ↓seqK, ↓blkK, ↓loopK, step, stepBin, Nat.add_assoc nid, ↓reduceIte, Option.toList, ← Int.ofNat_tmod, ← Int.ofNat_tdiv, simprocAttr, BEq.rfl, LN_succ, a92]
  refine ⟨⟨by omega, by omega⟩, ⟨by omega, by omega⟩, ?_⟩
  refine RetOK.go [] [] (.inl rfl) ?_
  simp [a92, cvT, step, res, detB, -List.getD_eq_getElem?_getD]
def boxF (nf : Bool) (F : List Int) : Option ABlk := some (.box 22 [litI nf F])
def agB (G L : List (List UInt8)) (F : List Int) (t : Int) : Bool := detB G L t && !F.contains t
theorem ex11_c (Hs : Heap) (id ix il : Nat) (g0 r0 : Bool) (b : Nat → Bool) (G : List (List UInt8)) (R : RowL) (f : List UInt8) (bl : Bool) (L : List (List UInt8)) (nf : Bool) (F : List Int) (t : Int) (r : List UInt8) (nid : Nat) (hs : Scoped nid Hs)
    (hd : getH Hs id = boxP2 g0 r0 b G R) (hx : getH Hs ix = boxRw f bl L) (hl : getH Hs il = boxF nf F) (h0 : 0 ≤ t) (h1 : t < G.length) (h2 : L.length = G.length) (hG : G.length ≤ 1000000) (hF : F.length ≤ 1000000) :
    ACall Tryz.prog 126 [.agg [.int .i64 t, .str r], .ptr id 0, .ptr ix 0, .ptr il 0] Hs nid (.bool (agB G L F t)) [] := by
  unfold boxP2 at hd
  unfold boxRw at hx
  unfold boxF litI at hl
  obtain ⟨a1, a2, a3⟩ := keyFact hs hd
  obtain ⟨b1, b2, b3⟩ := keyFact hs hx
  obtain ⟨c1, c2, c3⟩ := keyFact hs hl
  have hdt := fun m => detects_c g0 r0 b G R f bl L t m h0 h1 h2 hG
  have hct := fun m => contains_c nf F t m (by omega)
  unfold dictP litS at hdt
  unfold litI at hct
  unfold agB
  refine acall_run c126 (by simp [a126]) ?_
  simp -dsimp only [a126, aqT, aqU, aqN, aqS, ↓seqK, ↓blkK, ↓loopK, step, stepBin, Nat.add_assoc nid, ↓reduceIte, Option.toList, ← Int.ofNat_tmod, ← Int.ofNat_tdiv, simprocAttr, BEq.rfl, LN_succ, a1, a2, b1, b2, c1, c2, hd, hx, hl]
  refine CallO.pure (hdt _) ?_
  cases hb : detB G L t <;> simp -dsimp only [aqT, aqU, aqN, aqS, ↓seqK, ↓blkK, ↓loopK, step, stepBin, Nat.add_assoc nid, ↓reduceIte, Option.toList, ← Int.ofNat_tmod, ← Int.ofNat_tdiv, simprocAttr, BEq.rfl, LN_succ, a1, a2, b1, b2, c1, c2, hd, hx, hl]
  · refine RetOK.goF Hs [] [_] [] [] [] (.inl rfl) hs (by simp [kOK]) rfl ?_
    simp [a126, cvT, step, res]
  · refine CallO.pure (hct _) ?_
    simp -dsimp only [aqT, aqU, aqN, aqS, ↓seqK, ↓blkK, ↓loopK, step, stepBin, Nat.add_assoc nid, ↓reduceIte, Option.toList, ← Int.ofNat_tmod, ← Int.ofNat_tdiv, simprocAttr, BEq.rfl, LN_succ, a1, a2, b1, b2, c1, c2, hd, hx, hl]
    refine RetOK.goF Hs [] [_] [] [] [] (.inl rfl) hs (by simp [kOK]) rfl ?_
    simp [a126, cvT, step, res]
def agS (G L : List (List UInt8)) (F : List Int) (S : SeenL) : Bool := (List.range S.length).any fun k => agB G L F (sT S k)
theorem ex1_c (Hs : Heap) (is id il : Nat) (g0 r0 : Bool) (b : Nat → Bool) (G : List (List UInt8)) (R : RowL) (p : Rw) (nf : Bool) (F : List Int) (nl : Bool) (S : SeenL) (nid : Nat) (hs : Scoped nid Hs)
    (h1 : getH Hs is = boxS nl S) (hd : getH Hs id = boxP2 g0 r0 b G R) (hl : getH Hs il = boxF nf F) (hI : SnIn G.length S) (h2 : p.2.2.length = G.length) (hG : G.length ≤ 1000000) (hF : F.length ≤ 1000000) (hS : S.length ≤ 1000000) :
    ACall Tryz.prog 124 [rwV p, .ptr is 0, .ptr id 0, .ptr il 0] Hs nid (.bool (agS G p.2.2 F S)) [] := by
  have hd0 := hd
  have hl0 := hl
  unfold boxS at h1
  unfold boxP2 at hd
  unfold boxF litI at hl
  obtain ⟨a1, a2, a3⟩ := keyFact hs hd
  obtain ⟨b1, b2, b3⟩ := keyFact hs h1
  obtain ⟨c1, c2, c3⟩ := keyFact hs hl
  have hin : ∀ m, nid < m → Scoped m ((nid, boxRw p.1 p.2.1 p.2.2) :: Hs) := fun m hm => hs.cons (Nat.le_refl _) hm rfl
  have hcs := fun m (hm : nid < m) => containsSn_h 126 [.ptr id 0, .ptr nid 0, .ptr il 0] ((nid, boxRw p.1 p.2.1 p.2.2) :: Hs) (fun k => agB G p.2.2 F (sT S k)) nl S.length (sT S) (sR S) m (hin m hm) (by simp [lowAll, idsOfs, idsOf]; omega) hS (fun k hk m' h' =>
    ex11_c ((nid, boxRw p.1 p.2.1 p.2.2) :: Hs) id nid il g0 r0 b G R p.1 p.2.1 p.2.2 nf F (sT S k) (sR S k) m' (hin m' (by omega)) (by simp only [getH, a1, cond_false]; exact hd0) (by simp only [getH_hit]) (by simp only [getH, c1, cond_false]; exact hl0) (hI k hk).1 (hI k hk).2 h2 hG hF)
  unfold boxRw at hcs
  unfold litSn at h1
  refine acall_run c124 (by simp [a124]) ?_
  unfold rwV
  simp -dsimp only [a124, aqT, aqU, aqN, aqS, ↓seqK, ↓blkK, ↓loopK, step, stepBin, Nat.add_assoc nid, ↓reduceIte, Option.toList, ← Int.ofNat_tmod, ← Int.ofNat_tdiv, simprocAttr, BEq.rfl, LN_succ, a1, a2, b1, b2, c1, c2, hd, h1, hl]
  refine CallO.on (hcs _ (by omega)) (fun _ _ h => h) ?_
  have e : (List.range S.length).any (fun k => agB G p.2.2 F (sT S k)) = agS G p.2.2 F S := rfl
  rw [e]
  simp -dsimp only [aqT, aqU, aqN, aqS, ↓seqK, ↓blkK, ↓loopK, step, stepBin, Nat.add_assoc nid, ↓reduceIte, Option.toList, ← Int.ofNat_tmod, ← Int.ofNat_tdiv, simprocAttr, BEq.rfl, LN_succ, a1, a2, b1, b2, c1, c2, hd, h1, hl]
  refine RetOK.goF Hs [] [_] [] [] [] (.inl rfl) hs (by simp [kOK]) rfl ?_
  simp [a124, cvT, step, res]
def openB (G : List (List UInt8)) (X : List Rw) (B : Nat) (t : Int) : Bool := !(List.range X.length).any fun i => B.testBit i && detB G (X.getD i z0).2.2 t
theorem openB_yes {G : List (List UInt8)} {X : List Rw} {B : Nat} {t : Int} (h : ∀ i, i < X.length → (B.testBit i && detB G (X.getD i z0).2.2 t) = false) : openB G X B t = true := by
  unfold openB
  simp only [Bool.not_eq_true', List.any_eq_false, List.mem_range]
  intro i hi
  rw [h i hi]
  simp
theorem openB_no {G : List (List UInt8)} {X : List Rw} {B : Nat} {t : Int} {i : Nat} (hi : i < X.length) (h : (B.testBit i && detB G (X.getD i z0).2.2 t) = true) : openB G X B t = false := by
  unfold openB
  simp only [Bool.not_eq_false', List.any_eq_true, List.mem_range]
  exact ⟨i, hi, h⟩
set_option maxHeartbeats 1000000 in
theorem ex2_c (Hs : Heap) (ip iz id T1 T2 : Nat) (g0 r0 : Bool) (b : Nat → Bool) (G : List (List UInt8)) (R : RowL) (nx : Bool) (X : List Rw) (B : Nat) (t : Int) (nid : Nat) (hs : Scoped nid Hs)
    (hp : getH Hs ip = some (.box T1 [.lit nx X.length (colsRw X)])) (hz : getH Hs iz = some (.box T2 [.int .u64 (B : Nat)])) (hd : getH Hs id = boxP2 g0 r0 b G R) (h0 : 0 ≤ t) (h1 : t < G.length) (hX : ∀ p ∈ X, p.2.2.length = G.length) (hG : G.length ≤ 1000000) (hB : B < 128) (hXl : X.length ≤ 7) :
    ACall Tryz.prog 128 [.int .i64 t, .ptr ip 0, .ptr iz 0, .ptr id 0] Hs nid (.bool (openB G X B t)) [] := by
  have hd0 := hd
  unfold boxP2 at hd
  unfold colsRw at hp
  obtain ⟨a1, a2, a3⟩ := keyFact hs hd
  obtain ⟨b1, b2, b3⟩ := keyFact hs hp
  obtain ⟨c1, c2, c3⟩ := keyFact hs hz
  obtain ⟨d1, d2, d3⟩ := keyLt hs hd
  obtain ⟨d4, d5, d6⟩ := keyLt hs hp
  obtain ⟨d7, d8, d9⟩ := keyLt hs hz
  refine acall_run c128 (by simp [a128]) ?_
  simp -dsimp only [a128, aqT, aqU, aqN, aqS, ↓seqK, ↓blkK, ↓loopK, step, stepBin, Nat.add_assoc nid, ↓reduceIte, Option.toList, ← Int.ofNat_tmod, ← Int.ofNat_tdiv, simprocAttr, BEq.rfl, LN_succ, a1, a2, b1, b2, c1, c2, hd, hp, hz]
  refine LP.mkP (fun i : Nat => i ≤ X.length ∧ ∀ j, j < i → (B.testBit j && detB G (X.getD j z0).2.2 t) = false) (fun i => ⟨[(10, .int .i64 i), (9, .int .i64 X.length), (8, .lit nx X.length (colsRw X)), (0, .int .i64 t), (1, .ptr ip 0), (2, .ptr iz 0), (3, .ptr id 0)], Hs, nid + 100, nid⟩) (fun i => X.length + 1 - i) 0 ⟨by omega, fun j hj => by omega⟩ (Cov.goF Hs [] [] [] [] hs (by simp [kOK]) rfl ?_) (fun i hi => ?_)
  · simp [cvT, step, res, colsRw, ColsEq.refl, d1, d2, d3, d4, d5, d6, d7, d8, d9, -List.getD_eq_getElem?_getD]
  obtain ⟨hi, hall⟩ := hi
  unfold colsRw
  simp -dsimp only [aqT, aqU, aqN, aqS, ↓seqK, ↓blkK, ↓loopK, step, stepBin, Nat.add_assoc nid, ↓reduceIte, Option.toList, ← Int.ofNat_tmod, ← Int.ofNat_tdiv, simprocAttr, BEq.rfl, LN_succ, a1, a2, b1, b2, c1, c2, hd, hp, hz]
  refine S2.dec (fun h3 => ?_) (fun h3 => ?_) <;> simp -dsimp only [aqT, aqU, aqN, aqS, ↓seqK, ↓blkK, ↓loopK, step, stepBin, Nat.add_assoc nid, ↓reduceIte, Option.toList, ← Int.ofNat_tmod, ← Int.ofNat_tdiv, simprocAttr, BEq.rfl, LN_succ, a1, a2, b1, b2, c1, c2, hd, hp, hz]
  · have hil : i < X.length := by omega
    have hdt := fun m => detects_c g0 r0 b G R (X.getD i z0).1 (X.getD i z0).2.1 (X.getD i z0).2.2 t m h0 h1 (hX _ (rwMem hil)) hG
    unfold dictP litS at hdt
    have hbit := bitZ_eq hB (i := i) (by omega)
    have hno := fun h => openB_no (G := G) (X := X) (B := B) (t := t) hil h
    have hw : IntKind.u64.wrap (((B : Nat) : Int)) = (B : Nat) := by
      have : ((List.range 128).all fun b => decide (IntKind.u64.wrap (((b : Nat) : Int)) = (b : Nat))) = true := by kernel_rfl
      exact of_decide_eq_true (List.all_eq_true.1 this B (List.mem_range.2 hB))
    refine ⟨by omega, by omega, ?_⟩
    change S2 (bitZ B i) _ _ _ _
    rw [hbit]
    cases hb : B.testBit i <;> simp -dsimp only [aqT, aqU, aqN, aqS, ↓seqK, ↓blkK, ↓loopK, step, stepBin, Nat.add_assoc nid, ↓reduceIte, Option.toList, ← Int.ofNat_tmod, ← Int.ofNat_tdiv, simprocAttr, BEq.rfl, LN_succ, a1, a2, b1, b2, c1, c2, hd, hp, hz]
    · refine ⟨by unfold inI64; omega, i + 1, ⟨⟨by omega, fun j hj => ?_⟩, by omega⟩, ?_⟩
      · rcases (by omega : j < i ∨ j = i) with hj | hj
        · exact hall j hj
        · rw [hj, hb]; rfl
      first
        | refine Cov.goF Hs [_] [] [] [] hs (by simp [kOK]) rfl ?_
        | refine Cov.goF Hs [_, _] [] [] [] hs (by simp [kOK]) rfl ?_
        | refine Cov.goF Hs [_, _, _] [] [] [] hs (by simp [kOK]) rfl ?_
      simp [cvT, step, res, colsRw, ColsEq.refl, d1, d2, d3, d4, d5, d6, d7, d8, d9, -List.getD_eq_getElem?_getD]
    · refine CallO.pure (hdt _) ?_
      cases hdb : detB G (X.getD i z0).2.2 t <;> simp -dsimp only [aqT, aqU, aqN, aqS, ↓seqK, ↓blkK, ↓loopK, step, stepBin, Nat.add_assoc nid, ↓reduceIte, Option.toList, ← Int.ofNat_tmod, ← Int.ofNat_tdiv, simprocAttr, BEq.rfl, LN_succ, a1, a2, b1, b2, c1, c2, hd, hp, hz]
      · refine ⟨by unfold inI64; omega, i + 1, ⟨⟨by omega, fun j hj => ?_⟩, by omega⟩, ?_⟩
        · rcases (by omega : j < i ∨ j = i) with hj | hj
          · exact hall j hj
          · rw [hj, hdb]; simp
        first
          | refine Cov.goF Hs [_] [] [] [] hs (by simp [kOK]) rfl ?_
          | refine Cov.goF Hs [_, _] [] [] [] hs (by simp [kOK]) rfl ?_
          | refine Cov.goF Hs [_, _, _] [] [] [] hs (by simp [kOK]) rfl ?_
        simp [cvT, step, res, colsRw, ColsEq.refl, d1, d2, d3, d4, d5, d6, d7, d8, d9, -List.getD_eq_getElem?_getD]
      · rw [hno (by rw [hb, hdb]; rfl)]
        first
          | refine RetOK.goF Hs [] [_] [] [] [] (.inl rfl) hs (by simp [kOK]) rfl ?_
          | refine RetOK.goF Hs [] [_, _] [] [] [] (.inl rfl) hs (by simp [kOK]) rfl ?_
          | refine RetOK.goF Hs [] [_, _, _] [] [] [] (.inl rfl) hs (by simp [kOK]) rfl ?_
        simp [a128, cvT, step, res]
  · rw [openB_yes (fun j hj => hall j (by omega))]
    refine RetOK.goF Hs [] [] [] [] [] (.inl rfl) hs (by simp [kOK]) rfl ?_
    simp [a128, cvT, step, res]
end Go.Proofs.YtpifoghhaohhaaaGreatDoor
namespace Go.Proofs.YtpifoghhaohhaaaGreatDoor
open Go.RowKit Go.Shelf Go.Lib
def tstBad (n : Nat) (T : List Int) (k : Nat) : Int := if outB (T.getD k 0) 0 ((n : Int) - 1) = true then 1 else if (T.take k).contains (T.getD k 0) = true then 6 else 0
def tstV (n : Nat) (T : List Int) : Int := if 100 < T.length then 2 else firstBad (tstBad n T) (List.range T.length)
theorem tstV_row {n : Nat} {T : List Int} {k : Nat} {e : Int} (h2 : ¬ 100 < T.length) (hk : k < T.length) (h0 : ∀ j, j < k → tstBad n T j = 0) (h : tstBad n T k = e) (he : e ≠ 0) : tstV n T = e := by
  unfold tstV
  rw [if_neg h2, firstR_hit hk h0 (by rw [h]; exact he), h]
theorem tstV_good {n : Nat} {T : List Int} (h2 : ¬ 100 < T.length) (h0 : ∀ j, j < T.length → tstBad n T j = 0) : tstV n T = 0 := by
  unfold tstV
  rw [if_neg h2, firstR_none h0]
theorem tstV_in {n : Nat} {T : List Int} (h : tstV n T = 0) : T.length ≤ 100 ∧ ∀ t ∈ T, 0 ≤ t ∧ t < n := by
  unfold tstV at h
  by_cases h2 : 100 < T.length
  · rw [if_pos h2] at h; omega
  · rw [if_neg h2] at h
    refine ⟨by omega, fun t ht => ?_⟩
    obtain ⟨k, hk, rfl⟩ := List.getElem_of_mem ht
    have := firstBad_all0 h k hk
    unfold tstBad at this
    split at this
    · omega
    · rename_i h1
      rw [List.getD_eq_getElem?_getD, List.getElem?_eq_getElem hk] at h1
      unfold outB at h1
      simp only [Option.getD_some, decide_eq_true_eq] at h1
      omega
def bothTV (G : List (List UInt8)) (R : RowL) (T : List Int) : Int := if dictV G R ≠ 0 then dictV G R else tstV G.length T
theorem takeC (T : List Int) {k : Nat} (hk : k ≤ T.length) : ColsEq k [.i .i64 fun i => T.getD i 0] [.i .i64 fun i => (T.take k).getD i 0] := by
  refine ⟨ColEq.i fun j hj => ?_, trivial⟩
  rw [List.getD_eq_getElem?_getD, List.getD_eq_getElem?_getD, List.getElem?_take, if_pos hj]
theorem contTake_c (nl : Bool) (T : List Int) (k : Nat) (x : Int) (nid : Nat) (hk : k ≤ T.length) (hT : T.length ≤ 1000000) : ACall Tryz.prog 99 [.lit nl k [.i .i64 fun i => T.getD i 0], .int .i64 x] [] nid (.bool ((T.take k).contains x)) [] := by
  have h := contains_c nl (T.take k) x nid (by rw [List.length_take]; omega)
  unfold litI at h
  rw [show (T.take k).length = k by rw [List.length_take]; omega] at h
  refine ACall.args h ?_
  simp only [ArgEqs, ArgEq, and_true, true_and]
  exact takeC T hk
set_option maxHeartbeats 1000000 in
theorem tstD_c (g0 r0 : Bool) (b : Nat → Bool) (G : List (List UInt8)) (R : RowL) (nl : Bool) (T : List Int) (nid : Nat) (hB : DictW G R) (hT : T.length ≤ 1000000) : ACall Tryz.prog 89 [dictP g0 r0 b G R, litI nl T] [] nid (.int .i64 (bothTV G R T)) [] := by
  have hgl := hB.gl
  have hd := fun m => dictD_c g0 r0 b G R m hB
  refine acall_sr c89 (by simp [a89]) ?_
  unfold a89
  refine SR.seq ?_
  unfold dictP litI at *
  simp -dsimp only [aqT, aqU, aqN, aqS, ↓seqK, ↓blkK, ↓loopK, step, stepBin, Nat.add_assoc nid, ↓reduceIte, Option.toList, ← Int.ofNat_tmod, ← Int.ofNat_tdiv, simprocAttr, BEq.rfl, LN_succ]
  refine SR.seqW (ι := {_u : Unit // dictV G R = 0}) (fun _ => ⟨[(2, .ptr nid 0), (1, litI nl T)], [(nid, boxP2 g0 r0 b G R)], nid + 100, nid⟩) ?_ (fun ⟨_, h1⟩ => ?_)
  · refine SR.run (t := .mk) ?_
    simp -dsimp only [aqT, aqU, aqN, aqS, ↓seqK, ↓blkK, ↓loopK, step, stepBin, Nat.add_assoc nid, ↓reduceIte, Option.toList, ← Int.ofNat_tmod, ← Int.ofNat_tdiv, simprocAttr, BEq.rfl, LN_succ]
    refine CallO.pure (hd _) ?_
    simp -dsimp only [aqT, aqU, aqN, aqS, ↓seqK, ↓blkK, ↓loopK, step, stepBin, Nat.add_assoc nid, ↓reduceIte, Option.toList, ← Int.ofNat_tmod, ← Int.ofNat_tdiv, simprocAttr, BEq.rfl, LN_succ]
    refine S2.intro (fun h1 => ?_) (fun h1 => ?_) <;> simp -dsimp only [aqT, aqU, aqN, aqS, ↓seqK, ↓blkK, ↓loopK, step, stepBin, Nat.add_assoc nid, ↓reduceIte, Option.toList, ← Int.ofNat_tmod, ← Int.ofNat_tdiv, simprocAttr, BEq.rfl, LN_succ]
    · have e : bothTV G R T = dictV G R := by unfold bothTV; rw [if_pos (by simpa using h1)]
      rw [e]
      refine RetOK.pure (.inl rfl) rfl ?_
      simp [cvT, step, res]
    · refine ⟨⟨(), by simpa using h1⟩, Cov.go [] [] ?_⟩
      simp [cvT, step, res, boxP2, litI, ColsEq.refl, -List.getD_eq_getElem?_getD]
  have e0 : bothTV G R T = tstV G.length T := by unfold bothTV; rw [if_neg (by simp [h1])]
  rw [e0]
  refine SR.seqW (ι := {_u : Unit // ¬ 100 < T.length}) (fun _ => ⟨[(2, .ptr nid 0), (1, litI nl T)], [(nid, boxP2 g0 r0 b G R)], nid + 150, nid⟩) ?_ (fun ⟨_, h2⟩ => ?_)
  · unfold litI
    refine SR.run (t := .mk) ?_
    simp -dsimp only [aqT, aqU, aqN, aqS, ↓seqK, ↓blkK, ↓loopK, step, stepBin, Nat.add_assoc nid, ↓reduceIte, Option.toList, ← Int.ofNat_tmod, ← Int.ofNat_tdiv, simprocAttr, BEq.rfl, LN_succ]
    refine S2.dec (fun h2 => ?_) (fun h2 => ?_) <;> simp -dsimp only [aqT, aqU, aqN, aqS, ↓seqK, ↓blkK, ↓loopK, step, stepBin, Nat.add_assoc nid, ↓reduceIte, Option.toList, ← Int.ofNat_tmod, ← Int.ofNat_tdiv, simprocAttr, BEq.rfl, LN_succ]
    · have e : tstV G.length T = 2 := by unfold tstV; rw [if_pos (by omega)]
      rw [e]
      refine RetOK.pure (.inl rfl) rfl ?_
      simp [cvT, step, res]
    · refine ⟨⟨(), by omega⟩, Cov.go [] [] ?_⟩
      simp [cvT, step, res, boxP2, litI, ColsEq.refl, -List.getD_eq_getElem?_getD]
  refine SR.seqW (ι := {_u : Unit // ∀ j, j < T.length → tstBad G.length T j = 0}) (fun _ => ⟨[], [], nid + 2000, nid⟩) ?_ (fun ⟨_, h5⟩ => ?_)
  · unfold boxP2 litI
    refine SR.seqTo ⟨[(18, .int .i64 0), (17, .int .i64 T.length), (16, litI nl T), (2, .ptr nid 0), (1, litI nl T)], [(nid, boxP2 g0 r0 b G R)], nid + 200, nid⟩ ?_ ?_
    · simp -dsimp only [aqT, aqU, aqN, aqS, ↓seqK, ↓blkK, ↓loopK, step, stepBin, Nat.add_assoc nid, ↓reduceIte, Option.toList, ← Int.ofNat_tmod, ← Int.ofNat_tdiv, simprocAttr, BEq.rfl, LN_succ]
      refine Cov.go [] [] ?_
      simp [cvT, step, res, boxP2, litI, ColsEq.refl, -List.getD_eq_getElem?_getD]
    refine SR.block ?_
    refine SR.loopP (fun k : Nat => k ≤ T.length ∧ ∀ j, j < k → tstBad G.length T j = 0) (fun k : Nat => ⟨[(18, .int .i64 k), (17, .int .i64 T.length), (16, litI nl T), (2, .ptr nid 0), (1, litI nl T)], [(nid, boxP2 g0 r0 b G R)], nid + 200, nid⟩) (fun k => T.length + 1 - k) 0 ⟨by omega, fun j hj => by omega⟩ (Cov.go [] [] ?_) (fun k hk => ?_)
    · simp [cvT, step, res, boxP2, litI, ColsEq.refl, -List.getD_eq_getElem?_getD]
    obtain ⟨hk, hall⟩ := hk
    refine SR.run (t := .mk) ?_
    have hct := fun m => contTake_c nl T k (T.getD k 0) m hk hT
    have hbad := fun e (hkl : k < T.length) => tstV_row (n := G.length) (e := e) h2 hkl hall
    have hdef : tstBad G.length T k = if outB (T.getD k 0) 0 ((G.length : Int) - 1) = true then 1 else if (T.take k).contains (T.getD k 0) = true then 6 else 0 := rfl
    unfold litI boxP2
    simp -dsimp only [aqT, aqU, aqN, aqS, ↓seqK, ↓blkK, ↓loopK, step, stepBin, Nat.add_assoc nid, ↓reduceIte, Option.toList, ← Int.ofNat_tmod, ← Int.ofNat_tdiv, simprocAttr, BEq.rfl, LN_succ]
    refine S2.dec (fun h4 => ?_) (fun h4 => ?_) <;> simp -dsimp only [aqT, aqU, aqN, aqS, ↓seqK, ↓blkK, ↓loopK, step, stepBin, Nat.add_assoc nid, ↓reduceIte, Option.toList, ← Int.ofNat_tmod, ← Int.ofNat_tdiv, simprocAttr, BEq.rfl, LN_succ]
    · have hkl : k < T.length := by omega
      refine ⟨by omega, by unfold inI64; omega, CallO.pure (out_c _ _ _ _) ?_⟩
      simp -dsimp only [aqT, aqU, aqN, aqS, ↓seqK, ↓blkK, ↓loopK, step, stepBin, Nat.add_assoc nid, ↓reduceIte, Option.toList, ← Int.ofNat_tmod, ← Int.ofNat_tdiv, simprocAttr, BEq.rfl, LN_succ]
      cases h6 : outB (T.getD k 0) 0 ((G.length : Int) - 1) <;> rw [h6] at hdef <;> simp -dsimp only [aqT, aqU, aqN, aqS, ↓seqK, ↓blkK, ↓loopK, step, stepBin, Nat.add_assoc nid, ↓reduceIte, Option.toList, ← Int.ofNat_tmod, ← Int.ofNat_tdiv, simprocAttr, BEq.rfl, LN_succ]
      · rw [if_neg (by simp)] at hdef
        refine ⟨by omega, ?_⟩
        refine CallO.pure (hct _) ?_
        simp -dsimp only [aqT, aqU, aqN, aqS, ↓seqK, ↓blkK, ↓loopK, step, stepBin, Nat.add_assoc nid, ↓reduceIte, Option.toList, ← Int.ofNat_tmod, ← Int.ofNat_tdiv, simprocAttr, BEq.rfl, LN_succ]
        cases h7 : (T.take k).contains (T.getD k 0) <;> rw [h7] at hdef <;> simp -dsimp only [aqT, aqU, aqN, aqS, ↓seqK, ↓blkK, ↓loopK, step, stepBin, Nat.add_assoc nid, ↓reduceIte, Option.toList, ← Int.ofNat_tmod, ← Int.ofNat_tdiv, simprocAttr, BEq.rfl, LN_succ]
        · rw [if_neg (by simp)] at hdef
          refine ⟨by unfold inI64; omega, k + 1, ⟨⟨by omega, fun j hj => ?_⟩, by omega⟩, Cov.go [] [] ?_⟩
          · rcases (by omega : j < k ∨ j = k) with hj | hj
            · exact hall j hj
            · rw [hj]; exact hdef
          simp [cvT, step, res, boxP2, litI, ColsEq.refl, -List.getD_eq_getElem?_getD]
        · rw [if_pos rfl] at hdef
          rw [hbad 6 hkl hdef (by decide)]
          refine RetOK.pure (.inl rfl) rfl ?_
          simp [cvT, step, res]
      · rw [if_pos rfl] at hdef
        rw [hbad 1 hkl hdef (by decide)]
        refine RetOK.pure (.inl rfl) rfl ?_
        simp [cvT, step, res]
    · refine ⟨⟨(), fun j hj => hall j (by omega)⟩, Cov.go [] [] ?_⟩
      simp [cvT, step, res, boxP2, -List.getD_eq_getElem?_getD]
  · rw [tstV_good h2 h5]
    refine SR.run (t := .mk) ?_
    simp -dsimp only [aqT, aqU, aqN, aqS, ↓seqK, ↓blkK, ↓loopK, step, stepBin, Nat.add_assoc nid, ↓reduceIte, Option.toList, ← Int.ofNat_tmod, ← Int.ofNat_tdiv, simprocAttr, BEq.rfl, LN_succ]
    refine RetOK.pure (.inl rfl) rfl ?_
    simp [cvT, step, res]
def detsB (G L : List (List UInt8)) (T : List Int) : Bool := (List.range T.length).any fun k => detB G L (T.getD k 0)
theorem dts1_c (Hs : Heap) (id ix : Nat) (g0 r0 : Bool) (b : Nat → Bool) (G : List (List UInt8)) (R : RowL) (f : List UInt8) (bl : Bool) (L : List (List UInt8)) (t : Int) (nid : Nat) (hs : Scoped nid Hs)
    (hd : getH Hs id = boxP2 g0 r0 b G R) (hx : getH Hs ix = boxRw f bl L) (h0 : 0 ≤ t) (h1 : t < G.length) (h2 : L.length = G.length) (hG : G.length ≤ 1000000) :
    ACall Tryz.prog 91 [.int .i64 t, .ptr id 0, .ptr ix 0] Hs nid (.bool (detB G L t)) [] := by
  unfold boxP2 at hd
  unfold boxRw at hx
  obtain ⟨a1, a2, a3⟩ := keyFact hs hd
  obtain ⟨b1, b2, b3⟩ := keyFact hs hx
  have hdt := fun m => detects_c g0 r0 b G R f bl L t m h0 h1 h2 hG
  unfold dictP litS at hdt
  refine acall_run c91 (by simp [a91]) ?_
  simp -dsimp only [a91, aqT, aqU, aqN, aqS, ↓seqK, ↓blkK, ↓loopK, step, stepBin, Nat.add_assoc nid, ↓reduceIte, Option.toList, ← Int.ofNat_tmod, ← Int.ofNat_tdiv, simprocAttr, BEq.rfl, LN_succ, a1, a2, b1, b2, hd, hx]
  refine CallO.pure (hdt _) ?_
  simp -dsimp only [aqT, aqU, aqN, aqS, ↓seqK, ↓blkK, ↓loopK, step, stepBin, Nat.add_assoc nid, ↓reduceIte, Option.toList, ← Int.ofNat_tmod, ← Int.ofNat_tdiv, simprocAttr, BEq.rfl, LN_succ, a1, a2, b1, b2, hd, hx]
  refine RetOK.goF Hs [] [] [] [] [] (.inl rfl) hs (by simp [kOK]) rfl ?_
  simp [a91, cvT, step, res]
def yesL (G : List (List UInt8)) (R : RowL) (T : List Int) (k : Nat) : List (List UInt8) := ((R.take k).filter fun x => detsB G x.2 T).map (·.1)
def notL (G : List (List UInt8)) (R : RowL) (T : List Int) (k : Nat) : List (List UInt8) := ((R.take k).filter fun x => !detsB G x.2 T).map (·.1)
theorem yes_not (G : List (List UInt8)) (R : RowL) (T : List Int) {k : Nat} (hk : k < R.length) : (yesL G R T (k + 1) = if detsB G (rowR R k) T = true then yesL G R T k ++ [rowF R k] else yesL G R T k) ∧ (notL G R T (k + 1) = if detsB G (rowR R k) T = true then notL G R T k else notL G R T k ++ [rowF R k]) := by
  have e : R.take (k + 1) = R.take k ++ [(rowF R k, rowR R k)] := by
    unfold rowF rowR
    rw [List.getD_eq_getElem?_getD, List.getElem?_eq_getElem hk]
    exact List.take_succ_eq_append_getElem hk
  unfold yesL notL
  rw [e, List.filter_append, List.map_append, List.filter_append, List.map_append]
  cases h : detsB G (rowR R k) T <;> simp [h]
theorem yn_len (G : List (List UInt8)) (R : RowL) (T : List Int) (k : Nat) : (yesL G R T k).length ≤ k ∧ (notL G R T k).length ≤ k := by
  unfold yesL notL
  rw [List.length_map, List.length_map]
  exact ⟨Nat.le_trans (List.length_filter_le _ _) (by rw [List.length_take]; omega), Nat.le_trans (List.length_filter_le _ _) (by rw [List.length_take]; omega)⟩
end Go.Proofs.YtpifoghhaohhaaaGreatDoor
namespace Go.Proofs.YtpifoghhaohhaaaGreatDoor
open Go.RowKit Go.Shelf Go.Lib
def failT (G : List (List UInt8)) (S : SeenL) (n : Nat) : List Int := ((List.range n).filter fun k => offB G (sT S k) (sR S k)).map fun k => sT S k
theorem failT_succ (G : List (List UInt8)) (S : SeenL) (n : Nat) : failT G S (n + 1) = if offB G (sT S n) (sR S n) = true then failT G S n ++ [sT S n] else failT G S n := by
  unfold failT
  rw [List.range_succ, List.filter_append, List.map_append]
  cases h : offB G (sT S n) (sR S n) <;> simp [h]
theorem failT_len (G : List (List UInt8)) (S : SeenL) (n : Nat) : (failT G S n).length ≤ n := by
  unfold failT
  rw [List.length_map]
  have := List.length_filter_le (fun k => offB G (sT S k) (sR S k)) (List.range n)
  simpa using this
theorem failT_in {G : List (List UInt8)} {S : SeenL} {m : Nat} (hI : SnIn m S) {n : Nat} (hn : n ≤ S.length) : ∀ t ∈ failT G S n, 0 ≤ t ∧ t < m := fun t ht => by
  unfold failT at ht
  obtain ⟨k, hk, rfl⟩ := List.mem_map.1 ht
  have := List.mem_range.1 (List.mem_filter.1 hk).1
  exact hI k (by omega)
def failV (G : List (List UInt8)) (S : SeenL) : List Int := failT G S S.length
def partV (b : Nat → Bool) (G : List (List UInt8)) (R : RowL) (S : SeenL) : List Rw := keepW (fun p => agS G p.2.2 (failV G S) S) (rowsB b R)
def okE (G : List (List UInt8)) (X : List Rw) (F : List Int) (B : Nat) : Bool := !(List.range F.length).any fun k => openB G X B (F.getD k 0)
def exStep (ok : Nat → Bool) (x : Bool × Nat) (s : Nat) : Bool × Nat := if (x.1 && skipZ x.2 s) = true then x else if ok s = true then (true, s) else x
def exTo (ok : Nat → Bool) (n : Nat) : Bool × Nat := (List.range n).foldl (exStep ok) (false, 0)
theorem exTo_succ (ok : Nat → Bool) (n : Nat) : exTo ok (n + 1) = exStep ok (exTo ok n) n := by
  unfold exTo
  rw [List.range_succ, List.foldl_append]; rfl
theorem exStep_skip {ok : Nat → Bool} {x : Bool × Nat} {s : Nat} (h : (x.1 && skipZ x.2 s) = true) : exStep ok x s = x := by unfold exStep; rw [if_pos h]
theorem exStep_yes {ok : Nat → Bool} {x : Bool × Nat} {s : Nat} (h : (x.1 && skipZ x.2 s) = false) (hk : ok s = true) : exStep ok x s = (true, s) := by unfold exStep; rw [if_neg (by rw [h]; simp), if_pos hk]
theorem exStep_no {ok : Nat → Bool} {x : Bool × Nat} {s : Nat} (h : (x.1 && skipZ x.2 s) = false) (hk : ok s = false) : exStep ok x s = x := by unfold exStep; rw [if_neg (by rw [h]; simp), if_neg (by rw [hk]; simp)]
def goOn (fd : Bool) (best x : Nat) : Bool := !(fd && skipZ best x)
theorem goOn_of {fd : Bool} {best x : Nat} (h : (fd && skipZ best x) = false) : goOn fd best x = true := by unfold goOn; rw [h]; rfl
theorem goOn_get {fd : Bool} {best x : Nat} (h : goOn fd best x = true) : (fd && skipZ best x) = false := by
  unfold goOn at h
  generalize (fd && skipZ best x) = c at *
  cases c
  · rfl
  · cases h
def worseD (d : Int) (mask : Nat) : Bool :=
  let low : Int := IntKind.u64.wrap ((BitVec.ofInt IntKind.u64.bits d &&& BitVec.ofInt IntKind.u64.bits (IntKind.u64.wrap (0 - d))).toNat : Int)
  IntKind.u64.wrap ((BitVec.ofInt IntKind.u64.bits ((mask : Nat) : Int) &&& BitVec.ofInt IntKind.u64.bits low).toNat : Int) == 0
theorem worseD_eq {best mask : Nat} {d : Int} (h : IntKind.u64.wrap ((BitVec.ofInt IntKind.u64.bits ((mask : Nat) : Int) ^^^ BitVec.ofInt IntKind.u64.bits ((best : Nat) : Int)).toNat : Int) = d) : worseD d mask = worseZ best mask := by subst h; rfl
theorem exTo_lt (ok : Nat → Bool) : ∀ n, n ≤ 128 → (exTo ok n).2 < 128
  | 0, _ => by simp [exTo]
  | n + 1, h => by
    rw [exTo_succ]
    have := exTo_lt ok n (by omega)
    unfold exStep
    split
    · exact this
    · split
      · simp only; omega
      · exact this
def exOut (X : List Rw) (B n : Nat) : List (List UInt8) := (fewZ B n).map fun i => (X.getD i z0).1
theorem exOut_yes {X : List Rw} {B n : Nat} (h : B.testBit n = true) : exOut X B (n + 1) = exOut X B n ++ [(X.getD n z0).1] := by unfold exOut; rw [fewZ_yes h, List.map_append]; rfl
theorem exOut_no {X : List Rw} {B n : Nat} (h : B.testBit n = false) : exOut X B (n + 1) = exOut X B n := by unfold exOut; rw [fewZ_no h]
theorem exOut_len (X : List Rw) (B n : Nat) : (exOut X B n).length ≤ n := by unfold exOut; rw [List.length_map]; exact fewZ_len B n
def exR (nid : Nat) (fd : Bool) (out : List (List UInt8)) : PV := match fd with
  | true => .tup [.sl nid 0 out.length, .bool true, .int .i64 0]
  | false => .tup [.lit true 0 [], .bool false, .int .i64 0]
def exU (nid : Nat) (fd : Bool) (out : List (List UInt8)) : Heap := match fd with
  | true => [(nid, arrS out)]
  | false => []
theorem part_len (b : Nat → Bool) (G : List (List UInt8)) (R : RowL) (S : SeenL) : (partV b G R S).length ≤ R.length := by
  have := keepW_len (fun p => agS G p.2.2 (failV G S) S) (rowsB b R)
  rw [rowsB_len] at this
  exact this
theorem part_row {b : Nat → Bool} {G : List (List UInt8)} {R : RowL} {S : SeenL} (hlen : ∀ j, j < R.length → (rowR R j).length = G.length) : ∀ p ∈ partV b G R S, p.2.2.length = G.length := fun p hp => by
  obtain ⟨k, hk, rfl⟩ := rowsB_mem (List.mem_filter.1 hp).1
  exact hlen k hk
theorem scoped2 {b i j : Nat} {x y : ABlk} (hi : i < b) (hj : j < b) (hx : lowBlk b (some x) = true) (hy : lowBlk b (some y) = true) : Scoped b [(i, some x), (j, some y)] := by
  refine ⟨fun k hk => ?_, fun k z hz => ?_⟩
  · simp [keys] at hk; omega
  · simp only [getH] at hz
    by_cases e : (i == k) = true
    · simp only [e, cond_true, Option.some.injEq] at hz; subst hz; exact hx
    · simp only [Bool.not_eq_true] at e
      by_cases e2 : (j == k) = true
      · simp only [e, e2, cond_true, cond_false, Option.some.injEq] at hz; subst hz; exact hy
      · simp only [Bool.not_eq_true] at e2; simp [e, e2] at hz
theorem scoped3 {b i j l : Nat} {x y z : ABlk} (hi : i < b) (hj : j < b) (hl : l < b) (hx : lowBlk b (some x) = true) (hy : lowBlk b (some y) = true) (hz : lowBlk b (some z) = true) : Scoped b [(i, some x), (j, some y), (l, some z)] := by
  have h2 := scoped2 hj hl hy hz
  refine ⟨fun k hk => ?_, fun k u hu => ?_⟩
  · simp [keys] at hk; omega
  · simp only [getH] at hu
    by_cases e : (i == k) = true
    · simp only [e, cond_true, Option.some.injEq] at hu; subst hu; exact hx
    · simp only [Bool.not_eq_true] at e
      simp only [e, cond_false] at hu
      exact h2.blk k u (by simpa only [getH] using hu)
set_option maxHeartbeats 8000000 in
theorem explain_c (g0 r0 : Bool) (b : Nat → Bool) (G : List (List UInt8)) (R : RowL) (nl : Bool) (S : SeenL) (nid : Nat) (hB : DictW G R) (hS : SnW S) (hD : dictV G R = 0) (hV : seenV G R S = 0) (hI : SnIn G.length S) (hR7 : R.length ≤ 7) :
    ACall Tryz.prog 48 [dictP g0 r0 b G R, litSn nl S] [] nid (exR nid (exTo (okE G (partV b G R S) (failV G S)) (2 ^ (partV b G R S).length)).1 (exOut (partV b G R S) (exTo (okE G (partV b G R S) (failV G S)) (2 ^ (partV b G R S).length)).2 (partV b G R S).length))
      (exU nid (exTo (okE G (partV b G R S) (failV G S)) (2 ^ (partV b G R S).length)).1 (exOut (partV b G R S) (exTo (okE G (partV b G R S) (failV G S)) (2 ^ (partV b G R S).length)).2 (partV b G R S).length)) := by
  have hgl := hB.gl
  have hsl := hS.l
  have hd := fun m => seenD_c g0 r0 b G R nl S m hB hS
  rw [hV] at hd
  have hlen := dictV_rows hD
  have hpl := part_len b G R S
  have hpr := part_row (b := b) (S := S) hlen
  have hfi := failT_in (G := G) hI (Nat.le_refl S.length)
  have hfl := failT_len G S S.length
  refine acall_sr c48 (by simp [a48]) ?_
  unfold a48
  refine SR.seq ?_
  unfold dictP litSn at *
  simp -dsimp only [aqT, aqU, aqN, aqS, ↓seqK, ↓blkK, ↓loopK, step, stepBin, Nat.add_assoc nid, ↓reduceIte, Option.toList, ← Int.ofNat_tmod, ← Int.ofNat_tdiv, simprocAttr, BEq.rfl, LN_succ]
  refine SR.seqTo ⟨[(3, .ptr (nid + 4) 0), (2, .ptr nid 0)], [(nid + 4, boxS nl S), (nid, boxP2 g0 r0 b G R)], nid + 100, nid⟩ ?_ ?_
  · simp -dsimp only [aqT, aqU, aqN, aqS, ↓seqK, ↓blkK, ↓loopK, step, stepBin, Nat.add_assoc nid, ↓reduceIte, Option.toList, ← Int.ofNat_tmod, ← Int.ofNat_tdiv, simprocAttr, BEq.rfl, LN_succ]
    refine CallO.pure (hd _) ?_
    simp -dsimp only [aqT, aqU, aqN, aqS, ↓seqK, ↓blkK, ↓loopK, step, stepBin, Nat.add_assoc nid, ↓reduceIte, Option.toList, ← Int.ofNat_tmod, ← Int.ofNat_tdiv, simprocAttr, BEq.rfl, LN_succ]
    refine Cov.go [] [] ?_
    simp [cvT, step, res, boxP2, boxS, litSn, ColsEq.refl, -List.getD_eq_getElem?_getD]
  clear hd
  refine SR.seq ?_
  unfold boxS boxP2 litSn
  simp -dsimp only [aqT, aqU, aqN, aqS, ↓seqK, ↓blkK, ↓loopK, step, stepBin, Nat.add_assoc nid, ↓reduceIte, Option.toList, ← Int.ofNat_tmod, ← Int.ofNat_tdiv, simprocAttr, BEq.rfl, LN_succ]
  refine SR.seqW (ι := Unit) (fun _ => ⟨[(8, .ptr (nid + 8) 0), (3, .ptr (nid + 4) 0), (2, .ptr nid 0)], [(nid + 20, arrI (failV G S)), (nid + 8, some (.box 22 [.sl (nid + 20) 0 (failV G S).length])), (nid + 4, boxS nl S), (nid, boxP2 g0 r0 b G R)], nid + 2000, nid⟩) ?_ (fun _ => ?_)
  · refine SR.seqTo ⟨[(29, .int .i64 0), (28, .int .i64 S.length), (27, litSn nl S), (8, .ptr (nid + 8) 0), (3, .ptr (nid + 4) 0), (2, .ptr nid 0)], [(nid + 8, some (.box 22 [.lit true 0 []])), (nid + 4, boxS nl S), (nid, boxP2 g0 r0 b G R)], nid + 150, nid⟩ ?_ ?_
    · simp -dsimp only [aqT, aqU, aqN, aqS, ↓seqK, ↓blkK, ↓loopK, step, stepBin, Nat.add_assoc nid, ↓reduceIte, Option.toList, ← Int.ofNat_tmod, ← Int.ofNat_tdiv, simprocAttr, BEq.rfl, LN_succ]
      refine Cov.go [(nid + 8, nid + 100)] [] ?_
      simp [cvT, step, res, boxP2, boxS, litSn, ColsEq.refl, -List.getD_eq_getElem?_getD]
    refine SR.block ?_
    refine SR.loopP (fun k : Nat => k ≤ S.length) (fun k => ⟨[(29, .int .i64 k), (28, .int .i64 S.length), (27, litSn nl S), (8, .ptr (nid + 8) 0), (3, .ptr (nid + 4) 0), (2, .ptr nid 0)], [(nid + 20, arrI (failT G S k)), (nid + 8, some (.box 22 [.sl (nid + 20) 0 (failT G S k).length])), (nid + 4, boxS nl S), (nid, boxP2 g0 r0 b G R)], nid + 200, nid⟩) (fun k => S.length + 1 - k) 0 (by omega) (Cov.go [] [(nid + 20, 1)] ?_) (fun k hk => ?_)
    · simp [cvT, step, res, boxP2, boxS, litSn, arrI, failT, ColsEq.refl, -List.getD_eq_getElem?_getD]
    have hfs := failT_succ G S k
    have hfk := failT_len G S k
    have hin := hI k
    have hend : k = S.length → failV G S = failT G S k := fun e => by rw [e]; rfl
    generalize failT G S k = V at *
    refine SR.run (t := .mk) ?_
    unfold litSn arrI boxP2
    simp -dsimp only [aqT, aqU, aqN, aqS, ↓seqK, ↓blkK, ↓loopK, step, stepBin, Nat.add_assoc nid, ↓reduceIte, Option.toList, ← Int.ofNat_tmod, ← Int.ofNat_tdiv, simprocAttr, BEq.rfl, LN_succ]
    refine S2.dec (fun h3 => ?_) (fun h3 => ?_) <;> simp -dsimp only [aqT, aqU, aqN, aqS, ↓seqK, ↓blkK, ↓loopK, step, stepBin, Nat.add_assoc nid, ↓reduceIte, Option.toList, ← Int.ofNat_tmod, ← Int.ofNat_tdiv, simprocAttr, BEq.rfl, LN_succ]
    · have hkl : k < S.length := by omega
      have hin := hin hkl
      refine ⟨by omega, ⟨by omega, by omega⟩, ?_⟩
      have eo : (!(sR S k == G.getD (sT S k).toNat [])) = offB G (sT S k) (sR S k) := by unfold offB; rw [BEq.comm]
      rw [eo]
      cases h6 : offB G (sT S k) (sR S k) <;> rw [h6] at hfs <;> simp -dsimp only [aqT, aqU, aqN, aqS, ↓seqK, ↓blkK, ↓loopK, step, stepBin, Nat.add_assoc nid, ↓reduceIte, Option.toList, ← Int.ofNat_tmod, ← Int.ofNat_tdiv, simprocAttr, BEq.rfl, LN_succ]
      · rw [if_neg (by simp)] at hfs
        refine ⟨by unfold inI64; omega, k + 1, ⟨by omega, by omega⟩, Cov.go [] [] ?_⟩
        rw [hfs]
        simp [cvT, step, res, boxP2, boxS, litSn, arrI, ColsEq.refl, -List.getD_eq_getElem?_getD]
      · rw [if_pos rfl] at hfs
        rw [getD_appI]
        have hl : (V ++ [sT S k]).length = V.length + 1 := by simp
        refine ⟨⟨by omega, by omega⟩, by unfold inI64; omega, k + 1, ⟨by omega, by omega⟩, Cov.go [(nid + 20, nid + 272)] [] ?_⟩
        simp only [hfs]
        simp [cvT, step, res, boxP2, boxS, litSn, arrI, ColsEq.refl, -List.getD_eq_getElem?_getD, -List.length_append]
        try simp
    · have hkn : k = S.length := by omega
      have hend := hend hkn
      rw [hend]
      refine ⟨(), Cov.go [] [] ?_⟩
      simp [cvT, step, res, boxP2, boxS, litSn, arrI, ColsEq.refl, -List.getD_eq_getElem?_getD]
  have hfV : (failV G S).length ≤ S.length := hfl
  change ∀ t ∈ failV G S, 0 ≤ t ∧ t < G.length at hfi
  have hpv : ∀ F, failV G S = F → partV b G R S = keepW (fun p => agS G p.2.2 F S) (rowsB b R) := fun F e => by rw [← e]; rfl
  generalize hFe : failV G S = F at *
  have hpv := hpv F rfl
  unfold arrI boxS boxP2 litSn
  refine SR.freezeB [nid + 20] (fun n2 => ?_)
  simp only [frzS, frzH, frzBlk, lends, lend, kill, noOs, aqT, aqU, aqN, aqS, ↓seqK, ↓blkK, ↓loopK, step, stepBin, Nat.add_assoc nid, ↓reduceIte, Option.toList, ← Int.ofNat_tmod, ← Int.ofNat_tdiv, simprocAttr, BEq.rfl, LN_succ]
  generalize n2 (nid + 20) = nf
  refine SR.cov (t' := .mk) (st' := ⟨[(8, .ptr (nid + 8) 0), (3, .ptr (nid + 4) 0), (2, .ptr nid 0)], [(nid + 8, boxF nf F), (nid + 4, boxS nl S), (nid, boxP2 g0 r0 b G R)], nid + 2000, nid⟩) ?_ ?_
  · refine Cov.go [] [] ?_
    simp [cvT, step, res, boxP2, boxS, boxF, litI, litSn, ColsEq.refl, -List.getD_eq_getElem?_getD]
  -- the rows that may take part
  refine SR.seqTo ⟨[(11, .ptr (nid + 12) 0), (8, .ptr (nid + 8) 0), (3, .ptr (nid + 4) 0), (2, .ptr nid 0)], [(nid + 2200, arrRz R.length (partV b G R S)), (nid + 12, some (.box 27 [.sl (nid + 2200) 0 (partV b G R S).length])), (nid + 8, boxF nf F), (nid + 4, boxS nl S), (nid, boxP2 g0 r0 b G R)], nid + 2300, nid⟩ ?_ ?_
  · unfold boxF boxS boxP2 litSn litI
    simp -dsimp only [aqT, aqU, aqN, aqS, ↓seqK, ↓blkK, ↓loopK, step, stepBin, Nat.add_assoc nid, ↓reduceIte, Option.toList, ← Int.ofNat_tmod, ← Int.ofNat_tdiv, simprocAttr, BEq.rfl, LN_succ]
    have hcl := fun m => ACall.nonnil (P := Tryz.prog) (f := 123) (az := [rowsP r0 b R]) (Hs := []) (nid := m) 0 (show [rowsP r0 b R][0]? = some (.lit r0 R.length _) from rfl) (fun hn => cloneRw_c r0 b R m (by omega) hn)
    unfold rowsP at hcl
    refine CallO.pure (hcl _) ?_
    unfold arrRw
    simp -dsimp only [aqT, aqU, aqN, aqS, ↓seqK, ↓blkK, ↓loopK, step, stepBin, Nat.add_assoc nid, ↓reduceIte, Option.toList, ← Int.ofNat_tmod, ← Int.ofNat_tdiv, simprocAttr, BEq.rfl, LN_succ]
    have e1 : R.length = (rowsB b R).length := by rw [rowsB_len]
    have hdl := fun id m (h1 : id < m) (h2 : nid + 8 < m) (h3 : nid + 8 < id) => deleteW_h 124 id [.ptr (nid + 4) 0, .ptr nid 0, .ptr (nid + 8) 0] [(nid + 4, boxS nl S), (nid, boxP2 g0 r0 b G R), (nid + 8, boxF nf F)] (fun p => agS G p.2.2 F S) (rowsB b R) m h1 (by simp [keys]; omega) (scoped3 (by omega) (by omega) h2 rfl rfl rfl) (by simp [lowAll, idsOfs, idsOf]; omega) (by omega) (fun p hp m' h' => by
      obtain ⟨k, hk, rfl⟩ := rowsB_mem hp
      exact ex1_c [(nid + 4, boxS nl S), (nid, boxP2 g0 r0 b G R), (nid + 8, boxF nf F)] (nid + 4) nid (nid + 8) g0 r0 b G R (rowF R k, b k, rowR R k) nf F nl S m' (scoped3 (by omega) (by omega) (by omega) rfl rfl rfl) (by simp only [getH_hit]) (by simp only [aqT, aqU, aqN, aqS, ↓seqK, ↓blkK, ↓loopK, step, stepBin, Nat.add_assoc nid, ↓reduceIte, Option.toList, ← Int.ofNat_tmod, ← Int.ofNat_tdiv, simprocAttr, BEq.rfl, LN_succ]) (by simp only [aqT, aqU, aqN, aqS, ↓seqK, ↓blkK, ↓loopK, step, stepBin, Nat.add_assoc nid, ↓reduceIte, Option.toList, ← Int.ofNat_tmod, ← Int.ofNat_tdiv, simprocAttr, BEq.rfl, LN_succ]) hI (hlen k hk) hgl (by omega) hsl)
    rw [← e1, ← hpv] at hdl
    refine CallO.on (hdl (nid + 2008) _ (by omega) (by omega) (by omega)) (subH_cons (by simp only [aqT, aqU, aqN, aqS, ↓seqK, ↓blkK, ↓loopK, step, stepBin, Nat.add_assoc nid, ↓reduceIte, Option.toList, ← Int.ofNat_tmod, ← Int.ofNat_tdiv, simprocAttr, BEq.rfl, LN_succ, arrRw, rowsB_len]) (subH_cons (by simp only [aqT, aqU, aqN, aqS, ↓seqK, ↓blkK, ↓loopK, step, stepBin, Nat.add_assoc nid, ↓reduceIte, Option.toList, ← Int.ofNat_tmod, ← Int.ofNat_tdiv, simprocAttr, BEq.rfl, LN_succ, boxS, litSn]) (subH_cons (by simp only [aqT, aqU, aqN, aqS, ↓seqK, ↓blkK, ↓loopK, step, stepBin, Nat.add_assoc nid, ↓reduceIte, Option.toList, ← Int.ofNat_tmod, ← Int.ofNat_tdiv, simprocAttr, BEq.rfl, LN_succ, boxP2]) (subH_get (by simp only [aqT, aqU, aqN, aqS, ↓seqK, ↓blkK, ↓loopK, step, stepBin, Nat.add_assoc nid, ↓reduceIte, Option.toList, ← Int.ofNat_tmod, ← Int.ofNat_tdiv, simprocAttr, BEq.rfl, LN_succ, boxF, litI]))))) ?_
    rw [arrRz_eq]
    simp -dsimp only [aqT, aqU, aqN, aqS, ↓seqK, ↓blkK, ↓loopK, step, stepBin, Nat.add_assoc nid, ↓reduceIte, Option.toList, ← Int.ofNat_tmod, ← Int.ofNat_tdiv, simprocAttr, BEq.rfl, LN_succ]
    refine Cov.go [(nid + 2200, nid + 2008), (nid + 12, nid + 2020)] [] ?_
    simp [cvT, step, res, boxP2, boxS, boxF, litI, litSn, arrRz_eq, colsRz_self, ColsEq.refl, -List.getD_eq_getElem?_getD]
  rw [arrRz_eq]
  have hno : noOs (colsRz (partV b G R S)) = true := rfl
  have hXl : (partV b G R S).length ≤ 7 := by omega
  unfold boxF boxS boxP2 litSn litI
  refine SR.freezeB [nid + 2200] (fun n2 => ?_)
  simp only [frzS, frzH, frzBlk, lends, lend, kill, hno, aqT, aqU, aqN, aqS, ↓seqK, ↓blkK, ↓loopK, step, stepBin, Nat.add_assoc nid, ↓reduceIte, Option.toList, ← Int.ofNat_tmod, ← Int.ofNat_tdiv, simprocAttr, BEq.rfl, LN_succ]
  clear hno hpv
  generalize n2 (nid + 2200) = nx
  generalize partV b G R S = X at *
  refine SR.cov (t' := .mk) (st' := ⟨[(11, .ptr (nid + 12) 0), (8, .ptr (nid + 8) 0), (2, .ptr nid 0)], [(nid + 12, some (.box 27 [.lit nx X.length (colsRw X)])), (nid + 8, boxF nf F), (nid, boxP2 g0 r0 b G R)], nid + 2300, nid⟩) ?_ ?_
  · refine Cov.go [] [] ?_
    have hz := colsRz_eq X
    simp [cvT, step, res, boxP2, boxF, litI, hz, ColsEq.refl, -List.getD_eq_getElem?_getD]
  refine SR.seqTo ⟨[(11, .ptr (nid + 12) 0), (8, .ptr (nid + 8) 0), (2, .ptr nid 0)], [(nid + 12, some (.box 27 [.lit nx X.length (colsRw X)])), (nid + 8, boxF nf F), (nid, boxP2 g0 r0 b G R)], nid + 2400, nid⟩ ?_ ?_
  · unfold colsRw
    simp -dsimp only [aqT, aqU, aqN, aqS, ↓seqK, ↓blkK, ↓loopK, step, stepBin, Nat.add_assoc nid, ↓reduceIte, Option.toList, ← Int.ofNat_tmod, ← Int.ofNat_tdiv, simprocAttr, BEq.rfl, LN_succ]
    refine S2.no (by simp; omega) ?_
    simp -dsimp only [aqT, aqU, aqN, aqS, ↓seqK, ↓blkK, ↓loopK, step, stepBin, Nat.add_assoc nid, ↓reduceIte, Option.toList, ← Int.ofNat_tmod, ← Int.ofNat_tdiv, simprocAttr, BEq.rfl, LN_succ]
    refine Cov.go [] [] ?_
    simp [cvT, step, res, boxP2, boxF, litI, colsRw, ColsEq.refl, -List.getD_eq_getElem?_getD]
  refine SR.seq ?_
  simp -dsimp only [aqT, aqU, aqN, aqS, ↓seqK, ↓blkK, ↓loopK, step, stepBin, Nat.add_assoc nid, ↓reduceIte, Option.toList, ← Int.ofNat_tmod, ← Int.ofNat_tdiv, simprocAttr, BEq.rfl, LN_succ]
  have hpw := (powZ_eq (j := X.length) (by omega)).1
  have hp1 : 2 ^ X.length ≤ 2 ^ 7 := Nat.pow_le_pow_right (by omega) hXl
  have hp0 := Nat.two_pow_pos X.length
  refine SR.seqW (ι := Unit) (fun _ => ⟨[(12, .int .u64 ((exTo (okE G X F) (2 ^ X.length)).2 : Nat)), (13, .bool (exTo (okE G X F) (2 ^ X.length)).1), (11, .ptr (nid + 12) 0)], [(nid + 12, some (.box 27 [.lit nx X.length (colsRw X)]))], nid + 4000, nid⟩) ?_ (fun _ => ?_)
  · unfold colsRw
    refine SR.seqTo ⟨[(59, .int .u64 0), (58, .int .u64 ((2 ^ X.length : Nat) : Int)), (12, .int .u64 0), (13, .bool false), (11, .ptr (nid + 12) 0), (8, .ptr (nid + 8) 0), (2, .ptr nid 0)], [(nid + 12, some (.box 27 [.lit nx X.length (colsRw X)])), (nid + 8, boxF nf F), (nid, boxP2 g0 r0 b G R)], nid + 2500, nid⟩ ?_ ?_
    · simp -dsimp only [aqT, aqU, aqN, aqS, ↓seqK, ↓blkK, ↓loopK, step, stepBin, Nat.add_assoc nid, ↓reduceIte, Option.toList, ← Int.ofNat_tmod, ← Int.ofNat_tdiv, simprocAttr, BEq.rfl, LN_succ]
      rw [hpw]
      refine ⟨by omega, Cov.go [] [] ?_⟩
      simp [cvT, step, res, boxP2, boxF, litI, colsRw, ColsEq.refl, -List.getD_eq_getElem?_getD]
    refine SR.block ?_
    refine SR.loopP (fun x : Nat => x ≤ 2 ^ X.length) (fun x => ⟨[(59, .int .u64 (x : Nat)), (58, .int .u64 ((2 ^ X.length : Nat) : Int)), (12, .int .u64 ((exTo (okE G X F) x).2 : Nat)), (13, .bool (exTo (okE G X F) x).1), (11, .ptr (nid + 12) 0), (8, .ptr (nid + 8) 0), (2, .ptr nid 0)], [(nid + 12, some (.box 27 [.lit nx X.length (colsRw X)])), (nid + 8, boxF nf F), (nid, boxP2 g0 r0 b G R)], nid + 2600, nid⟩) (fun x => 2 ^ X.length + 1 - x) 0 (by omega) (Cov.go [] [] ?_) (fun x hx => ?_)
    · simp [cvT, step, res, boxP2, boxF, litI, colsRw, exTo, ColsEq.refl, -List.getD_eq_getElem?_getD]
    have hxs := exTo_succ (okE G X F) x
    have hxl := exTo_lt (okE G X F) x (by omega)
    have hend : x = 2 ^ X.length → exTo (okE G X F) (2 ^ X.length) = exTo (okE G X F) x := fun e => by rw [e]
    generalize exTo (okE G X F) x = y at *
    obtain ⟨fd, best⟩ := y
    simp only at *
    refine SR.seq ?_
    simp -dsimp only [aqT, aqU, aqN, aqS, ↓seqK, ↓blkK, ↓loopK, step, stepBin, Nat.add_assoc nid, ↓reduceIte, Option.toList, ← Int.ofNat_tmod, ← Int.ofNat_tdiv, simprocAttr, BEq.rfl, LN_succ]
    refine SR.seq ?_
    simp -dsimp only [aqT, aqU, aqN, aqS, ↓seqK, ↓blkK, ↓loopK, step, stepBin, Nat.add_assoc nid, ↓reduceIte, Option.toList, ← Int.ofNat_tmod, ← Int.ofNat_tdiv, simprocAttr, BEq.rfl, LN_succ]
    refine S2.dec (fun h4 => ?_) (fun h4 => ?_) <;> simp -dsimp only [aqT, aqU, aqN, aqS, ↓seqK, ↓blkK, ↓loopK, step, stepBin, Nat.add_assoc nid, ↓reduceIte, Option.toList, ← Int.ofNat_tmod, ← Int.ofNat_tdiv, simprocAttr, BEq.rfl, LN_succ]
    · have hxP : x < 2 ^ X.length := by omega
      have hx7 : x < 128 := by omega
      have hw : IntKind.u64.wrap (((x : Nat) : Int) + 1) = ((x + 1 : Nat) : Int) := by
        have : ((List.range 128).all fun b => decide (IntKind.u64.wrap (((b : Nat) : Int) + 1) = ((b + 1 : Nat) : Int))) = true := by kernel_rfl
        exact of_decide_eq_true (List.all_eq_true.1 this x (List.mem_range.2 hx7))
      refine SR.seqW (ι := Unit) (fun _ => ⟨[(59, .int .u64 (x : Nat)), (58, .int .u64 ((2 ^ X.length : Nat) : Int)), (12, .int .u64 ((exTo (okE G X F) (x + 1)).2 : Nat)), (13, .bool (exTo (okE G X F) (x + 1)).1), (11, .ptr (nid + 12) 0), (8, .ptr (nid + 8) 0), (2, .ptr nid 0)], [(nid + 12, some (.box 27 [.lit nx X.length (colsRw X)])), (nid + 8, boxF nf F), (nid, boxP2 g0 r0 b G R)], nid + 3500, nid⟩) ?_ (fun _ => ?_)
      · generalize exTo (okE G X F) (x + 1) = y1 at *
        refine SR.block ?_
        unfold boxF litI boxP2
        refine SR.seqTo ⟨[(14, .ptr (nid + 16) 0), (59, .int .u64 (x : Nat)), (58, .int .u64 ((2 ^ X.length : Nat) : Int)), (12, .int .u64 (best : Nat)), (13, .bool fd), (11, .ptr (nid + 12) 0), (8, .ptr (nid + 8) 0), (2, .ptr nid 0)], [(nid + 16, some (.box 163 [.int .u64 (x : Nat)])), (nid + 12, some (.box 27 [.lit nx X.length (colsRw X)])), (nid + 8, boxF nf F), (nid, boxP2 g0 r0 b G R)], nid + 2700, nid⟩ ?_ ?_
        · simp -dsimp only [aqT, aqU, aqN, aqS, ↓seqK, ↓blkK, ↓loopK, step, stepBin, Nat.add_assoc nid, ↓reduceIte, Option.toList, ← Int.ofNat_tmod, ← Int.ofNat_tdiv, simprocAttr, BEq.rfl, LN_succ]
          refine Cov.go [(nid + 16, nid + 2608)] [] ?_
          simp [cvT, step, res, boxP2, boxF, litI, ColsEq.refl, -List.getD_eq_getElem?_getD]
        refine SR.seq ?_
        simp -dsimp only [aqT, aqU, aqN, aqS, ↓seqK, ↓blkK, ↓loopK, step, stepBin, Nat.add_assoc nid, ↓reduceIte, Option.toList, ← Int.ofNat_tmod, ← Int.ofNat_tdiv, simprocAttr, BEq.rfl, LN_succ]
        refine CallO.pure (onesZ_c x _ hx7) ?_
        simp -dsimp only [aqT, aqU, aqN, aqS, ↓seqK, ↓blkK, ↓loopK, step, stepBin, Nat.add_assoc nid, ↓reduceIte, Option.toList, ← Int.ofNat_tmod, ← Int.ofNat_tdiv, simprocAttr, BEq.rfl, LN_succ]
        refine CallO.pure (onesZ_c best _ hxl) ?_
        simp -dsimp only [aqT, aqU, aqN, aqS, ↓seqK, ↓blkK, ↓loopK, step, stepBin, Nat.add_assoc nid, ↓reduceIte, Option.toList, ← Int.ofNat_tmod, ← Int.ofNat_tdiv, simprocAttr, BEq.rfl, LN_succ]
        have hq1 := popZ_le x
        have hq2 := popZ_le best
        refine ⟨by unfold inI64; omega, ?_⟩
        refine SR.seqW (ι := {_u : Unit // goOn fd best x = true}) (fun _ => ⟨[(14, .ptr (nid + 16) 0), (59, .int .u64 (x : Nat)), (58, .int .u64 ((2 ^ X.length : Nat) : Int)), (12, .int .u64 (best : Nat)), (13, .bool fd), (11, .ptr (nid + 12) 0), (8, .ptr (nid + 8) 0), (2, .ptr nid 0)], [(nid + 16, some (.box 163 [.int .u64 (x : Nat)])), (nid + 12, some (.box 27 [.lit nx X.length (colsRw X)])), (nid + 8, boxF nf F), (nid, boxP2 g0 r0 b G R)], nid + 2900, nid⟩) ?_ (fun ⟨_, hsk⟩ => ?_)
        · refine SR.seq ?_
          simp -dsimp only [aqT, aqU, aqN, aqS, ↓seqK, ↓blkK, ↓loopK, step, stepBin, Nat.add_assoc nid, ↓reduceIte, Option.toList, ← Int.ofNat_tmod, ← Int.ofNat_tdiv, simprocAttr, BEq.rfl, LN_succ]
          generalize hDe : IntKind.u64.wrap _ = D
          have hDw := worseD_eq hDe
          refine SR.run (t := .mk) ?_
          have goSkip : (fd && skipZ best x) = true → y1 = (fd, best) := fun h => hxs.trans (exStep_skip (x := (fd, best)) h)
          cases fd <;> simp -dsimp only [aqT, aqU, aqN, aqS, ↓seqK, ↓blkK, ↓loopK, step, stepBin, Nat.add_assoc nid, ↓reduceIte, Option.toList, ← Int.ofNat_tmod, ← Int.ofNat_tdiv, simprocAttr, BEq.rfl, LN_succ]
          · refine ⟨⟨(), goOn_of rfl⟩, Cov.go [] [] ?_⟩
            simp [cvT, step, res, boxP2, boxF, litI, ColsEq.refl, -List.getD_eq_getElem?_getD]
          refine S2.dec (fun h5 => ?_) (fun h5 => ?_) <;> simp -dsimp only [aqT, aqU, aqN, aqS, ↓seqK, ↓blkK, ↓loopK, step, stepBin, Nat.add_assoc nid, ↓reduceIte, Option.toList, ← Int.ofNat_tmod, ← Int.ofNat_tdiv, simprocAttr, BEq.rfl, LN_succ]
          · have := goSkip (by unfold skipZ; rw [decide_eq_true h5]; rfl)
            rw [this]
            refine ⟨(), Cov.go [] [] ?_⟩
            simp [cvT, step, res, boxP2, boxF, litI, ColsEq.refl, -List.getD_eq_getElem?_getD]
          refine S2.intro (fun h6 => ?_) (fun h6 => ?_) <;> simp -dsimp only [aqT, aqU, aqN, aqS, ↓seqK, ↓blkK, ↓loopK, step, stepBin, Nat.add_assoc nid, ↓reduceIte, Option.toList, ← Int.ofNat_tmod, ← Int.ofNat_tdiv, simprocAttr, BEq.rfl, LN_succ]
          · change S2 (worseD D x) _ _ _ _
            rw [hDw]
            refine S2.intro (fun h7 => ?_) (fun h7 => ?_) <;> simp -dsimp only [aqT, aqU, aqN, aqS, ↓seqK, ↓blkK, ↓loopK, step, stepBin, Nat.add_assoc nid, ↓reduceIte, Option.toList, ← Int.ofNat_tmod, ← Int.ofNat_tdiv, simprocAttr, BEq.rfl, LN_succ]
            · have := goSkip (by unfold skipZ; rw [h6, h7]; simp)
              rw [this]
              refine ⟨(), Cov.go [] [] ?_⟩
              simp [cvT, step, res, boxP2, boxF, litI, ColsEq.refl, -List.getD_eq_getElem?_getD]
            · refine ⟨⟨(), goOn_of (by unfold skipZ; rw [h7, decide_eq_false h5]; simp)⟩, Cov.go [] [] ?_⟩
              simp [cvT, step, res, boxP2, boxF, litI, ColsEq.refl, -List.getD_eq_getElem?_getD]
          · refine ⟨⟨(), goOn_of (by unfold skipZ; rw [h6, decide_eq_false h5]; rfl)⟩, Cov.go [] [] ?_⟩
            simp [cvT, step, res, boxP2, boxF, litI, ColsEq.refl, -List.getD_eq_getElem?_getD]
        have hsk := goOn_get hsk
        have goYes := fun hk => hxs.trans (exStep_yes (x := (fd, best)) hsk hk)
        have goNo := fun hk => hxs.trans (exStep_no (x := (fd, best)) hsk hk)
        clear hxs
        refine SR.run (t := .mk) ?_
        have hci := fun m (hm : nid + 16 < m) => containsI_h 128 [.ptr (nid + 12) 0, .ptr (nid + 16) 0, .ptr nid 0] [(nid + 12, some (.box 27 [.lit nx X.length (colsRw X)])), (nid + 16, some (.box 163 [.int .u64 (x : Nat)])), (nid, boxP2 g0 r0 b G R)] (fun k => openB G X x (F.getD k 0)) nf F.length (fun k => F.getD k 0) m (scoped3 (by omega) hm (by omega) rfl rfl rfl) (by simp [lowAll, idsOfs, idsOf]; omega) (by omega) (fun k hk m' h' =>
          ex2_c [(nid + 12, some (.box 27 [.lit nx X.length (colsRw X)])), (nid + 16, some (.box 163 [.int .u64 (x : Nat)])), (nid, boxP2 g0 r0 b G R)] (nid + 12) (nid + 16) nid 27 163 g0 r0 b G R nx X x (F.getD k 0) m' (scoped3 (by omega) (by omega) (by omega) rfl rfl rfl) (by simp only [getH_hit]) (by simp only [aqT, aqU, aqN, aqS, ↓seqK, ↓blkK, ↓loopK, step, stepBin, Nat.add_assoc nid, ↓reduceIte, Option.toList, ← Int.ofNat_tmod, ← Int.ofNat_tdiv, simprocAttr, BEq.rfl, LN_succ]) (by simp only [aqT, aqU, aqN, aqS, ↓seqK, ↓blkK, ↓loopK, step, stepBin, Nat.add_assoc nid, ↓reduceIte, Option.toList, ← Int.ofNat_tmod, ← Int.ofNat_tdiv, simprocAttr, BEq.rfl, LN_succ]) (hfi _ (by rw [List.getD_eq_getElem?_getD, List.getElem?_eq_getElem hk]; exact List.getElem_mem _)).1 (hfi _ (by rw [List.getD_eq_getElem?_getD, List.getElem?_eq_getElem hk]; exact List.getElem_mem _)).2 hpr hgl hx7 hXl)
        unfold boxF litI boxP2
        simp -dsimp only [aqT, aqU, aqN, aqS, ↓seqK, ↓blkK, ↓loopK, step, stepBin, Nat.add_assoc nid, ↓reduceIte, Option.toList, ← Int.ofNat_tmod, ← Int.ofNat_tdiv, simprocAttr, BEq.rfl, LN_succ]
        refine CallO.on (hci _ (by omega)) (subH_cons (by simp only [aqT, aqU, aqN, aqS, ↓seqK, ↓blkK, ↓loopK, step, stepBin, Nat.add_assoc nid, ↓reduceIte, Option.toList, ← Int.ofNat_tmod, ← Int.ofNat_tdiv, simprocAttr, BEq.rfl, LN_succ]) (subH_cons (by simp only [aqT, aqU, aqN, aqS, ↓seqK, ↓blkK, ↓loopK, step, stepBin, Nat.add_assoc nid, ↓reduceIte, Option.toList, ← Int.ofNat_tmod, ← Int.ofNat_tdiv, simprocAttr, BEq.rfl, LN_succ]) (subH_get (by simp only [aqT, aqU, aqN, aqS, ↓seqK, ↓blkK, ↓loopK, step, stepBin, Nat.add_assoc nid, ↓reduceIte, Option.toList, ← Int.ofNat_tmod, ← Int.ofNat_tdiv, simprocAttr, BEq.rfl, LN_succ, boxP2])))) ?_
        have eo : (!(List.range F.length).any fun k => openB G X x (F.getD k 0)) = okE G X F x := rfl
        simp -dsimp only [aqT, aqU, aqN, aqS, ↓seqK, ↓blkK, ↓loopK, step, stepBin, Nat.add_assoc nid, ↓reduceIte, Option.toList, ← Int.ofNat_tmod, ← Int.ofNat_tdiv, simprocAttr, BEq.rfl, LN_succ]
        rw [eo]
        cases hok : okE G X F x <;> simp -dsimp only [aqT, aqU, aqN, aqS, ↓seqK, ↓blkK, ↓loopK, step, stepBin, Nat.add_assoc nid, ↓reduceIte, Option.toList, ← Int.ofNat_tmod, ← Int.ofNat_tdiv, simprocAttr, BEq.rfl, LN_succ]
        · rw [goNo hok]
          refine ⟨(), Cov.go [] [] ?_⟩
          simp [cvT, step, res, boxP2, boxF, litI, ColsEq.refl, -List.getD_eq_getElem?_getD]
        · rw [goYes hok]
          refine ⟨(), Cov.go [] [] ?_⟩
          simp [cvT, step, res, boxP2, boxF, litI, ColsEq.refl, -List.getD_eq_getElem?_getD]
      · refine SR.run (t := .mk) ?_
        simp -dsimp only [aqT, aqU, aqN, aqS, ↓seqK, ↓blkK, ↓loopK, step, stepBin, Nat.add_assoc nid, ↓reduceIte, Option.toList, ← Int.ofNat_tmod, ← Int.ofNat_tdiv, simprocAttr, BEq.rfl, LN_succ]
        rw [hw]
        refine ⟨x + 1, ⟨by omega, by omega⟩, Cov.go [] [] ?_⟩
        simp [cvT, step, res, boxP2, boxF, litI, ColsEq.refl, -List.getD_eq_getElem?_getD]
    · have hend := hend (by omega)
      rw [hend]
      refine ⟨(), Cov.go [] [] ?_⟩
      simp [cvT, step, res, colsRw, ColsEq.refl, -List.getD_eq_getElem?_getD]
  have hlt := exTo_lt (okE G X F) (2 ^ X.length) (by omega)
  generalize exTo (okE G X F) (2 ^ X.length) = y at *
  obtain ⟨fd, best⟩ := y
  simp only at *
  cases fd
  · refine SR.run (t := .mk) ?_
    simp -dsimp only [aqT, aqU, aqN, aqS, ↓seqK, ↓blkK, ↓loopK, step, stepBin, Nat.add_assoc nid, ↓reduceIte, Option.toList, ← Int.ofNat_tmod, ← Int.ofNat_tdiv, simprocAttr, BEq.rfl, LN_succ]
    simp only [exR, exU]
    refine RetOK.pure (.inl rfl) rfl ?_
    simp [cvT, step, res]
  simp only [exR, exU]
  refine SR.run (t := .mk) ?_
  unfold colsRw
  simp -dsimp only [aqT, aqU, aqN, aqS, ↓seqK, ↓blkK, ↓loopK, step, stepBin, Nat.add_assoc nid, ↓reduceIte, Option.toList, ← Int.ofNat_tmod, ← Int.ofNat_tdiv, simprocAttr, BEq.rfl, LN_succ]
  refine LP.mkP (fun i : Nat => i ≤ X.length) (fun i => ⟨[(99, .int .i64 i), (98, .int .i64 X.length), (97, .lit nx X.length (colsRw X)), (12, .int .u64 (best : Nat)), (18, .sl (nid + 30) 0 (exOut X best i).length)], [(nid + 30, arrS (exOut X best i))], nid + 5000, nid⟩) (fun i => X.length + 1 - i) 0 (by omega) (Cov.go [] [(nid + 30, 1)] ?_) (fun i hi => ?_)
  · simp [cvT, step, res, arrS, exOut, fewZ, colsRw, ColsEq.refl, -List.getD_eq_getElem?_getD]
  have hy := exOut_yes (X := X) (B := best) (n := i)
  have hnn := exOut_no (X := X) (B := best) (n := i)
  have hol := exOut_len X best i
  have hend : i = X.length → exOut X best X.length = exOut X best i := fun e => by rw [e]
  generalize exOut X best i = V at *
  unfold arrS colsRw
  simp -dsimp only [aqT, aqU, aqN, aqS, ↓seqK, ↓blkK, ↓loopK, step, stepBin, Nat.add_assoc nid, ↓reduceIte, Option.toList, ← Int.ofNat_tmod, ← Int.ofNat_tdiv, simprocAttr, BEq.rfl, LN_succ]
  refine S2.dec (fun h5 => ?_) (fun h5 => ?_) <;> simp -dsimp only [aqT, aqU, aqN, aqS, ↓seqK, ↓blkK, ↓loopK, step, stepBin, Nat.add_assoc nid, ↓reduceIte, Option.toList, ← Int.ofNat_tmod, ← Int.ofNat_tdiv, simprocAttr, BEq.rfl, LN_succ]
  · have hbit := bitZ_eq hlt (i := i) (by omega)
    refine ⟨by omega, by omega, ?_⟩
    change S2 (bitZ best i) _ _ _ _
    rw [hbit]
    cases hb : best.testBit i <;> simp -dsimp only [aqT, aqU, aqN, aqS, ↓seqK, ↓blkK, ↓loopK, step, stepBin, Nat.add_assoc nid, ↓reduceIte, Option.toList, ← Int.ofNat_tmod, ← Int.ofNat_tdiv, simprocAttr, BEq.rfl, LN_succ]
    · refine ⟨by unfold inI64; omega, i + 1, ⟨by omega, by omega⟩, Cov.go [] [] ?_⟩
      rw [hnn hb]
      simp [cvT, step, res, arrS, colsRw, ColsEq.refl, -List.getD_eq_getElem?_getD]
    · rw [getD_app1 V _ rfl, ← hy hb]
      have hl2 : (exOut X best (i + 1)).length = V.length + 1 := by rw [hy hb]; simp
      refine ⟨⟨by omega, by omega⟩, by unfold inI64; omega, i + 1, ⟨by omega, by omega⟩, Cov.go [(nid + 30, nid + 5064)] [] ?_⟩
      simp [cvT, step, res, arrS, colsRw, hl2, ColsEq.refl, -List.getD_eq_getElem?_getD]
  · have hend := hend (by omega)
    rw [hend]
    refine RetOK.go [(nid, nid + 30)] [] (.inl rfl) ?_
    simp [a48, cvT, step, res, arrS, -List.getD_eq_getElem?_getD]
end Go.Proofs.YtpifoghhaohhaaaGreatDoor
