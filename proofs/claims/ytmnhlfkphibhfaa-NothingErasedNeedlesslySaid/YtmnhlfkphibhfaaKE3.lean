/-
  The machine's run once more, in a form that simp evaluates step by step: what comes later is hidden from simp by a tag (an argument on whose value a type depends is not rewritten).
-/
import Derived.Test.YtmnhlfkphibhfaaKE2
import Derived.Below
import Derived.Test.YtmnhlfkphibhfaaKE1
import Derived.Laws.BitsAllLaws
import Derived.Laws.BitsLemmas
namespace Go.Proofs.Ytmnhlfkphibhfaa
open Go.RowKit
set_option linter.unusedVariables false
set_option linter.unusedSimpArgs false

universe u
inductive Tag {α : Sort u} (a : α) : Type where
  | mk
def BS (s : Step) (K : PV → Heap → Prop) (_ : Tag K) : Prop := bindStep s K
theorem BS_some (vc : Prop) (v : PV) (u : Heap) (K : PV → Heap → Prop) (t : Tag K) : BS (some (vc, v, u)) K t = (vc ∧ K v u) := rfl
theorem BS_true (v : PV) (u : Heap) (K : PV → Heap → Prop) (t : Tag K) : BS (some (True, v, u)) K t = K v u := by show (True ∧ K v u) = K v u; simp
theorem BS_none (K : PV → Heap → Prop) (t : Tag K) : BS none K t = False := rfl
def OB (p : PV) (K : Bool → Prop) (_ : Tag K) : Prop := onBool p K
theorem OB_bool (b : Bool) (K : Bool → Prop) (t : Tag K) : OB (.bool b) K t = K b := rfl
def OG (p : PV) (K : Bool → Prop) (Z : Unit → Prop) (_ : Tag K) (_ : Tag Z) : Prop := onGrd p K Z
theorem OG_bool (b : Bool) (K : Bool → Prop) (Z : Unit → Prop) (t : Tag K) (t' : Tag Z) : OG (.bool b) K Z t t' = K b := rfl
theorem OG_tup (K : Bool → Prop) (Z : Unit → Prop) (t : Tag K) (t' : Tag Z) : OG (.tup []) K Z t t' = Z () := rfl
def S2 (b : Bool) (X Y : Unit → Prop) (_ : Tag X) (_ : Tag Y) : Prop := split2 b X Y
theorem S2_true (X Y : Unit → Prop) (t : Tag X) (t' : Tag Y) : S2 true X Y t t' = X () := split2_true X Y
theorem S2_false (X Y : Unit → Prop) (t : Tag X) (t' : Tag Y) : S2 false X Y t t' = Y () := split2_false X Y
def OF (p : PV) (K : Nat → List PV → Prop) (_ : Tag K) : Prop := onFn p K
theorem OF_fn (f : Nat) (cap : List PV) (K : Nat → List PV → Prop) (t : Tag K) : OF (.fn f cap) K t = K f cap := rfl
def CX (P : Program) (f : Nat) (args : List PV) (H : Heap) (nid : Nat) (K : PV → Heap → List Nat → Prop) (_ : Tag K) : Prop := CallX P f args H nid K
def CO (P : Program) (f : Nat) (args : List PV) (H : Heap) (nid : Nat) (K : PV → Heap → Prop) (_ : Tag K) : Prop := CallOK P f args H nid K
section
variable (P : Program)
def ROp (s : Slots) (H : Heap) (n : Nat) (K : PV → Heap → Prop) (t : Tag K) : AOp → Prop
  | .call f args => CO P f (args.map (AX.val s)) H n K t
  | .callv x args => OF (x.val s) (fun f cap => CO P f (args.map (AX.val s) ++ cap) H n K t) .mk
  | op => BS (step (AX.val s) H n op) K t
theorem ROp_eq (s : Slots) (H : Heap) (n : Nat) (K : PV → Heap → Prop) (t : Tag K) (op : AOp) : ROp P s H n K t op = runOp P s H n K op := by cases op <;> rfl
def ROps : List AIn → Slots → Heap → Nat → (K : Slots → Heap → Nat → Prop) → Tag K → Prop
  | [], s, H, n, K, _ => K s H n
  | ⟨d, none, op⟩ :: l, s, H, n, K, t => ROp P s H n (fun v u => ROps l (putS s d v) (u ++ H) (n + 4) K t) .mk op
  | ⟨d, some (j, true), op⟩ :: l, s, H, n, K, t => OG (getS s j) (fun b => S2 b
      (fun _ => ROp P ((j, .bool true) :: s) H n (fun v u => ROps l (putS ((j, .bool true) :: s) d v) (u ++ H) (n + 4) K t) .mk op)
      (fun _ => ROps l (putS ((j, .bool false) :: s) d (.tup [])) H (n + 4) K t) .mk .mk) (fun _ => ROps l (putS s d (.tup [])) H (n + 4) K t) .mk .mk
  | ⟨d, some (j, false), op⟩ :: l, s, H, n, K, t => OG (getS s j) (fun b => S2 b
      (fun _ => ROps l (putS ((j, .bool true) :: s) d (.tup [])) H (n + 4) K t)
      (fun _ => ROp P ((j, .bool false) :: s) H n (fun v u => ROps l (putS ((j, .bool false) :: s) d v) (u ++ H) (n + 4) K t) .mk op) .mk .mk) (fun _ => ROps l (putS s d (.tup [])) H (n + 4) K t) .mk .mk
theorem ROps_eq : ∀ (l : List AIn) (s : Slots) (H : Heap) (n : Nat) (K : Slots → Heap → Nat → Prop) (t : Tag K), ROps P l s H n K t = runOps P l s H n K
  | [], s, H, n, K, t => rfl
  | ⟨d, none, op⟩ :: l, s, H, n, K, t => by
    simp only [ROps, runOps, ROp_eq, ROps_eq l]
  | ⟨d, some (j, true), op⟩ :: l, s, H, n, K, t => by
    simp only [ROps, runOps, ROp_eq, ROps_eq l, OG, S2]
  | ⟨d, some (j, false), op⟩ :: l, s, H, n, K, t => by
    simp only [ROps, runOps, ROp_eq, ROps_eq l, OG, S2]
def OX (s : Slots) (H : Heap) (n : Nat) (K : PV → Heap → List Nat → Prop) (t : Tag K) : AOp → Prop
  | .call f args => CX P f (args.map (AX.val s)) H n (fun v u rds => lowH H n (idsOf (.agg (args.map (AX.val s))) ++ rds) = true ∧ K v u (idsOf (.agg (args.map (AX.val s))) ++ rds)) .mk
  | .callv x args => OF (x.val s) (fun f cap => CX P f (args.map (AX.val s) ++ cap) H n (fun v u rds => lowH H n (idsOf (.agg (args.map (AX.val s) ++ cap)) ++ rds) = true ∧ K v u (idsOf (.agg (args.map (AX.val s) ++ cap)) ++ rds)) .mk) .mk
  | op => BS (step (AX.val s) H n op) (fun v u => K v u (idsOf (.agg ((rdXs op).map (AX.val s))))) .mk
theorem OX_eq (s : Slots) (H : Heap) (n : Nat) (K : PV → Heap → List Nat → Prop) (t : Tag K) (op : AOp) : OX P s H n K t op = opX P s H n K op := by cases op <;> simp only [OX, opX, idsOf] <;> rfl
def RAny : List (AIn × List Nat) → List Rec1 → Slots → Heap → Nat → (K : Slots → Heap → Nat → Prop) → Tag K → Prop
  | [], recs, s, H, n, K, _ => K s H n
  | (⟨d, none, op⟩, fr) :: l, recs, s, H, n, K, t => OX P s H n (fun v u rds => freeOf recs ⟨d, namesX (opXs op), rds, keys u⟩ fr = true ∧ RAny l (recs ++ [⟨d, namesX (opXs op), rds, keys u⟩]) (putS s d v) (u ++ H) (n + 4) K t) .mk op
  | (⟨d, some (j, true), op⟩, fr) :: l, recs, s, H, n, K, t => OG (getS s j) (fun b => S2 b
      (fun _ => OX P ((j, .bool true) :: s) H n (fun v u rds => freeOf recs ⟨d, j :: namesX (opXs op), rds, keys u⟩ fr = true ∧ RAny l (recs ++ [⟨d, j :: namesX (opXs op), rds, keys u⟩]) (putS ((j, .bool true) :: s) d v) (u ++ H) (n + 4) K t) .mk op)
      (fun _ => freeOf recs ⟨d, [j], [], []⟩ fr = true ∧ RAny l (recs ++ [⟨d, [j], [], []⟩]) (putS ((j, .bool false) :: s) d (.tup [])) H (n + 4) K t) .mk .mk) (fun _ => freeOf recs ⟨d, [j], [], []⟩ fr = true ∧ RAny l (recs ++ [⟨d, [j], [], []⟩]) (putS s d (.tup [])) H (n + 4) K t) .mk .mk
  | (⟨d, some (j, false), op⟩, fr) :: l, recs, s, H, n, K, t => OG (getS s j) (fun b => S2 b
      (fun _ => freeOf recs ⟨d, [j], [], []⟩ fr = true ∧ RAny l (recs ++ [⟨d, [j], [], []⟩]) (putS ((j, .bool true) :: s) d (.tup [])) H (n + 4) K t)
      (fun _ => OX P ((j, .bool false) :: s) H n (fun v u rds => freeOf recs ⟨d, j :: namesX (opXs op), rds, keys u⟩ fr = true ∧ RAny l (recs ++ [⟨d, j :: namesX (opXs op), rds, keys u⟩]) (putS ((j, .bool false) :: s) d v) (u ++ H) (n + 4) K t) .mk op) .mk .mk) (fun _ => freeOf recs ⟨d, [j], [], []⟩ fr = true ∧ RAny l (recs ++ [⟨d, [j], [], []⟩]) (putS s d (.tup [])) H (n + 4) K t) .mk .mk
theorem RAny_eq : ∀ (l : List (AIn × List Nat)) (recs : List Rec1) (s : Slots) (H : Heap) (n : Nat) (K : Slots → Heap → Nat → Prop) (t : Tag K), RAny P l recs s H n K t = runAny P l recs s H n K
  | [], recs, s, H, n, K, t => rfl
  | (⟨d, none, op⟩, fr) :: l, recs, s, H, n, K, t => by
    simp only [RAny, runAny, OX_eq, RAny_eq l]
  | (⟨d, some (j, true), op⟩, fr) :: l, recs, s, H, n, K, t => by
    simp only [RAny, runAny, OX_eq, RAny_eq l, OG, S2]
  | (⟨d, some (j, false), op⟩, fr) :: l, recs, s, H, n, K, t => by
    simp only [RAny, runAny, OX_eq, RAny_eq l, OG, S2]
def blkK (id : Nat) (Q : AEx → ST → Prop) : AEx → ST → Prop
  | .normal, s => Q .normal s
  | .exit i, s => S2 (i == id) (fun _ => Q .normal s) (fun _ => Q (.exit i) s) .mk .mk
  | .ret, s => Q .ret s
theorem blkK_eq (id : Nat) (Q : AEx → ST → Prop) : blkK id Q = blockK id Q := by
  funext e s
  cases e with
  | normal => rfl
  | ret => rfl
  | exit i =>
    simp only [blkK, blockK, S2]
    cases i == id
    · simp [split2]
    · simp [split2]
def LP (c : ACode) (st : ST) (Q : AEx → ST → Prop) (_ : Tag Q) : Prop := LoopOK (run P c) st Q
def Run : ACode → ST → (Q : AEx → ST → Prop) → Tag Q → Prop
  | .skip, st, Q, _ => Q .normal st
  | .ops l, st, Q, _ => ROps P l st.slots st.heap st.next (fun s H n => Q .normal ⟨s, H, n, st.base⟩) .mk
  | .any l, st, Q, _ => RAny P l [] st.slots st.heap st.next (fun s H n => Q .normal ⟨s, H, n, st.base⟩) .mk
  | .seq a b, st, Q, t => Run a st (seqK (fun s => Run b s Q t) Q) .mk
  | .cond x a b, st, Q, t => OB (x.val st.slots) (fun c => S2 c (fun _ => Run a st Q t) (fun _ => Run b st Q t) .mk .mk) .mk
  | .block id c, st, Q, _ => Run c st (blkK id Q) .mk
  | .loop c, st, Q, t => LP P c st Q t
  | .exit i, st, Q, _ => Q (.exit i) st
  | .ret, st, Q, _ => Q .ret st
theorem Run_eq : ∀ (c : ACode) (st : ST) (Q : AEx → ST → Prop) (t : Tag Q), Run P c st Q t = run P c st Q
  | .skip, st, Q, t => rfl
  | .ops l, st, Q, t => by simp only [Run, run, ROps_eq]
  | .any l, st, Q, t => by simp only [Run, run, RAny_eq]
  | .seq a b, st, Q, t => by simp only [Run, run, Run_eq a, Run_eq b]
  | .cond x a b, st, Q, t => by simp only [Run, run, Run_eq a, Run_eq b, OB, S2]
  | .block id c, st, Q, t => by simp only [Run, run, Run_eq c, blkK_eq]
  | .loop c, st, Q, t => by simp only [Run, run, LP]
  | .exit i, st, Q, t => rfl
  | .ret, st, Q, t => rfl
end
theorem getS_hit (i : Nat) (p : PV) (s : Slots) : getS ((i, p) :: s) i = p := by simp [getS]
theorem getS_miss {i j : Nat} (h : (i == j) = false) (p : PV) (s : Slots) : getS ((i, p) :: s) j = getS s j := by simp [getS, h]
theorem getH_hit (i : Nat) (b : Option ABlk) (H : Heap) : getH ((i, b) :: H) i = b := by simp [getH]
theorem getH_miss {i j : Nat} (h : (i == j) = false) (b : Option ABlk) (H : Heap) : getH ((i, b) :: H) j = getH H j := by simp [getH, h]
theorem acall_run {P : Program} {f : Nat} {af : AFn} {args : List PV} {Hs : Heap} {nid : Nat} {r : PV} {u : Heap} (hc : compF P f = some af) (hn : args.length ≤ af.nt)
    (h : Run P af.body ⟨argSlots 0 args, Hs, nid, nid⟩ (RetOK af.res Hs nid r u) .mk) : ACall P f args Hs nid r u :=
  acall_of_run hc hn (by rw [← Run_eq]; exact h)
theorem LP.mk {P : Program} {c : ACode} {st : ST} {Q : AEx → ST → Prop} {t : Tag Q} {ι : Type} (I : ι → ST) (μ : ι → Nat) (x : ι) (h1 : Cov st (I x)) (h2 : ∀ x, Run P c (I x) (loopK (fun s => ∃ y, μ y < μ x ∧ Cov s (I y)) Q) .mk) : LP P c st Q t :=
  LoopOK.mk I μ x h1 fun x => by rw [← Run_eq P c _ _ .mk]; exact h2 x
theorem S2.dec {p : Prop} [Decidable p] {X Y : Unit → Prop} {t : Tag X} {t' : Tag Y} (h1 : p → X ()) (h2 : ¬ p → Y ()) : S2 (decide p) X Y t t' := split2_dec h1 h2
theorem S2.yes {b : Bool} {X Y : Unit → Prop} {t : Tag X} {t' : Tag Y} (hb : b = true) (h1 : X ()) : S2 b X Y t t' := split2_yes hb h1
theorem S2.no {b : Bool} {X Y : Unit → Prop} {t : Tag X} {t' : Tag Y} (hb : b = false) (h1 : Y ()) : S2 b X Y t t' := split2_no hb h1
theorem S2.intro {b : Bool} {X Y : Unit → Prop} {t : Tag X} {t' : Tag Y} (h1 : b = true → X ()) (h2 : b = false → Y ()) : S2 b X Y t t' := ⟨h1, h2⟩
theorem apart_nil : ∀ l : List Nat, apart [] [] l = true
  | [] => rfl
  | id :: r => by
    simp only [apart, apart_nil r, nilSz, srcOf, Bool.and_true, List.all_eq_true]
    intro j hj
    by_cases h : j = id <;> simp [h]
/-- what of a heap is not set anew -/
def over (u : Heap) : Heap → Heap
  | [] => []
  | (i, b) :: H => bif (keys u).contains i then over u H else (i, b) :: over u H
theorem getH_appC : ∀ (u H : Heap) (i : Nat), getH (u ++ H) i = bif (keys u).contains i then getH u i else getH H i
  | [], H, i => by simp [keys]
  | (j, b) :: u, H, i => by
    simp only [List.cons_append, getH, keys, List.map_cons, List.contains_cons]
    have := getH_appC u H i
    simp only [keys] at this
    by_cases e : j = i
    · subst e; simp
    · have e1 : (j == i) = false := by simpa using e
      have e2 : (i == j) = false := by simpa using fun h => e h.symm
      simp only [e1, e2, cond_false, Bool.false_or, this]
theorem getH_over (u : Heap) : ∀ (H : Heap) (i : Nat), (keys u).contains i = false → getH (over u H) i = getH H i
  | [], i, h => rfl
  | (j, b) :: H, i, h => by
    by_cases e : j = i
    · subst e
      simp only [over, h, cond_false, getH]
      simp
    · have e1 : (j == i) = false := by simpa using e
      cases hj : (keys u).contains j
      · simp only [over, hj, cond_false, getH, e1]
        exact getH_over u H i h
      · simp only [over, hj, cond_true, getH, e1, cond_false]
        exact getH_over u H i h
/-- an end, blocks of the caller's written -/
theorem RetOK.over {rs : List ARes} {Hs : Heap} {nid : Nat} {r : PV} {u : Heap} {e : AEx} {st : ST} (he : e = .ret ∨ e = .normal) {ps : List PV} (ren nils : List (Nat × Nat)) (h1 : readAll st rs = some ps) (h2 : inRange nid (nid + 4) ren = true) (h3 : inRange nid (nid + 4) nils = true)
    (h4 : apart ren nils (liveIds (u ++ Hs)) = true) (h5 : (liveIds (u ++ Hs)).all (fun id => decide (id < nid + 4)) = true) (h60 : HeapCov (nid + 4) ren nils st.heap (u ++ Go.Proofs.Ytmnhlfkphibhfaa.over u Hs)) (h7 : PVCov (nid + 4) ren nils (retPV ps) r) : RetOK rs Hs nid r u e st := by
  have h6 : HCov (nid + 4) ren nils st.heap (u ++ Hs) := fun id b h => HeapCov.get h60 (by
    rw [getH_appC] at h ⊢
    cases hk : (keys u).contains id
    · simp only [hk, cond_false] at h ⊢
      rw [getH_over u Hs id hk]; exact h
    · simp only [hk, cond_true] at h ⊢
      exact h)
  rcases he with rfl | rfl
  · show onAll (readAll st rs) _
    rw [h1]
    exact ⟨ren, nils, h2, h3, h4, h5, h6, h7⟩
  · show onAll (readAll st rs) _
    rw [h1]
    exact ⟨ren, nils, h2, h3, h4, h5, h6, h7⟩
theorem RetOK.same {rs : List ARes} {Hs : Heap} {nid : Nat} {r : PV} {u : Heap} {e : AEx} {st : ST} (he : e = .ret ∨ e = .normal) {ps : List PV} (h1 : readAll st rs = some ps) (h5 : (liveIds (u ++ Hs)).all (fun id => decide (id < nid + 4)) = true)
    (h6 : HeapCov (nid + 4) [] [] st.heap (u ++ Go.Proofs.Ytmnhlfkphibhfaa.over u Hs)) (h7 : PVCov (nid + 4) [] [] (retPV ps) r) : RetOK rs Hs nid r u e st :=
  RetOK.over he [] [] h1 rfl rfl (apart_nil _) h5 h6 h7
theorem subH_hit (id : Nat) (b : Option ABlk) (H : Heap) : subH [(id, b)] ((id, b) :: H) := fun i c h => by
  by_cases e : id = i
  · subst e; simp only [getH_hit] at h ⊢; exact h
  · have e1 : (id == i) = false := by simpa using e
    simp [getH, e1] at h
theorem subH_get {id : Nat} {b : Option ABlk} {H : Heap} (h : getH H id = b) : subH [(id, b)] H := fun i c hc => by
  by_cases e : id = i
  · subst e; simp only [getH_hit] at hc; rw [h]; exact hc
  · have e1 : (id == i) = false := by simpa using e
    simp [getH, e1] at hc
theorem Cov.go (ren nils : List (Nat × Nat)) {s1 s2 : Slots} {H1 H2 : Heap} {n1 n2 b : Nat} (h : b ≤ n2 ∧ inRange b n2 ren = true ∧ inRange b n2 nils = true ∧ apart ren nils (liveIds H2) = true ∧ (liveIds H2).all (fun id => decide (id < n2)) = true ∧
    HeapCov n2 ren nils H1 H2 ∧ SlotsCov n2 ren nils s1 s2) : Cov ⟨s1, H1, n1, b⟩ ⟨s2, H2, n2, b⟩ :=
  Cov.mk ren nils rfl h.1 h.2.1 h.2.2.1 h.2.2.2.1 h.2.2.2.2.1 (fun id b hb => HeapCov.get h.2.2.2.2.2.1 hb) h.2.2.2.2.2.2
theorem idS1 (n k : Nat) : (n + (k + 1) == n) = false := by rw [beq_eq_false_iff_ne]; omega
theorem idS2 (n k : Nat) : (n == n + (k + 1)) = false := by rw [beq_eq_false_iff_ne]; omega
/-- a name of the caller's is none of the call's own -/
theorem id_all {s nid : Nat} (h : s < nid) : (nid == s) = false ∧ (s == nid) = false ∧ (∀ k, (nid + k == s) = false) ∧ (∀ k, (s == nid + k) = false) ∧ ¬ nid = s ∧ ¬ s = nid ∧ (∀ k, ¬ nid + k = s) ∧ (∀ k, ¬ s = nid + k) ∧ ∀ k, s < nid + k := by
  obtain ⟨h1, h2, h3, h4⟩ := id_facts h
  exact ⟨h1, h2, h3, h4, by omega, by omega, fun k => by omega, fun k => by omega, fun k => by omega⟩
theorem lowBlk_box (n T : Nat) (cs : List PV) : lowBlk n (some (.box T cs)) = lowAll n (idsOfs cs) := rfl
theorem lowBlk_arr (n T k : Nat) (cols : List Col) : lowBlk n (some (.arr T k cols)) = true := rfl
theorem lowBlk_none (n : Nat) : lowBlk n none = true := rfl
/-- a loop whose family has a condition -/
theorem LP.mkP {P : Program} {c : ACode} {st : ST} {Q : AEx → ST → Prop} {t : Tag Q} {ι : Type} (p : ι → Prop) (I : ι → ST) (μ : ι → Nat) (x : ι) (hx : p x) (h1 : Cov st (I x))
    (h2 : ∀ x, p x → Run P c (I x) (loopK (fun s => ∃ y, (p y ∧ μ y < μ x) ∧ Cov s (I y)) Q) .mk) : LP P c st Q t :=
  LP.mk (ι := {x : ι // p x}) (fun x => I x.1) (fun x => μ x.1) ⟨x, hx⟩ h1 fun x => by
    have e : (fun s => ∃ y : {x : ι // p x}, μ y.1 < μ x.1 ∧ Cov s (I y.1)) = (fun s => ∃ y, (p y ∧ μ y < μ x.1) ∧ Cov s (I y)) := by
      funext s
      exact propext ⟨fun ⟨y, h1, h2⟩ => ⟨y.1, ⟨y.2, h1⟩, h2⟩, fun ⟨y, ⟨h1, h2⟩, h3⟩ => ⟨⟨y, h1⟩, h2, h3⟩⟩
    rw [e]
    exact h2 x.1 x.2
theorem RetOK.go {rs : List ARes} {Hs : Heap} {nid : Nat} {r : PV} {u : Heap} {e : AEx} {st : ST} (ren nils : List (Nat × Nat)) (he : e = .ret ∨ e = .normal) (h : onAll (readAll st rs) fun ps => inRange nid (nid + 4) ren = true ∧ inRange nid (nid + 4) nils = true ∧
    apart ren nils (liveIds (u ++ Hs)) = true ∧ (liveIds (u ++ Hs)).all (fun id => decide (id < nid + 4)) = true ∧ HeapCov (nid + 4) ren nils st.heap (u ++ Go.Proofs.Ytmnhlfkphibhfaa.over u Hs) ∧ PVCov (nid + 4) ren nils (retPV ps) r) : RetOK rs Hs nid r u e st := by
  cases hp : readAll st rs with
  | none => rw [hp] at h; exact h.elim
  | some ps =>
    rw [hp] at h
    obtain ⟨h2, h3, h4, h5, h6, h7⟩ := h
    exact RetOK.over he ren nils hp h2 h3 h4 h5 h6 h7
/-- the run of what is left: a state may be said more weakly here, and named arrays frozen -/
def SR (P : Program) (c : ACode) (st : ST) (Q : AEx → ST → Prop) (_ : Tag Q) : Prop := SRun P c st Q
theorem SR.run {P : Program} {c : ACode} {st : ST} {Q : AEx → ST → Prop} {t t' : Tag Q} (h : Run P c st Q t) : SR P c st Q t' := SRun.of_run (by rw [← Run_eq P c st Q t]; exact h)
theorem SR.seq {P : Program} {x y : ACode} {st : ST} {Q : AEx → ST → Prop} {t : Tag Q} (h : Run P x st (seqK (fun s => SR P y s Q .mk) Q) .mk) : SR P (.seq x y) st Q t := SRun.seq (SRun.of_run (by rw [← Run_eq P x st _ .mk]; exact h))
theorem SR.cov {P : Program} {x : ACode} {st st' : ST} {Q : AEx → ST → Prop} {t t' : Tag Q} (hc : Cov st st') (h : SR P x st' Q t') : SR P x st Q t := SRun.cov hc h
theorem SR.freeze {P : Program} {x : ACode} {s : Slots} {H : Heap} {n b : Nat} {Q : AEx → ST → Prop} {t : Tag Q} (G : List Nat) (h : ∀ nl : Nat → Bool, SR P x ⟨frzS H G nl s, kill G ++ H, n, b⟩ Q .mk) : SR P x ⟨s, H, n, b⟩ Q t := SRun.freeze G h
theorem acall_sr {P : Program} {f : Nat} {af : AFn} {args : List PV} {Hs : Heap} {nid : Nat} {r : PV} {u : Heap} (hc : compF P f = some af) (hn : args.length ≤ af.nt)
    (h : SR P af.body ⟨argSlots 0 args, Hs, nid, nid⟩ (RetOK af.res Hs nid r u) .mk) : ACall P f args Hs nid r u := acall_of_srun hc hn h
/-- the machine's laws for simp, all at once -/
theorem aqT : type_of% (And.intro (And.intro (And.intro (And.intro (And.intro (And.intro @Run.eq_1 (And.intro @Run.eq_2 @Run.eq_3)) (And.intro @Run.eq_4 (And.intro @Run.eq_5 @Run.eq_6))) (And.intro (And.intro @Run.eq_7 (And.intro @Run.eq_8 @Run.eq_9)) (And.intro @ROps.eq_1 (And.intro @ROps.eq_2 @ROps.eq_3)))) (And.intro (And.intro (And.intro @ROps.eq_4 (And.intro @RAny.eq_1 @RAny.eq_2)) (And.intro @RAny.eq_3 (And.intro @RAny.eq_4 @BS_some))) (And.intro (And.intro @BS_true (And.intro @BS_none @OB_bool)) (And.intro @OG_bool (And.intro @OG_tup @S2_true))))) (And.intro (And.intro (And.intro (And.intro @S2_false (And.intro @OF_fn @getS_hit)) (And.intro @getS_miss (And.intro @getS.eq_1 @getH_hit))) (And.intro (And.intro @getH_miss (And.intro @getH.eq_1 @putS.eq_1)) (And.intro @putS.eq_2 (And.intro @AX.val.eq_1 @AX.val.eq_2)))) (And.intro (And.intro (And.intro @cond_true.{1} (And.intro @cond_false.{1} @idS1)) (And.intro @idS2 (And.intro @List.nil_append.{0} @List.cons_append.{0}))) (And.intro (And.intro @true_and (And.intro @and_true @ne_eq.{1})) (And.intro @not_true_eq_false (And.intro @if_false.{1} @if_true.{1})))))) (And.intro (And.intro (And.intro (And.intro (And.intro @ite_false.{1} (And.intro @ite_true.{1} @List.map_cons.{0,0})) (And.intro @List.map_nil.{0,0} (And.intro @List.drop_zero.{0} @List.drop_succ_cons.{0}))) (And.intro (And.intro @List.take_succ_cons.{0} (And.intro @List.take_zero.{0} @List.length_cons.{0})) (And.intro @List.length_nil.{0} (And.intro @Nat.zero_add @decide_true)))) (And.intro (And.intro (And.intro @decide_false (And.intro @beq_self_eq_true.{0} @Bool.and_true)) (And.intro @Bool.and_false (And.intro @Bool.true_and @Bool.false_and))) (And.intro (And.intro @Int.toNat_natCast (And.intro @lowBlk_box @lowBlk_arr)) (And.intro @lowBlk_none (And.intro @List.append_nil.{0} @List.getElem?_cons_zero.{0}))))) (And.intro (And.intro (And.intro (And.intro @List.getElem?_cons_succ.{0} (And.intro @List.all_cons.{0} @List.all_nil.{0})) (And.intro @List.any_cons.{0} (And.intro @List.any_nil.{0} @List.contains_cons.{0}))) (And.intro (And.intro @List.contains_nil.{0} (And.intro @Bool.or_false @Bool.false_or)) (And.intro @Bool.or_true (And.intro @Bool.true_or @Bool.not_false)))) (And.intro (And.intro (And.intro @Bool.not_true (And.intro @bne_self_eq_false.{0} @List.singleton_append.{0})) (And.intro @Int.add_sub_cancel (And.intro @List.replicate_succ.{0} @List.replicate_zero.{0}))) (And.intro (And.intro @List.flatten_cons.{0} (And.intro @List.flatten_nil.{0} @List.set_cons_succ.{0})) (And.intro (And.intro @List.set_cons_zero.{0} @List.headD_cons.{0}) (And.intro @List.tail_cons.{0} @Nat.add_lt_add_iff_left))))))) := And.intro (And.intro (And.intro (And.intro (And.intro (And.intro @Run.eq_1 (And.intro @Run.eq_2 @Run.eq_3)) (And.intro @Run.eq_4 (And.intro @Run.eq_5 @Run.eq_6))) (And.intro (And.intro @Run.eq_7 (And.intro @Run.eq_8 @Run.eq_9)) (And.intro @ROps.eq_1 (And.intro @ROps.eq_2 @ROps.eq_3)))) (And.intro (And.intro (And.intro @ROps.eq_4 (And.intro @RAny.eq_1 @RAny.eq_2)) (And.intro @RAny.eq_3 (And.intro @RAny.eq_4 @BS_some))) (And.intro (And.intro @BS_true (And.intro @BS_none @OB_bool)) (And.intro @OG_bool (And.intro @OG_tup @S2_true))))) (And.intro (And.intro (And.intro (And.intro @S2_false (And.intro @OF_fn @getS_hit)) (And.intro @getS_miss (And.intro @getS.eq_1 @getH_hit))) (And.intro (And.intro @getH_miss (And.intro @getH.eq_1 @putS.eq_1)) (And.intro @putS.eq_2 (And.intro @AX.val.eq_1 @AX.val.eq_2)))) (And.intro (And.intro (And.intro @cond_true.{1} (And.intro @cond_false.{1} @idS1)) (And.intro @idS2 (And.intro @List.nil_append.{0} @List.cons_append.{0}))) (And.intro (And.intro @true_and (And.intro @and_true @ne_eq.{1})) (And.intro @not_true_eq_false (And.intro @if_false.{1} @if_true.{1})))))) (And.intro (And.intro (And.intro (And.intro (And.intro @ite_false.{1} (And.intro @ite_true.{1} @List.map_cons.{0,0})) (And.intro @List.map_nil.{0,0} (And.intro @List.drop_zero.{0} @List.drop_succ_cons.{0}))) (And.intro (And.intro @List.take_succ_cons.{0} (And.intro @List.take_zero.{0} @List.length_cons.{0})) (And.intro @List.length_nil.{0} (And.intro @Nat.zero_add @decide_true)))) (And.intro (And.intro (And.intro @decide_false (And.intro @beq_self_eq_true.{0} @Bool.and_true)) (And.intro @Bool.and_false (And.intro @Bool.true_and @Bool.false_and))) (And.intro (And.intro @Int.toNat_natCast (And.intro @lowBlk_box @lowBlk_arr)) (And.intro @lowBlk_none (And.intro @List.append_nil.{0} @List.getElem?_cons_zero.{0}))))) (And.intro (And.intro (And.intro (And.intro @List.getElem?_cons_succ.{0} (And.intro @List.all_cons.{0} @List.all_nil.{0})) (And.intro @List.any_cons.{0} (And.intro @List.any_nil.{0} @List.contains_cons.{0}))) (And.intro (And.intro @List.contains_nil.{0} (And.intro @Bool.or_false @Bool.false_or)) (And.intro @Bool.or_true (And.intro @Bool.true_or @Bool.not_false)))) (And.intro (And.intro (And.intro @Bool.not_true (And.intro @bne_self_eq_false.{0} @List.singleton_append.{0})) (And.intro @Int.add_sub_cancel (And.intro @List.replicate_succ.{0} @List.replicate_zero.{0}))) (And.intro (And.intro @List.flatten_cons.{0} (And.intro @List.flatten_nil.{0} @List.set_cons_succ.{0})) (And.intro (And.intro @List.set_cons_zero.{0} @List.headD_cons.{0}) (And.intro @List.tail_cons.{0} @Nat.add_lt_add_iff_left))))))
end Go.Proofs.Ytmnhlfkphibhfaa
/-
  Contracts at arguments that say more, slices that are not empty, and loops that are run round by round.
-/
namespace Go.Proofs.Ytmnhlfkphibhfaa
open Go.RowKit
set_option linter.unusedVariables false
set_option linter.unusedSimpArgs false
mutual
/-- alike as far as the slices' rows go -/
def ArgEq : PV → PV → Prop
  | .lit nl n c, .lit nl' n' c' => nl = nl' ∧ n = n' ∧ ColsEq n c c'
  | .agg ps, .agg qs => ArgEqs ps qs
  | p, q => p = q
def ArgEqs : List PV → List PV → Prop
  | [], [] => True
  | p :: ps, q :: qs => ArgEq p q ∧ ArgEqs ps qs
  | _, _ => False
end
section
variable {Y : Nat → Prop} {m : Names} {w : World}
mutual
theorem ArgEq.rep : ∀ (q p : PV) (v : Value), ArgEq p q → Rep Y m w p v → Rep Y m w q v
  | .lit _ _ _, p, v, h, hr => by
    cases p <;> simp only [ArgEq] at h <;> try contradiction
    obtain ⟨rfl, rfl, h⟩ := h
    exact h.lit hr
  | .agg qs, p, v, h, hr => by
    cases p <;> simp only [ArgEq] at h <;> try contradiction
    obtain ⟨vs, rfl, h1, h2, h3⟩ := hr.agg_inv
    have := ArgEqs.rep qs _ vs h h2
    exact .agg (h1.trans this.1) this.2 h3
  | .int _ _, p, v, h, hr => by cases p <;> simp only [ArgEq] at h <;> first | contradiction | (injections; subst_vars; exact hr)
  | .bool _, p, v, h, hr => by cases p <;> simp only [ArgEq] at h <;> first | contradiction | (injections; subst_vars; exact hr)
  | .str _, p, v, h, hr => by cases p <;> simp only [ArgEq] at h <;> first | contradiction | (injections; subst_vars; exact hr)
  | .ptr _ _, p, v, h, hr => by cases p <;> simp only [ArgEq] at h <;> first | contradiction | (injections; subst_vars; exact hr)
  | .nilp, p, v, h, hr => by cases p <;> simp only [ArgEq] at h <;> first | contradiction | exact hr
  | .elp _ _, p, v, h, hr => by cases p <;> simp only [ArgEq] at h <;> first | contradiction | (injections; subst_vars; exact hr)
  | .arp _ _ _, p, v, h, hr => by cases p <;> simp only [ArgEq] at h <;> first | contradiction | (injections; subst_vars; exact hr)
  | .sl _ _ _, p, v, h, hr => by cases p <;> simp only [ArgEq] at h <;> first | contradiction | (injections; subst_vars; exact hr)
  | .tup _, p, v, h, hr => by cases p <;> simp only [ArgEq] at h <;> first | contradiction | (injections; subst_vars; exact hr)
  | .fn _ _, p, v, h, hr => by cases p <;> simp only [ArgEq] at h <;> first | contradiction | (injections; subst_vars; exact hr)
  | .mp _, p, v, h, hr => by cases p <;> simp only [ArgEq] at h <;> first | contradiction | (injections; subst_vars; exact hr)
  | .any, p, v, h, hr => .any
theorem ArgEqs.rep : ∀ (qs ps : List PV) (vs : List Value), ArgEqs ps qs → (∀ (i : Nat) p v, ps[i]? = some p → vs[i]? = some v → Rep Y m w p v) →
    ps.length = qs.length ∧ ∀ (i : Nat) q v, qs[i]? = some q → vs[i]? = some v → Rep Y m w q v
  | [], ps, vs, h, hr => by
    cases ps <;> simp only [ArgEqs] at h
    exact ⟨rfl, fun i q v hq => by simp at hq⟩
  | q :: qs, ps, vs, h, hr => by
    cases ps <;> simp only [ArgEqs] at h
    rename_i p ps
    have ih := ArgEqs.rep qs ps (vs.drop 1) h.2 (fun i p v hp hv => hr (i + 1) p v (by simpa using hp) (by rw [List.getElem?_drop] at hv; rwa [Nat.add_comm] at hv))
    refine ⟨by simp [ih.1], fun i q' v hq hv => ?_⟩
    rcases i with _ | i
    · simp only [List.getElem?_cons_zero, Option.some.injEq] at hq
      subst hq
      exact ArgEq.rep q p v h.1 (hr 0 p v rfl hv)
    · simp only [List.getElem?_cons_succ] at hq
      exact ih.2 i q' v hq (by rw [List.getElem?_drop, Nat.add_comm]; exact hv)
end
end
variable {P : Program} {f : Nat} {as as' : List PV} {Hs : Heap} {nid : Nat} {r : PV} {u : Heap}
theorem ACall.args (ha : ACall P f as' Hs nid r u) (h : ArgEqs as as') : ACall P f as Hs nid r u := fun C vs hb hl hr hs => by
  have := ArgEqs.rep as' as vs h hr
  exact ha C vs hb (hl.trans this.1) this.2 hs
/-- a slice among the arguments that is nil has no rows -/
theorem ACall.nonnil (i : Nat) {nl : Bool} {n : Nat} {cols : List Col} (hi : as[i]? = some (.lit nl n cols)) (h : (nl = true → n = 0) → ACall P f as Hs nid r u) : ACall P f as Hs nid r u := fun C vs hb hl hr hs => by
  have hlt : i < vs.length := by rw [hl]; exact (List.getElem?_eq_some_iff.1 hi).1
  obtain ⟨A, cap, u', hv, e2, e3, _⟩ := (hr i _ vs[i] hi (List.getElem?_eq_getElem hlt)).lit_inv
  exact h (fun hn => by
    subst hn
    have hA : A = none := by cases A <;> simp at e2; rfl
    exact (e3 hA).1) C vs hb hl hr hs
/-- a call that is given arrays, and works on nothing else -/
theorem CallX.gave {P : Program} {f : Nat} {args : List PV} {H : Heap} {nid : Nat} {K : PV → Heap → List Nat → Prop} (F : List Nat) {r : PV} {u : Heap} (h : ∀ nl, ACall P f (lends H F nl args) [] nid r u) (hF : ∀ id ∈ F, getH u id = none) (hK : K r (u ++ kill F) F) : CallX P f args H nid K :=
  CallX.given F h (fun id b h => by simp [getH] at h) (fun id hid => ⟨rfl, hF id hid⟩) (by simpa [keys] using hK)
theorem CallO.gave {P : Program} {f : Nat} {args : List PV} {H : Heap} {nid : Nat} {K : PV → Heap → Prop} (F : List Nat) {r : PV} {u : Heap} (h : ∀ nl, ACall P f (lends H F nl args) [] nid r u) (hF : ∀ id ∈ F, getH u id = none) (hK : K r (u ++ kill F)) : CallOK P f args H nid K :=
  CallO.x (CallX.gave F h hF hK)
theorem SRun.mono {x : ACode} {st : ST} {Q Q' : AEx → ST → Prop} (h : ∀ e s, Q e s → Q' e s) (k : SRun P x st Q) : SRun P x st Q' := fun nt c C Y m a w hc hS => by
  refine wp_mono (k nt c C Y m a w hc hS) ?_
  intro e a w hp
  cases e with
  | normal => obtain ⟨st', Y', m', hq, hs⟩ := hp; exact ⟨st', Y', m', h _ _ hq, hs⟩
  | exit i => obtain ⟨st', Y', m', hq, hs⟩ := hp; exact ⟨st', Y', m', h _ _ hq, hs⟩
  | ret => obtain ⟨st', Y', m', hq, hs⟩ := hp; exact ⟨st', Y', m', h _ _ hq, hs⟩
  | goto l => exact hp.elim
  | panic c => exact hp.elim
  | outgrown => exact hp.elim
/-- .. for some data: those that the first part makes -/
theorem SR.seqEx {x y : ACode} {st : ST} {Q : AEx → ST → Prop} {t : Tag Q} {ι : Type} (I : ι → ST) (h : Run P x st (seqK (fun s => ∃ i, Cov s (I i)) Q) .mk) (h2 : ∀ i, SR P y (I i) Q .mk) : SR P (.seq x y) st Q t :=
  SRun.seq (SRun.mono (Q := seqK (fun s => ∃ i, Cov s (I i)) Q) (fun e s hk => by
    cases e
    · obtain ⟨i, hk⟩ := hk; exact SRun.cov hk (h2 i)
    · exact hk
    · exact hk) (SRun.of_run (by rw [← Run_eq P x st _ .mk]; exact h)))
/-- what the model does at a call of a function that has a body -/
theorem calls_of_callSat {f : Nat} {fn : Func} {vs : Array Value} {w : World} {R : Value → World → Prop} (hf : P.funcs[f]? = some fn) (h1 : (fn.name == "runtime.NumGoroutine") = false) (h2 : fn.body.isNone = false) (h : CallSat P f vs w R) :
    Calls P f vs w fun e w' => ∃ v, e = .returned v ∧ R v w' := by
  rcases h with ⟨_, _, _, _, h⟩ | ⟨v, w', h, _⟩
  · exact h
  · exfalso
    unfold callFunc at h
    have h1' : fn.name ≠ "runtime.NumGoroutine" := by simpa using h1
    have h2' : fn.body ≠ none := fun e => by rw [e] at h2; simp at h2
    simp [hf, h1', h2'] at h
/-- a contract at a list of numbers, from the world that the list lies in -/
theorem calls_of_acall {f : Nat} {fn : Func} {A : Option Addr} {cap : Nat} {L : List Int} {w : World} (hf : P.funcs[f]? = some fn) (h1 : (fn.name == "runtime.NumGoroutine") = false) (h2 : fn.body.isNone = false) (hr : RowV w A (ints L)) (hcap : A = none → cap = 0) (hle : L.length ≤ cap)
    (h : ∀ nl nid, ACall P f [.lit nl L.length [.i .i64 fun i => L.getD i 0]] [] nid (.bool true) []) : Calls P f #[.slice A L.length cap] w fun e w' => e = .returned (.bool true) ∧ Below w.heap.size w w' := by
  have hn0 : A = none → L.length = 0 := fun e => by
    rcases L with _ | ⟨x, L⟩
    · rfl
    · obtain ⟨b, o, h, _⟩ := hr.int (k := 0) (x := x) rfl
      rw [e] at h; cases h
  let C : Ctx := ⟨w, fun _ => False, fun _ => False, fun _ => none, 0⟩
  have hs : HS C C.Y0 C.m0 C.w0 [] 0 := by
    refine ⟨fun id b hb => by simp [getH] at hb, fun id id' b b' pl pl' g hne hb => by simp [getH] at hb, fun b hb => hb.elim, fun b hb => hb.elim, Nat.le_refl _, fun b _ _ => rfl, rfl, rfl, rfl, fun b hb => hb.elim, fun b hb => hb.elim, fun b hb => hb.elim, fun _ _ => rfl, fun id hid => hid, fun id pl hp => hp, fun _ _ => rfl, fun id pl hp => by cases hp⟩
  have hrep : Rep C.Y0 C.m0 C.w0 (.lit A.isNone L.length [.i .i64 fun i => L.getD i 0]) (.slice A L.length cap) := by
    refine .lit (.l (u := fun j _ => .int .i64 (L.getD j 0)) rfl (fun e => ⟨hn0 e, hcap e⟩) hle (fun j m hj hm => ?_) (fun j m c hj hm => ?_))
    · have hj' : j < L.length := hj
      have hm0 : m = 0 := by have : m < 1 := hm; omega
      subst hm0
      obtain ⟨b, o, h, hc⟩ := hr.int (k := j) (x := L.getD j 0) (by rw [List.getD_eq_getElem?_getD, List.getElem?_eq_getElem hj']; rfl)
      exact ⟨b, o, h, id, by simpa using hc⟩
    · rcases m with _ | m
      · simp only [List.getElem?_cons_zero, Option.some.injEq] at hm
        subst hm
        exact .i (g := fun i => L.getD i 0)
      · simp at hm
  have hc := h A.isNone 0 C [.slice A L.length cap] rfl rfl (fun i p v hp hv => by
    rcases i with _ | i
    · simp only [List.getElem?_cons_zero, Option.some.injEq] at hp hv
      subst hp; subst hv
      exact hrep
    · simp at hp) hs
  refine (calls_of_callSat hf h1 h2 hc).mono ?_
  rintro e w' ⟨v, rfl, Y', m', r1, r2, r3⟩
  have hv := r1.bool_inv
  subst hv
  exact ⟨rfl, ⟨r2.os, r2.tape, r2.output, r2.size, fun k hk => r2.frame k hk id⟩⟩
/-- a loop of so many rounds at most -/
def LN (P : Program) (c : ACode) : Nat → ST → (AEx → ST → Prop) → Prop
  | 0, _, _ => False
  | k + 1, st, Q => Run P c st (loopK (fun s => LN P c k s Q) Q) .mk
end Go.Proofs.Ytmnhlfkphibhfaa
/-
  The stream's draws as plain functions of the numbers and of how many have been drawn. No program stands in this text.
-/
namespace Go.Proofs.Ytmnhlfkphibhfaa

def below (x n : Int) : Int := if n < 1 then 0 else x % n
/-- the draw behind p draws, reduced below n -/
def nextV (L : List Int) (p : Nat) (n : Int) : Int :=
  if L.length = 0 then below (((p : Int) + 1) * 7919) n
  else below (below (L.getD (p % L.length) 0) 1073741824 + (p : Int) / (L.length : Int) * (7919 + (p : Int) % (L.length : Int))) n
theorem below_bd (x : Int) {n : Int} (h : 1 ≤ n) : 0 ≤ below x n ∧ below x n < n := by
  unfold below
  rw [if_neg (by omega)]
  exact ⟨Int.emod_nonneg _ (by omega), Int.emod_lt_of_pos _ (by omega)⟩
theorem nextV_bd (L : List Int) (p : Nat) {n : Int} (h : 1 ≤ n) : 0 ≤ nextV L p n ∧ nextV L p n < n := by
  unfold nextV
  split <;> exact below_bd _ h
def flipV (L : List Int) (p : Nat) (n : Int) : Bool := nextV L p n == 0
def rangeV (L : List Int) (p : Nat) (lo hi : Int) : Int := lo + nextV L p (hi - lo + 1)
theorem rangeV_bd (L : List Int) (p : Nat) {lo hi : Int} (h : lo ≤ hi) : lo ≤ rangeV L p lo hi ∧ rangeV L p lo hi ≤ hi := by
  have := nextV_bd L p (n := hi - lo + 1) (by omega)
  unfold rangeV
  omega
/-- the place that a pick takes -/
def pickI (L : List Int) (p : Nat) (n : Nat) : Nat := (nextV L p n).toNat
theorem pickI_lt (L : List Int) (p : Nat) {n : Nat} (h : 0 < n) : pickI L p n < n := by
  have := nextV_bd L p (n := (n : Int)) (by omega)
  unfold pickI
  omega
def pickV (L : List Int) (p : Nat) (l : List Int) : Int := l.getD (pickI L p l.length) 0
theorem pickV_mem (L : List Int) (p : Nat) {l : List Int} (h : 0 < l.length) : pickV L p l ∈ l := by
  have := pickI_lt L p h
  unfold pickV
  rw [List.getD_eq_getElem?_getD, List.getElem?_eq_getElem this]
  exact List.getElem_mem _
theorem pickV_bd (L : List Int) (p : Nat) {l : List Int} {lo hi : Int} (h : 0 < l.length) (hb : ∀ x ∈ l, lo ≤ x ∧ x ≤ hi) : lo ≤ pickV L p l ∧ pickV L p l ≤ hi := hb _ (pickV_mem L p h)
theorem round_bd (p n : Nat) (hn : 0 < n) (hp : p ≤ 1099511627776) : 0 ≤ (p : Int) / (n : Int) * (7919 + (p : Int) % (n : Int)) ∧ (p : Int) / (n : Int) * (7919 + (p : Int) % (n : Int)) ≤ 8708132091985920 := by
  have h : ((p : Int) / (n : Int) * (7919 + (p : Int) % (n : Int))) = ((p / n * (7919 + p % n) : Nat) : Int) := by
    rw [Int.natCast_mul, Int.natCast_add, Int.natCast_ediv, Int.natCast_emod]; rfl
  rw [h]
  have h1 : p / n * (p % n) ≤ p := Nat.le_trans (Nat.mul_le_mul_left _ (Nat.le_of_lt (Nat.mod_lt _ hn))) (Nat.div_mul_le_self p n)
  have h2 : p / n ≤ p := Nat.div_le_self _ _
  have h3 : p / n * (7919 + p % n) = 7919 * (p / n) + p / n * (p % n) := by rw [Nat.mul_add, Nat.mul_comm (p / n) 7919]
  omega
end Go.Proofs.Ytmnhlfkphibhfaa
/-
  Plain functions on lists of integers that the flash memory's functions compute, and small laws about them. No program stands in this text.
-/
namespace Go.Proofs.Ytmnhlfkphibhfaa

def sumI : List Int → Int
  | [] => 0
  | x :: l => x + sumI l
theorem sumI_snoc (l : List Int) (x : Int) : sumI (l ++ [x]) = sumI l + x := by
  induction l with
  | nil => simp [sumI]
  | cons a l ih => simp only [List.cons_append, sumI, ih]; omega
theorem sumI_bd {lo hi : Int} (l : List Int) (h : Within lo hi l) : lo * l.length ≤ sumI l ∧ sumI l ≤ hi * l.length := by
  induction l with
  | nil => simp [sumI]
  | cons a l ih =>
    have h1 := ih (fun x hx => h x (by simp [hx]))
    have h2 := h a (by simp)
    simp only [sumI, List.length_cons, Int.natCast_add, Int.mul_add]
    omega
def outB (x lo hi : Int) : Bool := decide (x < lo ∨ hi < x)
/-- the first fault of a list's elements -/
def firstBad {α : Type} (f : α → Int) : List α → Int
  | [] => 0
  | x :: l => if f x = 0 then firstBad f l else f x
theorem firstBad_append {α : Type} (f : α → Int) (l m : List α) (h : firstBad f l = 0) : firstBad f (l ++ m) = firstBad f m := by
  induction l with
  | nil => rfl
  | cons a l ih =>
    simp only [firstBad] at h
    split at h
    · rename_i h0
      simp only [List.cons_append, firstBad, h0, if_true]
      exact ih h
    · contradiction
theorem firstBad_hit {α : Type} {f : α → Int} {l : List α} {k : Nat} {x : α} (hx : l[k]? = some x) (h : firstBad f (l.take k) = 0) (hf : f x ≠ 0) : firstBad f l = f x := by
  have hk : k < l.length := (List.getElem?_eq_some_iff.1 hx).1
  have e : l = l.take k ++ x :: l.drop (k + 1) := by
    rw [(List.getElem?_eq_some_iff.1 hx).2.symm, ← List.drop_eq_getElem_cons hk, List.take_append_drop]
  rw [e, firstBad_append f _ _ h]
  simp [firstBad, hf]
theorem firstBad_step {α : Type} {f : α → Int} {l : List α} {k : Nat} {x : α} (hx : l[k]? = some x) (h : firstBad f (l.take k) = 0) (hf : f x = 0) : firstBad f (l.take (k + 1)) = 0 := by
  rw [take_snoc hx, firstBad_append f _ _ h]
  simp [firstBad, hf]
theorem firstBad_all {α : Type} {f : α → Int} {l : List α} (h : firstBad f l = 0) : ∀ x ∈ l, f x = 0 := by
  induction l with
  | nil => intro x hx; cases hx
  | cons a l ih =>
    simp only [firstBad] at h
    split at h
    · rename_i h0
      intro x hx
      rcases List.mem_cons.1 hx with rfl | hx
      · exact h0
      · exact ih h x hx
    · contradiction
def secBad (x : Int) : Int := if outB x 1 4096 = true then 1 else 0
def wordBad (x : Int) : Int := if outB x 0 65535 = true then 1 else 0
/-- what is wrong with a memory -/
def flashFault (l : List Int) : Int :=
  if l.length = 0 then 8 else if 20 < l.length then 2 else if firstBad secBad l ≠ 0 then 1 else if 4096 < sumI l then 2 else 0
structure FlashOk (l : List Int) : Prop where
  pos : 0 < l.length
  len : l.length ≤ 20
  wit : Within 1 4096 l
  sum : sumI l ≤ 4096
theorem within_of_secBad {l : List Int} (h : firstBad secBad l = 0) : Within 1 4096 l := fun x hx => by
  have := firstBad_all h x hx
  simp only [secBad, outB, decide_eq_true_eq] at this
  split at this
  · contradiction
  · omega
theorem flashFault_ok {l : List Int} (h : flashFault l = 0) : FlashOk l := by
  unfold flashFault at h
  split at h; · contradiction
  split at h; · contradiction
  split at h; · contradiction
  rename_i h3
  split at h; · contradiction
  exact ⟨by omega, by omega, within_of_secBad (Decidable.not_not.1 h3), by omega⟩
theorem flashFault_mk {l : List Int} (h1 : l.length ≠ 0) (h2 : l.length ≤ 20) (h3 : firstBad secBad l = 0) : flashFault l = if 4096 < sumI l then 2 else 0 := by
  unfold flashFault
  rw [if_neg h1, if_neg (by omega), if_neg (by simp [h3])]
def imageFault (secs ws : List Int) : Int := if (ws.length : Int) ≠ sumI secs then 3 else firstBad wordBad ws
def checkImage (secs ws : List Int) : Int := if flashFault secs = 0 then imageFault secs ws else flashFault secs
end Go.Proofs.Ytmnhlfkphibhfaa
/-
  The flash memories, words and operations that a stream makes, as plain functions. No program stands in this text.
-/
namespace Go.Proofs.Ytmnhlfkphibhfaa

def secs0 (L : List Int) (p : Nat) : List Int := (List.range (rangeV L p 1 4).toNat).map fun i => rangeV L (p + 1 + i) 1 5
def secs1 (L : List Int) (p : Nat) : List Int × Nat :=
  if flipV L (p + 1 + (secs0 L p).length) 20 then
    ((secs0 L p).set (pickI L (p + 1 + (secs0 L p).length + 1) (secs0 L p).length) (pickV L (p + 1 + (secs0 L p).length + 2) [0, -1, 4096, 4097]), p + 1 + (secs0 L p).length + 3)
  else (secs0 L p, p + 1 + (secs0 L p).length + 1)
def flashOfV (L : List Int) (p : Nat) : List Int × Nat :=
  if flipV L (secs1 L p).2 40 then ([], (secs1 L p).2 + 1) else ((secs1 L p).1, (secs1 L p).2 + 1)
theorem secs0_len (L : List Int) (p : Nat) : 1 ≤ (secs0 L p).length ∧ (secs0 L p).length ≤ 4 := by
  have := rangeV_bd L p (lo := 1) (hi := 4) (by decide)
  simp only [secs0, List.length_map, List.length_range]
  omega
theorem secs0_bd (L : List Int) (p : Nat) : Within (-1) 4097 (secs0 L p) := by
  intro x hx
  obtain ⟨i, _, rfl⟩ := List.mem_map.1 hx
  have := rangeV_bd L (p + 1 + i) (lo := 1) (hi := 5) (by decide)
  omega
theorem Within.set {lo hi : Int} {l : List Int} (h : Within lo hi l) (k : Nat) {x : Int} (hx : lo ≤ x ∧ x ≤ hi) : Within lo hi (l.set k x) := fun y hy => by
  rcases List.mem_or_eq_of_mem_set hy with h1 | h1
  · exact h y h1
  · subst h1; exact hx
theorem secs1_bd (L : List Int) (p : Nat) : (secs1 L p).1.length ≤ 4 ∧ Within (-1) 4097 (secs1 L p).1 ∧ (secs1 L p).2 ≤ p + 8 := by
  have h1 := secs0_len L p
  have h2 := secs0_bd L p
  have h3 := pickV_bd L (p + 1 + (secs0 L p).length + 2) (l := [0, -1, 4096, 4097]) (lo := -1) (hi := 4097) (by simp) (by decide)
  unfold secs1
  split
  · exact ⟨by simp; omega, h2.set _ h3, by simp only; omega⟩
  · exact ⟨h1.2, h2, by simp only; omega⟩
theorem flashOfV_bd (L : List Int) (p : Nat) : (flashOfV L p).1.length ≤ 4 ∧ Within (-1) 4097 (flashOfV L p).1 ∧ (flashOfV L p).2 ≤ p + 9 := by
  have h := secs1_bd L p
  unfold flashOfV
  split
  · exact ⟨by simp, (fun x hx => by cases hx), by simp only; omega⟩
  · exact ⟨h.1, h.2.1, by simp only; omega⟩

def sumMax : List Int → Int
  | [] => 0
  | x :: l => max x 0 + sumMax l
theorem sumMax_snoc (l : List Int) (x : Int) : sumMax (l ++ [x]) = sumMax l + max x 0 := by
  induction l with
  | nil => simp [sumMax]
  | cons a l ih => simp only [List.cons_append, sumMax, ih]; omega
theorem sumMax_bd (l : List Int) (h : Within (-1) 4097 l) : 0 ≤ sumMax l ∧ sumMax l ≤ 4097 * l.length := by
  induction l with
  | nil => simp [sumMax]
  | cons a l ih =>
    have h1 := ih (fun x hx => h x (by simp [hx]))
    have h2 := h a (by simp)
    simp only [sumMax, List.length_cons, Int.natCast_add, Int.mul_add]
    omega
def word1 (L : List Int) (p : Nat) : Int := pickV L (p + 1) [65535, 65535, 0, 1, 3, 65534, nextV L p 65536]
def words0 (L : List Int) (p m : Nat) : List Int := (List.range m).map fun i => word1 L (p + 2 * i)
def words1 (L : List Int) (p m : Nat) : List Int × Nat :=
  if m = 0 then (words0 L p m, p + 2 * m) else
  if flipV L (p + 2 * m) 20 then ((words0 L p m).set (pickI L (p + 2 * m + 1) m) (pickV L (p + 2 * m + 2) [-1, 65536]), p + 2 * m + 3) else (words0 L p m, p + 2 * m + 1)
def wordMany (secs : List Int) : Nat := (min (sumMax secs) 40).toNat
def wordListV (L : List Int) (p : Nat) (secs : List Int) : List Int × Nat :=
  if flipV L (words1 L p (wordMany secs)).2 30 then ((words1 L p (wordMany secs)).1 ++ [0], (words1 L p (wordMany secs)).2 + 1)
  else ((words1 L p (wordMany secs)).1, (words1 L p (wordMany secs)).2 + 1)
theorem words0_len (L : List Int) (p m : Nat) : (words0 L p m).length = m := by simp [words0]
theorem words0_get (L : List Int) (p : Nat) {m k : Nat} (h : k < m) : (words0 L p m)[k]? = some (word1 L (p + 2 * k)) := by simp [words0, h]
theorem word1_bd (L : List Int) (p : Nat) : 0 ≤ word1 L p ∧ word1 L p ≤ 65535 := by
  have h := nextV_bd L p (n := 65536) (by decide)
  unfold word1
  refine pickV_bd L (p + 1) (by simp) ?_
  intro x hx
  simp only [List.mem_cons, List.not_mem_nil, or_false] at hx
  rcases hx with rfl | rfl | rfl | rfl | rfl | rfl | rfl <;> omega
theorem words1_bd (L : List Int) (p m : Nat) (hm : m ≤ 40) : (words1 L p m).1.length = m ∧ Within (-1) 65536 (words1 L p m).1 ∧ (words1 L p m).2 ≤ p + 83 := by
  have h2 : Within (-1) 65536 (words0 L p m) := by
    intro x hx
    obtain ⟨i, _, rfl⟩ := List.mem_map.1 hx
    have := word1_bd L (p + 2 * i)
    omega
  have h3 := pickV_bd L (p + 2 * m + 2) (l := [-1, 65536]) (lo := -1) (hi := 65536) (by simp) (by decide)
  unfold words1
  split
  · exact ⟨words0_len _ _ _, h2, by simp only; omega⟩
  · split
    · exact ⟨by simp [words0_len], h2.set _ h3, by simp only; omega⟩
    · exact ⟨words0_len _ _ _, h2, by simp only; omega⟩
theorem wordMany_le (secs : List Int) : wordMany secs ≤ 40 := by unfold wordMany; omega
theorem wordListV_bd (L : List Int) (p : Nat) (secs : List Int) : (wordListV L p secs).1.length ≤ 41 ∧ Within (-1) 65536 (wordListV L p secs).1 ∧ (wordListV L p secs).2 ≤ p + 84 := by
  have h := words1_bd L p (wordMany secs) (wordMany_le secs)
  have hm := wordMany_le secs
  unfold wordListV
  split
  · refine ⟨by simp only [List.length_append, List.length_singleton]; omega, ?_, by simp only; omega⟩
    intro x hx
    rcases List.mem_append.1 hx with h1 | h1
    · exact h.2.1 x h1
    · simp at h1; omega
  · exact ⟨by simp only; omega, h.2.1, by simp only; omega⟩
end Go.Proofs.Ytmnhlfkphibhfaa
/-
  Operations of a flash memory as data, and those that a stream makes, as plain functions. No program stands in this text.
-/
namespace Go.Proofs.Ytmnhlfkphibhfaa

structure FOp where
  k : Int
  a : Int
  v : Int
def FOp.cells (x : FOp) : List Value := [.int .i64 x.k, .int .i64 x.a, .int .i64 x.v]
def ops (l : List FOp) : List Value := l.flatMap FOp.cells
theorem ops_get (l : List FOp) {i : Nat} {x : FOp} (h : l[i]? = some x) : (ops l)[i * 3]? = some (.int .i64 x.k) ∧ (ops l)[i * 3 + 1]? = some (.int .i64 x.a) ∧ (ops l)[i * 3 + 2]? = some (.int .i64 x.v) := by
  induction l generalizing i with
  | nil => simp at h
  | cons y l ih =>
    cases i with
    | zero =>
      simp at h; subst h
      simp [ops, FOp.cells]
    | succ i =>
      have := ih (i := i) (by simpa using h)
      have e : ops (y :: l) = .int .i64 y.k :: .int .i64 y.a :: .int .i64 y.v :: ops l := rfl
      rw [e, show (i + 1) * 3 = i * 3 + 1 + 1 + 1 from by omega]
      simpa using this
theorem RowV.op {w : World} {A : Option Addr} {l : List FOp} (h : RowV w A (ops l)) {k : Nat} {x : FOp} (hk : l[k]? = some x) :
    ∃ b o, A = some ⟨b, o, none⟩ ∧ w.cell? ⟨b, o + k * 3, none⟩ = some (.int .i64 x.k) ∧ w.cell? ⟨b, o + k * 3 + 1, none⟩ = some (.int .i64 x.a) ∧ w.cell? ⟨b, o + k * 3 + 2, none⟩ = some (.int .i64 x.v) := by
  obtain ⟨c0, c1, c2⟩ := ops_get l hk
  obtain ⟨b, o, rfl, h0⟩ := h _ _ c0
  obtain ⟨b1, o1, e1, h1⟩ := h _ _ c1
  obtain ⟨b2, o2, e2, h2⟩ := h _ _ c2
  injection e1 with e1; injection e1 with e1 e1'
  injection e2 with e2; injection e2 with e2 e2'
  subst e1; subst e1'; subst e2; subst e2'
  exact ⟨b, o, rfl, h0, h1, h2⟩
/-- what is wrong with an operation of a memory of n sectors and sz words -/
def opFault (n : Nat) (sz : Int) (x : FOp) : Int :=
  if x.k = 1 then (if outB x.a 0 ((n : Int) - 1) = true then 1 else if x.v = 0 then 0 else 3)
  else if x.k = 2 then (if outB x.a 0 (sz - 1) = true then 1 else if outB x.v 0 65535 = true then 1 else 0) else 4
def opsFault (secs : List Int) (l : List FOp) : Int := if 50000 < l.length then 2 else firstBad (opFault secs.length (sumI secs)) l
def checkOps (secs : List Int) (l : List FOp) : Int := if flashFault secs = 0 then opsFault secs l else flashFault secs
end Go.Proofs.Ytmnhlfkphibhfaa
/-
  Sectors of a memory as plain functions: the sector of an address, its window, words erased, operations applied. No program stands in this text.
-/
namespace Go.Proofs.Ytmnhlfkphibhfaa

/-- the words of the first k sectors -/
def pre (l : List Int) (k : Nat) : Int := sumI (l.take k)
theorem pre_succ {l : List Int} {k : Nat} {x : Int} (h : l[k]? = some x) : pre l (k + 1) = pre l k + x := by unfold pre; rw [take_snoc h, sumI_snoc]
theorem pre_zero (l : List Int) : pre l 0 = 0 := rfl
theorem pre_all (l : List Int) : pre l l.length = sumI l := by unfold pre; rw [List.take_length]
theorem pre_mono {l : List Int} (hv : Within 1 4096 l) {j k : Nat} (h : j ≤ k) : pre l j ≤ pre l k := by
  induction k with
  | zero =>
    obtain rfl : j = 0 := by omega
    exact Int.le_refl _
  | succ k ih =>
    rcases Nat.lt_or_ge j (k + 1) with hj | hj
    · refine Int.le_trans (ih (by omega)) ?_
      rcases Nat.lt_or_ge k l.length with hk | hk
      · obtain ⟨x, hx⟩ := get_some l hk
        have := hv.get hx
        rw [pre_succ hx]; omega
      · unfold pre; rw [List.take_of_length_le hk, List.take_of_length_le (by omega)]; exact Int.le_refl _
    · obtain rfl : j = k + 1 := by omega
      exact Int.le_refl _
theorem pre_bd {l : List Int} (hv : Within 1 4096 l) (hn : l.length ≤ 20) (k : Nat) : 0 ≤ pre l k ∧ pre l k ≤ 81920 := by
  have h := sumI_bd (l.take k) (hv.take k)
  have : (l.take k).length ≤ 20 := by rw [List.length_take]; omega
  unfold pre
  omega
theorem pre_le {l : List Int} (hv : Within 1 4096 l) (k : Nat) : pre l k ≤ sumI l := by
  rcases Nat.le_total k l.length with h | h
  · rw [← pre_all]; exact pre_mono hv h
  · unfold pre; rw [List.take_of_length_le h]; exact Int.le_refl _
/-- s is the sector of address a -/
def IsSec (l : List Int) (a : Int) (s : Nat) : Prop := s < l.length ∧ pre l s ≤ a ∧ a < pre l (s + 1)
theorem isSec_unique {l : List Int} (hv : Within 1 4096 l) {a : Int} {s t : Nat} (h : IsSec l a s) (k : IsSec l a t) : s = t := by
  rcases Nat.lt_trichotomy s t with hl | rfl | hl
  · have := pre_mono hv (show s + 1 ≤ t from hl)
    have := h.2.2; have := k.2.1
    omega
  · rfl
  · have := pre_mono hv (show t + 1 ≤ s from hl)
    have := k.2.2; have := h.2.1
    omega
/-- the sector of an address, looked for among the first k -/
def secGo (l : List Int) (a : Int) : Nat → Nat
  | 0 => 0
  | k + 1 => if a < pre l k then secGo l a k else k
def secOf (l : List Int) (a : Int) : Nat := secGo l a l.length
theorem secGo_spec (l : List Int) (a : Int) (h0 : 0 ≤ a) : ∀ k, k ≤ l.length → 0 < k → a < pre l k → secGo l a k < k ∧ pre l (secGo l a k) ≤ a ∧ a < pre l (secGo l a k + 1) := by
  intro k
  induction k with
  | zero => intro _ h; omega
  | succ k ih =>
    intro hk _ ha
    unfold secGo
    split
    · rename_i h1
      rcases Nat.eq_zero_or_pos k with rfl | hp
      · rw [pre_zero] at h1; omega
      · have := ih (by omega) hp h1
        omega
    · exact ⟨by omega, by omega, ha⟩
theorem secOf_is {l : List Int} {a : Int} (h0 : 0 ≤ a) (h1 : a < sumI l) : IsSec l a (secOf l a) := by
  have hp : 0 < l.length := by
    rcases Nat.eq_zero_or_pos l.length with h | h
    · have := List.eq_nil_of_length_eq_zero h
      subst this
      simp [sumI] at h1; omega
    · exact h
  have := secGo_spec l a h0 l.length (Nat.le_refl _) hp (by rw [pre_all]; exact h1)
  exact ⟨this.1, this.2.1, this.2.2⟩
theorem secOf_eq {l : List Int} (hv : Within 1 4096 l) {a : Int} (h0 : 0 ≤ a) {s : Nat} (h : IsSec l a s) : secOf l a = s := by
  have h1 : a < sumI l := by have := h.2.2; have := pre_le hv (s + 1); omega
  exact isSec_unique hv (secOf_is h0 h1) h
/-- there is such an address -/
def isAddr (l : List Int) (a : Int) : Bool := !outB a 0 (sumI l - 1)
/-- words with sector s erased -/
def eraseV (l : List Int) (ws : List Int) (s : Nat) : List Int := ws.mapIdx fun i x => if pre l s ≤ i ∧ (i : Int) < pre l (s + 1) then 65535 else x
theorem eraseV_len (l ws : List Int) (s : Nat) : (eraseV l ws s).length = ws.length := by simp [eraseV]
theorem eraseV_get (l ws : List Int) (s : Nat) {i : Nat} {x : Int} (h : ws[i]? = some x) : (eraseV l ws s)[i]? = some (if pre l s ≤ i ∧ (i : Int) < pre l (s + 1) then 65535 else x) := by
  simp [eraseV, List.getElem?_mapIdx, h]
theorem eraseV_within {l ws : List Int} {s : Nat} (h : Within 0 65535 ws) : Within 0 65535 (eraseV l ws s) := by
  intro x hx
  obtain ⟨i, hi, rfl⟩ := List.mem_mapIdx.1 hx
  have := h _ (List.getElem_mem hi)
  split <;> omega
/-- the bits that both have -/
def andI (a b : Int) : Int := ((a.toNat &&& b.toNat : Nat) : Int)
theorem andI_bd {a b : Int} (ha : 0 ≤ a ∧ a ≤ 65535) : 0 ≤ andI a b ∧ andI a b ≤ 65535 := by
  have := Nat.and_le_left (n := a.toNat) (m := b.toNat)
  unfold andI
  omega
def opV (l : List Int) (ws : List Int) (x : FOp) : List Int :=
  if x.k = 1 then eraseV l ws x.a.toNat else ws.set x.a.toNat (andI (ws.getD x.a.toNat 0) x.v)
def applyV (l : List Int) (ws : List Int) : List FOp → List Int
  | [] => ws
  | x :: r => applyV l (opV l ws x) r
theorem applyV_snoc (l ws : List Int) (r : List FOp) (x : FOp) : applyV l ws (r ++ [x]) = opV l (applyV l ws r) x := by
  induction r generalizing ws with
  | nil => rfl
  | cons y r ih => exact ih (opV l ws y)
theorem opV_len (l ws : List Int) (x : FOp) : (opV l ws x).length = ws.length := by unfold opV; split <;> simp [eraseV_len]
theorem applyV_len (l ws : List Int) (r : List FOp) : (applyV l ws r).length = ws.length := by
  induction r generalizing ws with
  | nil => rfl
  | cons y r ih => exact (ih (opV l ws y)).trans (opV_len l ws y)
theorem getD_within {ws : List Int} (h : Within 0 65535 ws) (i : Nat) : 0 ≤ ws.getD i 0 ∧ ws.getD i 0 ≤ 65535 := by
  rw [List.getD_eq_getElem?_getD]
  cases hg : ws[i]? with
  | none => simp
  | some y => exact h y (mem_of_get hg)
theorem opV_within {l ws : List Int} {x : FOp} (h : Within 0 65535 ws) : Within 0 65535 (opV l ws x) := by
  unfold opV
  split
  · exact eraseV_within h
  · intro y hy
    rcases List.mem_or_eq_of_mem_set hy with h1 | h1
    · exact h y h1
    · subst h1; exact andI_bd (getD_within h _)
theorem applyV_within {l ws : List Int} {r : List FOp} (h : Within 0 65535 ws) : Within 0 65535 (applyV l ws r) := by
  induction r generalizing ws with
  | nil => exact h
  | cons y r ih => exact ih (opV_within h)
theorem within_of_imageFault {l ws : List Int} (h : imageFault l ws = 0) : (ws.length : Int) = sumI l ∧ Within 0 65535 ws := by
  unfold imageFault at h
  split at h
  · contradiction
  · refine ⟨by omega, fun x hx => ?_⟩
    have := firstBad_all h x hx
    simp only [wordBad, outB, decide_eq_true_eq] at this
    split at this
    · contradiction
    · omega
/-- an operation that is right -/
structure OpOk (l : List Int) (x : FOp) : Prop where
  kind : x.k = 1 ∨ x.k = 2
  er : x.k = 1 → 0 ≤ x.a ∧ x.a < l.length
  pr : x.k = 2 → 0 ≤ x.a ∧ x.a < sumI l ∧ 0 ≤ x.v ∧ x.v ≤ 65535
theorem ok_of_opsFault {l : List Int} {xs : List FOp} (h : opsFault l xs = 0) : xs.length ≤ 50000 ∧ ∀ x ∈ xs, OpOk l x := by
  unfold opsFault at h
  split at h
  · contradiction
  · refine ⟨by omega, fun x hx => ?_⟩
    have := firstBad_all h x hx
    simp only [opFault, outB, decide_eq_true_eq] at this
    split at this
    · rename_i h1
      split at this
      · contradiction
      · exact ⟨.inl h1, fun _ => by omega, fun h2 => by omega⟩
    · split at this
      · rename_i h1 h2
        split at this
        · contradiction
        · split at this
          · contradiction
          · exact ⟨.inr h2, fun h3 => by omega, fun _ => by omega⟩
      · contradiction

/-- what is wrong with a memory, words and operations -/
def applyFault (l ws : List Int) (xs : List FOp) : Int := firstBad (fun x => x) [checkImage l ws, checkOps l xs]
def applyR (l ws : List Int) (xs : List FOp) : List Int := if applyFault l ws xs = 0 then applyV l ws xs else []
theorem applyFault_ok {l ws : List Int} {xs : List FOp} (h : applyFault l ws xs = 0) : FlashOk l ∧ (ws.length : Int) = sumI l ∧ Within 0 65535 ws ∧ xs.length ≤ 50000 ∧ ∀ x ∈ xs, OpOk l x := by
  have h1 := firstBad_all h (checkImage l ws) (by simp)
  have h2 := firstBad_all h (checkOps l xs) (by simp)
  unfold checkImage at h1
  unfold checkOps at h2
  split at h1
  · rename_i h0
    rw [if_pos h0] at h2
    have h3 := within_of_imageFault h1
    have h4 := ok_of_opsFault h2
    exact ⟨flashFault_ok h0, h3.1, h3.2, h4.1, h4.2⟩
  · contradiction
end Go.Proofs.Ytmnhlfkphibhfaa
/-
  Write cycles of a flash memory as plain functions: those of operations, those that a stream makes, and what a memory does at them. No program stands in this text.
-/
namespace Go.Proofs.Ytmnhlfkphibhfaa

abbrev Cyc := Int × Int
def c0 : Cyc := (0, 0)
def key : List Cyc := [(1365, 170), (682, 85)]
def seqV (l : List Int) (x : FOp) : List Cyc := if x.k = 2 then key ++ [(1365, 160), (x.a, x.v)] else key ++ [(1365, 128)] ++ key ++ [(pre l x.a.toNat, 48)]
def seqsV (l : List Int) (os : List FOp) : List Cyc := os.flatMap (seqV l)
def cycN : List FOp → Int
  | [] => 0
  | x :: r => (if x.k = 1 then 6 else 4) + cycN r
theorem cycN_bd (os : List FOp) : 0 ≤ cycN os ∧ cycN os ≤ 6 * os.length := by
  induction os with
  | nil => simp [cycN]
  | cons y os ih => simp only [cycN, List.length_cons]; split <;> omega
theorem seqsV_len (l : List Int) (os : List FOp) : (seqsV l os).length ≤ 6 * os.length := by
  induction os with
  | nil => simp [seqsV]
  | cons y os ih =>
    have h1 : (seqV l y).length ≤ 6 := by unfold seqV; split <;> simp [key]
    simp only [seqsV, List.flatMap_cons, List.length_append, List.length_cons] at ih ⊢
    omega
def cyclesFault (l : List Int) (os : List FOp) : Int := if checkOps l os ≠ 0 then checkOps l os else if 50000 < cycN os then 12 else 0
def cyclesR (l : List Int) (os : List FOp) : List Cyc := if cyclesFault l os = 0 then seqsV l os else []
/-- whether a cycle is the one that the place in a sequence asks for -/
def fitsV (n pl : Nat) (c : Cyc) : Bool :=
  if pl = 0 ∨ pl = 3 then c == (1365, 170) else if pl = 1 ∨ pl = 4 then c == (682, 85) else if pl = 2 then c == (1365, 160) || c == (1365, 128)
  else if pl = 5 then c.2 == 48 && decide (c.1 < n) else decide (c.1 < n)
def takeV (l : List Int) (s : Nat × List Int) (c : Cyc) : Bool × Nat × List Int :=
  if c.2 = 240 ∧ s.1 ≠ 9 then (true, 0, s.2) else if fitsV s.2.length s.1 c = false then (false, 0, s.2)
  else if s.1 = 9 then (true, 0, s.2.set c.1.toNat (andI (s.2.getD c.1.toNat 0) c.2)) else if s.1 = 5 then (true, 0, eraseV l s.2 (secOf l c.1))
  else if s.1 = 2 ∧ c.2 = 160 then (true, 9, s.2) else (true, s.1 + 1, s.2)
def driveTo (l ws : List Int) (cs : List Cyc) : Nat → (Nat × List Int) × List Int
  | 0 => ((0, ws), [])
  | k + 1 => ((takeV l (driveTo l ws cs k).1 (cs.getD k c0)).2, (driveTo l ws cs k).2 ++ if (takeV l (driveTo l ws cs k).1 (cs.getD k c0)).1 = true then [] else [(k : Int)])
def cycBad (c : Cyc) : Int := if outB c.1 0 65535 = true then 1 else if outB c.2 0 65535 = true then 1 else 0
def cyclesBad (cs : List Cyc) : Int := if 50000 < cs.length then 2 else firstBad cycBad cs
def driveFault (l ws : List Int) (cs : List Cyc) : Int := if checkImage l ws ≠ 0 then checkImage l ws else cyclesBad cs
def driveR (l ws : List Int) (cs : List Cyc) : List Int × List Int := if driveFault l ws cs = 0 then ((driveTo l ws cs cs.length).1.2, (driveTo l ws cs cs.length).2) else ([], [])
theorem takeV_prog {l ws : List Int} {c : Cyc} (hw : (ws.length : Int) = sumI l) (hc : 0 ≤ c.1) : takeV l (9, ws) c = if isAddr l c.1 = true then (true, 0, ws.set c.1.toNat (andI (ws.getD c.1.toNat 0) c.2)) else (false, 0, ws) := by
  have e : fitsV ws.length 9 c = isAddr l c.1 := by
    unfold fitsV isAddr outB
    simp
    by_cases h : c.1 < (ws.length : Int)
    · simp [h]; omega
    · simp [h]; omega
  unfold takeV
  simp only [e]
  rw [if_neg (by simp)]
  cases isAddr l c.1 <;> simp
theorem takeV_era {l ws : List Int} {c : Cyc} (hw : (ws.length : Int) = sumI l) (hc : 0 ≤ c.1) (h : c.2 ≠ 240) : takeV l (5, ws) c = if c.2 = 48 ∧ isAddr l c.1 = true then (true, 0, eraseV l ws (secOf l c.1)) else (false, 0, ws) := by
  have e : fitsV ws.length 5 c = (c.2 == 48 && isAddr l c.1) := by
    unfold fitsV isAddr outB
    simp
    by_cases h : c.1 < (ws.length : Int)
    · simp [h]; intro _; omega
    · simp [h]; intro _; omega
  unfold takeV
  simp only [e]
  rw [if_neg (by simp [h])]
  by_cases h48 : c.2 = 48
  · cases isAddr l c.1 <;> simp [h48]
  · simp [h48]
end Go.Proofs.Ytmnhlfkphibhfaa
/-
  Plans as a plain function. No program stands in this text.
-/
namespace Go.Proofs.Ytmnhlfkphibhfaa

/-- a word that lacks a bit -/
def lackI (n w : Int) : Bool := !(andI n w == w)
def lackTo (now want : List Int) (a m : Nat) : Bool := (List.range m).any fun j => lackI (now.getD (a + j) 0) (want.getD (a + j) 0)
theorem lackTo_succ (now want : List Int) (a m : Nat) : lackTo now want a (m + 1) = (lackTo now want a m || lackI (now.getD (a + m) 0) (want.getD (a + m) 0)) := by
  simp [lackTo, List.range_succ]
theorem lackTo_hit {now want : List Int} {a m n : Nat} (h : m < n) (hl : lackI (now.getD (a + m) 0) (want.getD (a + m) 0) = true) : lackTo now want a n = true := by
  simp only [lackTo, List.any_eq_true, List.mem_range]
  exact ⟨m, h, hl⟩
def progTo (now want : List Int) (a : Nat) : Nat → List FOp
  | 0 => []
  | m + 1 => progTo now want a m ++ (if now.getD (a + m) 0 = want.getD (a + m) 0 then [] else [⟨2, ((a + m : Nat) : Int), want.getD (a + m) 0⟩])
theorem progTo_same {now want : List Int} {a m : Nat} (h : now.getD (a + m) 0 = want.getD (a + m) 0) : progTo now want a (m + 1) = progTo now want a m := by
  simp only [progTo]; rw [if_pos h, List.append_nil]
theorem progTo_diff {now want : List Int} {a m : Nat} (h : now.getD (a + m) 0 ≠ want.getD (a + m) 0) : progTo now want a (m + 1) = progTo now want a m ++ [⟨2, ((a + m : Nat) : Int), want.getD (a + m) 0⟩] := by
  simp only [progTo]; rw [if_neg h]
theorem progTo_len (now want : List Int) (a m : Nat) : (progTo now want a m).length ≤ m := by
  induction m with
  | zero => simp [progTo]
  | succ m ih => simp only [progTo, List.length_append]; split <;> simp <;> omega
/-- what is done to sector s: the words then, and the operations -/
def planNow (l now want : List Int) (s : Nat) : List Int := if lackTo now want (pre l s).toNat ((pre l (s + 1)).toNat - (pre l s).toNat) = true then eraseV l now s else now
def planOps (l now want : List Int) (s : Nat) : List FOp :=
  (if lackTo now want (pre l s).toNat ((pre l (s + 1)).toNat - (pre l s).toNat) = true then [⟨1, (s : Int), 0⟩] else []) ++ progTo (planNow l now want s) want (pre l s).toNat ((pre l (s + 1)).toNat - (pre l s).toNat)
def planTo (l now want : List Int) : Nat → List FOp × List Int
  | 0 => ([], now)
  | s + 1 => ((planTo l now want s).1 ++ planOps l (planTo l now want s).2 want s, planNow l (planTo l now want s).2 want s)
theorem planNow_len (l now want : List Int) (s : Nat) : (planNow l now want s).length = now.length := by unfold planNow; split <;> simp [eraseV_len]
theorem planTo_len (l now want : List Int) (s : Nat) : (planTo l now want s).2.length = now.length := by
  induction s with
  | zero => rfl
  | succ s ih => simp only [planTo]; rw [planNow_len, ih]
theorem planNow_within {l now want : List Int} (h : Within 0 65535 now) (s : Nat) : Within 0 65535 (planNow l now want s) := by
  unfold planNow; split
  · exact eraseV_within h
  · exact h
theorem planTo_within {l now want : List Int} (h : Within 0 65535 now) (s : Nat) : Within 0 65535 (planTo l now want s).2 := by
  induction s with
  | zero => exact h
  | succ s ih => exact planNow_within ih s
theorem planOps_len {l : List Int} (hv : Within 1 4096 l) (now want : List Int) (s : Nat) : ((planOps l now want s).length : Int) ≤ 1 + (pre l (s + 1) - pre l s) := by
  have h1 := progTo_len (planNow l now want s) want (pre l s).toNat ((pre l (s + 1)).toNat - (pre l s).toNat)
  have h2 := pre_mono hv (show s ≤ s + 1 by omega)
  have h3 := pre_mono hv (show 0 ≤ s by omega)
  rw [pre_zero] at h3
  unfold planOps
  rw [List.length_append]
  split <;> simp only [List.length_singleton, List.length_nil] <;> omega
theorem planTo_ops_len {l : List Int} (hv : Within 1 4096 l) (now want : List Int) (s : Nat) : ((planTo l now want s).1.length : Int) ≤ s + pre l s := by
  induction s with
  | zero => simp [planTo, pre_zero]
  | succ s ih =>
    have := planOps_len hv (planTo l now want s).2 want s
    simp only [planTo, List.length_append]
    omega
def planFault (l now want : List Int) : Int := firstBad (fun x => x) [checkImage l now, checkImage l want]
def planR (l now want : List Int) : List FOp := if planFault l now want = 0 then (planTo l now want l.length).1 else []
theorem planFault_ok {l now want : List Int} (h : planFault l now want = 0) : FlashOk l ∧ ((now.length : Int) = sumI l ∧ Within 0 65535 now) ∧ (want.length : Int) = sumI l ∧ Within 0 65535 want := by
  have h1 := firstBad_all h (checkImage l now) (by simp)
  have h2 := firstBad_all h (checkImage l want) (by simp)
  unfold checkImage at h1 h2
  split at h1
  · rename_i h0
    rw [if_pos h0] at h2
    exact ⟨flashFault_ok h0, within_of_imageFault h1, within_of_imageFault h2⟩
  · contradiction
end Go.Proofs.Ytmnhlfkphibhfaa
/-
  Bits of ints that are not negative: 'and not' against the words of a plan.
-/
namespace Go.Proofs.Ytmnhlfkphibhfaa
theorem bv_andNot (A B : BitVec 64) : A &&& ~~~B = 0#64 ↔ B &&& A = A := by
  constructor
  · intro h
    ext i hi
    have := congrArg (fun x => x.getLsbD i) h
    simp [hi] at this ⊢
    intro ha
    cases hb : B[i] <;> simp_all
  · intro h
    ext i hi
    have := congrArg (fun x => x.getLsbD i) h
    simp [hi] at this ⊢
    intro ha
    exact this ha
theorem ofInt_nat64' (a : Nat) (ha : a < 9223372036854775808) : (BitVec.ofInt 64 (a : Int)).toNat = a := by
  rw [BitVec.ofInt_natCast, BitVec.toNat_ofNat]; exact Nat.mod_eq_of_lt (by omega)
theorem andNot_lack {n w : Int} (hn0 : 0 ≤ n) (hn : n ≤ 65535) (hw0 : 0 ≤ w) (hw : w ≤ 65535) : (bits .andNot .i64 w n != 0) = lackI n w := by
  obtain ⟨N, rfl⟩ := Int.eq_ofNat_of_zero_le hn0
  obtain ⟨W, rfl⟩ := Int.eq_ofNat_of_zero_le hw0
  have e : bits .andNot .i64 (W : Int) (N : Int) = IntKind.i64.wrap ((BitVec.ofInt 64 (W : Int) &&& ~~~BitVec.ofInt 64 (N : Int)).toNat : Int) := rfl
  have hb := bv_andNot (BitVec.ofInt 64 (W : Int)) (BitVec.ofInt 64 (N : Int))
  have hle : (BitVec.ofInt 64 (W : Int) &&& ~~~BitVec.ofInt 64 (N : Int)).toNat ≤ W := by
    rw [BitVec.toNat_and, ofInt_nat64' W (by omega)]; exact Nat.and_le_left
  rw [e, IntKind.wrap_i64]
  have h2 : (BitVec.ofInt 64 (N : Int) &&& BitVec.ofInt 64 (W : Int) = BitVec.ofInt 64 (W : Int)) ↔ N &&& W = W := by
    rw [← BitVec.toNat_inj, BitVec.toNat_and, ofInt_nat64' W (by omega), ofInt_nat64' N (by omega)]
  rw [h2] at hb
  have h3 : (BitVec.ofInt 64 (W : Int) &&& ~~~BitVec.ofInt 64 (N : Int) = 0#64) ↔ (BitVec.ofInt 64 (W : Int) &&& ~~~BitVec.ofInt 64 (N : Int)).toNat = 0 := by
    rw [← BitVec.toNat_inj]; simp
  rw [h3] at hb
  generalize (BitVec.ofInt 64 (W : Int) &&& ~~~BitVec.ofInt 64 (N : Int)).toNat = r at *
  unfold lackI andI
  simp only [Int.toNat_natCast]
  rw [Bool.eq_iff_iff]
  simp only [bne_iff_ne, ne_eq, Bool.not_eq_true', beq_eq_false_iff_ne]
  constructor
  · intro h h4
    have h5 : N &&& W = W := by exact_mod_cast h4
    have := hb.2 h5
    omega
  · intro h h4
    apply h
    have h5 : r = 0 := by omega
    rw [hb.1 h5]
end Go.Proofs.Ytmnhlfkphibhfaa
/-
  Two statements at once that lead to one state; a nil slice among the arguments.
-/
namespace Go.Proofs.Ytmnhlfkphibhfaa
open Go.RowKit
set_option linter.unusedVariables false
set_option linter.unusedSimpArgs false
variable {P : Program}
variable {f : Nat} {as as' : List PV} {Hs : Heap} {nid : Nat} {r : PV} {u : Heap}
theorem firstBad2 (a b : Int) : firstBad (fun x : Int => x) [a, b] = if a = 0 then b else a := by
  simp only [firstBad]
  split
  · rename_i h; split
    · rename_i h2; exact h2.symm
    · rfl
  · rfl
end Go.Proofs.Ytmnhlfkphibhfaa
/-
  A run shows more where its end asks less; loops that are run round by round.
-/
namespace Go.Proofs.Ytmnhlfkphibhfaa
open Go.RowKit
set_option linter.unusedVariables false
set_option linter.unusedSimpArgs false
variable {P : Program}
theorem bindStep_mono {s : Step} {K K' : PV → Heap → Prop} (h : ∀ v u, K v u → K' v u) (k : bindStep s K) : bindStep s K' := by
  unfold bindStep at k ⊢
  split at k
  · exact ⟨k.1, h _ _ k.2⟩
  · exact k.elim
theorem onBool_mono {p : PV} {K K' : Bool → Prop} (h : ∀ b, K b → K' b) (k : onBool p K) : onBool p K' := by
  unfold onBool at k ⊢
  split at k
  · exact h _ k
  · exact k.elim
theorem onGrd_mono {p : PV} {K K' : Bool → Prop} {Z Z' : Unit → Prop} (h : ∀ b, K b → K' b) (hz : Z () → Z' ()) (k : onGrd p K Z) : onGrd p K' Z' := by
  unfold onGrd at k ⊢
  split at k
  · exact h _ k
  · exact hz k
  · exact k.elim
theorem split2_mono {b : Bool} {X X' Y Y' : Unit → Prop} (h1 : X () → X' ()) (h2 : Y () → Y' ()) (k : split2 b X Y) : split2 b X' Y' := ⟨fun h => h1 (k.1 h), fun h => h2 (k.2 h)⟩
theorem onFn_mono {p : PV} {K K' : Nat → List PV → Prop} (h : ∀ f c, K f c → K' f c) (k : onFn p K) : onFn p K' := by
  unfold onFn at k ⊢
  split at k
  · exact h _ _ k
  · exact k.elim
theorem CallX_mono {f : Nat} {as : List PV} {H : Heap} {n : Nat} {K K' : PV → Heap → List Nat → Prop} (h : ∀ v u r, K v u r → K' v u r) (k : CallX P f as H n K) : CallX P f as H n K' := by
  obtain ⟨L, F, Hs, r, u, h1, h2, h3, h4, h5⟩ := k
  exact ⟨L, F, Hs, r, u, h1, h2, h3, h4, h _ _ _ h5⟩
theorem CallOK_mono {f : Nat} {as : List PV} {H : Heap} {n : Nat} {K K' : PV → Heap → Prop} (h : ∀ v u, K v u → K' v u) (k : CallOK P f as H n K) : CallOK P f as H n K' := by
  obtain ⟨G, k⟩ := k
  exact ⟨G, CallX_mono (fun v u r hk nl => h _ _ (hk nl)) k⟩
theorem runOp_mono {s : Slots} {H : Heap} {n : Nat} {K K' : PV → Heap → Prop} (h : ∀ v u, K v u → K' v u) (op : AOp) (k : runOp P s H n K op) : runOp P s H n K' op := by
  cases op <;> simp only [runOp] at k ⊢ <;> first
    | exact bindStep_mono h k
    | exact CallOK_mono h k
    | exact onFn_mono (fun f c hk => CallOK_mono h hk) k
theorem runOps_mono : ∀ (l : List AIn) (s : Slots) (H : Heap) (n : Nat) {K K' : Slots → Heap → Nat → Prop}, (∀ s H n, K s H n → K' s H n) → runOps P l s H n K → runOps P l s H n K'
  | [], s, H, n, K, K', h, k => h _ _ _ k
  | ⟨d, none, op⟩ :: l, s, H, n, K, K', h, k => by
    simp only [runOps] at k ⊢
    exact runOp_mono (fun v u hk => runOps_mono l _ _ _ h hk) op k
  | ⟨d, some (j, true), op⟩ :: l, s, H, n, K, K', h, k => by
    simp only [runOps] at k ⊢
    exact onGrd_mono (fun b hk => split2_mono (fun hk => runOp_mono (fun v u hk => runOps_mono l _ _ _ h hk) op hk) (fun hk => runOps_mono l _ _ _ h hk) hk) (fun hk => runOps_mono l _ _ _ h hk) k
  | ⟨d, some (j, false), op⟩ :: l, s, H, n, K, K', h, k => by
    simp only [runOps] at k ⊢
    exact onGrd_mono (fun b hk => split2_mono (fun hk => runOps_mono l _ _ _ h hk) (fun hk => runOp_mono (fun v u hk => runOps_mono l _ _ _ h hk) op hk) hk) (fun hk => runOps_mono l _ _ _ h hk) k
theorem opX_mono {s : Slots} {H : Heap} {n : Nat} {K K' : PV → Heap → List Nat → Prop} (h : ∀ v u r, K v u r → K' v u r) (op : AOp) (k : opX P s H n K op) : opX P s H n K' op := by
  cases op with
  | call f args => simp only [opX] at k ⊢; exact CallX_mono (fun v u r hk => And.intro hk.1 (h _ _ _ hk.2)) k
  | callv x args => simp only [opX] at k ⊢; exact onFn_mono (fun f c hk => CallX_mono (fun v u r hk => And.intro hk.1 (h _ _ _ hk.2)) hk) k
  | _ => simp only [opX] at k ⊢; exact bindStep_mono (fun v u hk => h _ _ _ hk) k
theorem runAny_mono : ∀ (l : List (AIn × List Nat)) (recs : List Rec1) (s : Slots) (H : Heap) (n : Nat) {K K' : Slots → Heap → Nat → Prop}, (∀ s H n, K s H n → K' s H n) → runAny P l recs s H n K → runAny P l recs s H n K'
  | [], recs, s, H, n, K, K', h, k => h _ _ _ k
  | (⟨d, none, op⟩, fr) :: l, recs, s, H, n, K, K', h, k => by
    simp only [runAny] at k ⊢
    exact opX_mono (fun v u r hk => ⟨hk.1, runAny_mono l _ _ _ _ h hk.2⟩) op k
  | (⟨d, some (j, true), op⟩, fr) :: l, recs, s, H, n, K, K', h, k => by
    simp only [runAny] at k ⊢
    exact onGrd_mono (fun b hk => split2_mono (fun hk => opX_mono (fun v u r hk => ⟨hk.1, runAny_mono l _ _ _ _ h hk.2⟩) op hk) (fun hk => ⟨hk.1, runAny_mono l _ _ _ _ h hk.2⟩) hk) (fun hk => ⟨hk.1, runAny_mono l _ _ _ _ h hk.2⟩) k
  | (⟨d, some (j, false), op⟩, fr) :: l, recs, s, H, n, K, K', h, k => by
    simp only [runAny] at k ⊢
    exact onGrd_mono (fun b hk => split2_mono (fun hk => ⟨hk.1, runAny_mono l _ _ _ _ h hk.2⟩) (fun hk => opX_mono (fun v u r hk => ⟨hk.1, runAny_mono l _ _ _ _ h hk.2⟩) op hk) hk) (fun hk => ⟨hk.1, runAny_mono l _ _ _ _ h hk.2⟩) k
theorem run_mono : ∀ (c : ACode) (st : ST) {Q Q' : AEx → ST → Prop}, (∀ e s, Q e s → Q' e s) → run P c st Q → run P c st Q'
  | .skip, st, Q, Q', h, k => h _ _ k
  | .ops l, st, Q, Q', h, k => runOps_mono l _ _ _ (fun s H n hk => h _ _ hk) k
  | .any l, st, Q, Q', h, k => runAny_mono l _ _ _ _ (fun s H n hk => h _ _ hk) k
  | .seq a b, st, Q, Q', h, k => run_mono a st (fun e s hk => by
      cases e
      · exact run_mono b s h hk
      · exact h _ _ hk
      · exact h _ _ hk) k
  | .cond x a b, st, Q, Q', h, k => onBool_mono (fun c hk => split2_mono (fun hk => run_mono a st h hk) (fun hk => run_mono b st h hk) hk) k
  | .block id c, st, Q, Q', h, k => run_mono c st (fun e s hk => by
      cases e with
      | normal => exact h _ _ hk
      | ret => exact h _ _ hk
      | exit i =>
        simp only [blockK] at hk ⊢
        cases hi : (i == id) <;> simp only [hi, cond_true, cond_false] at hk ⊢
        · exact h _ _ hk
        · exact h _ _ hk) k
  | .loop c, st, Q, Q', h, k => by
    obtain ⟨ι, I, μ, x, h1, h2⟩ := k
    exact ⟨ι, I, μ, x, h1, fun y => run_mono c _ (fun e s hk => by
      cases e
      · exact hk
      · exact h _ _ hk
      · exact h _ _ hk) (h2 y)⟩
  | .exit i, st, Q, Q', h, k => h _ _ k
  | .ret, st, Q, Q', h, k => h _ _ k
theorem LN_succ (c : ACode) (k : Nat) (st : ST) (Q : AEx → ST → Prop) : LN P c (k + 1) st Q = Run P c st (loopK (fun s => LN P c k s Q) Q) .mk := rfl
/-- a loop of at most k rounds -/
theorem LP.rounds (k : Nat) {c : ACode} {st : ST} {Q : AEx → ST → Prop} {t : Tag Q} (h : LN P c k st Q) : LP P c st Q t :=
  LP.mk (ι := {x : Nat × ST // LN P c x.1 x.2 Q}) (fun x => x.1.2) (fun x => x.1.1) ⟨(k, st), h⟩ (Cov.refl st) (fun x => by
    obtain ⟨⟨n, s⟩, hx⟩ := x
    cases n with
    | zero => exact hx.elim
    | succ n =>
      have hx' : Run P c s (loopK (fun s => LN P c n s Q) Q) .mk := hx
      rw [Run_eq] at hx' ⊢
      refine run_mono c s (fun e s' hk => ?_) hx'
      cases e
      · exact ⟨⟨(n, s'), hk⟩, Nat.lt_succ_self _, Cov.refl _⟩
      · exact hk
      · exact hk)
end Go.Proofs.Ytmnhlfkphibhfaa
/-
  What a plan does to the words: they become those that are wanted, also by the plan's cycles. No program stands in this text.
-/
namespace Go.Proofs.Ytmnhlfkphibhfaa

/-- what an operation does to the word at i -/
def locV (l : List Int) (i : Nat) (v : Int) (x : FOp) : Int :=
  if x.k = 1 then (if pre l x.a.toNat ≤ i ∧ (i : Int) < pre l (x.a.toNat + 1) then 65535 else v) else if x.a.toNat = i then andI v x.v else v
theorem opV_get (l ws : List Int) (x : FOp) {i : Nat} (hi : i < ws.length) : (opV l ws x).getD i 0 = locV l i (ws.getD i 0) x := by
  unfold opV locV
  simp only [List.getD_eq_getElem?_getD]
  split
  · rw [eraseV_get l ws _ (List.getElem?_eq_getElem hi), List.getElem?_eq_getElem hi]
    rfl
  · rw [List.getElem?_set]
    split
    · rename_i h; subst h; simp [hi]
    · rfl
theorem applyV_get (l : List Int) {i : Nat} : ∀ (r : List FOp) (ws : List Int), i < ws.length → (applyV l ws r).getD i 0 = r.foldl (locV l i) (ws.getD i 0)
  | [], ws, h => rfl
  | x :: r, ws, h => by
    show (applyV l (opV l ws x) r).getD i 0 = r.foldl (locV l i) (locV l i (ws.getD i 0) x)
    rw [applyV_get l r _ (by rw [opV_len]; exact h), opV_get l ws x h]
/-- the operations that concern the word at i -/
def touches (l : List Int) (i : Nat) (x : FOp) : Bool :=
  if x.k = 1 then decide (pre l x.a.toNat ≤ i ∧ (i : Int) < pre l (x.a.toNat + 1)) else x.a.toNat == i
theorem locV_miss {l : List Int} {i : Nat} {x : FOp} (h : touches l i x = false) (v : Int) : locV l i v x = v := by
  unfold touches at h
  unfold locV
  split at h
  · rename_i h1
    rw [if_pos h1, if_neg (by simpa using h)]
  · rename_i h1
    rw [if_neg h1, if_neg (by simpa using h)]
theorem foldl_touch (l : List Int) (i : Nat) : ∀ (r : List FOp) (v : Int), r.foldl (locV l i) v = (r.filter (touches l i)).foldl (locV l i) v
  | [], v => rfl
  | x :: r, v => by
    cases h : touches l i x
    · rw [List.filter_cons_of_neg (by simp [h]), List.foldl_cons, locV_miss h]; exact foldl_touch l i r v
    · rw [List.filter_cons_of_pos h, List.foldl_cons, List.foldl_cons]; exact foldl_touch l i r _
theorem and_ones {w : Int} (h : 0 ≤ w ∧ w ≤ 65535) : andI 65535 w = w := by
  unfold andI
  rw [Nat.and_comm]
  have : (65535 : Int).toNat = 2 ^ 16 - 1 := by decide
  rw [this, Nat.and_two_pow_sub_one_eq_mod]
  omega
theorem and_self' {w : Int} (h : 0 ≤ w) : andI w w = w := by
  unfold andI
  rw [Nat.and_self]
  omega
theorem lack_same {w : Int} (h : 0 ≤ w) : lackI w w = false := by unfold lackI; rw [and_self' h]; simp
/-- the operations of sector s that concern the word at a + j -/
theorem prog_filter {l now want : List Int} {a i : Nat} : ∀ m, (progTo now want a m).filter (touches l i) = if a ≤ i ∧ i < a + m ∧ now.getD i 0 ≠ want.getD i 0 then [⟨2, (i : Int), want.getD i 0⟩] else []
  | 0 => by rw [if_neg (by omega)]; rfl
  | m + 1 => by
    have ih := prog_filter (l := l) (now := now) (want := want) (a := a) (i := i) m
    have ht : touches l i ⟨2, ((a + m : Nat) : Int), want.getD (a + m) 0⟩ = (a + m == i) := by
      unfold touches
      rw [if_neg (by simp), Int.toNat_natCast]
    by_cases hne : now.getD (a + m) 0 = want.getD (a + m) 0
    · rw [progTo_same hne, ih]
      by_cases hi : i = a + m
      · subst hi
        rw [if_neg (by omega), if_neg (fun h => h.2.2 hne)]
      · by_cases hc : a ≤ i ∧ i < a + m ∧ now.getD i 0 ≠ want.getD i 0
        · rw [if_pos hc, if_pos ⟨hc.1, by omega, hc.2.2⟩]
        · rw [if_neg hc, if_neg (fun h => hc ⟨h.1, by omega, h.2.2⟩)]
    · rw [progTo_diff hne, List.filter_append, ih]
      by_cases hi : i = a + m
      · subst hi
        rw [if_neg (by omega), if_pos ⟨by omega, by omega, hne⟩, List.filter_cons_of_pos (by rw [ht]; simp)]
        rfl
      · rw [List.filter_cons_of_neg (by rw [ht]; simp; omega)]
        by_cases hc : a ≤ i ∧ i < a + m ∧ now.getD i 0 ≠ want.getD i 0
        · rw [if_pos hc, if_pos ⟨hc.1, by omega, hc.2.2⟩]; rfl
        · rw [if_neg hc, if_neg (fun h => hc ⟨h.1, by omega, h.2.2⟩)]; rfl
/-- what a plan does to sector s: whether it is erased -/
def lackS (l now want : List Int) (s : Nat) : Bool := lackTo now want (pre l s).toNat ((pre l (s + 1)).toNat - (pre l s).toNat)
theorem planNow_get {l now want : List Int} {s i : Nat} (hi : i < now.length) : (planNow l now want s).getD i 0 = if lackS l now want s = true ∧ pre l s ≤ i ∧ (i : Int) < pre l (s + 1) then 65535 else now.getD i 0 := by
  unfold planNow
  show (if lackS l now want s = true then eraseV l now s else now).getD i 0 = _
  by_cases h : lackS l now want s = true
  · rw [if_pos h, List.getD_eq_getElem?_getD, eraseV_get l now s (List.getElem?_eq_getElem hi), List.getD_eq_getElem?_getD, List.getElem?_eq_getElem hi]
    simp only [h, true_and]
    rfl
  · rw [if_neg h, if_neg (fun k => h k.1)]
/-- before sector s is planned, its words are as they were -/
theorem planTo_now {l now want : List Int} (hv : Within 1 4096 l) {i : Nat} (hi : i < now.length) : ∀ s, pre l s ≤ i → (planTo l now want s).2.getD i 0 = now.getD i 0
  | 0, _ => rfl
  | s + 1, h => by
    show (planNow l (planTo l now want s).2 want s).getD i 0 = _
    have hm := pre_mono hv (show s ≤ s + 1 by omega)
    rw [planNow_get (by rw [planTo_len]; exact hi), if_neg (by omega)]
    exact planTo_now hv hi s (by omega)
theorem lackTo_congr {now now' want : List Int} {a : Nat} : ∀ m, (∀ j, j < m → now.getD (a + j) 0 = now'.getD (a + j) 0) → lackTo now want a m = lackTo now' want a m
  | 0, _ => rfl
  | m + 1, h => by rw [lackTo_succ, lackTo_succ, lackTo_congr m (fun j hj => h j (by omega)), h m (by omega)]
theorem lackS_now {l now want : List Int} (hv : Within 1 4096 l) (hn : (now.length : Int) = sumI l) (s : Nat) : lackS l (planTo l now want s).2 want s = lackS l now want s := by
  have h0 := pre_mono hv (show 0 ≤ s by omega)
  have h1 := pre_mono hv (show s ≤ s + 1 by omega)
  have h2 := pre_le hv (s + 1)
  rw [pre_zero] at h0
  unfold lackS
  refine lackTo_congr _ fun j hj => ?_
  exact planTo_now hv (by omega) s (by omega)
/-- the plan's operations that concern the word at i of sector t -/
def relOps (l now want : List Int) (t i : Nat) : List FOp :=
  (if lackS l now want t = true then [⟨1, (t : Int), 0⟩] else []) ++ (if (if lackS l now want t = true then 65535 else now.getD i 0) ≠ want.getD i 0 then [⟨2, (i : Int), want.getD i 0⟩] else [])
theorem touches_erase {l : List Int} (hv : Within 1 4096 l) {t i s : Nat} (ht : IsSec l i t) (hs : s < l.length) (z : Int) : touches l i ⟨1, (s : Int), z⟩ = (s == t) := by
  unfold touches
  rw [if_pos rfl, Int.toNat_natCast]
  by_cases h : s = t
  · subst h
    simp only [ht.2.1, ht.2.2, and_self, decide_true, beq_self_eq_true]
  · rw [show (s == t) = false from by simpa using h]
    simp only [decide_eq_false_iff_not]
    intro hc
    exact h (isSec_unique hv ⟨hs, hc.1, hc.2⟩ ht)
theorem planTo_rel {l now want : List Int} (hv : Within 1 4096 l) (hn : (now.length : Int) = sumI l) {t i : Nat} (ht : IsSec l i t) : ∀ s, s ≤ l.length → (planTo l now want s).1.filter (touches l i) = if t < s then relOps l now want t i else []
  | 0, _ => by rw [if_neg (by omega)]; rfl
  | s + 1, hs => by
    have hi : i < now.length := by
      have := pre_le hv (t + 1)
      have := ht.2.2
      omega
    show ((planTo l now want s).1 ++ planOps l (planTo l now want s).2 want s).filter (touches l i) = _
    rw [List.filter_append, planTo_rel hv hn ht s (by omega)]
    have hp0 := pre_mono hv (show 0 ≤ s by omega)
    have hp1 := pre_mono hv (show s ≤ s + 1 by omega)
    rw [pre_zero] at hp0
    have hpo : (planOps l (planTo l now want s).2 want s).filter (touches l i) = if s = t then relOps l now want t i else [] := by
      unfold planOps
      show ((if lackS l (planTo l now want s).2 want s = true then [(⟨1, (s : Int), 0⟩ : FOp)] else []) ++ _).filter (touches l i) = _
      rw [List.filter_append, prog_filter, lackS_now hv hn, planNow_get (by rw [planTo_len]; exact hi), lackS_now hv hn]
      by_cases hst : s = t
      · subst hst
        rw [if_pos rfl, planTo_now hv hi s ht.2.1]
        have h1 := ht.2.1
        have h2 := ht.2.2
        unfold relOps
        have hx : ((pre l s).toNat ≤ i ∧ i < (pre l s).toNat + ((pre l (s + 1)).toNat - (pre l s).toNat)) := by omega
        have hy : (lackS l now want s = true ∧ pre l s ≤ (i : Int) ∧ (i : Int) < pre l (s + 1)) = (lackS l now want s = true) := by simp [h1, h2]
        simp only [hy]
        congr 1
        · by_cases hl : lackS l now want s = true
          · rw [if_pos hl, List.filter_cons_of_pos (by rw [touches_erase hv ht ht.1]; simp)]
            rfl
          · rw [if_neg hl]
            rfl
        · by_cases hc : (if lackS l now want s = true then 65535 else now.getD i 0) ≠ want.getD i 0
          · rw [if_pos hc, if_pos ⟨hx.1, hx.2, hc⟩]
          · rw [if_neg hc, if_neg (fun h => hc h.2.2)]
      · rw [if_neg hst]
        have hno : ¬ (pre l s ≤ (i : Int) ∧ (i : Int) < pre l (s + 1)) := fun h => hst (isSec_unique hv ⟨by omega, h.1, h.2⟩ ht)
        rw [if_neg (show ¬ ((pre l s).toNat ≤ i ∧ i < (pre l s).toNat + ((pre l (s + 1)).toNat - (pre l s).toNat) ∧ _) from fun h => hno (by omega)), List.append_nil]
        by_cases hl : lackS l now want s = true
        · rw [if_pos hl, List.filter_cons_of_neg (by rw [touches_erase hv ht (by omega)]; simpa using hst)]
          rfl
        · rw [if_neg hl]
          rfl
    rw [hpo]
    by_cases h1 : t < s
    · rw [if_pos h1, if_neg (by omega), if_pos (by omega), List.append_nil]
    · by_cases h2 : s = t
      · rw [if_neg h1, if_pos h2, if_pos (by omega)]; rfl
      · rw [if_neg h1, if_neg h2, if_neg (by omega)]; rfl
/-- where no word of a sector lacks a bit, each has those that are wanted -/
theorem lackS_no {l now want : List Int} (hv : Within 1 4096 l) {t i : Nat} (ht : IsSec l i t) (h : lackS l now want t = false) : andI (now.getD i 0) (want.getD i 0) = want.getD i 0 := by
  unfold lackS at h
  have h0 := pre_mono hv (show 0 ≤ t by omega)
  rw [pre_zero] at h0
  have h1 := ht.2.1
  have h2 := ht.2.2
  cases hl : lackI (now.getD i 0) (want.getD i 0) with
  | true =>
    have he : (pre l t).toNat + (i - (pre l t).toNat) = i := by omega
    rw [lackTo_hit (m := i - (pre l t).toNat) (by omega) (by rw [he]; exact hl)] at h
    exact absurd h (by simp)
  | false =>
    unfold lackI at hl
    simpa using hl
theorem rel_done {l now want : List Int} (hv : Within 1 4096 l) (hw : Within 0 65535 want) {t i : Nat} (ht : IsSec l i t) : (relOps l now want t i).foldl (locV l i) (now.getD i 0) = want.getD i 0 := by
  have hwi := getD_within hw i
  have hp : ∀ v : Int, andI v (want.getD i 0) = want.getD i 0 → (if v ≠ want.getD i 0 then [(⟨2, (i : Int), want.getD i 0⟩ : FOp)] else []).foldl (locV l i) v = want.getD i 0 := by
    intro v hv
    by_cases h : v = want.getD i 0
    · rw [if_neg (by simpa using h)]; exact h
    · rw [if_pos h, List.foldl_cons, List.foldl_nil]
      unfold locV
      rw [if_neg (by simp), if_pos (by simp), hv]
  unfold relOps
  by_cases hl : lackS l now want t = true
  · simp only [if_pos hl]
    have he : locV l i (now.getD i 0) ⟨1, (t : Int), 0⟩ = 65535 := by
      unfold locV
      rw [if_pos rfl, Int.toNat_natCast, if_pos ⟨ht.2.1, ht.2.2⟩]
    rw [List.singleton_append, List.foldl_cons, he]
    exact hp 65535 (and_ones hwi)
  · simp only [if_neg hl, List.nil_append]
    exact hp _ (lackS_no hv ht (by simpa using hl))
theorem eq_of_getD {a b : List Int} (hl : a.length = b.length) (h : ∀ i, i < a.length → a.getD i 0 = b.getD i 0) : a = b := by
  refine List.ext_getElem hl fun i h1 h2 => ?_
  have := h i h1
  rw [List.getD_eq_getElem?_getD, List.getD_eq_getElem?_getD, List.getElem?_eq_getElem h1, List.getElem?_eq_getElem h2] at this
  exact this
/-- after a plan the words are those that are wanted -/
theorem plan_arrives {l now want : List Int} (hv : Within 1 4096 l) (hn : (now.length : Int) = sumI l) (hm : (want.length : Int) = sumI l) (hw : Within 0 65535 want) : applyV l now (planTo l now want l.length).1 = want := by
  refine eq_of_getD (by rw [applyV_len]; omega) fun i hi => ?_
  rw [applyV_len] at hi
  have ht := secOf_is (l := l) (a := (i : Int)) (by omega) (by omega)
  rw [applyV_get l _ _ hi, foldl_touch, planTo_rel hv hn ht _ (Nat.le_refl _), if_pos ht.1]
  exact rel_done hv hw ht
theorem plan_same {l ws : List Int} (hv : Within 1 4096 l) (hn : (ws.length : Int) = sumI l) (hw : Within 0 65535 ws) : ∀ s, planTo l ws ws s = ([], ws)
  | 0 => rfl
  | s + 1 => by
    have hl : lackS l ws ws s = false := by
      unfold lackS
      generalize (pre l (s + 1)).toNat - (pre l s).toNat = m
      induction m with
      | zero => rfl
      | succ m ih => rw [lackTo_succ, ih, lack_same (getD_within hw _).1]; rfl
    have hn : planNow l ws ws s = ws := by
      unfold planNow
      exact if_neg (by show ¬ lackS l ws ws s = true; simp [hl])
    have hp : ∀ m, progTo ws ws (pre l s).toNat m = [] := by
      intro m
      induction m with
      | zero => rfl
      | succ m ih => rw [progTo_same rfl, ih]
    show ((planTo l ws ws s).1 ++ planOps l (planTo l ws ws s).2 ws s, planNow l (planTo l ws ws s).2 ws s) = _
    rw [plan_same hv (by assumption) hw s]
    simp only [hn]
    unfold planOps
    rw [hn, hp]
    show ([] ++ ((if lackS l ws ws s = true then _ else []) ++ []), ws) = _
    rw [if_neg (by simp [hl])]
    rfl
end Go.Proofs.Ytmnhlfkphibhfaa
/-
  The cycles of right operations do what the operations do; plans are right operations; none of a plan's operations can be left out. No program stands in this text.
-/
namespace Go.Proofs.Ytmnhlfkphibhfaa

def runC (l : List Int) (st : Nat × List Int) (cs : List Cyc) : Nat × List Int := cs.foldl (fun st c => (takeV l st c).2) st
def goodC (l : List Int) : Nat × List Int → List Cyc → Prop
  | _, [] => True
  | st, c :: r => (takeV l st c).1 = true ∧ goodC l (takeV l st c).2 r
theorem runC_append (l : List Int) (st : Nat × List Int) (a b : List Cyc) : runC l st (a ++ b) = runC l (runC l st a) b := List.foldl_append
theorem goodC_append (l : List Int) : ∀ (a b : List Cyc) (st : Nat × List Int), goodC l st (a ++ b) ↔ goodC l st a ∧ goodC l (runC l st a) b
  | [], b, st => by simp [goodC, runC]
  | c :: a, b, st => by
    show (_ ∧ goodC l _ (a ++ b)) ↔ (_ ∧ goodC l _ a) ∧ _
    rw [goodC_append l a b, and_assoc]
    rfl
theorem driveTo_run {l ws : List Int} {cs : List Cyc} : ∀ k, k ≤ cs.length → goodC l (0, ws) (cs.take k) → driveTo l ws cs k = (runC l (0, ws) (cs.take k), [])
  | 0, _, _ => rfl
  | k + 1, hk, hg => by
    have hs : cs.take (k + 1) = cs.take k ++ [cs.getD k c0] := take_snoc (by rw [List.getD_eq_getElem?_getD, List.getElem?_eq_getElem (show k < cs.length by omega)]; rfl)
    rw [hs, goodC_append] at hg
    rw [hs, runC_append]
    have ih := driveTo_run k (by omega) hg.1
    show ((takeV l (driveTo l ws cs k).1 (cs.getD k c0)).2, (driveTo l ws cs k).2 ++ if (takeV l (driveTo l ws cs k).1 (cs.getD k c0)).1 = true then [] else [(k : Int)]) = _
    rw [ih]
    have h1 : (takeV l (runC l (0, ws) (cs.take k)) (cs.getD k c0)).1 = true := hg.2.1
    simp only [h1, if_true]
    rfl
theorem key_run (l ws : List Int) : runC l (0, ws) key = (2, ws) ∧ goodC l (0, ws) key := by
  have h1 : takeV l (0, ws) (1365, 170) = (true, 1, ws) := by simp [takeV, fitsV]
  have h2 : takeV l (1, ws) (682, 85) = (true, 2, ws) := by simp [takeV, fitsV]
  simp [runC, key, goodC, h1, h2]
theorem key_run3 (l ws : List Int) : runC l (3, ws) key = (5, ws) ∧ goodC l (3, ws) key := by
  have h1 : takeV l (3, ws) (1365, 170) = (true, 4, ws) := by simp [takeV, fitsV]
  have h2 : takeV l (4, ws) (682, 85) = (true, 5, ws) := by simp [takeV, fitsV]
  simp [runC, key, goodC, h1, h2]
theorem pre_sec {l : List Int} (hv : Within 1 4096 l) {s : Nat} (hs : s < l.length) : IsSec l (pre l s) s := by
  have h := pre_succ (List.getElem?_eq_getElem hs)
  have := hv _ (List.getElem_mem hs)
  exact ⟨hs, by omega, by omega⟩
theorem seq_run {l ws : List Int} {x : FOp} (hv : Within 1 4096 l) (hw : (ws.length : Int) = sumI l) (hx : OpOk l x) : runC l (0, ws) (seqV l x) = (0, opV l ws x) ∧ goodC l (0, ws) (seqV l x) := by
  obtain ⟨k1, k2⟩ := key_run l ws
  obtain ⟨k3, k4⟩ := key_run3 l ws
  unfold seqV
  by_cases hk : x.k = 2
  · obtain ⟨h1, h2, h3, h4⟩ := hx.pr hk
    have e1 : takeV l (2, ws) (1365, 160) = (true, 9, ws) := by simp [takeV, fitsV]
    have e2 : takeV l (9, ws) (x.a, x.v) = (true, 0, opV l ws x) := by
      rw [takeV_prog hw h1, if_pos (by simp [isAddr, outB]; omega)]
      unfold opV
      rw [if_neg (by omega)]
    rw [if_pos hk, runC_append, goodC_append, k1]
    refine ⟨?_, k2, ?_⟩
    · show (takeV l (takeV l (2, ws) (1365, 160)).2 (x.a, x.v)).2 = _
      rw [e1, e2]
    · refine ⟨by rw [e1], ?_, trivial⟩
      rw [e1, e2]
  · have hk1 : x.k = 1 := by have := hx.kind; omega
    obtain ⟨h1, h2⟩ := hx.er hk1
    have hsec := pre_sec hv (show x.a.toNat < l.length by omega)
    have hp0 := pre_mono hv (show 0 ≤ x.a.toNat by omega)
    have hp1 := pre_le hv (x.a.toNat + 1)
    have hp2 := hsec.2.2
    rw [pre_zero] at hp0
    have e1 : takeV l (2, ws) (1365, 128) = (true, 3, ws) := by simp [takeV, fitsV]
    have e2 : takeV l (5, ws) (pre l x.a.toNat, 48) = (true, 0, opV l ws x) := by
      rw [takeV_era hw hp0 (by simp), if_pos ⟨rfl, by simp [isAddr, outB]; omega⟩, secOf_eq hv hp0 hsec]
      unfold opV
      rw [if_pos hk1]
    rw [if_neg hk, runC_append, runC_append, runC_append, goodC_append, goodC_append, goodC_append, runC_append, runC_append, k1]
    have r1 : runC l (2, ws) [(1365, 128)] = (3, ws) := by show (takeV l (2, ws) (1365, 128)).2 = _; rw [e1]
    rw [r1, k3]
    refine ⟨?_, ⟨⟨k2, by rw [e1], trivial⟩, k4⟩, ?_, trivial⟩
    · show (takeV l (5, ws) (pre l x.a.toNat, 48)).2 = _
      rw [e2]
    · simp only [runC_append, k1, r1, k3, e2]
theorem seqs_run {l : List Int} (hv : Within 1 4096 l) : ∀ (os : List FOp) (ws : List Int), (ws.length : Int) = sumI l → (∀ x ∈ os, OpOk l x) → runC l (0, ws) (seqsV l os) = (0, applyV l ws os) ∧ goodC l (0, ws) (seqsV l os)
  | [], ws, _, _ => ⟨rfl, trivial⟩
  | x :: os, ws, hw, ho => by
    obtain ⟨h1, h2⟩ := seq_run hv hw (ho x (by simp))
    obtain ⟨h3, h4⟩ := seqs_run hv os (opV l ws x) (by rw [opV_len]; exact hw) (fun y hy => ho y (by simp [hy]))
    show runC l (0, ws) (seqV l x ++ seqsV l os) = (0, applyV l (opV l ws x) os) ∧ goodC l (0, ws) (seqV l x ++ seqsV l os)
    rw [runC_append, goodC_append, h1]
    exact ⟨h3, h2, h4⟩
/-- the cycles of right operations do what the operations do, and none of them is ignored -/
theorem drive_ops {l ws : List Int} {os : List FOp} (hv : Within 1 4096 l) (hw : (ws.length : Int) = sumI l) (ho : ∀ x ∈ os, OpOk l x) : driveTo l ws (seqsV l os) (seqsV l os).length = ((0, applyV l ws os), []) := by
  obtain ⟨h1, h2⟩ := seqs_run hv os ws hw ho
  rw [driveTo_run _ (Nat.le_refl _) (by rw [List.take_length]; exact h2), List.take_length, h1]
theorem ops_bad0 {l : List Int} {os : List FOp} (h : ∀ x ∈ os, OpOk l x ∧ (x.k = 1 → x.v = 0)) (hl : os.length ≤ 50000) : opsFault l os = 0 := by
  unfold opsFault
  rw [if_neg (by omega)]
  induction os with
  | nil => rfl
  | cons x os ih =>
    obtain ⟨h1, h2⟩ := h x (by simp)
    have : opFault l.length (sumI l) x = 0 := by
      unfold opFault
      rcases h1.kind with hk | hk
      · have := h1.er hk
        rw [if_pos hk, if_neg (by simp [outB]; omega), if_pos (h2 hk)]
      · have := h1.pr hk
        rw [if_neg (by omega), if_pos hk, if_neg (by simp [outB]; omega), if_neg (by simp [outB]; omega)]
    unfold firstBad
    rw [if_pos this]
    exact ih (fun y hy => h y (by simp [hy])) (by simp at hl; omega)
theorem prog_ok {l now want : List Int} (hm : (want.length : Int) = sumI l) (hw : Within 0 65535 want) {a : Nat} : ∀ m : Nat, ((a + m : Nat) : Int) ≤ sumI l → ∀ x ∈ progTo now want a m, OpOk l x ∧ (x.k = 1 → x.v = 0)
  | 0, _, x, hx => by simp [progTo] at hx
  | m + 1, h, x, hx => by
    unfold progTo at hx
    rcases List.mem_append.1 hx with hx | hx
    · exact prog_ok hm hw m (by omega) x hx
    · split at hx
      · simp at hx
      · rw [List.mem_singleton] at hx
        subst hx
        have := getD_within hw (a + m)
        refine ⟨⟨.inr rfl, fun h => by simp at h, fun _ => ⟨by simp only; omega, by simp only; omega, this.1, this.2⟩⟩, fun h => by simp at h⟩
theorem plan_ok {l now want : List Int} (hv : Within 1 4096 l) (hm : (want.length : Int) = sumI l) (hw : Within 0 65535 want) : ∀ s, s ≤ l.length → ∀ x ∈ (planTo l now want s).1, OpOk l x ∧ (x.k = 1 → x.v = 0)
  | 0, _, x, hx => by simp [planTo] at hx
  | s + 1, hs, x, hx => by
    have h0 := pre_mono hv (show 0 ≤ s by omega)
    have h1 := pre_mono hv (show s ≤ s + 1 by omega)
    have h2 := pre_le hv (s + 1)
    rw [pre_zero] at h0
    have hx : x ∈ (planTo l now want s).1 ++ planOps l (planTo l now want s).2 want s := hx
    rcases List.mem_append.1 hx with hx | hx
    · exact plan_ok hv hm hw s (by omega) x hx
    · unfold planOps at hx
      rcases List.mem_append.1 hx with hx | hx
      · split at hx
        · rw [List.mem_singleton] at hx
          subst hx
          exact ⟨⟨.inl rfl, fun _ => ⟨by simp only; omega, by simp only; omega⟩, fun h => by simp at h⟩, fun _ => rfl⟩
        · simp at hx
      · exact prog_ok hm hw _ (by omega) x hx
theorem opOk_cyc {l : List Int} {x : FOp} (hv : Within 1 4096 l) (hs : sumI l ≤ 4096) (hx : OpOk l x) : ∀ c ∈ seqV l x, cycBad c = 0 := by
  have hp0 := pre_mono hv (show 0 ≤ x.a.toNat by omega)
  have hp1 := pre_le hv x.a.toNat
  rw [pre_zero] at hp0
  have hpr := hx.pr
  intro c hc
  unfold seqV key at hc
  have : (0 ≤ c.1 ∧ c.1 ≤ 65535) ∧ 0 ≤ c.2 ∧ c.2 ≤ 65535 := by
    split at hc
    · rename_i hk
      have := hpr hk
      simp at hc
      rcases hc with rfl | rfl | rfl | rfl <;> simp <;> omega
    · simp at hc
      rcases hc with rfl | rfl | rfl | rfl | rfl | rfl <;> simp <;> omega
  unfold cycBad
  rw [if_neg (by simp [outB]; omega), if_neg (by simp [outB]; omega)]
theorem firstBad_zero {α : Type} {f : α → Int} : ∀ {l : List α}, (∀ x ∈ l, f x = 0) → firstBad f l = 0
  | [], _ => rfl
  | x :: l, h => by
    unfold firstBad
    rw [if_pos (h x (by simp))]
    exact firstBad_zero fun y hy => h y (by simp [hy])
theorem cycs_ok {l : List Int} {os : List FOp} (hv : Within 1 4096 l) (hs : sumI l ≤ 4096) (ho : ∀ x ∈ os, OpOk l x) (hl : (seqsV l os).length ≤ 50000) : cyclesBad (seqsV l os) = 0 := by
  unfold cyclesBad
  rw [if_neg (by omega)]
  refine firstBad_zero fun c hc => ?_
  unfold seqsV at hc
  obtain ⟨x, hx, hc⟩ := List.mem_flatMap.1 hc
  exact opOk_cyc hv hs (ho x hx) c hc
/-- leaving out one operation spoils a word: the one that it concerns -/
theorem rel_need {l now want : List Int} (hv : Within 1 4096 l) (hn : Within 0 65535 now) {t i : Nat} (ht : IsSec l i t) {X Y : List FOp} {x : FOp} (h : relOps l now want t i = X ++ x :: Y)
    (hx : x.k = 1 → lackI (now.getD i 0) (want.getD i 0) = true) : (X ++ Y).foldl (locV l i) (now.getD i 0) ≠ want.getD i 0 := by
  have hp : ∀ v, locV l i v ⟨2, (i : Int), want.getD i 0⟩ = andI v (want.getD i 0) := fun v => by
    unfold locV
    rw [if_neg (by simp), if_pos (by simp)]
  have he : locV l i (now.getD i 0) ⟨1, (t : Int), 0⟩ = 65535 := by
    unfold locV
    rw [if_pos rfl, Int.toNat_natCast, if_pos ⟨ht.2.1, ht.2.2⟩]
  have hlk : lackI (now.getD i 0) (want.getD i 0) = true → now.getD i 0 ≠ want.getD i 0 ∧ andI (now.getD i 0) (want.getD i 0) ≠ want.getD i 0 := fun h => by
    refine ⟨fun e => ?_, fun e => ?_⟩
    · rw [← e, lack_same (getD_within hn i).1] at h; exact absurd h (by simp)
    · unfold lackI at h; rw [e] at h; simp at h
  unfold relOps at h
  generalize now.getD i 0 = v at *
  generalize want.getD i 0 = w at *
  by_cases hl : lackS l now want t = true
  · simp only [if_pos hl] at h
    by_cases hc : (65535 : Int) ≠ w
    · rw [if_pos hc] at h
      rcases X with _ | ⟨a, _ | ⟨b, X⟩⟩
      · simp at h
        obtain ⟨h1, h2⟩ := h
        subst h1; subst h2
        rw [List.nil_append, List.foldl_cons, List.foldl_nil, hp]
        exact (hlk (hx rfl)).2
      · simp at h
        obtain ⟨h1, h2, h3⟩ := h
        subst h1; subst h2; subst h3
        rw [List.append_nil, List.foldl_cons, List.foldl_nil, he]
        exact hc
      · simp at h
    · rw [if_neg hc] at h
      rcases X with _ | ⟨a, X⟩
      · simp at h
        obtain ⟨h1, h2⟩ := h
        subst h1; subst h2
        show v ≠ w
        exact (hlk (hx rfl)).1
      · simp at h
  · simp only [if_neg hl] at h
    by_cases hc : v ≠ w
    · rw [if_pos hc] at h
      rcases X with _ | ⟨a, X⟩
      · simp at h
        obtain ⟨h1, h2⟩ := h
        subst h1; subst h2
        exact hc
      · simp at h
    · rw [if_neg hc] at h
      simp at h
theorem lackTo_some {now want : List Int} {a m : Nat} (h : lackTo now want a m = true) : ∃ j, j < m ∧ lackI (now.getD (a + j) 0) (want.getD (a + j) 0) = true := by
  simpa [lackTo, List.any_eq_true] using h
/-- each erased sector of a plan has a word that lacks a bit -/
theorem plan_lack {l now want : List Int} (hv : Within 1 4096 l) (hn : (now.length : Int) = sumI l) : ∀ s, s ≤ l.length → ∀ x ∈ (planTo l now want s).1, x.k = 1 → ∃ i, IsSec l (i : Nat) x.a.toNat ∧ lackI (now.getD i 0) (want.getD i 0) = true
  | 0, _, x, hx, _ => by simp [planTo] at hx
  | s + 1, hs, x, hx, hk => by
    have h0 := pre_mono hv (show 0 ≤ s by omega)
    have h1 := pre_mono hv (show s ≤ s + 1 by omega)
    rw [pre_zero] at h0
    have hx : x ∈ (planTo l now want s).1 ++ planOps l (planTo l now want s).2 want s := hx
    rcases List.mem_append.1 hx with hx | hx
    · exact plan_lack hv hn s (by omega) x hx hk
    · unfold planOps at hx
      rcases List.mem_append.1 hx with hx | hx
      · split at hx
        · rename_i hl
          rw [List.mem_singleton] at hx
          subst hx
          have hl : lackS l (planTo l now want s).2 want s = true := hl
          rw [lackS_now hv hn] at hl
          obtain ⟨j, hj, hlk⟩ := lackTo_some hl
          exact ⟨_, ⟨by simp only [Int.toNat_natCast]; omega, by simp only [Int.toNat_natCast]; omega, by simp only [Int.toNat_natCast]; omega⟩, hlk⟩
        · simp at hx
      · have : ∀ m, ∀ y ∈ progTo (planNow l (planTo l now want s).2 want s) want (pre l s).toNat m, y.k = 2 := by
          intro m
          induction m with
          | zero => intro y hy; simp [progTo] at hy
          | succ m ih =>
            intro y hy
            unfold progTo at hy
            rcases List.mem_append.1 hy with hy | hy
            · exact ih y hy
            · split at hy
              · simp at hy
              · rw [List.mem_singleton] at hy; subst hy; rfl
        have := this _ x hx
        omega
/-- a plan without one of its operations does not make the words that are wanted -/
theorem plan_needs {l now want : List Int} (hv : Within 1 4096 l) (hn : (now.length : Int) = sumI l) (hnw : Within 0 65535 now) (hm : (want.length : Int) = sumI l) (hw : Within 0 65535 want) {k : Nat} (hk : k < (planTo l now want l.length).1.length) :
    applyV l now ((planTo l now want l.length).1.eraseIdx k) ≠ want := by
  have hok := plan_ok (now := now) hv hm hw l.length (Nat.le_refl _)
  have hlk := plan_lack (want := want) hv hn l.length (Nat.le_refl _)
  have hrel := fun t i (ht : IsSec l ((i : Nat) : Int) t) => planTo_rel (want := want) hv hn ht l.length (Nat.le_refl _)
  generalize (planTo l now want l.length).1 = P at *
  have hx := List.getElem_mem hk
  obtain ⟨h1, h2⟩ := hok _ hx
  have hex : ∃ i t, IsSec l ((i : Nat) : Int) t ∧ touches l i P[k] = true ∧ (P[k].k = 1 → lackI (now.getD i 0) (want.getD i 0) = true) := by
    rcases h1.kind with hk1 | hk2
    · obtain ⟨i, hi, hl⟩ := hlk _ hx hk1
      refine ⟨i, _, hi, ?_, fun _ => hl⟩
      unfold touches
      rw [if_pos hk1]
      simpa using ⟨hi.2.1, hi.2.2⟩
    · obtain ⟨a1, a2, _⟩ := h1.pr hk2
      have hs := secOf_is (l := l) (a := ((P[k].a.toNat : Nat) : Int)) (by omega) (by omega)
      refine ⟨P[k].a.toNat, _, hs, ?_, fun h => by omega⟩
      unfold touches
      rw [if_neg (by omega)]
      simp
  obtain ⟨i, t, ht, hto, hlx⟩ := hex
  have hi : i < now.length := by
    have := pre_le hv (t + 1)
    have := ht.2.2
    omega
  have hr := hrel t i ht
  rw [if_pos ht.1] at hr
  have hP : P = P.take k ++ P[k] :: P.drop (k + 1) := by rw [← List.drop_eq_getElem_cons hk, List.take_append_drop]
  rw [hP, List.filter_append, List.filter_cons_of_pos hto] at hr
  intro he
  have := rel_need hv hnw ht hr.symm hlx
  apply this
  rw [← List.filter_append, ← foldl_touch, ← List.eraseIdx_eq_take_drop_succ, ← applyV_get l _ _ hi, he]
/-- how often a sector is erased -/
def wearV (os : List FOp) (s : Nat) : Nat := os.countP fun x => x.k == 1 && x.a.toNat == s
theorem wearV_snoc (os : List FOp) (x : FOp) (s : Nat) : wearV (os ++ [x]) s = wearV os s + if x.k = 1 ∧ x.a.toNat = s then 1 else 0 := by
  unfold wearV
  rw [List.countP_append, List.countP_singleton]
  simp
theorem wearV_le (os : List FOp) (s : Nat) : wearV os s ≤ os.length := List.countP_le_length
theorem plan_wear {l now want : List Int} (hv : Within 1 4096 l) (hn : (now.length : Int) = sumI l) {s : Nat} (hs : s < l.length) : wearV (planTo l now want l.length).1 s ≤ 1 := by
  have ht := pre_sec hv hs
  have h0 := pre_mono hv (show 0 ≤ s by omega)
  rw [pre_zero] at h0
  obtain ⟨i, hi⟩ := Int.eq_ofNat_of_zero_le h0
  rw [hi] at ht
  have hr := planTo_rel (want := want) hv hn ht l.length (Nat.le_refl _)
  rw [if_pos hs] at hr
  have hcl : wearV ((planTo l now want l.length).1.filter (touches l i)) s = wearV (planTo l now want l.length).1 s := by
    unfold wearV
    rw [List.countP_filter]
    refine List.countP_congr fun x _ => ?_
    simp only [Bool.and_eq_true, beq_iff_eq]
    constructor
    · exact fun h => h.1
    · intro h
      refine ⟨h, ?_⟩
      unfold touches
      rw [if_pos h.1, h.2]
      simpa using ⟨ht.2.1, ht.2.2⟩
  rw [← hcl, hr]
  unfold relOps wearV
  split <;> split <;> simp
end Go.Proofs.Ytmnhlfkphibhfaa
