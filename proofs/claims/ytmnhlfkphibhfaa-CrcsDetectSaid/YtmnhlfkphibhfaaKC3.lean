/-
  The machine's run once more, in a form that simp evaluates step by step: what comes later is hidden from simp by a tag (an argument on whose value a type depends is not rewritten).
-/
import Derived.Test.YtmnhlfkphibhfaaKC2
import Derived.Below
import Derived.Test.YtmnhlfkphibhfaaKC1
namespace Go.Proofs.Ytmnhlfkphibhfaa
open Go.RowKit
set_option linter.unusedVariables false
set_option linter.unusedSimpArgs false

universe u
inductive Tag {α : Sort u} (a : α) : Type where
  | mk
def BS (s : Step) (K : PV → Heap → Prop) (_ : Tag K) : Prop := bindStep s K
theorem BS_some (vc : Prop) (v : PV) (u : Heap) (K : PV → Heap → Prop) (t : Tag K) : BS (some (vc, v, u)) K t = (vc ∧ K v u) := rfl
theorem BS_true (v : PV) (u : Heap) (K : PV → Heap → Prop) (t : Tag K) : BS (some (True, v, u)) K t = K v u := by show (True ∧ K v u) = K v u; simp
theorem BS_none (K : PV → Heap → Prop) (t : Tag K) : BS none K t = False := rfl
def OB (p : PV) (K : Bool → Prop) (_ : Tag K) : Prop := onBool p K
theorem OB_bool (b : Bool) (K : Bool → Prop) (t : Tag K) : OB (.bool b) K t = K b := rfl
def OG (p : PV) (K : Bool → Prop) (Z : Unit → Prop) (_ : Tag K) (_ : Tag Z) : Prop := onGrd p K Z
theorem OG_bool (b : Bool) (K : Bool → Prop) (Z : Unit → Prop) (t : Tag K) (t' : Tag Z) : OG (.bool b) K Z t t' = K b := rfl
theorem OG_tup (K : Bool → Prop) (Z : Unit → Prop) (t : Tag K) (t' : Tag Z) : OG (.tup []) K Z t t' = Z () := rfl
def S2 (b : Bool) (X Y : Unit → Prop) (_ : Tag X) (_ : Tag Y) : Prop := split2 b X Y
theorem S2_true (X Y : Unit → Prop) (t : Tag X) (t' : Tag Y) : S2 true X Y t t' = X () := split2_true X Y
theorem S2_false (X Y : Unit → Prop) (t : Tag X) (t' : Tag Y) : S2 false X Y t t' = Y () := split2_false X Y
def OF (p : PV) (K : Nat → List PV → Prop) (_ : Tag K) : Prop := onFn p K
theorem OF_fn (f : Nat) (cap : List PV) (K : Nat → List PV → Prop) (t : Tag K) : OF (.fn f cap) K t = K f cap := rfl
def CX (P : Program) (f : Nat) (args : List PV) (H : Heap) (nid : Nat) (K : PV → Heap → List Nat → Prop) (_ : Tag K) : Prop := CallX P f args H nid K
def CO (P : Program) (f : Nat) (args : List PV) (H : Heap) (nid : Nat) (K : PV → Heap → Prop) (_ : Tag K) : Prop := CallOK P f args H nid K
section
variable (P : Program)
def ROp (s : Slots) (H : Heap) (n : Nat) (K : PV → Heap → Prop) (t : Tag K) : AOp → Prop
  | .call f args => CO P f (args.map (AX.val s)) H n K t
  | .callv x args => OF (x.val s) (fun f cap => CO P f (args.map (AX.val s) ++ cap) H n K t) .mk
  | op => BS (step (AX.val s) H n op) K t
theorem ROp_eq (s : Slots) (H : Heap) (n : Nat) (K : PV → Heap → Prop) (t : Tag K) (op : AOp) : ROp P s H n K t op = runOp P s H n K op := by cases op <;> rfl
def ROps : List AIn → Slots → Heap → Nat → (K : Slots → Heap → Nat → Prop) → Tag K → Prop
  | [], s, H, n, K, _ => K s H n
  | ⟨d, none, op⟩ :: l, s, H, n, K, t => ROp P s H n (fun v u => ROps l (putS s d v) (u ++ H) (n + 4) K t) .mk op
  | ⟨d, some (j, true), op⟩ :: l, s, H, n, K, t => OG (getS s j) (fun b => S2 b
      (fun _ => ROp P ((j, .bool true) :: s) H n (fun v u => ROps l (putS ((j, .bool true) :: s) d v) (u ++ H) (n + 4) K t) .mk op)
      (fun _ => ROps l (putS ((j, .bool false) :: s) d (.tup [])) H (n + 4) K t) .mk .mk) (fun _ => ROps l (putS s d (.tup [])) H (n + 4) K t) .mk .mk
  | ⟨d, some (j, false), op⟩ :: l, s, H, n, K, t => OG (getS s j) (fun b => S2 b
      (fun _ => ROps l (putS ((j, .bool true) :: s) d (.tup [])) H (n + 4) K t)
      (fun _ => ROp P ((j, .bool false) :: s) H n (fun v u => ROps l (putS ((j, .bool false) :: s) d v) (u ++ H) (n + 4) K t) .mk op) .mk .mk) (fun _ => ROps l (putS s d (.tup [])) H (n + 4) K t) .mk .mk
theorem ROps_eq : ∀ (l : List AIn) (s : Slots) (H : Heap) (n : Nat) (K : Slots → Heap → Nat → Prop) (t : Tag K), ROps P l s H n K t = runOps P l s H n K
  | [], s, H, n, K, t => rfl
  | ⟨d, none, op⟩ :: l, s, H, n, K, t => by
    simp only [ROps, runOps, ROp_eq, ROps_eq l]
  | ⟨d, some (j, true), op⟩ :: l, s, H, n, K, t => by
    simp only [ROps, runOps, ROp_eq, ROps_eq l, OG, S2]
  | ⟨d, some (j, false), op⟩ :: l, s, H, n, K, t => by
    simp only [ROps, runOps, ROp_eq, ROps_eq l, OG, S2]
def OX (s : Slots) (H : Heap) (n : Nat) (K : PV → Heap → List Nat → Prop) (t : Tag K) : AOp → Prop
  | .call f args => CX P f (args.map (AX.val s)) H n (fun v u rds => lowH H n (idsOf (.agg (args.map (AX.val s))) ++ rds) = true ∧ K v u (idsOf (.agg (args.map (AX.val s))) ++ rds)) .mk
  | .callv x args => OF (x.val s) (fun f cap => CX P f (args.map (AX.val s) ++ cap) H n (fun v u rds => lowH H n (idsOf (.agg (args.map (AX.val s) ++ cap)) ++ rds) = true ∧ K v u (idsOf (.agg (args.map (AX.val s) ++ cap)) ++ rds)) .mk) .mk
  | op => BS (step (AX.val s) H n op) (fun v u => K v u (idsOf (.agg ((rdXs op).map (AX.val s))))) .mk
theorem OX_eq (s : Slots) (H : Heap) (n : Nat) (K : PV → Heap → List Nat → Prop) (t : Tag K) (op : AOp) : OX P s H n K t op = opX P s H n K op := by cases op <;> simp only [OX, opX, idsOf] <;> rfl
def RAny : List (AIn × List Nat) → List Rec1 → Slots → Heap → Nat → (K : Slots → Heap → Nat → Prop) → Tag K → Prop
  | [], recs, s, H, n, K, _ => K s H n
  | (⟨d, none, op⟩, fr) :: l, recs, s, H, n, K, t => OX P s H n (fun v u rds => freeOf recs ⟨d, namesX (opXs op), rds, keys u⟩ fr = true ∧ RAny l (recs ++ [⟨d, namesX (opXs op), rds, keys u⟩]) (putS s d v) (u ++ H) (n + 4) K t) .mk op
  | (⟨d, some (j, true), op⟩, fr) :: l, recs, s, H, n, K, t => OG (getS s j) (fun b => S2 b
      (fun _ => OX P ((j, .bool true) :: s) H n (fun v u rds => freeOf recs ⟨d, j :: namesX (opXs op), rds, keys u⟩ fr = true ∧ RAny l (recs ++ [⟨d, j :: namesX (opXs op), rds, keys u⟩]) (putS ((j, .bool true) :: s) d v) (u ++ H) (n + 4) K t) .mk op)
      (fun _ => freeOf recs ⟨d, [j], [], []⟩ fr = true ∧ RAny l (recs ++ [⟨d, [j], [], []⟩]) (putS ((j, .bool false) :: s) d (.tup [])) H (n + 4) K t) .mk .mk) (fun _ => freeOf recs ⟨d, [j], [], []⟩ fr = true ∧ RAny l (recs ++ [⟨d, [j], [], []⟩]) (putS s d (.tup [])) H (n + 4) K t) .mk .mk
  | (⟨d, some (j, false), op⟩, fr) :: l, recs, s, H, n, K, t => OG (getS s j) (fun b => S2 b
      (fun _ => freeOf recs ⟨d, [j], [], []⟩ fr = true ∧ RAny l (recs ++ [⟨d, [j], [], []⟩]) (putS ((j, .bool true) :: s) d (.tup [])) H (n + 4) K t)
      (fun _ => OX P ((j, .bool false) :: s) H n (fun v u rds => freeOf recs ⟨d, j :: namesX (opXs op), rds, keys u⟩ fr = true ∧ RAny l (recs ++ [⟨d, j :: namesX (opXs op), rds, keys u⟩]) (putS ((j, .bool false) :: s) d v) (u ++ H) (n + 4) K t) .mk op) .mk .mk) (fun _ => freeOf recs ⟨d, [j], [], []⟩ fr = true ∧ RAny l (recs ++ [⟨d, [j], [], []⟩]) (putS s d (.tup [])) H (n + 4) K t) .mk .mk
theorem RAny_eq : ∀ (l : List (AIn × List Nat)) (recs : List Rec1) (s : Slots) (H : Heap) (n : Nat) (K : Slots → Heap → Nat → Prop) (t : Tag K), RAny P l recs s H n K t = runAny P l recs s H n K
  | [], recs, s, H, n, K, t => rfl
  | (⟨d, none, op⟩, fr) :: l, recs, s, H, n, K, t => by
    simp only [RAny, runAny, OX_eq, RAny_eq l]
  | (⟨d, some (j, true), op⟩, fr) :: l, recs, s, H, n, K, t => by
    simp only [RAny, runAny, OX_eq, RAny_eq l, OG, S2]
  | (⟨d, some (j, false), op⟩, fr) :: l, recs, s, H, n, K, t => by
    simp only [RAny, runAny, OX_eq, RAny_eq l, OG, S2]
def blkK (id : Nat) (Q : AEx → ST → Prop) : AEx → ST → Prop
  | .normal, s => Q .normal s
  | .exit i, s => S2 (i == id) (fun _ => Q .normal s) (fun _ => Q (.exit i) s) .mk .mk
  | .ret, s => Q .ret s
theorem blkK_eq (id : Nat) (Q : AEx → ST → Prop) : blkK id Q = blockK id Q := by
  funext e s
  cases e with
  | normal => rfl
  | ret => rfl
  | exit i =>
    simp only [blkK, blockK, S2]
    cases i == id
    · simp [split2]
    · simp [split2]
def LP (c : ACode) (st : ST) (Q : AEx → ST → Prop) (_ : Tag Q) : Prop := LoopOK (run P c) st Q
def Run : ACode → ST → (Q : AEx → ST → Prop) → Tag Q → Prop
  | .skip, st, Q, _ => Q .normal st
  | .ops l, st, Q, _ => ROps P l st.slots st.heap st.next (fun s H n => Q .normal ⟨s, H, n, st.base⟩) .mk
  | .any l, st, Q, _ => RAny P l [] st.slots st.heap st.next (fun s H n => Q .normal ⟨s, H, n, st.base⟩) .mk
  | .seq a b, st, Q, t => Run a st (seqK (fun s => Run b s Q t) Q) .mk
  | .cond x a b, st, Q, t => OB (x.val st.slots) (fun c => S2 c (fun _ => Run a st Q t) (fun _ => Run b st Q t) .mk .mk) .mk
  | .block id c, st, Q, _ => Run c st (blkK id Q) .mk
  | .loop c, st, Q, t => LP P c st Q t
  | .exit i, st, Q, _ => Q (.exit i) st
  | .ret, st, Q, _ => Q .ret st
theorem Run_eq : ∀ (c : ACode) (st : ST) (Q : AEx → ST → Prop) (t : Tag Q), Run P c st Q t = run P c st Q
  | .skip, st, Q, t => rfl
  | .ops l, st, Q, t => by simp only [Run, run, ROps_eq]
  | .any l, st, Q, t => by simp only [Run, run, RAny_eq]
  | .seq a b, st, Q, t => by simp only [Run, run, Run_eq a, Run_eq b]
  | .cond x a b, st, Q, t => by simp only [Run, run, Run_eq a, Run_eq b, OB, S2]
  | .block id c, st, Q, t => by simp only [Run, run, Run_eq c, blkK_eq]
  | .loop c, st, Q, t => by simp only [Run, run, LP]
  | .exit i, st, Q, t => rfl
  | .ret, st, Q, t => rfl
end
theorem getS_hit (i : Nat) (p : PV) (s : Slots) : getS ((i, p) :: s) i = p := by simp [getS]
theorem getS_miss {i j : Nat} (h : (i == j) = false) (p : PV) (s : Slots) : getS ((i, p) :: s) j = getS s j := by simp [getS, h]
theorem getH_hit (i : Nat) (b : Option ABlk) (H : Heap) : getH ((i, b) :: H) i = b := by simp [getH]
theorem getH_miss {i j : Nat} (h : (i == j) = false) (b : Option ABlk) (H : Heap) : getH ((i, b) :: H) j = getH H j := by simp [getH, h]
theorem acall_run {P : Program} {f : Nat} {af : AFn} {args : List PV} {Hs : Heap} {nid : Nat} {r : PV} {u : Heap} (hc : compF P f = some af) (hn : args.length ≤ af.nt)
    (h : Run P af.body ⟨argSlots 0 args, Hs, nid, nid⟩ (RetOK af.res Hs nid r u) .mk) : ACall P f args Hs nid r u :=
  acall_of_run hc hn (by rw [← Run_eq]; exact h)
theorem LP.mk {P : Program} {c : ACode} {st : ST} {Q : AEx → ST → Prop} {t : Tag Q} {ι : Type} (I : ι → ST) (μ : ι → Nat) (x : ι) (h1 : Cov st (I x)) (h2 : ∀ x, Run P c (I x) (loopK (fun s => ∃ y, μ y < μ x ∧ Cov s (I y)) Q) .mk) : LP P c st Q t :=
  LoopOK.mk I μ x h1 fun x => by rw [← Run_eq P c _ _ .mk]; exact h2 x
theorem S2.dec {p : Prop} [Decidable p] {X Y : Unit → Prop} {t : Tag X} {t' : Tag Y} (h1 : p → X ()) (h2 : ¬ p → Y ()) : S2 (decide p) X Y t t' := split2_dec h1 h2
theorem S2.yes {b : Bool} {X Y : Unit → Prop} {t : Tag X} {t' : Tag Y} (hb : b = true) (h1 : X ()) : S2 b X Y t t' := split2_yes hb h1
theorem S2.no {b : Bool} {X Y : Unit → Prop} {t : Tag X} {t' : Tag Y} (hb : b = false) (h1 : Y ()) : S2 b X Y t t' := split2_no hb h1
theorem S2.intro {b : Bool} {X Y : Unit → Prop} {t : Tag X} {t' : Tag Y} (h1 : b = true → X ()) (h2 : b = false → Y ()) : S2 b X Y t t' := ⟨h1, h2⟩
theorem apart_nil : ∀ l : List Nat, apart [] [] l = true
  | [] => rfl
  | id :: r => by
    simp only [apart, apart_nil r, nilSz, srcOf, Bool.and_true, List.all_eq_true]
    intro j hj
    by_cases h : j = id <;> simp [h]
/-- what of a heap is not set anew -/
def over (u : Heap) : Heap → Heap
  | [] => []
  | (i, b) :: H => bif (keys u).contains i then over u H else (i, b) :: over u H
theorem getH_appC : ∀ (u H : Heap) (i : Nat), getH (u ++ H) i = bif (keys u).contains i then getH u i else getH H i
  | [], H, i => by simp [keys]
  | (j, b) :: u, H, i => by
    simp only [List.cons_append, getH, keys, List.map_cons, List.contains_cons]
    have := getH_appC u H i
    simp only [keys] at this
    by_cases e : j = i
    · subst e; simp
    · have e1 : (j == i) = false := by simpa using e
      have e2 : (i == j) = false := by simpa using fun h => e h.symm
      simp only [e1, e2, cond_false, Bool.false_or, this]
theorem getH_over (u : Heap) : ∀ (H : Heap) (i : Nat), (keys u).contains i = false → getH (over u H) i = getH H i
  | [], i, h => rfl
  | (j, b) :: H, i, h => by
    by_cases e : j = i
    · subst e
      simp only [over, h, cond_false, getH]
      simp
    · have e1 : (j == i) = false := by simpa using e
      cases hj : (keys u).contains j
      · simp only [over, hj, cond_false, getH, e1]
        exact getH_over u H i h
      · simp only [over, hj, cond_true, getH, e1, cond_false]
        exact getH_over u H i h
/-- an end, blocks of the caller's written -/
theorem RetOK.over {rs : List ARes} {Hs : Heap} {nid : Nat} {r : PV} {u : Heap} {e : AEx} {st : ST} (he : e = .ret ∨ e = .normal) {ps : List PV} (ren nils : List (Nat × Nat)) (h1 : readAll st rs = some ps) (h2 : inRange nid (nid + 4) ren = true) (h3 : inRange nid (nid + 4) nils = true)
    (h4 : apart ren nils (liveIds (u ++ Hs)) = true) (h5 : (liveIds (u ++ Hs)).all (fun id => decide (id < nid + 4)) = true) (h60 : HeapCov (nid + 4) ren nils st.heap (u ++ Go.Proofs.Ytmnhlfkphibhfaa.over u Hs)) (h7 : PVCov (nid + 4) ren nils (retPV ps) r) : RetOK rs Hs nid r u e st := by
  have h6 : HCov (nid + 4) ren nils st.heap (u ++ Hs) := fun id b h => HeapCov.get h60 (by
    rw [getH_appC] at h ⊢
    cases hk : (keys u).contains id
    · simp only [hk, cond_false] at h ⊢
      rw [getH_over u Hs id hk]; exact h
    · simp only [hk, cond_true] at h ⊢
      exact h)
  rcases he with rfl | rfl
  · show onAll (readAll st rs) _
    rw [h1]
    exact ⟨ren, nils, h2, h3, h4, h5, h6, h7⟩
  · show onAll (readAll st rs) _
    rw [h1]
    exact ⟨ren, nils, h2, h3, h4, h5, h6, h7⟩
theorem RetOK.same {rs : List ARes} {Hs : Heap} {nid : Nat} {r : PV} {u : Heap} {e : AEx} {st : ST} (he : e = .ret ∨ e = .normal) {ps : List PV} (h1 : readAll st rs = some ps) (h5 : (liveIds (u ++ Hs)).all (fun id => decide (id < nid + 4)) = true)
    (h6 : HeapCov (nid + 4) [] [] st.heap (u ++ Go.Proofs.Ytmnhlfkphibhfaa.over u Hs)) (h7 : PVCov (nid + 4) [] [] (retPV ps) r) : RetOK rs Hs nid r u e st :=
  RetOK.over he [] [] h1 rfl rfl (apart_nil _) h5 h6 h7
theorem subH_hit (id : Nat) (b : Option ABlk) (H : Heap) : subH [(id, b)] ((id, b) :: H) := fun i c h => by
  by_cases e : id = i
  · subst e; simp only [getH_hit] at h ⊢; exact h
  · have e1 : (id == i) = false := by simpa using e
    simp [getH, e1] at h
theorem subH_get {id : Nat} {b : Option ABlk} {H : Heap} (h : getH H id = b) : subH [(id, b)] H := fun i c hc => by
  by_cases e : id = i
  · subst e; simp only [getH_hit] at hc; rw [h]; exact hc
  · have e1 : (id == i) = false := by simpa using e
    simp [getH, e1] at hc
theorem Cov.go (ren nils : List (Nat × Nat)) {s1 s2 : Slots} {H1 H2 : Heap} {n1 n2 b : Nat} (h : b ≤ n2 ∧ inRange b n2 ren = true ∧ inRange b n2 nils = true ∧ apart ren nils (liveIds H2) = true ∧ (liveIds H2).all (fun id => decide (id < n2)) = true ∧
    HeapCov n2 ren nils H1 H2 ∧ SlotsCov n2 ren nils s1 s2) : Cov ⟨s1, H1, n1, b⟩ ⟨s2, H2, n2, b⟩ :=
  Cov.mk ren nils rfl h.1 h.2.1 h.2.2.1 h.2.2.2.1 h.2.2.2.2.1 (fun id b hb => HeapCov.get h.2.2.2.2.2.1 hb) h.2.2.2.2.2.2
theorem idS1 (n k : Nat) : (n + (k + 1) == n) = false := by rw [beq_eq_false_iff_ne]; omega
theorem idS2 (n k : Nat) : (n == n + (k + 1)) = false := by rw [beq_eq_false_iff_ne]; omega
/-- a name of the caller's is none of the call's own -/
theorem id_all {s nid : Nat} (h : s < nid) : (nid == s) = false ∧ (s == nid) = false ∧ (∀ k, (nid + k == s) = false) ∧ (∀ k, (s == nid + k) = false) ∧ ¬ nid = s ∧ ¬ s = nid ∧ (∀ k, ¬ nid + k = s) ∧ (∀ k, ¬ s = nid + k) ∧ ∀ k, s < nid + k := by
  obtain ⟨h1, h2, h3, h4⟩ := id_facts h
  exact ⟨h1, h2, h3, h4, by omega, by omega, fun k => by omega, fun k => by omega, fun k => by omega⟩
theorem lowBlk_box (n T : Nat) (cs : List PV) : lowBlk n (some (.box T cs)) = lowAll n (idsOfs cs) := rfl
theorem lowBlk_arr (n T k : Nat) (cols : List Col) : lowBlk n (some (.arr T k cols)) = true := rfl
theorem lowBlk_none (n : Nat) : lowBlk n none = true := rfl
theorem repl_one (z : List PV) : repl 1 z = z := by simp [repl]
/-- a loop whose family has a condition -/
theorem LP.mkP {P : Program} {c : ACode} {st : ST} {Q : AEx → ST → Prop} {t : Tag Q} {ι : Type} (p : ι → Prop) (I : ι → ST) (μ : ι → Nat) (x : ι) (hx : p x) (h1 : Cov st (I x))
    (h2 : ∀ x, p x → Run P c (I x) (loopK (fun s => ∃ y, (p y ∧ μ y < μ x) ∧ Cov s (I y)) Q) .mk) : LP P c st Q t :=
  LP.mk (ι := {x : ι // p x}) (fun x => I x.1) (fun x => μ x.1) ⟨x, hx⟩ h1 fun x => by
    have e : (fun s => ∃ y : {x : ι // p x}, μ y.1 < μ x.1 ∧ Cov s (I y.1)) = (fun s => ∃ y, (p y ∧ μ y < μ x.1) ∧ Cov s (I y)) := by
      funext s
      exact propext ⟨fun ⟨y, h1, h2⟩ => ⟨y.1, ⟨y.2, h1⟩, h2⟩, fun ⟨y, ⟨h1, h2⟩, h3⟩ => ⟨⟨y, h1⟩, h2, h3⟩⟩
    rw [e]
    exact h2 x.1 x.2
theorem RetOK.go {rs : List ARes} {Hs : Heap} {nid : Nat} {r : PV} {u : Heap} {e : AEx} {st : ST} (ren nils : List (Nat × Nat)) (he : e = .ret ∨ e = .normal) (h : onAll (readAll st rs) fun ps => inRange nid (nid + 4) ren = true ∧ inRange nid (nid + 4) nils = true ∧
    apart ren nils (liveIds (u ++ Hs)) = true ∧ (liveIds (u ++ Hs)).all (fun id => decide (id < nid + 4)) = true ∧ HeapCov (nid + 4) ren nils st.heap (u ++ Go.Proofs.Ytmnhlfkphibhfaa.over u Hs) ∧ PVCov (nid + 4) ren nils (retPV ps) r) : RetOK rs Hs nid r u e st := by
  cases hp : readAll st rs with
  | none => rw [hp] at h; exact h.elim
  | some ps =>
    rw [hp] at h
    obtain ⟨h2, h3, h4, h5, h6, h7⟩ := h
    exact RetOK.over he ren nils hp h2 h3 h4 h5 h6 h7
/-- the run of what is left: a state may be said more weakly here, and named arrays frozen -/
def SR (P : Program) (c : ACode) (st : ST) (Q : AEx → ST → Prop) (_ : Tag Q) : Prop := SRun P c st Q
theorem SR.run {P : Program} {c : ACode} {st : ST} {Q : AEx → ST → Prop} {t t' : Tag Q} (h : Run P c st Q t) : SR P c st Q t' := SRun.of_run (by rw [← Run_eq P c st Q t]; exact h)
theorem SR.seq {P : Program} {x y : ACode} {st : ST} {Q : AEx → ST → Prop} {t : Tag Q} (h : Run P x st (seqK (fun s => SR P y s Q .mk) Q) .mk) : SR P (.seq x y) st Q t := SRun.seq (SRun.of_run (by rw [← Run_eq P x st _ .mk]; exact h))
theorem SR.cov {P : Program} {x : ACode} {st st' : ST} {Q : AEx → ST → Prop} {t t' : Tag Q} (hc : Cov st st') (h : SR P x st' Q t') : SR P x st Q t := SRun.cov hc h
theorem SR.freeze {P : Program} {x : ACode} {s : Slots} {H : Heap} {n b : Nat} {Q : AEx → ST → Prop} {t : Tag Q} (G : List Nat) (h : ∀ nl : Nat → Bool, SR P x ⟨frzS H G nl s, kill G ++ H, n, b⟩ Q .mk) : SR P x ⟨s, H, n, b⟩ Q t := SRun.freeze G h
theorem acall_sr {P : Program} {f : Nat} {af : AFn} {args : List PV} {Hs : Heap} {nid : Nat} {r : PV} {u : Heap} (hc : compF P f = some af) (hn : args.length ≤ af.nt)
    (h : SR P af.body ⟨argSlots 0 args, Hs, nid, nid⟩ (RetOK af.res Hs nid r u) .mk) : ACall P f args Hs nid r u := acall_of_srun hc hn h
/-- the machine's laws for simp, all at once -/
theorem aqT : type_of% (And.intro (And.intro (And.intro (And.intro (And.intro (And.intro @Run.eq_1 (And.intro @Run.eq_2 @Run.eq_3)) (And.intro @Run.eq_4 (And.intro @Run.eq_5 @Run.eq_6))) (And.intro (And.intro @Run.eq_7 (And.intro @Run.eq_8 @Run.eq_9)) (And.intro @ROps.eq_1 (And.intro @ROps.eq_2 @ROps.eq_3)))) (And.intro (And.intro (And.intro @ROps.eq_4 (And.intro @RAny.eq_1 @RAny.eq_2)) (And.intro @RAny.eq_3 (And.intro @RAny.eq_4 @BS_some))) (And.intro (And.intro @BS_true (And.intro @BS_none @OB_bool)) (And.intro @OG_bool (And.intro @OG_tup @S2_true))))) (And.intro (And.intro (And.intro (And.intro @S2_false (And.intro @OF_fn @getS_hit)) (And.intro @getS_miss (And.intro @getS.eq_1 @getH_hit))) (And.intro (And.intro @getH_miss (And.intro @getH.eq_1 @putS.eq_1)) (And.intro @putS.eq_2 (And.intro @AX.val.eq_1 @AX.val.eq_2)))) (And.intro (And.intro (And.intro @cond_true.{1} (And.intro @cond_false.{1} @idS1)) (And.intro @idS2 (And.intro @List.nil_append.{0} @List.cons_append.{0}))) (And.intro (And.intro @true_and (And.intro @and_true @ne_eq.{1})) (And.intro @not_true_eq_false (And.intro @if_false.{1} @if_true.{1})))))) (And.intro (And.intro (And.intro (And.intro (And.intro @ite_false.{1} (And.intro @ite_true.{1} @List.map_cons.{0,0})) (And.intro @List.map_nil.{0,0} (And.intro @List.drop_zero.{0} @List.drop_succ_cons.{0}))) (And.intro (And.intro @List.take_succ_cons.{0} (And.intro @List.take_zero.{0} @List.length_cons.{0})) (And.intro @List.length_nil.{0} (And.intro @Nat.zero_add @decide_true)))) (And.intro (And.intro (And.intro @decide_false (And.intro @beq_self_eq_true.{0} @Bool.and_true)) (And.intro @Bool.and_false (And.intro @Bool.true_and @Bool.false_and))) (And.intro (And.intro @Int.toNat_natCast (And.intro @lowBlk_box @lowBlk_arr)) (And.intro @lowBlk_none (And.intro @List.append_nil.{0} @List.getElem?_cons_zero.{0}))))) (And.intro (And.intro (And.intro (And.intro @List.getElem?_cons_succ.{0} (And.intro @List.all_cons.{0} @List.all_nil.{0})) (And.intro @List.any_cons.{0} (And.intro @List.any_nil.{0} @List.contains_cons.{0}))) (And.intro (And.intro @List.contains_nil.{0} (And.intro @Bool.or_false @Bool.false_or)) (And.intro @Bool.or_true (And.intro @Bool.true_or @Bool.not_false)))) (And.intro (And.intro (And.intro @Bool.not_true (And.intro @bne_self_eq_false.{0} @List.singleton_append.{0})) (And.intro @Int.add_sub_cancel (And.intro @List.replicate_succ.{0} @List.replicate_zero.{0}))) (And.intro (And.intro @List.flatten_cons.{0} (And.intro @List.flatten_nil.{0} @List.set_cons_succ.{0})) (And.intro (And.intro @List.set_cons_zero.{0} @List.headD_cons.{0}) (And.intro @List.tail_cons.{0} @Nat.add_lt_add_iff_left))))))) := And.intro (And.intro (And.intro (And.intro (And.intro (And.intro @Run.eq_1 (And.intro @Run.eq_2 @Run.eq_3)) (And.intro @Run.eq_4 (And.intro @Run.eq_5 @Run.eq_6))) (And.intro (And.intro @Run.eq_7 (And.intro @Run.eq_8 @Run.eq_9)) (And.intro @ROps.eq_1 (And.intro @ROps.eq_2 @ROps.eq_3)))) (And.intro (And.intro (And.intro @ROps.eq_4 (And.intro @RAny.eq_1 @RAny.eq_2)) (And.intro @RAny.eq_3 (And.intro @RAny.eq_4 @BS_some))) (And.intro (And.intro @BS_true (And.intro @BS_none @OB_bool)) (And.intro @OG_bool (And.intro @OG_tup @S2_true))))) (And.intro (And.intro (And.intro (And.intro @S2_false (And.intro @OF_fn @getS_hit)) (And.intro @getS_miss (And.intro @getS.eq_1 @getH_hit))) (And.intro (And.intro @getH_miss (And.intro @getH.eq_1 @putS.eq_1)) (And.intro @putS.eq_2 (And.intro @AX.val.eq_1 @AX.val.eq_2)))) (And.intro (And.intro (And.intro @cond_true.{1} (And.intro @cond_false.{1} @idS1)) (And.intro @idS2 (And.intro @List.nil_append.{0} @List.cons_append.{0}))) (And.intro (And.intro @true_and (And.intro @and_true @ne_eq.{1})) (And.intro @not_true_eq_false (And.intro @if_false.{1} @if_true.{1})))))) (And.intro (And.intro (And.intro (And.intro (And.intro @ite_false.{1} (And.intro @ite_true.{1} @List.map_cons.{0,0})) (And.intro @List.map_nil.{0,0} (And.intro @List.drop_zero.{0} @List.drop_succ_cons.{0}))) (And.intro (And.intro @List.take_succ_cons.{0} (And.intro @List.take_zero.{0} @List.length_cons.{0})) (And.intro @List.length_nil.{0} (And.intro @Nat.zero_add @decide_true)))) (And.intro (And.intro (And.intro @decide_false (And.intro @beq_self_eq_true.{0} @Bool.and_true)) (And.intro @Bool.and_false (And.intro @Bool.true_and @Bool.false_and))) (And.intro (And.intro @Int.toNat_natCast (And.intro @lowBlk_box @lowBlk_arr)) (And.intro @lowBlk_none (And.intro @List.append_nil.{0} @List.getElem?_cons_zero.{0}))))) (And.intro (And.intro (And.intro (And.intro @List.getElem?_cons_succ.{0} (And.intro @List.all_cons.{0} @List.all_nil.{0})) (And.intro @List.any_cons.{0} (And.intro @List.any_nil.{0} @List.contains_cons.{0}))) (And.intro (And.intro @List.contains_nil.{0} (And.intro @Bool.or_false @Bool.false_or)) (And.intro @Bool.or_true (And.intro @Bool.true_or @Bool.not_false)))) (And.intro (And.intro (And.intro @Bool.not_true (And.intro @bne_self_eq_false.{0} @List.singleton_append.{0})) (And.intro @Int.add_sub_cancel (And.intro @List.replicate_succ.{0} @List.replicate_zero.{0}))) (And.intro (And.intro @List.flatten_cons.{0} (And.intro @List.flatten_nil.{0} @List.set_cons_succ.{0})) (And.intro (And.intro @List.set_cons_zero.{0} @List.headD_cons.{0}) (And.intro @List.tail_cons.{0} @Nat.add_lt_add_iff_left))))))
end Go.Proofs.Ytmnhlfkphibhfaa
/-
  Contracts at arguments that say more, slices that are not empty, and loops that are run round by round.
-/
namespace Go.Proofs.Ytmnhlfkphibhfaa
open Go.RowKit
set_option linter.unusedVariables false
set_option linter.unusedSimpArgs false
mutual
/-- alike as far as the slices' rows go -/
def ArgEq : PV → PV → Prop
  | .lit nl n c, .lit nl' n' c' => nl = nl' ∧ n = n' ∧ ColsEq n c c'
  | .agg ps, .agg qs => ArgEqs ps qs
  | p, q => p = q
def ArgEqs : List PV → List PV → Prop
  | [], [] => True
  | p :: ps, q :: qs => ArgEq p q ∧ ArgEqs ps qs
  | _, _ => False
end
section
variable {Y : Nat → Prop} {m : Names} {w : World}
mutual
theorem ArgEq.rep : ∀ (q p : PV) (v : Value), ArgEq p q → Rep Y m w p v → Rep Y m w q v
  | .lit _ _ _, p, v, h, hr => by
    cases p <;> simp only [ArgEq] at h <;> try contradiction
    obtain ⟨rfl, rfl, h⟩ := h
    exact h.lit hr
  | .agg qs, p, v, h, hr => by
    cases p <;> simp only [ArgEq] at h <;> try contradiction
    obtain ⟨vs, rfl, h1, h2, h3⟩ := hr.agg_inv
    have := ArgEqs.rep qs _ vs h h2
    exact .agg (h1.trans this.1) this.2 h3
  | .int _ _, p, v, h, hr => by cases p <;> simp only [ArgEq] at h <;> first | contradiction | (injections; subst_vars; exact hr)
  | .bool _, p, v, h, hr => by cases p <;> simp only [ArgEq] at h <;> first | contradiction | (injections; subst_vars; exact hr)
  | .str _, p, v, h, hr => by cases p <;> simp only [ArgEq] at h <;> first | contradiction | (injections; subst_vars; exact hr)
  | .ptr _ _, p, v, h, hr => by cases p <;> simp only [ArgEq] at h <;> first | contradiction | (injections; subst_vars; exact hr)
  | .nilp, p, v, h, hr => by cases p <;> simp only [ArgEq] at h <;> first | contradiction | exact hr
  | .elp _ _, p, v, h, hr => by cases p <;> simp only [ArgEq] at h <;> first | contradiction | (injections; subst_vars; exact hr)
  | .arp _ _ _, p, v, h, hr => by cases p <;> simp only [ArgEq] at h <;> first | contradiction | (injections; subst_vars; exact hr)
  | .sl _ _ _, p, v, h, hr => by cases p <;> simp only [ArgEq] at h <;> first | contradiction | (injections; subst_vars; exact hr)
  | .tup _, p, v, h, hr => by cases p <;> simp only [ArgEq] at h <;> first | contradiction | (injections; subst_vars; exact hr)
  | .fn _ _, p, v, h, hr => by cases p <;> simp only [ArgEq] at h <;> first | contradiction | (injections; subst_vars; exact hr)
  | .mp _, p, v, h, hr => by cases p <;> simp only [ArgEq] at h <;> first | contradiction | (injections; subst_vars; exact hr)
  | .any, p, v, h, hr => .any
theorem ArgEqs.rep : ∀ (qs ps : List PV) (vs : List Value), ArgEqs ps qs → (∀ (i : Nat) p v, ps[i]? = some p → vs[i]? = some v → Rep Y m w p v) →
    ps.length = qs.length ∧ ∀ (i : Nat) q v, qs[i]? = some q → vs[i]? = some v → Rep Y m w q v
  | [], ps, vs, h, hr => by
    cases ps <;> simp only [ArgEqs] at h
    exact ⟨rfl, fun i q v hq => by simp at hq⟩
  | q :: qs, ps, vs, h, hr => by
    cases ps <;> simp only [ArgEqs] at h
    rename_i p ps
    have ih := ArgEqs.rep qs ps (vs.drop 1) h.2 (fun i p v hp hv => hr (i + 1) p v (by simpa using hp) (by rw [List.getElem?_drop] at hv; rwa [Nat.add_comm] at hv))
    refine ⟨by simp [ih.1], fun i q' v hq hv => ?_⟩
    rcases i with _ | i
    · simp only [List.getElem?_cons_zero, Option.some.injEq] at hq
      subst hq
      exact ArgEq.rep q p v h.1 (hr 0 p v rfl hv)
    · simp only [List.getElem?_cons_succ] at hq
      exact ih.2 i q' v hq (by rw [List.getElem?_drop, Nat.add_comm]; exact hv)
end
end
variable {P : Program} {f : Nat} {as as' : List PV} {Hs : Heap} {nid : Nat} {r : PV} {u : Heap}
theorem ACall.args (ha : ACall P f as' Hs nid r u) (h : ArgEqs as as') : ACall P f as Hs nid r u := fun C vs hb hl hr hs => by
  have := ArgEqs.rep as' as vs h hr
  exact ha C vs hb (hl.trans this.1) this.2 hs
/-- a slice among the arguments that is nil has no rows -/
theorem ACall.nonnil (i : Nat) {nl : Bool} {n : Nat} {cols : List Col} (hi : as[i]? = some (.lit nl n cols)) (h : (nl = true → n = 0) → ACall P f as Hs nid r u) : ACall P f as Hs nid r u := fun C vs hb hl hr hs => by
  have hlt : i < vs.length := by rw [hl]; exact (List.getElem?_eq_some_iff.1 hi).1
  obtain ⟨A, cap, u', hv, e2, e3, _⟩ := (hr i _ vs[i] hi (List.getElem?_eq_getElem hlt)).lit_inv
  exact h (fun hn => by
    subst hn
    have hA : A = none := by cases A <;> simp at e2; rfl
    exact (e3 hA).1) C vs hb hl hr hs
/-- a call that is given arrays, and works on nothing else -/
theorem CallX.gave {P : Program} {f : Nat} {args : List PV} {H : Heap} {nid : Nat} {K : PV → Heap → List Nat → Prop} (F : List Nat) {r : PV} {u : Heap} (h : ∀ nl, ACall P f (lends H F nl args) [] nid r u) (hF : ∀ id ∈ F, getH u id = none) (hK : K r (u ++ kill F) F) : CallX P f args H nid K :=
  CallX.given F h (fun id b h => by simp [getH] at h) (fun id hid => ⟨rfl, hF id hid⟩) (by simpa [keys] using hK)
theorem CallO.gave {P : Program} {f : Nat} {args : List PV} {H : Heap} {nid : Nat} {K : PV → Heap → Prop} (F : List Nat) {r : PV} {u : Heap} (h : ∀ nl, ACall P f (lends H F nl args) [] nid r u) (hF : ∀ id ∈ F, getH u id = none) (hK : K r (u ++ kill F)) : CallOK P f args H nid K :=
  CallO.x (CallX.gave F h hF hK)
theorem subH_cons {id : Nat} {b : Option ABlk} {Hs H : Heap} (h : getH H id = b) (hs : subH Hs H) : subH ((id, b) :: Hs) H := fun i c hc => by
  by_cases e : id = i
  · subst e; simp only [getH_hit] at hc; rw [h]; exact hc
  · have e1 : (id == i) = false := by simpa using e
    rw [getH_miss e1] at hc
    exact hs i c hc
theorem subH_nil (H : Heap) : subH [] H := fun i c hc => by simp [getH] at hc
theorem SRun.mono {x : ACode} {st : ST} {Q Q' : AEx → ST → Prop} (h : ∀ e s, Q e s → Q' e s) (k : SRun P x st Q) : SRun P x st Q' := fun nt c C Y m a w hc hS => by
  refine wp_mono (k nt c C Y m a w hc hS) ?_
  intro e a w hp
  cases e with
  | normal => obtain ⟨st', Y', m', hq, hs⟩ := hp; exact ⟨st', Y', m', h _ _ hq, hs⟩
  | exit i => obtain ⟨st', Y', m', hq, hs⟩ := hp; exact ⟨st', Y', m', h _ _ hq, hs⟩
  | ret => obtain ⟨st', Y', m', hq, hs⟩ := hp; exact ⟨st', Y', m', h _ _ hq, hs⟩
  | goto l => exact hp.elim
  | panic c => exact hp.elim
  | outgrown => exact hp.elim
/-- a first part that leads, by all its ways, to a state that is said once -/
theorem SR.seqTo {x y : ACode} {st : ST} {Q : AEx → ST → Prop} {t : Tag Q} (st' : ST) (h : Run P x st (seqK (fun s => Cov s st') Q) .mk) (h2 : SR P y st' Q .mk) : SR P (.seq x y) st Q t :=
  SRun.seq (SRun.mono (Q := seqK (fun s => Cov s st') Q) (fun e s hk => by
    cases e
    · exact SRun.cov hk h2
    · exact hk
    · exact hk) (SRun.of_run (by rw [← Run_eq P x st _ .mk]; exact h)))
/-- .. for some data: those that the first part makes -/
theorem SR.seqEx {x y : ACode} {st : ST} {Q : AEx → ST → Prop} {t : Tag Q} {ι : Type} (I : ι → ST) (h : Run P x st (seqK (fun s => ∃ i, Cov s (I i)) Q) .mk) (h2 : ∀ i, SR P y (I i) Q .mk) : SR P (.seq x y) st Q t :=
  SRun.seq (SRun.mono (Q := seqK (fun s => ∃ i, Cov s (I i)) Q) (fun e s hk => by
    cases e
    · obtain ⟨i, hk⟩ := hk; exact SRun.cov hk (h2 i)
    · exact hk
    · exact hk) (SRun.of_run (by rw [← Run_eq P x st _ .mk]; exact h)))
/-- what the model does at a call of a function that has a body -/
theorem calls_of_callSat {f : Nat} {fn : Func} {vs : Array Value} {w : World} {R : Value → World → Prop} (hf : P.funcs[f]? = some fn) (h1 : (fn.name == "runtime.NumGoroutine") = false) (h2 : fn.body.isNone = false) (h : CallSat P f vs w R) :
    Calls P f vs w fun e w' => ∃ v, e = .returned v ∧ R v w' := by
  rcases h with ⟨_, _, _, _, h⟩ | ⟨v, w', h, _⟩
  · exact h
  · exfalso
    unfold callFunc at h
    have h1' : fn.name ≠ "runtime.NumGoroutine" := by simpa using h1
    have h2' : fn.body ≠ none := fun e => by rw [e] at h2; simp at h2
    simp [hf, h1', h2'] at h
/-- a contract at a list of numbers, from the world that the list lies in -/
theorem calls_of_acall {f : Nat} {fn : Func} {A : Option Addr} {cap : Nat} {L : List Int} {w : World} (hf : P.funcs[f]? = some fn) (h1 : (fn.name == "runtime.NumGoroutine") = false) (h2 : fn.body.isNone = false) (hr : RowV w A (ints L)) (hcap : A = none → cap = 0) (hle : L.length ≤ cap)
    (h : ∀ nl nid, ACall P f [.lit nl L.length [.i .i64 fun i => L.getD i 0]] [] nid (.bool true) []) : Calls P f #[.slice A L.length cap] w fun e w' => e = .returned (.bool true) ∧ Below w.heap.size w w' := by
  have hn0 : A = none → L.length = 0 := fun e => by
    rcases L with _ | ⟨x, L⟩
    · rfl
    · obtain ⟨b, o, h, _⟩ := hr.int (k := 0) (x := x) rfl
      rw [e] at h; cases h
  let C : Ctx := ⟨w, fun _ => False, fun _ => False, fun _ => none, 0⟩
  have hs : HS C C.Y0 C.m0 C.w0 [] 0 := by
    refine ⟨fun id b hb => by simp [getH] at hb, fun id id' b b' pl pl' g hne hb => by simp [getH] at hb, fun b hb => hb.elim, fun b hb => hb.elim, Nat.le_refl _, fun b _ _ => rfl, rfl, rfl, rfl, fun b hb => hb.elim, fun b hb => hb.elim, fun b hb => hb.elim, fun _ _ => rfl, fun id hid => hid, fun id pl hp => hp, fun _ _ => rfl, fun id pl hp => by cases hp⟩
  have hrep : Rep C.Y0 C.m0 C.w0 (.lit A.isNone L.length [.i .i64 fun i => L.getD i 0]) (.slice A L.length cap) := by
    refine .lit (.l (u := fun j _ => .int .i64 (L.getD j 0)) rfl (fun e => ⟨hn0 e, hcap e⟩) hle (fun j m hj hm => ?_) (fun j m c hj hm => ?_))
    · have hj' : j < L.length := hj
      have hm0 : m = 0 := by have : m < 1 := hm; omega
      subst hm0
      obtain ⟨b, o, h, hc⟩ := hr.int (k := j) (x := L.getD j 0) (by rw [List.getD_eq_getElem?_getD, List.getElem?_eq_getElem hj']; rfl)
      exact ⟨b, o, h, id, by simpa using hc⟩
    · rcases m with _ | m
      · simp only [List.getElem?_cons_zero, Option.some.injEq] at hm
        subst hm
        exact .i (g := fun i => L.getD i 0)
      · simp at hm
  have hc := h A.isNone 0 C [.slice A L.length cap] rfl rfl (fun i p v hp hv => by
    rcases i with _ | i
    · simp only [List.getElem?_cons_zero, Option.some.injEq] at hp hv
      subst hp; subst hv
      exact hrep
    · simp at hp) hs
  refine (calls_of_callSat hf h1 h2 hc).mono ?_
  rintro e w' ⟨v, rfl, Y', m', r1, r2, r3⟩
  have hv := r1.bool_inv
  subst hv
  exact ⟨rfl, ⟨r2.os, r2.tape, r2.output, r2.size, fun k hk => r2.frame k hk id⟩⟩
/-- a loop of so many rounds at most -/
def LN (P : Program) (c : ACode) : Nat → ST → (AEx → ST → Prop) → Prop
  | 0, _, _ => False
  | k + 1, st, Q => Run P c st (loopK (fun s => LN P c k s Q) Q) .mk
theorem loopK_mono {N N' : ST → Prop} {Q : AEx → ST → Prop} (h : ∀ s, N s → N' s) : ∀ e s, loopK N Q e s → loopK N' Q e s := fun e s hk => by
  cases e
  · exact h s hk
  · exact hk
  · exact hk
end Go.Proofs.Ytmnhlfkphibhfaa
/-
  Two statements at once that lead to one state; a nil slice among the arguments.
-/
namespace Go.Proofs.Ytmnhlfkphibhfaa
open Go.RowKit
set_option linter.unusedVariables false
set_option linter.unusedSimpArgs false
variable {P : Program}
theorem SR.seqTo2 {x y z : ACode} {st : ST} {Q : AEx → ST → Prop} {t : Tag Q} (st' : ST) (h : Run P x st (seqK (fun s => Run P y s (seqK (fun s => Cov s st') Q) .mk) Q) .mk) (h2 : SR P z st' Q .mk) : SR P (.seq x (.seq y z)) st Q t :=
  SRun.seq (SRun.mono (Q := seqK (fun s => Run P y s (seqK (fun s => Cov s st') Q) .mk) Q) (fun e s hk => by
    cases e
    · exact SR.seqTo (t := .mk) st' hk h2
    · exact hk
    · exact hk) (SRun.of_run (by rw [← Run_eq P x st _ .mk]; exact h)))
variable {f : Nat} {as as' : List PV} {Hs : Heap} {nid : Nat} {r : PV} {u : Heap}
theorem rep_nil {Y : Nat → Prop} {m : Names} {w : World} {c c' : List Col} {v : Value} (h : Rep Y m w (.lit true 0 c) v) : Rep Y m w (.lit true 0 c') v := by
  obtain ⟨A, cap, u, rfl, e2, e3, _⟩ := h.lit_inv
  have hA : A = none := by cases A <;> simp at e2; rfl
  subst hA
  obtain ⟨_, rfl⟩ := e3 rfl
  exact .lit (.l (u := fun _ _ => .bool true) rfl (fun _ => ⟨rfl, rfl⟩) (Nat.le_refl _) (fun j m hj _ => absurd hj (Nat.not_lt_zero _)) (fun j m c hj _ => absurd hj (Nat.not_lt_zero _)))
theorem ACall.nilArg (i : Nat) {c c' : List Col} (hi : as[i]? = some (.lit true 0 c)) (ha : ACall P f (as.set i (.lit true 0 c')) Hs nid r u) : ACall P f as Hs nid r u := fun C vs hb hl hr hs => by
  refine ha C vs hb (by simpa using hl) (fun j p v hp hv => ?_) hs
  rw [List.getElem?_set] at hp
  split at hp
  · rename_i hij
    subst hij
    split at hp
    · simp only [Option.some.injEq] at hp
      subst hp
      exact rep_nil (hr i _ v hi hv)
    · cases hp
  · exact hr j p v hp hv
theorem firstBad2 (a b : Int) : firstBad (fun x : Int => x) [a, b] = if a = 0 then b else a := by
  simp only [firstBad]
  split
  · rename_i h; split
    · rename_i h2; exact h2.symm
    · rfl
  · rfl
end Go.Proofs.Ytmnhlfkphibhfaa
/-
  A run shows more where its end asks less; loops that are run round by round.
-/
namespace Go.Proofs.Ytmnhlfkphibhfaa
open Go.RowKit
set_option linter.unusedVariables false
set_option linter.unusedSimpArgs false
variable {P : Program}
theorem bindStep_mono {s : Step} {K K' : PV → Heap → Prop} (h : ∀ v u, K v u → K' v u) (k : bindStep s K) : bindStep s K' := by
  unfold bindStep at k ⊢
  split at k
  · exact ⟨k.1, h _ _ k.2⟩
  · exact k.elim
theorem onBool_mono {p : PV} {K K' : Bool → Prop} (h : ∀ b, K b → K' b) (k : onBool p K) : onBool p K' := by
  unfold onBool at k ⊢
  split at k
  · exact h _ k
  · exact k.elim
theorem onGrd_mono {p : PV} {K K' : Bool → Prop} {Z Z' : Unit → Prop} (h : ∀ b, K b → K' b) (hz : Z () → Z' ()) (k : onGrd p K Z) : onGrd p K' Z' := by
  unfold onGrd at k ⊢
  split at k
  · exact h _ k
  · exact hz k
  · exact k.elim
theorem split2_mono {b : Bool} {X X' Y Y' : Unit → Prop} (h1 : X () → X' ()) (h2 : Y () → Y' ()) (k : split2 b X Y) : split2 b X' Y' := ⟨fun h => h1 (k.1 h), fun h => h2 (k.2 h)⟩
theorem onFn_mono {p : PV} {K K' : Nat → List PV → Prop} (h : ∀ f c, K f c → K' f c) (k : onFn p K) : onFn p K' := by
  unfold onFn at k ⊢
  split at k
  · exact h _ _ k
  · exact k.elim
theorem CallX_mono {f : Nat} {as : List PV} {H : Heap} {n : Nat} {K K' : PV → Heap → List Nat → Prop} (h : ∀ v u r, K v u r → K' v u r) (k : CallX P f as H n K) : CallX P f as H n K' := by
  obtain ⟨L, F, Hs, r, u, h1, h2, h3, h4, h5⟩ := k
  exact ⟨L, F, Hs, r, u, h1, h2, h3, h4, h _ _ _ h5⟩
theorem CallOK_mono {f : Nat} {as : List PV} {H : Heap} {n : Nat} {K K' : PV → Heap → Prop} (h : ∀ v u, K v u → K' v u) (k : CallOK P f as H n K) : CallOK P f as H n K' := by
  obtain ⟨G, k⟩ := k
  exact ⟨G, CallX_mono (fun v u r hk nl => h _ _ (hk nl)) k⟩
theorem runOp_mono {s : Slots} {H : Heap} {n : Nat} {K K' : PV → Heap → Prop} (h : ∀ v u, K v u → K' v u) (op : AOp) (k : runOp P s H n K op) : runOp P s H n K' op := by
  cases op <;> simp only [runOp] at k ⊢ <;> first
    | exact bindStep_mono h k
    | exact CallOK_mono h k
    | exact onFn_mono (fun f c hk => CallOK_mono h hk) k
theorem runOps_mono : ∀ (l : List AIn) (s : Slots) (H : Heap) (n : Nat) {K K' : Slots → Heap → Nat → Prop}, (∀ s H n, K s H n → K' s H n) → runOps P l s H n K → runOps P l s H n K'
  | [], s, H, n, K, K', h, k => h _ _ _ k
  | ⟨d, none, op⟩ :: l, s, H, n, K, K', h, k => by
    simp only [runOps] at k ⊢
    exact runOp_mono (fun v u hk => runOps_mono l _ _ _ h hk) op k
  | ⟨d, some (j, true), op⟩ :: l, s, H, n, K, K', h, k => by
    simp only [runOps] at k ⊢
    exact onGrd_mono (fun b hk => split2_mono (fun hk => runOp_mono (fun v u hk => runOps_mono l _ _ _ h hk) op hk) (fun hk => runOps_mono l _ _ _ h hk) hk) (fun hk => runOps_mono l _ _ _ h hk) k
  | ⟨d, some (j, false), op⟩ :: l, s, H, n, K, K', h, k => by
    simp only [runOps] at k ⊢
    exact onGrd_mono (fun b hk => split2_mono (fun hk => runOps_mono l _ _ _ h hk) (fun hk => runOp_mono (fun v u hk => runOps_mono l _ _ _ h hk) op hk) hk) (fun hk => runOps_mono l _ _ _ h hk) k
theorem opX_mono {s : Slots} {H : Heap} {n : Nat} {K K' : PV → Heap → List Nat → Prop} (h : ∀ v u r, K v u r → K' v u r) (op : AOp) (k : opX P s H n K op) : opX P s H n K' op := by
  cases op with
  | call f args => simp only [opX] at k ⊢; exact CallX_mono (fun v u r hk => And.intro hk.1 (h _ _ _ hk.2)) k
  | callv x args => simp only [opX] at k ⊢; exact onFn_mono (fun f c hk => CallX_mono (fun v u r hk => And.intro hk.1 (h _ _ _ hk.2)) hk) k
  | _ => simp only [opX] at k ⊢; exact bindStep_mono (fun v u hk => h _ _ _ hk) k
theorem runAny_mono : ∀ (l : List (AIn × List Nat)) (recs : List Rec1) (s : Slots) (H : Heap) (n : Nat) {K K' : Slots → Heap → Nat → Prop}, (∀ s H n, K s H n → K' s H n) → runAny P l recs s H n K → runAny P l recs s H n K'
  | [], recs, s, H, n, K, K', h, k => h _ _ _ k
  | (⟨d, none, op⟩, fr) :: l, recs, s, H, n, K, K', h, k => by
    simp only [runAny] at k ⊢
    exact opX_mono (fun v u r hk => ⟨hk.1, runAny_mono l _ _ _ _ h hk.2⟩) op k
  | (⟨d, some (j, true), op⟩, fr) :: l, recs, s, H, n, K, K', h, k => by
    simp only [runAny] at k ⊢
    exact onGrd_mono (fun b hk => split2_mono (fun hk => opX_mono (fun v u r hk => ⟨hk.1, runAny_mono l _ _ _ _ h hk.2⟩) op hk) (fun hk => ⟨hk.1, runAny_mono l _ _ _ _ h hk.2⟩) hk) (fun hk => ⟨hk.1, runAny_mono l _ _ _ _ h hk.2⟩) k
  | (⟨d, some (j, false), op⟩, fr) :: l, recs, s, H, n, K, K', h, k => by
    simp only [runAny] at k ⊢
    exact onGrd_mono (fun b hk => split2_mono (fun hk => ⟨hk.1, runAny_mono l _ _ _ _ h hk.2⟩) (fun hk => opX_mono (fun v u r hk => ⟨hk.1, runAny_mono l _ _ _ _ h hk.2⟩) op hk) hk) (fun hk => ⟨hk.1, runAny_mono l _ _ _ _ h hk.2⟩) k
theorem run_mono : ∀ (c : ACode) (st : ST) {Q Q' : AEx → ST → Prop}, (∀ e s, Q e s → Q' e s) → run P c st Q → run P c st Q'
  | .skip, st, Q, Q', h, k => h _ _ k
  | .ops l, st, Q, Q', h, k => runOps_mono l _ _ _ (fun s H n hk => h _ _ hk) k
  | .any l, st, Q, Q', h, k => runAny_mono l _ _ _ _ (fun s H n hk => h _ _ hk) k
  | .seq a b, st, Q, Q', h, k => run_mono a st (fun e s hk => by
      cases e
      · exact run_mono b s h hk
      · exact h _ _ hk
      · exact h _ _ hk) k
  | .cond x a b, st, Q, Q', h, k => onBool_mono (fun c hk => split2_mono (fun hk => run_mono a st h hk) (fun hk => run_mono b st h hk) hk) k
  | .block id c, st, Q, Q', h, k => run_mono c st (fun e s hk => by
      cases e with
      | normal => exact h _ _ hk
      | ret => exact h _ _ hk
      | exit i =>
        simp only [blockK] at hk ⊢
        cases hi : (i == id) <;> simp only [hi, cond_true, cond_false] at hk ⊢
        · exact h _ _ hk
        · exact h _ _ hk) k
  | .loop c, st, Q, Q', h, k => by
    obtain ⟨ι, I, μ, x, h1, h2⟩ := k
    exact ⟨ι, I, μ, x, h1, fun y => run_mono c _ (fun e s hk => by
      cases e
      · exact hk
      · exact h _ _ hk
      · exact h _ _ hk) (h2 y)⟩
  | .exit i, st, Q, Q', h, k => h _ _ k
  | .ret, st, Q, Q', h, k => h _ _ k
theorem LN_zero (c : ACode) (st : ST) (Q : AEx → ST → Prop) : LN P c 0 st Q = False := rfl
theorem LN_succ (c : ACode) (k : Nat) (st : ST) (Q : AEx → ST → Prop) : LN P c (k + 1) st Q = Run P c st (loopK (fun s => LN P c k s Q) Q) .mk := rfl
/-- a loop of at most k rounds -/
theorem LP.rounds (k : Nat) {c : ACode} {st : ST} {Q : AEx → ST → Prop} {t : Tag Q} (h : LN P c k st Q) : LP P c st Q t :=
  LP.mk (ι := {x : Nat × ST // LN P c x.1 x.2 Q}) (fun x => x.1.2) (fun x => x.1.1) ⟨(k, st), h⟩ (Cov.refl st) (fun x => by
    obtain ⟨⟨n, s⟩, hx⟩ := x
    cases n with
    | zero => exact hx.elim
    | succ n =>
      have hx' : Run P c s (loopK (fun s => LN P c n s Q) Q) .mk := hx
      rw [Run_eq] at hx' ⊢
      refine run_mono c s (fun e s' hk => ?_) hx'
      cases e
      · exact ⟨⟨(n, s'), hk⟩, Nat.lt_succ_self _, Cov.refl _⟩
      · exact hk
      · exact hk)
end Go.Proofs.Ytmnhlfkphibhfaa
