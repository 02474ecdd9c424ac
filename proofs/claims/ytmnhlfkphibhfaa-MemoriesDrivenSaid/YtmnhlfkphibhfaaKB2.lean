/-
  The machine's run is right: what it shows of a code's ends is so in the model.
-/
import Derived.Test.YtmnhlfkphibhfaaKB1
import Derived.Below
import Derived.Laws.BitsAllLaws
import Derived.Laws.BitsLemmas
namespace Go.Proofs.Ytmnhlfkphibhfaa
open Go.RowKit
set_option linter.unusedVariables false
set_option linter.unusedSimpArgs false
variable {P : Program} {C : Ctx} {nt : Nat}

theorem Sat.operand {Y : Nat → Prop} {m : Names} {st : ST} {a : Act} {w : World} (h : Sat C nt Y m st a w) : ∀ x ax, compX x = some ax → Rep Y m w (ax.val st.slots) (a.eval x) := by
  intro x ax hx
  cases x with
  | tmp t =>
    simp only [compX, Option.some.injEq] at hx
    subst hx
    simp only [AX.val, Act.eval]
    by_cases hany : getS st.slots t = .any
    · rw [hany]; exact .any
    · obtain ⟨v, h1, h2⟩ := h.slots t _ rfl hany
      rw [Array.getD_eq_getD_getElem?, h1]
      exact h2
  | const v =>
    simp only [compX] at hx
    obtain ⟨p, hp, rfl⟩ := map_some hx
    exact rep_cv hp
  | global g => simp [compX] at hx
  | func f =>
    simp only [compX, Option.some.injEq] at hx
    subst hx
    exact .fn (vs := []) rfl (fun i p v hp hv => by simp at hp)
theorem getS_put (s : Slots) (d : Option Nat) (v : PV) (i : Nat) : getS (putS s d v) i = if d = some i then v else getS s i := by
  cases d with
  | none => simp [putS]
  | some d =>
    simp only [putS, getS]
    by_cases h : d = i
    · subst h; simp
    · have : (d == i) = false := by simpa using h
      simp [this, h]
theorem Sat.put {Y Y' : Nat → Prop} {m m' : Names} {s : Slots} {H H' : Heap} {n b : Nat} {a : Act} {w w' : World} {d : Option Nat} {p : PV} {v : Value} (h : Sat C nt Y m ⟨s, H, n, b⟩ a w) (hd : dstIn nt d = true) (hr : Rep Y' m' w' p v)
    (hH : HS C Y' m' w' H' (n + 4)) (ev : Ev Y m w Y' m' w') : Sat C nt Y' m' ⟨putS s d p, H', n + 4, b⟩ (a.put d v) w' := by
  refine ⟨?_, ?_, ?_, hH, h.base⟩
  · cases d <;> simp [Act.put, h.size]
  · cases d <;> simp [Act.put, h.defers]
  · intro i q hq hne
    simp only at hq
    rw [getS_put] at hq
    by_cases e : d = some i
    · subst e
      simp only [if_true] at hq
      subst hq
      have hi : i < a.tmps.size := by rw [h.size]; simpa [dstIn] using hd
      exact ⟨v, by simp [Act.put, hi], hr⟩
    · rw [if_neg e] at hq
      obtain ⟨u, h1, h2⟩ := h.slots i q hq hne
      refine ⟨u, ?_, h2.ev ev⟩
      cases d with
      | none => exact h1
      | some d =>
        have : d ≠ i := fun h => e (by rw [h])
        simp [Act.put, Array.getElem?_setIfInBounds_ne this, h1]
theorem Sat.same {Y : Nat → Prop} {m : Names} {s s' : Slots} {H : Heap} {n b : Nat} {a : Act} {w : World} (h : Sat C nt Y m ⟨s, H, n, b⟩ a w) (hs : ∀ i, getS s' i = getS s i) : Sat C nt Y m ⟨s', H, n, b⟩ a w :=
  ⟨h.size, h.defers, fun i p hp hne => h.slots i p (by simpa [hs] using hp) hne, h.heap, h.base⟩
theorem getS_self {s : Slots} {j : Nat} {p : PV} (h : getS s j = p) (i : Nat) : getS ((j, p) :: s) i = getS s i := by
  simp only [getS]
  by_cases e : (j == i) = true
  · have : j = i := by simpa using e
    subst this
    simp [h]
  · simp only [Bool.not_eq_true] at e
    simp [e]

theorem callSat_wp {o : Oper} {a : Act} {w : World} {K' : Act → World → Prop} {Q : Exit → Act → World → Prop} {f : FuncId} {vs : Array Value} {R : Value → World → Prop} (hrun : (execOp a.eval o).run P w = (callFunc f vs).run P w)
    (h : CallSat P f vs w R) (hK : ∀ v w', R v w' → K' (a.put o.dst v) w') : o.wp P a w K' Q := by
  unfold Oper.wp
  rw [hrun]
  rcases h with ⟨fn, h1, h2, h3, h4⟩ | ⟨v, w', h1, h2⟩
  · have : (callFunc f vs).run P w = .ok (.enter f vs) w := by
      unfold callFunc
      simp only [Sem.run_bind, run_program, Result.andThen_ok, h1, h2, h3, Bool.false_eq_true, if_false]
      rfl
    rw [this]
    refine Calls.mono h4 ?_
    rintro e w' ⟨v, rfl, hR⟩
    exact hK v w' hR
  · rw [h1]
    exact hK v w' h2
theorem compOp_call {o : Oper} {ao : AOp} (hc : compOp P o = some ao) (hs : ao.still = false) : ∃ c as, o.op = .call c ∧ compXs c.args.toList = some as ∧ ((∃ f, c.callee = .value (.func f) ∧ ao = .call f as) ∨ ∃ t, c.callee = .value (.tmp t) ∧ ao = .callv (.t t) as) := by
  obtain ⟨dst, op, ty, pos, aft, g⟩ := o
  cases op
  case call c =>
    obtain ⟨cal, ar, at'⟩ := c
    simp only [compOp] at hc
    refine ⟨⟨cal, ar, at'⟩, ?_⟩
    split at hc
    · exfalso
      split at hc
      · split at hc
        · obtain ⟨_, _, rfl⟩ := map_some hc; cases hs
        · obtain ⟨_, _, rfl⟩ := map_some hc; cases hs
        · cases hc
      · cases hc
    · exfalso
      split at hc
      · split at hc
        · injection hc with hc; subst hc; cases hs
        · cases hc
      · cases hc
    · exfalso
      split at hc
      · split at hc
        · injection hc with hc; subst hc; cases hs
        · cases hc
      · cases hc
    · exfalso
      split at hc
      · split at hc
        · split at hc
          · split at hc
            · split at hc
              · injection hc with hc; subst hc; cases hs
              · cases hc
            · cases hc
          · cases hc
        · cases hc
      · cases hc
    · obtain ⟨as, has, rfl⟩ := map_some hc
      exact ⟨as, rfl, has, .inl ⟨_, rfl, rfl⟩⟩
    · obtain ⟨as, has, rfl⟩ := map_some hc
      exact ⟨as, rfl, has, .inr ⟨_, rfl, rfl⟩⟩
    · cases hc
  all_goals
    exfalso
    simp only [compOp] at hc
    repeat' split at hc
    all_goals first
      | cases hc; done
      | (obtain ⟨_, _, rfl⟩ := map_some hc; cases hs; done)
      | (injection hc with hc; subst hc; cases hs; done)
theorem runOp_ok {o : Oper} {ao : AOp} (hc : compOp P o = some ao) {Y : Nat → Prop} {m : Names} {s : Slots} {H : Heap} {n b : Nat} {a : Act} {w : World} (hS : Sat C nt Y m ⟨s, H, n, b⟩ a w) {K : PV → Heap → Prop} (h : runOp P s H n K ao)
    {K' : Act → World → Prop} {Q : Exit → Act → World → Prop} (hK : ∀ v u val Y' m' w', K v u → Rep Y' m' w' v val → HS C Y' m' w' (u ++ H) (n + 4) → Ev Y m w Y' m' w' → K' (a.put o.dst val) w') : o.wp P a w K' Q := by
  have still : ao.still = true → bindStep (step (AX.val s) H n ao) K → o.wp P a w K' Q := by
    intro hst hb
    unfold bindStep at hb
    split at hb
    · rename_i vc v u hstep
      obtain ⟨val, w', Y', m', hd, h1, h2, h3⟩ := step_ok hc hst C Y m w H _ n (AX.val s) a.eval vc v u hS.operand hS.heap (has4_next n) hstep hb.1
      have := hK v u val Y' m' w' hb.2 h1 (h2.mono fun id => fr4_next) h3
      unfold Oper.wp
      rcases hd with hd | ⟨hd, rfl⟩
      · rw [hd]; exact this
      · rw [hd]; exact this
    · exact hb.elim
  have args : ∀ {xs : List Operand} {as : List AX}, compXs xs = some as → (xs.map a.eval).length = (as.map (AX.val s)).length ∧ ∀ (i : Nat) p v, (as.map (AX.val s))[i]? = some p → (xs.map a.eval)[i]? = some v → Rep Y m w p v :=
    fun hx => compXs_rep hS.operand hx
  cases hst : ao.still
  · obtain ⟨c, as, ho, has, hcase⟩ := compOp_call hc hst
    obtain ⟨hl, hr⟩ := args has
    rcases hcase with ⟨f, hf, rfl⟩ | ⟨t, hf, rfl⟩
    · have := call_ok h hS.heap hl hr
      refine callSat_wp ?_ this ?_
      · have e : (c.args.toList.map a.eval).toArray = c.args.map a.eval := Array.toList_inj.1 (by simp)
        rw [e]
        simp [execOp, ho, resolve, hf, Deferred.ofValue, Act.eval, invoke]
      · rintro v w' ⟨r, u, Y', m', h1, h2, h3, h4⟩
        exact hK r u v Y' m' w' h1 h2 h3 h4
    · have h' : onFn (getS s t) fun f cap => CallOK P f (as.map (AX.val s) ++ cap) H n K := h
      unfold onFn at h'
      split at h'
      · rename_i f cap hp
        have hv := hS.operand (.tmp t) (.t t) rfl
        have hv' : Rep Y m w (.fn f cap) (a.eval (.tmp t)) := by rw [← hp]; exact hv
        obtain ⟨vs, e1, e2, e3⟩ := hv'.fn_inv
        have := call_ok (vs := c.args.toList.map a.eval ++ vs) h' hS.heap (by simp only [List.length_append, hl, e2]) (by
          intro i p v hp hv
          by_cases hi : i < (as.map (AX.val s)).length
          · rw [List.getElem?_append_left hi] at hp
            rw [List.getElem?_append_left (by rw [hl]; exact hi)] at hv
            exact hr i p v hp hv
          · rw [List.getElem?_append_right (by omega)] at hp
            rw [List.getElem?_append_right (by rw [hl]; omega), hl] at hv
            exact e3 _ p v hp hv)
        refine callSat_wp ?_ this ?_
        · have e : (c.args.toList.map a.eval ++ vs).toArray = c.args.map a.eval ++ vs.toArray := Array.toList_inj.1 (by simp)
          rw [e]
          simp [execOp, ho, resolve, hf, Deferred.ofValue, e1, invoke]
        · rintro v w' ⟨r, u, Y', m', h1, h2, h3, h4⟩
          exact hK r u v Y' m' w' h1 h2 h3 h4
      · exact h'.elim
  · refine still hst ?_
    cases ao <;> first | exact h | (simp [AOp.still] at hst)

theorem Sat.reguard {Y : Nat → Prop} {m : Names} {s : Slots} {H : Heap} {n b : Nat} {a : Act} {w : World} (h : Sat C nt Y m ⟨s, H, n, b⟩ a w) {j : Nat} {t : Bool} (hj : getS s j = .bool t) : Sat C nt Y m ⟨(j, .bool t) :: s, H, n, b⟩ a w :=
  h.same fun i => getS_self hj i
theorem wanted_of {ops : Array Oper} {o : Oper} {Y : Nat → Prop} {m : Names} {st : ST} {a : Act} {w : World} (h : Sat C nt Y m st a w) {d : Nat} {want : Bool} {t : Option Bool} (hg : dstG ops o.guard = some (some (d, want))) (ht : getS st.slots d = gPV t) :
    Region.wanted o (yielded ops a.tmps) = (t == some want) := by
  unfold dstG at hg
  split at hg
  · cases hg
  · rename_i g j b' hgd
    split at hg
    · rename_i d' hd
      simp only [Option.some.injEq, Prod.mk.injEq] at hg
      obtain ⟨rfl, rfl⟩ := hg
      obtain ⟨v, h1, h2⟩ := h.slots d' _ ht (by cases t <;> simp [gPV])
      have hy : yielded ops a.tmps j = t := by
        cases t with
        | some t => rw [show v = .bool t from Rep.bool_inv h2] at h1; unfold yielded; rw [hd]; simp [h1]
        | none =>
          obtain ⟨vs, e1, e2, _⟩ := Rep.tup_inv (ps := []) h2
          rw [e1] at h1; unfold yielded; rw [hd]; simp [h1]
      unfold Region.wanted
      rw [hgd]
      simp only [hy]
    · cases hg
theorem wanted_none {ops : Array Oper} {o : Oper} {tm : Array Value} (hg : dstG ops o.guard = some none) : Region.wanted o (yielded ops tm) = true := by
  unfold dstG at hg
  split at hg
  · rename_i h; unfold Region.wanted; rw [h]
  · split at hg <;> cases hg
theorem runOps_ok {ops : Array Oper} {Q : Exit → Act → World → Prop} {b : Nat} {K : Slots → Heap → Nat → Prop} (hK : ∀ s H n Y m a w, K s H n → Sat C nt Y m ⟨s, H, n, b⟩ a w → Q .normal a w) :
    ∀ (rest : List Oper) (l : List AIn) (s : Slots) (H : Heap) (n : Nat) (Y : Nat → Prop) (m : Names) (a : Act) (w : World), compOps P nt ops rest = some l → Sat C nt Y m ⟨s, H, n, b⟩ a w → runOps P l s H n K → wpList P ops Q rest a w
  | [], l, s, H, n, Y, m, a, w, hc, hS, h => by
    simp only [compOps, Option.some.injEq] at hc
    subst hc
    exact hK s H n Y m a w h hS
  | o :: rest, l, s, H, n, Y, m, a, w, hc, hS, h => by
    simp only [compOps] at hc
    split at hc
    · rename_i ao g r h1 h2 h3
      split at hc
      · rename_i hd
        simp only [Option.some.injEq] at hc
        subst hc
        have go : ∀ (s : Slots) (hS : Sat C nt Y m ⟨s, H, n, b⟩ a w), runOp P s H n (fun v u => runOps P r (putS s o.dst v) (u ++ H) (n + 4) K) ao → ∀ K' : Act → World → Prop, (∀ a w, wpList P ops Q rest a w → K' a w) → o.wp P a w K' Q := by
          intro s hS h K' hK'
          exact runOp_ok h1 hS h (fun v u val Y' m' w' hr h4 h5 h6 => hK' _ _ (runOps_ok hK rest r _ _ _ Y' m' _ w' h3 (hS.put hd h4 h5 h6) hr))
        have skip : ∀ (s : Slots) (hS : Sat C nt Y m ⟨s, H, n, b⟩ a w), runOps P r (putS s o.dst (.tup [])) H (n + 4) K → ∀ K' : Act → World → Prop, (∀ a w, wpList P ops Q rest a w → K' a w) → K' (a.put o.dst undef) w := by
          intro s hS h K' hK'
          exact hK' _ _ (runOps_ok hK rest r _ _ _ Y m _ w h3 (hS.put hd (.tup (ps := []) (vs := []) rfl (by simp)) (hS.heap.next (Nat.le_add_right _ _)) (Ev.refl _ _ _)) h)
        refine wpList_step fun K' hK' => ?_
        rcases g with _ | ⟨j, want⟩
        · rw [wanted_none h2, if_pos rfl]
          exact go s hS h K' hK'
        · cases want
          · have h' : onGrd (getS s j) (fun b => split2 b (fun _ => runOps P r (putS ((j, .bool true) :: s) o.dst (.tup [])) H (n + 4) K)
              (fun _ => runOp P ((j, .bool false) :: s) H n (fun v u => runOps P r (putS ((j, .bool false) :: s) o.dst v) (u ++ H) (n + 4) K) ao)) (fun _ => runOps P r (putS s o.dst (.tup [])) H (n + 4) K) := h
            unfold onGrd at h'
            split at h'
            · rename_i t ht
              rw [wanted_of (t := some t) hS h2 ht]
              cases t
              · exact go _ (hS.reguard ht) (h'.2 rfl) K' hK'
              · exact skip _ (hS.reguard ht) (h'.1 rfl) K' hK'
            · rename_i ht
              rw [wanted_of (t := none) hS h2 ht]
              exact skip _ hS h' K' hK'
            · exact h'.elim
          · have h' : onGrd (getS s j) (fun b => split2 b (fun _ => runOp P ((j, .bool true) :: s) H n (fun v u => runOps P r (putS ((j, .bool true) :: s) o.dst v) (u ++ H) (n + 4) K) ao)
              (fun _ => runOps P r (putS ((j, .bool false) :: s) o.dst (.tup [])) H (n + 4) K)) (fun _ => runOps P r (putS s o.dst (.tup [])) H (n + 4) K) := h
            unfold onGrd at h'
            split at h'
            · rename_i t ht
              rw [wanted_of (t := some t) hS h2 ht]
              cases t
              · exact skip _ (hS.reguard ht) (h'.2 rfl) K' hK'
              · exact go _ (hS.reguard ht) (h'.1 rfl) K' hK'
            · rename_i ht
              rw [wanted_of (t := none) hS h2 ht]
              exact skip _ hS h' K' hK'
            · exact h'.elim
      · cases hc
    · cases hc
end Go.Proofs.Ytmnhlfkphibhfaa
/-
  A region that draws its order: the text's order shows what every order does, if operations that don't wait for one another touch different slots and names.
-/
namespace Go.Proofs.Ytmnhlfkphibhfaa
open Go.RowKit
set_option linter.unusedVariables false
set_option linter.unusedSimpArgs false
variable {P : Program} {C : Ctx} {nt : Nat}

/-- the heart of a state, whatever names are free -/
structure SatF (C : Ctx) (nt : Nat) (Y : Nat → Prop) (m : Names) (s : Slots) (H : Heap) (Fr : Nat → Prop) (a : Act) (w : World) : Prop where
  size : a.tmps.size = nt
  defers : a.defers = []
  slots : ∀ i p, getS s i = p → p ≠ .any → ∃ v, a.tmps[i]? = some v ∧ Rep Y m w p v
  heap : HSF C Y m w H Fr
theorem SatF.operand {Y : Nat → Prop} {m : Names} {s : Slots} {H : Heap} {Fr : Nat → Prop} {a : Act} {w : World} (h : SatF C nt Y m s H Fr a w) : ∀ x ax, compX x = some ax → Rep Y m w (ax.val s) (a.eval x) := by
  intro x ax hx
  cases x with
  | tmp t =>
    simp only [compX, Option.some.injEq] at hx
    subst hx
    simp only [AX.val, Act.eval]
    by_cases hany : getS s t = .any
    · rw [hany]; exact .any
    · obtain ⟨v, h1, h2⟩ := h.slots t _ rfl hany
      rw [Array.getD_eq_getD_getElem?, h1]
      exact h2
  | const v =>
    simp only [compX] at hx
    obtain ⟨p, hp, rfl⟩ := map_some hx
    exact rep_cv hp
  | global g => simp [compX] at hx
  | func f =>
    simp only [compX, Option.some.injEq] at hx
    subst hx
    exact .fn (vs := []) rfl (fun i p v hp hv => by simp at hp)
theorem SatF.put {Y Y' : Nat → Prop} {m m' : Names} {s s' : Slots} {H H' : Heap} {Fr Fr' : Nat → Prop} {a : Act} {w w' : World} {d : Option Nat} {p : PV} {v : Value} (h : SatF C nt Y m s H Fr a w) (hd : dstIn nt d = true) (hr : Rep Y' m' w' p v)
    (hH : HSF C Y' m' w' H' Fr') (ev : Ev Y m w Y' m' w') (hs : ∀ t, getS s' t = getS (putS s d p) t) : SatF C nt Y' m' s' H' Fr' (a.put d v) w' := by
  refine ⟨?_, ?_, ?_, hH⟩
  · cases d <;> simp [Act.put, h.size]
  · cases d <;> simp [Act.put, h.defers]
  · intro i q hq hne
    rw [hs, getS_put] at hq
    by_cases e : d = some i
    · subst e
      simp only [if_true] at hq
      subst hq
      have hi : i < a.tmps.size := by rw [h.size]; simpa [dstIn] using hd
      exact ⟨v, by simp [Act.put, hi], hr⟩
    · rw [if_neg e] at hq
      obtain ⟨u, h1, h2⟩ := h.slots i q hq hne
      refine ⟨u, ?_, h2.ev ev⟩
      cases d with
      | none => exact h1
      | some d =>
        have : d ≠ i := fun h => e (by rw [h])
        simp [Act.put, Array.getElem?_setIfInBounds_ne this, h1]
theorem HSF.same {Y : Nat → Prop} {m : Names} {w : World} {H H' : Heap} {Fr : Nat → Prop} (h : HSF C Y m w H Fr) (e : ∀ id, getH H' id = getH H id) : HSF C Y m w H' Fr :=
  ⟨fun id b hb => h.blk id b (by rw [← e]; exact hb), fun id id' b b' pl pl' g hne h1 h2 => h.inj id id' b b' pl pl' g hne (by rw [← e]; exact h1) (by rw [← e]; exact h2), h.ylt, h.keep, h.size, h.frame, h.os, h.tape, h.output, h.y0lt, h.x0, h.yless, h.own, h.low, h.names, h.fresh, h.known⟩
theorem wantedF_of {ops : Array Oper} {o : Oper} {Y : Nat → Prop} {m : Names} {s : Slots} {H : Heap} {Fr : Nat → Prop} {a : Act} {w : World} (h : SatF C nt Y m s H Fr a w) {d : Nat} {want : Bool} {t : Option Bool} (hg : dstG ops o.guard = some (some (d, want))) (ht : getS s d = gPV t) :
    Region.wanted o (yielded ops a.tmps) = (t == some want) := by
  unfold dstG at hg
  split at hg
  · cases hg
  · rename_i g j b' hgd
    split at hg
    · rename_i d' hd
      simp only [Option.some.injEq, Prod.mk.injEq] at hg
      obtain ⟨rfl, rfl⟩ := hg
      obtain ⟨v, h1, h2⟩ := h.slots d' _ ht (by cases t <;> simp [gPV])
      have hy : yielded ops a.tmps j = t := by
        cases t with
        | some t => rw [show v = .bool t from Rep.bool_inv h2] at h1; unfold yielded; rw [hd]; simp [h1]
        | none =>
          obtain ⟨vs, e1, e2, _⟩ := Rep.tup_inv (ps := []) h2
          rw [e1] at h1; unfold yielded; rw [hd]; simp [h1]
      unfold Region.wanted
      rw [hgd]
      simp only [hy]
    · cases hg

/-- names below a bound serve as well -/
theorem lowAll_mem {n : Nat} {l : List Nat} (h : lowAll n l = true) {id : Nat} (hid : id ∈ l) : id < n := by
  have := List.all_eq_true.1 h id hid; simpa using this
theorem lowAll_app {n : Nat} {l l' : List Nat} (h : lowAll n (l ++ l') = true) : lowAll n l = true ∧ lowAll n l' = true := by
  unfold lowAll at *; rw [List.all_append, Bool.and_eq_true] at h; exact h
mutual
theorem Rep.upto {Y : Nat → Prop} {m : Names} {w : World} {n : Nat} : ∀ (p : PV) (v : Value), Rep Y m w p v → lowAll n (idsOf p) = true → Rep Y (upto m n) w p v
  | .int _ _, v, h, _ => by rw [h.int_inv]; exact .int
  | .bool _, v, h, _ => by rw [h.bool_inv]; exact .bool
  | .str _, v, h, _ => by rw [h.str_inv]; exact .str
  | .lit _ _ _, v, h, hl => by cases h with | lit h => exact .lit h
  | .ptr id _, v, h, hl => by
    obtain ⟨pl, h1, rfl⟩ := h.ptr_inv
    have : id < n := lowAll_mem hl (by simp [idsOf])
    exact .ptr (by unfold Go.Proofs.Ytmnhlfkphibhfaa.upto; rw [if_pos this]; exact h1)
  | .nilp, v, h, _ => by cases h; exact .nilp
  | .elp _ _, v, h, _ => by obtain ⟨b, oo, u, rfl, h1, h2⟩ := h.elp_inv; exact .elp h1 u h2
  | .arp id _ _, v, h, hl => by
    obtain ⟨pl, h1, h2, rfl⟩ := h.arp_inv
    have : id < n := lowAll_mem hl (by simp [idsOf])
    exact .arp (by unfold Go.Proofs.Ytmnhlfkphibhfaa.upto; rw [if_pos this]; exact h1) h2
  | .sl id _ _, v, h, hl => by
    obtain ⟨pl, A, B, c, cap, h1, rfl, h3, h4, h5, h6, h7, h8⟩ := h.sl_inv
    have : id < n := lowAll_mem hl (by simp [idsOf])
    exact .sl (by unfold Go.Proofs.Ytmnhlfkphibhfaa.upto; rw [if_pos this]; exact h1) h3 h4 h5 h6 h7 h8
  | .agg ps, v, h, hl => by
    obtain ⟨vs, rfl, h1, h2, h3⟩ := h.agg_inv
    simp only [idsOf] at hl
    exact .agg h1 (Rep.uptos ps vs h2 hl) h3
  | .tup ps, v, h, hl => by
    obtain ⟨vs, rfl, h1, h2⟩ := h.tup_inv
    simp only [idsOf] at hl
    exact .tup h1 (Rep.uptos ps vs h2 hl)
  | .fn _ ps, v, h, hl => by
    obtain ⟨vs, rfl, h1, h2⟩ := h.fn_inv
    simp only [idsOf] at hl
    exact .fn h1 (Rep.uptos ps vs h2 hl)
  | .mp _, v, h, _ => by cases h
  | .any, v, h, _ => .any
theorem Rep.uptos {Y : Nat → Prop} {m : Names} {w : World} {n : Nat} : ∀ (ps : List PV) (vs : List Value), (∀ (i : Nat) p v, ps[i]? = some p → vs[i]? = some v → Rep Y m w p v) → lowAll n (idsOfs ps) = true →
    ∀ (i : Nat) p v, ps[i]? = some p → vs[i]? = some v → Rep Y (upto m n) w p v
  | [], vs, h, hl, i, p, v, hi, hv => by simp at hi
  | q :: ps, [], h, hl, i, p, v, hi, hv => by simp at hv
  | q :: ps, u :: vs, h, hl, i, p, v, hi, hv => by
    simp only [idsOfs] at hl
    obtain ⟨l1, l2⟩ := lowAll_app hl
    rcases i with _ | i
    · simp only [List.getElem?_cons_zero, Option.some.injEq] at hi hv
      subst hi; subst hv
      exact Rep.upto q u (h 0 q u rfl rfl) l1
    · simp only [List.getElem?_cons_succ] at hi hv
      exact Rep.uptos ps vs (fun j p v h1 h2 => h (j + 1) p v (by simpa using h1) (by simpa using h2)) l2 i p v hi hv
end
theorem BlkSat.upto {Y : Nat → Prop} {m : Names} {w : World} {n : Nat} {pl : Pl} {b : ABlk} (h : BlkSat Y m w pl b) (hl : lowBlk n (some b) = true) : BlkSat Y (upto m n) w pl b := by
  cases b with
  | box T cs =>
    obtain ⟨vs, h1, h2, h3, h4⟩ := h
    exact ⟨vs, h1, h2, h3, Rep.uptos cs vs h4 hl⟩
  | arr T n cols => exact h
theorem lowH_mem {H : Heap} {n : Nat} : ∀ {l : List Nat}, lowH H n l = true → ∀ id, id ∈ l → id < n ∧ lowBlk n (getH H id) = true
  | [], _, id, hid => by cases hid
  | x :: l, h, id, hid => by
    simp only [lowH, Bool.and_eq_true, decide_eq_true_eq] at h
    rcases List.mem_cons.1 hid with rfl | hid
    · exact h.1
    · exact lowH_mem h.2 id hid
theorem lowH_all {H : Heap} {n : Nat} {l : List Nat} (h : lowH H n l = true) : lowAll n l = true := by
  unfold lowAll; rw [List.all_eq_true]; intro id hid; simpa using (lowH_mem h id hid).1
theorem lowH_app {H : Heap} {n : Nat} : ∀ {l l' : List Nat}, lowH H n (l ++ l') = true → lowH H n l = true ∧ lowH H n l' = true
  | [], l', h => ⟨rfl, h⟩
  | x :: l, l', h => by
    simp only [List.cons_append, lowH, Bool.and_eq_true] at h ⊢
    obtain ⟨h1, h2⟩ := lowH_app h.2
    exact ⟨⟨h.1, h1⟩, h2⟩

/-- what an operation does at a state, with the names that it reads -/
def OpR (P : Program) (ρ : AX → PV) (H : Heap) (n : Nat) (v : PV) (u : Heap) (rds : List Nat) : AOp → Prop
  | .call f args => ∃ (L F : List Nat) (Hs : Heap) (u0 : Heap), subH Hs H ∧ (∀ id ∈ L ++ F, getH Hs id = none ∧ getH u0 id = none) ∧ (L = [] ∨ (v.plain = true ∧ plainH u0 = true ∧ plainH Hs = true)) ∧
      (∀ nl : Nat → Bool, ACall P f (lends H (L ++ F) nl (args.map ρ)) Hs n v u0) ∧ u = u0 ++ kill F ∧ rds = idsOfs (args.map ρ) ++ (keys Hs ++ (L ++ F)) ∧ lowH H n rds = true
  | .callv x args => ∃ f cap, ρ x = .fn f cap ∧ ∃ (L F : List Nat) (Hs : Heap) (u0 : Heap), subH Hs H ∧ (∀ id ∈ L ++ F, getH Hs id = none ∧ getH u0 id = none) ∧ (L = [] ∨ (v.plain = true ∧ plainH u0 = true ∧ plainH Hs = true)) ∧
      (∀ nl : Nat → Bool, ACall P f (lends H (L ++ F) nl (args.map ρ ++ cap)) Hs n v u0) ∧ u = u0 ++ kill F ∧ rds = idsOfs (args.map ρ ++ cap) ++ (keys Hs ++ (L ++ F)) ∧ lowH H n rds = true
  | op => ∃ vc : Prop, step ρ H n op = some (vc, v, u) ∧ vc ∧ rds = idsOfs ((rdXs op).map ρ)
theorem OpR.of_opX {s : Slots} {H : Heap} {n : Nat} {K : PV → Heap → List Nat → Prop} {op : AOp} (h : opX P s H n K op) : ∃ v u rds, OpR P (AX.val s) H n v u rds op ∧ K v u rds := by
  have still : bindStep (step (AX.val s) H n op) (fun v u => K v u (idsOfs ((rdXs op).map (AX.val s)))) → ∃ v u rds, (∃ vc : Prop, step (AX.val s) H n op = some (vc, v, u) ∧ vc ∧ rds = idsOfs ((rdXs op).map (AX.val s))) ∧ K v u rds := by
    intro h
    unfold bindStep at h
    split at h
    · rename_i vc v u hst
      exact ⟨v, u, _, ⟨vc, hst, h.1, rfl⟩, h.2⟩
    · exact h.elim
  cases op with
  | call f args =>
    obtain ⟨L, F, Hs, r, u, h1, h2, h3, h4, h5, h6⟩ := h
    exact ⟨r, u ++ kill F, _, ⟨L, F, Hs, u, h1, h2, h3, h4, rfl, rfl, h5⟩, h6⟩
  | callv x args =>
    have h' : onFn (x.val s) fun f cap => CallX P f (args.map (AX.val s) ++ cap) H n fun v u rds => lowH H n (idsOfs (args.map (AX.val s) ++ cap) ++ rds) = true ∧ K v u (idsOfs (args.map (AX.val s) ++ cap) ++ rds) := h
    unfold onFn at h'
    split at h'
    · rename_i f cap hf
      obtain ⟨L, F, Hs, r, u, h1, h2, h3, h4, h5, h6⟩ := h'
      exact ⟨r, u ++ kill F, _, ⟨f, cap, hf, L, F, Hs, u, h1, h2, h3, h4, rfl, rfl, h5⟩, h6⟩
    · exact h'.elim
  | _ => exact still h

theorem fillP_congr {ρ ρ' : AX → PV} : ∀ (parts : List (Nat × Nat × AX)) (cs : List PV), (∀ x ∈ parts.map (·.2.2), ρ x = ρ' x) → fillP ρ cs parts = fillP ρ' cs parts
  | [], cs, _ => rfl
  | (o, n, x) :: r, cs, h => by
    simp only [fillP]
    rw [h x (by simp)]
    cases (ρ' x).cells with
    | none => rfl
    | some ps =>
      simp only
      rw [fillP_congr r _ (fun y hy => h y (by simp at hy ⊢; exact .inr hy))]
theorem optInt_congr {ρ ρ' : AX → PV} {x : Option AX} (h : ∀ y ∈ x.toList, ρ y = ρ' y) : optInt ρ x = optInt ρ' x := by
  cases x with
  | none => rfl
  | some y => simp only [optInt]; rw [h y (by simp)]
theorem idsOfs_mem {ps : List PV} {p : PV} (hp : p ∈ ps) {id : Nat} (h : id ∈ idsOf p) : id ∈ idsOfs ps := by
  induction ps with
  | nil => cases hp
  | cons q ps ih =>
    simp only [idsOfs, List.mem_append]
    rcases List.mem_cons.1 hp with rfl | hp
    · exact .inl h
    · exact .inr (ih hp)
theorem tailOf_congr {H H' : Heap} {p : PV} (h : ∀ id ∈ idsOf p, getH H id = getH H' id) : tailOf H p = tailOf H' p := by
  cases p <;> simp only [tailOf]
  rename_i id off n
  rw [h id (by simp [idsOf])]
/-- a step depends on its operands and on the blocks that they name -/
theorem step_local {ρ ρ' : AX → PV} {H H' : Heap} {n : Nat} {op : AOp} (hx : ∀ x ∈ opXs op, ρ x = ρ' x) (hH : ∀ id ∈ idsOfs ((rdXs op).map ρ), getH H id = getH H' id) : step ρ H n op = step ρ' H' n op := by
  have hid : ∀ x ∈ rdXs op, ∀ id ∈ idsOf (ρ' x), getH H id = getH H' id := fun x hxm id hid => hH id (idsOfs_mem (p := ρ' x) (by rw [← hx x (rdXs_sub op x hxm)]; exact List.mem_map_of_mem hxm) hid)
  cases op with
  | mv x => simp only [step]; rw [hx x (by simp [opXs])]
  | pick c a b => simp only [step]; rw [hx c (by simp [opXs]), hx a (by simp [opXs]), hx b (by simp [opXs])]
  | box T x => simp only [step]; rw [hx x (by simp [opXs])]
  | alloc T z => rfl
  | build z ps => simp only [step]; rw [fillP_congr ps z hx]
  | bslice T sz k z ps => simp only [step]; rw [fillP_congr ps _ hx]
  | load s x =>
    have hi := hid x (by simp [rdXs])
    simp only [step]; rw [hx x (by simp [opXs])]
    cases hp : ρ' x <;> simp only
    · rw [hi _ (by rw [hp]; simp [idsOf])]
    · rw [hi _ (by rw [hp]; simp [idsOf])]
  | store s x v =>
    have hi := hid x (by simp [rdXs])
    simp only [step]; rw [hx x (by simp [opXs]), hx v (by simp [opXs])]
    cases (ρ' v).cells with
    | none => rfl
    | some ps =>
      simp only
      cases hp : ρ' x <;> simp only
      · rw [hi _ (by rw [hp]; simp [idsOf])]
      · rw [hi _ (by rw [hp]; simp [idsOf])]
  | fadr o x => simp only [step]; rw [hx x (by simp [opXs])]
  | fld o s x => simp only [step]; rw [hx x (by simp [opXs])]
  | iadr sz x i =>
    have hi := hid x (by simp [rdXs])
    simp only [step]; rw [hx x (by simp [opXs]), hx i (by simp [opXs])]
    cases hp : ρ' x <;> cases ρ' i <;> (try rfl)
    simp only
    rw [hi _ (by rw [hp]; simp [idsOf])]
  | idxs x i => simp only [step]; rw [hx x (by simp [opXs]), hx i (by simp [opXs])]
  | bin ty op x y => simp only [step]; rw [hx x (by simp [opXs]), hx y (by simp [opXs])]
  | un op x => simp only [step]; rw [hx x (by simp [opXs])]
  | len b x => simp only [step]; rw [hx x (by simp [opXs])]
  | app T sz by' x y =>
    have hi := hid x (by simp [rdXs])
    simp only [step]; rw [hx x (by simp [opXs]), hx y (by simp [opXs]), tailOf_congr (hid y (by simp [rdXs]))]
    cases tailOf H' (ρ' y) with
    | none => rfl
    | some t =>
      simp only
      cases hp : ρ' x <;> simp only
      rw [hi _ (by rw [hp]; simp [idsOf])]
  | ext x i => simp only [step]; rw [hx x (by simp [opXs])]
  | slc sz x lo hi =>
    have hi' := hid x (by simp [rdXs])
    simp only [step]
    rw [hx x (by simp [opXs]), optInt_congr (x := lo) (fun y hy => hx y (List.mem_cons_of_mem _ (List.mem_append_left _ hy))), optInt_congr (x := hi) (fun y hy => hx y (List.mem_cons_of_mem _ (List.mem_append_right _ hy)))]
    cases optInt ρ' lo with
    | none => rfl
    | some l =>
      cases optInt ρ' hi with
      | none => rfl
      | some h =>
        simp only
        cases hp : ρ' x <;> simp only
        rw [hi' _ (by rw [hp]; simp [idsOf])]
  | sls x lo hi =>
    simp only [step]
    rw [hx x (by simp [opXs]), optInt_congr (x := lo) (fun y hy => hx y (List.mem_cons_of_mem _ (List.mem_append_left _ hy))), optInt_congr (x := hi) (fun y hy => hx y (List.mem_cons_of_mem _ (List.mem_append_right _ hy)))]
  | conv k x => simp only [step]; rw [hx x (by simp [opXs])]
  | nilchk x => simp only [step]; rw [hx x (by simp [opXs])]
  | mks T sz by' z x => simp only [step]; rw [hx x (by simp [opXs])]
  | mkfn f cs =>
    simp only [step]
    have : cs.map ρ = cs.map ρ' := List.map_congr_left hx
    rw [this]
  | mm mx x ys =>
    simp only [step]
    have : ys.map ρ = ys.map ρ' := List.map_congr_left fun y hy => hx y (List.mem_cons_of_mem _ hy)
    rw [hx x (by simp [opXs]), this]
  | eqs neg ks x y => simp only [step]; rw [hx x (by simp [opXs]), hx y (by simp [opXs])]
  | call f as => rfl
  | callv x as => rfl
  | callx k as => rfl
mutual
theorem lend_congr {H H' : Heap} {L : List Nat} {nl : Nat → Bool} (h : ∀ id ∈ L, getH H id = getH H' id) : ∀ p, lend H L nl p = lend H' L nl p
  | .agg ps => by simp only [lend]; rw [lends_congr h ps]
  | .sl id off n => by
    simp only [lend]
    cases hc : L.contains id && (off == 0)
    · rfl
    · simp only [Bool.and_eq_true, List.contains_iff_mem] at hc
      rw [h id hc.1]
  | .int _ _ => by simp [lend]
  | .bool _ => by simp [lend]
  | .str _ => by simp [lend]
  | .lit _ _ _ => by simp [lend]
  | .ptr _ _ => by simp [lend]
  | .nilp => by simp [lend]
  | .elp _ _ => by simp [lend]
  | .arp _ _ _ => by simp [lend]
  | .tup _ => by simp [lend]
  | .fn _ _ => by simp [lend]
  | .mp _ => by simp [lend]
  | .any => by simp [lend]
theorem lends_congr {H H' : Heap} {L : List Nat} {nl : Nat → Bool} (h : ∀ id ∈ L, getH H id = getH H' id) : ∀ ps, lends H L nl ps = lends H' L nl ps
  | [] => by simp [lends]
  | p :: ps => by simp only [lends]; rw [lend_congr h p, lends_congr h ps]
end
theorem lowH_congr {H H' : Heap} {n : Nat} : ∀ {l : List Nat}, (∀ id ∈ l, getH H id = getH H' id) → lowH H n l = lowH H' n l
  | [], _ => rfl
  | x :: l, h => by simp only [lowH]; rw [h x (by simp), lowH_congr (fun id hid => h id (by simp [hid]))]
theorem keys_of_getH {H : Heap} {id : Nat} {b : ABlk} (h : getH H id = some b) : id ∈ keys H := by
  induction H with
  | nil => simp [getH] at h
  | cons x H ih =>
    obtain ⟨i, c⟩ := x
    simp only [getH] at h
    simp only [keys, List.map_cons, List.mem_cons]
    by_cases e : (i == id) = true
    · exact .inl (by simpa using e : i = id).symm
    · simp only [Bool.not_eq_true] at e; simp only [e, cond_false] at h; exact .inr (ih h)
theorem OpR.local {ρ ρ' : AX → PV} {H H' : Heap} {n : Nat} {v : PV} {u : Heap} {rds : List Nat} {op : AOp} (h : OpR P ρ H n v u rds op) (hx : ∀ x ∈ opXs op, ρ x = ρ' x) (hH : ∀ id ∈ rds, getH H id = getH H' id) : OpR P ρ' H' n v u rds op := by
  have callp : ∀ (f : Nat) (args args' : List PV), args' = args → (∃ (L F : List Nat) (Hs : Heap) (u0 : Heap), subH Hs H ∧ (∀ id ∈ L ++ F, getH Hs id = none ∧ getH u0 id = none) ∧ (L = [] ∨ (v.plain = true ∧ plainH u0 = true ∧ plainH Hs = true)) ∧
      (∀ nl : Nat → Bool, ACall P f (lends H (L ++ F) nl args) Hs n v u0) ∧ u = u0 ++ kill F ∧ rds = idsOfs args ++ (keys Hs ++ (L ++ F)) ∧ lowH H n rds = true) →
      ∃ (L F : List Nat) (Hs : Heap) (u0 : Heap), subH Hs H' ∧ (∀ id ∈ L ++ F, getH Hs id = none ∧ getH u0 id = none) ∧ (L = [] ∨ (v.plain = true ∧ plainH u0 = true ∧ plainH Hs = true)) ∧
      (∀ nl : Nat → Bool, ACall P f (lends H' (L ++ F) nl args') Hs n v u0) ∧ u = u0 ++ kill F ∧ rds = idsOfs args' ++ (keys Hs ++ (L ++ F)) ∧ lowH H' n rds = true := by
    rintro f args args' rfl ⟨L, F, Hs, u0, h1, h2, h3, h4, h5, h6, h7⟩
    refine ⟨L, F, Hs, u0, fun id b hb => ?_, h2, h3, fun nl => ?_, h5, h6, ?_⟩
    · rw [← hH id (by rw [h6]; simp [keys_of_getH hb])]; exact h1 id b hb
    · rw [← lends_congr (H := H) (fun id hid => hH id (by rw [h6]; simp only [List.mem_append] at hid ⊢; exact .inr (.inr hid)))]; exact h4 nl
    · rw [← lowH_congr hH]; exact h7
  cases op with
  | call f args =>
    have e : args.map ρ' = args.map ρ := (List.map_congr_left hx).symm
    exact callp f _ _ e h
  | callv x args =>
    obtain ⟨f, cap, h1, h2⟩ := h
    have e : args.map ρ' = args.map ρ := (List.map_congr_left fun y hy => hx y (by simp [opXs, hy])).symm
    exact ⟨f, cap, by rw [← hx x (by simp [opXs])]; exact h1, callp f _ _ (by rw [e]) h2⟩
  | _ =>
    obtain ⟨vc, h1, h2, h3⟩ := h
    refine ⟨vc, ?_, h2, ?_⟩
    · rw [← step_local hx (fun id hid => hH id (by rw [h3]; exact hid))]; exact h1
    · rw [h3, List.map_congr_left fun x hxm => hx x (rdXs_sub _ x hxm)]
/-- and it is so in the model -/
theorem OpR.sound {o : Oper} {ao : AOp} (hc : compOp P o = some ao) {Y : Nat → Prop} {m : Names} {s : Slots} {H : Heap} {Fr : Nat → Prop} {n : Nat} {a : Act} {w : World} (hS : SatF C nt Y m s H Fr a w) (h4 : Has4 Fr n) {v : PV} {u : Heap} {rds : List Nat}
    (h : OpR P (AX.val s) H n v u rds ao) {K' : Act → World → Prop} {Q : Exit → Act → World → Prop} (hK : ∀ val Y' m' w', Rep Y' m' w' v val → HSF C Y' m' w' (u ++ H) (Fr4 Fr n) → Ev Y m w Y' m' w' → K' (a.put o.dst val) w') : o.wp P a w K' Q := by
  have still : ao.still = true → (∃ vc : Prop, step (AX.val s) H n ao = some (vc, v, u) ∧ vc ∧ rds = idsOfs ((rdXs ao).map (AX.val s))) → o.wp P a w K' Q := by
    rintro hst ⟨vc, h1, h2, _⟩
    obtain ⟨val, w', Y', m', hd, g1, g2, g3⟩ := step_ok hc hst C Y m w H Fr n (AX.val s) a.eval vc v u hS.operand hS.heap h4 h1 h2
    have := hK val Y' m' w' g1 g2 g3
    unfold Oper.wp
    rcases hd with hd | ⟨hd, rfl⟩
    · rw [hd]; exact this
    · rw [hd]; exact this
  have callp : ∀ (f : Nat) (args : List PV) (vs : List Value), vs.length = args.length → (∀ (i : Nat) p v, args[i]? = some p → vs[i]? = some v → Rep Y m w p v) →
      (∃ (L F : List Nat) (Hs : Heap) (u0 : Heap), subH Hs H ∧ (∀ id ∈ L ++ F, getH Hs id = none ∧ getH u0 id = none) ∧ (L = [] ∨ (v.plain = true ∧ plainH u0 = true ∧ plainH Hs = true)) ∧
      (∀ nl : Nat → Bool, ACall P f (lends H (L ++ F) nl args) Hs n v u0) ∧ u = u0 ++ kill F ∧ rds = idsOfs args ++ (keys Hs ++ (L ++ F)) ∧ lowH H n rds = true) →
      CallSat P f vs.toArray w fun val w' => ∃ Y' m', Rep Y' m' w' v val ∧ HSF C Y' m' w' (u ++ H) (Fr4 Fr n) ∧ Ev Y m w Y' m' w' := by
    rintro f args vs hl hr ⟨L, F, Hs, u0, h1, h2, h3, h5, rfl, h6, h7⟩
    rw [h6] at h7
    obtain ⟨l1, l2⟩ := lowH_app h7
    exact call_core h1 h2 h3 h5 hS.heap h4 hl (Rep.uptos args vs hr (lowH_all l1)) (by
      intro id b hb
      have hmem : id ∈ keys Hs ++ (L ++ F) := by
        rcases hb with ⟨hb, _⟩ | hb
        · exact List.mem_append.2 (.inr hb)
        · exact List.mem_append.2 (.inl (keys_of_getH hb))
      have hb' : getH H id = some b := by
        rcases hb with ⟨_, hb⟩ | hb
        · exact hb
        · exact h1 _ _ hb
      obtain ⟨q1, q2⟩ := lowH_mem l2 id hmem
      rw [hb'] at q2
      obtain ⟨pl, p1, p2, _⟩ := hS.heap.blk id b hb'
      exact ⟨pl, by unfold Go.Proofs.Ytmnhlfkphibhfaa.upto; rw [if_pos q1]; exact p1, p2.upto q2⟩)
  cases hst : ao.still
  · obtain ⟨c, as, ho, has, hcase⟩ := compOp_call hc hst
    obtain ⟨hl, hr⟩ := compXs_rep hS.operand has
    rcases hcase with ⟨f, hf, rfl⟩ | ⟨t, hf, rfl⟩
    · refine callSat_wp ?_ (callp f _ _ hl hr h) ?_
      · have e : (c.args.toList.map a.eval).toArray = c.args.map a.eval := Array.toList_inj.1 (by simp)
        rw [e]
        simp [execOp, ho, resolve, hf, Deferred.ofValue, Act.eval, invoke]
      · rintro val w' ⟨Y', m', h1, h2, h3⟩
        exact hK val Y' m' w' h1 h2 h3
    · obtain ⟨f, cap, hp, h⟩ := h
      have hv := hS.operand (.tmp t) (.t t) rfl
      rw [hp] at hv
      obtain ⟨vs, e1, e2, e3⟩ := hv.fn_inv
      refine callSat_wp ?_ (callp f _ (c.args.toList.map a.eval ++ vs) (by simp only [List.length_append, hl, e2]) (by
          intro i p v hp hv
          by_cases hi : i < (as.map (AX.val s)).length
          · rw [List.getElem?_append_left hi] at hp
            rw [List.getElem?_append_left (by rw [hl]; exact hi)] at hv
            exact hr i p v hp hv
          · rw [List.getElem?_append_right (by omega)] at hp
            rw [List.getElem?_append_right (by rw [hl]; omega), hl] at hv
            exact e3 _ p v hp hv) h) ?_
      · have e : (c.args.toList.map a.eval ++ vs).toArray = c.args.map a.eval ++ vs.toArray := Array.toList_inj.1 (by simp)
        rw [e]
        simp [execOp, ho, resolve, hf, Deferred.ofValue, e1, invoke]
      · rintro val w' ⟨Y', m', h1, h2, h3⟩
        exact hK val Y' m' w' h1 h2 h3
  · refine still hst ?_
    cases ao <;> first | exact h | (simp [AOp.still] at hst)

/-- what an operation of the region did -/
structure TE where
  dst : Option Nat
  names : List Nat
  rds : List Nat
  v : PV
  u : Heap
  ran : Bool
def TE.rec1 (t : TE) : Rec1 := ⟨t.dst, t.names, t.rds, keys t.u⟩
/-- the slots and the blocks behind the operations of a set -/
def selS : List TE → Nat → (Nat → Bool) → Slots → Slots
  | [], _, _, s => s
  | t :: tr, k, L, s => selS tr (k + 1) L (bif L k then putS s t.dst t.v else s)
def selH : List TE → Nat → (Nat → Bool) → Heap → Heap
  | [], _, _, H => H
  | t :: tr, k, L, H => selH tr (k + 1) L (bif L k then t.u ++ H else H)
/-- slots alike -/
def SEq (s s' : Slots) : Prop := ∀ t, getS s t = getS s' t
theorem selS_congr : ∀ (tr : List TE) (k : Nat) (L L' : Nat → Bool) (s s' : Slots) (t : Nat), getS s t = getS s' t → (∀ j e, tr[j]? = some e → e.dst = some t → L (k + j) = L' (k + j)) → getS (selS tr k L s) t = getS (selS tr k L' s') t
  | [], k, L, L', s, s', t, h, _ => h
  | e :: tr, k, L, L', s, s', t, h, hd => by
    simp only [selS]
    refine selS_congr tr (k + 1) L L' _ _ t ?_ (fun j e' hj hdj => by have := hd (j + 1) e' (by simpa using hj) hdj; rwa [show k + (j + 1) = k + 1 + j from by omega] at this)
    by_cases he : e.dst = some t
    · have := hd 0 e rfl he
      simp only [Nat.add_zero] at this
      rw [this]
      cases L' k
      · exact h
      · simp only [cond_true]; rw [getS_put, getS_put, if_pos he, if_pos he]
    · have h1 : ∀ s, getS (putS s e.dst e.v) t = getS s t := fun s => by rw [getS_put, if_neg he]
      cases L k <;> cases L' k <;> simp only [cond_true, cond_false, h1] <;> exact h
theorem selH_congr : ∀ (tr : List TE) (k : Nat) (L L' : Nat → Bool) (H H' : Heap) (id : Nat), getH H id = getH H' id → (∀ j e, tr[j]? = some e → hasH e.u id = true → L (k + j) = L' (k + j)) → getH (selH tr k L H) id = getH (selH tr k L' H') id
  | [], k, L, L', H, H', id, h, _ => h
  | e :: tr, k, L, L', H, H', id, h, hd => by
    simp only [selH]
    refine selH_congr tr (k + 1) L L' _ _ id ?_ (fun j e' hj hdj => by have := hd (j + 1) e' (by simpa using hj) hdj; rwa [show k + (j + 1) = k + 1 + j from by omega] at this)
    by_cases he : hasH e.u id = true
    · have := hd 0 e rfl he
      simp only [Nat.add_zero] at this
      rw [this]
      cases L' k
      · exact h
      · simp only [cond_true]; rw [getH_app, getH_app, if_pos he, if_pos he]
    · have h1 : ∀ H, getH (e.u ++ H) id = getH H id := fun H => by rw [getH_app, if_neg he]
      cases L k <;> cases L' k <;> simp only [cond_true, cond_false, h1] <;> exact h
theorem selS_none : ∀ (tr : List TE) (k : Nat) (L : Nat → Bool) (s : Slots), (∀ j, k ≤ j → L j = false) → selS tr k L s = s
  | [], k, L, s, _ => rfl
  | e :: tr, k, L, s, h => by simp only [selS]; rw [h k (Nat.le_refl _)]; exact selS_none tr (k + 1) L s (fun j hj => h j (by omega))
theorem selH_none : ∀ (tr : List TE) (k : Nat) (L : Nat → Bool) (H : Heap), (∀ j, k ≤ j → L j = false) → selH tr k L H = H
  | [], k, L, H, _ => rfl
  | e :: tr, k, L, H, h => by simp only [selH]; rw [h k (Nat.le_refl _)]; exact selH_none tr (k + 1) L H (fun j hj => h j (by omega))
/-- one operation more, to which nothing later in the set answers -/
theorem selS_add : ∀ (tr : List TE) (k i : Nat) (L : Nat → Bool) (s : Slots) (e : TE) (t : Nat), tr[i]? = some e → L (k + i) = false → (∀ j e', tr[j]? = some e' → i < j → L (k + j) = true → e.dst = some t → e'.dst ≠ some t) →
    getS (selS tr k (fun x => L x || x == k + i) s) t = getS (putS (selS tr k L s) e.dst e.v) t := by
  intro tr
  induction tr with
  | nil => intro k i L s e t h; simp at h
  | cons x tr ih =>
    intro k i L s e t h hL hd
    rcases i with _ | i
    · simp only [List.getElem?_cons_zero, Option.some.injEq] at h
      subst h
      simp only [Nat.add_zero] at hL hd ⊢
      simp only [selS, hL, beq_self_eq_true, Bool.or_true, cond_true, cond_false]
      rw [getS_put]
      by_cases he : x.dst = some t
      · rw [if_pos he]
        have hw : ∀ (tr : List TE) (k' : Nat) (s : Slots), k < k' → getS s t = x.v → (∀ j e', tr[j]? = some e' → L (k' + j) = true → e'.dst ≠ some t) → getS (selS tr k' (fun x => L x || x == k) s) t = x.v := by
          intro tr
          induction tr with
          | nil => intro k' s _ h _; exact h
          | cons y tr ih2 =>
            intro k' s hk h hdd
            simp only [selS]
            refine ih2 (k' + 1) _ (by omega) ?_ (fun j e' hj hLj => hdd (j + 1) e' (by simpa using hj) (by rwa [show k' + (j + 1) = k' + 1 + j from by omega]))
            have hkk : (k' == k) = false := by
              have : k' ≠ k := by omega
              simpa using this
            rw [hkk, Bool.or_false]
            cases hLk : L k'
            · exact h
            · simp only [cond_true]
              rw [getS_put, if_neg (hdd 0 y rfl (by simpa using hLk))]
              exact h
        refine hw tr (k + 1) _ (by omega) (by rw [getS_put, if_pos he]) (fun j e' hj hLj => hd (j + 1) e' (by simpa using hj) (by omega) (by rwa [show k + (j + 1) = k + 1 + j from by omega]) he)
      · rw [if_neg he]
        refine selS_congr tr (k + 1) _ L _ s t (by rw [getS_put, if_neg he]) (fun j e' hj _ => ?_)
        have : (k + 1 + j == k) = false := by
          have : k + 1 + j ≠ k := by omega
          simpa using this
        simp [this]
    · simp only [List.getElem?_cons_succ] at h
      have hki : (k == k + (i + 1)) = false := by
        have : k ≠ k + (i + 1) := by omega
        simp
      simp only [selS, hki, Bool.or_false]
      have := ih (k + 1) i L (bif L k then putS s x.dst x.v else s) e t h (by rwa [show k + 1 + i = k + (i + 1) from by omega]) (fun j e' hj hij hLj => hd (j + 1) e' (by simpa using hj) (by omega) (by rwa [show k + (j + 1) = k + 1 + j from by omega]))
      rw [show k + (i + 1) = k + 1 + i from by omega]
      exact this
theorem selH_add : ∀ (tr : List TE) (k i : Nat) (L : Nat → Bool) (H : Heap) (e : TE) (id : Nat), tr[i]? = some e → L (k + i) = false → (∀ j e', tr[j]? = some e' → i < j → L (k + j) = true → hasH e.u id = true → hasH e'.u id = false) →
    getH (selH tr k (fun x => L x || x == k + i) H) id = getH (e.u ++ selH tr k L H) id := by
  intro tr
  induction tr with
  | nil => intro k i L H e id h; simp at h
  | cons x tr ih =>
    intro k i L H e id h hL hd
    rcases i with _ | i
    · simp only [List.getElem?_cons_zero, Option.some.injEq] at h
      subst h
      simp only [Nat.add_zero] at hL hd ⊢
      simp only [selH, hL, beq_self_eq_true, Bool.or_true, cond_true, cond_false]
      rw [getH_app]
      by_cases he : hasH x.u id = true
      · rw [if_pos he]
        have hw : ∀ (tr : List TE) (k' : Nat) (H : Heap), k < k' → getH H id = getH x.u id → (∀ j e', tr[j]? = some e' → L (k' + j) = true → hasH e'.u id = false) → getH (selH tr k' (fun x => L x || x == k) H) id = getH x.u id := by
          intro tr
          induction tr with
          | nil => intro k' H _ h _; exact h
          | cons y tr ih2 =>
            intro k' H hk h hdd
            simp only [selH]
            refine ih2 (k' + 1) _ (by omega) ?_ (fun j e' hj hLj => hdd (j + 1) e' (by simpa using hj) (by rwa [show k' + (j + 1) = k' + 1 + j from by omega]))
            have hkk : (k' == k) = false := by
              have : k' ≠ k := by omega
              simpa using this
            rw [hkk, Bool.or_false]
            cases hLk : L k'
            · exact h
            · simp only [cond_true]
              rw [getH_app, if_neg (by rw [hdd 0 y rfl (by simpa using hLk)]; simp)]
              exact h
        refine hw tr (k + 1) _ (by omega) (by rw [getH_app, if_pos he]) (fun j e' hj hLj => hd (j + 1) e' (by simpa using hj) (by omega) (by rwa [show k + (j + 1) = k + 1 + j from by omega]) he)
      · rw [if_neg he]
        refine selH_congr tr (k + 1) _ L _ H id (by rw [getH_app, if_neg he]) (fun j e' hj _ => ?_)
        have : (k + 1 + j == k) = false := by
          have : k + 1 + j ≠ k := by omega
          simpa using this
        simp [this]
    · simp only [List.getElem?_cons_succ] at h
      have hki : (k == k + (i + 1)) = false := by
        have : k ≠ k + (i + 1) := by omega
        simp
      simp only [selH, hki, Bool.or_false]
      have := ih (k + 1) i L (bif L k then x.u ++ H else H) e id h (by rwa [show k + 1 + i = k + (i + 1) from by omega]) (fun j e' hj hij hLj => hd (j + 1) e' (by simpa using hj) (by omega) (by rwa [show k + (j + 1) = k + 1 + j from by omega]))
      rw [show k + (i + 1) = k + 1 + i from by omega]
      exact this

/-- what is known of one operation, at its place in the text's order -/
def Fact (P : Program) (x : AIn) (s : Slots) (H : Heap) (n : Nat) (t : TE) : Prop :=
  t.dst = x.dst ∧ match x.guard with
  | none => t.ran = true ∧ t.names = namesX (opXs x.op) ∧ OpR P (AX.val s) H n t.v t.u t.rds x.op
  | some (j, want) => ∃ b, getS s j = gPV b ∧ t.ran = (b == some want) ∧ ((t.ran = true ∧ t.names = j :: namesX (opXs x.op) ∧ OpR P (AX.val s) H n t.v t.u t.rds x.op) ∨ (t.ran = false ∧ t.names = [j] ∧ t.v = .tup [] ∧ t.u = [] ∧ t.rds = []))
theorem OpR.same {ρ ρ' : AX → PV} {H : Heap} {n : Nat} {v : PV} {u : Heap} {rds : List Nat} {op : AOp} (h : OpR P ρ H n v u rds op) (e : ρ = ρ') : OpR P ρ' H n v u rds op := e ▸ h
theorem val_congr {s s' : Slots} (h : SEq s s') : AX.val s = AX.val s' := by
  funext x
  cases x with
  | t n => exact h n
  | c p => rfl
/-- the text's run, taken apart -/
theorem runAny_trace {K : Slots → Heap → Nat → Prop} : ∀ (l : List (AIn × List Nat)) (prev : List TE) (k : Nat) (s0 s : Slots) (H : Heap) (n : Nat), SEq s s0 → runAny P l (prev.map TE.rec1) s H n K →
    ∃ tr : List TE, tr.length = l.length ∧ (∀ (i : Nat) x fr t, l[i]? = some (x, fr) → tr[i]? = some t → Fact P x (selS tr k (fun j => decide (j < k + i)) s0) (selH tr k (fun j => decide (j < k + i)) H) (n + 4 * i) t ∧
      ∀ j ∈ fr, ∃ t', (prev ++ tr)[j]? = some t' ∧ j < prev.length + i ∧ indep t'.rec1 t.rec1 = true) ∧ ∃ s', SEq s' (selS tr k (fun _ => true) s0) ∧ K s' (selH tr k (fun _ => true) H) (n + 4 * l.length)
  | [], prev, k, s0, s, H, n, hs, h => ⟨[], rfl, fun i x fr t hi => by simp at hi, s, hs, h⟩
  | (⟨d, g, op⟩, fr) :: l, prev, k, s0, s, H, n, hs, h => by
    have free : ∀ (fr : List Nat) (t : TE), freeOf (prev.map TE.rec1) t.rec1 fr = true → ∀ j ∈ fr, ∃ t', prev[j]? = some t' ∧ indep t'.rec1 t.rec1 = true := by
      intro fr t
      induction fr with
      | nil => intro _ j hj; cases hj
      | cons x fr ih =>
        intro hf j hj
        simp only [freeOf, Bool.and_eq_true] at hf
        rcases List.mem_cons.1 hj with rfl | hj
        · have h1 := hf.1
          rw [List.getElem?_map] at h1
          cases hp : prev[j]? with
          | none => rw [hp] at h1; simp at h1
          | some t' => rw [hp] at h1; exact ⟨t', rfl, h1⟩
        · exact ih hf.2 j hj
    -- one operation, then the rest
    have step1 : ∀ (t : TE) (s1 : Slots), SEq s1 s → Fact P ⟨d, g, op⟩ s0 H n t → freeOf (prev.map TE.rec1) t.rec1 fr = true → runAny P l ((prev ++ [t]).map TE.rec1) (putS s1 d t.v) (t.u ++ H) (n + 4) K → t.dst = d →
        ∃ tr : List TE, tr.length = ((⟨d, g, op⟩, fr) :: l : List (AIn × List Nat)).length ∧ (∀ (i : Nat) x fr' t, ((⟨d, g, op⟩, fr) :: l)[i]? = some (x, fr') → tr[i]? = some t → Fact P x (selS tr k (fun j => decide (j < k + i)) s0) (selH tr k (fun j => decide (j < k + i)) H) (n + 4 * i) t ∧
          ∀ j ∈ fr', ∃ t', (prev ++ tr)[j]? = some t' ∧ j < prev.length + i ∧ indep t'.rec1 t.rec1 = true) ∧ ∃ s', SEq s' (selS tr k (fun _ => true) s0) ∧ K s' (selH tr k (fun _ => true) H) (n + 4 * ((⟨d, g, op⟩, fr) :: l : List (AIn × List Nat)).length) := by
      intro t s1 hs1 hf hfree hrun hd
      have hseq : SEq (putS s1 d t.v) (putS s0 t.dst t.v) := fun i => by rw [getS_put, getS_put, hd, hs1 i, hs i]
      obtain ⟨tr, e1, e2, s', e3, e4⟩ := runAny_trace l (prev ++ [t]) (k + 1) (putS s0 t.dst t.v) _ _ _ hseq hrun
      refine ⟨t :: tr, by simp [e1], fun i x fr' t' hi ht => ?_, s', ?_, ?_⟩
      · rcases i with _ | i
        · simp only [List.getElem?_cons_zero, Option.some.injEq, Prod.mk.injEq] at hi ht
          obtain ⟨rfl, rfl⟩ := hi
          subst ht
          refine ⟨?_, fun j hj => ?_⟩
          · rw [selS_none _ _ _ _ (fun j hj => by simp; omega), selH_none _ _ _ _ (fun j hj => by simp; omega)]
            exact hf
          · obtain ⟨t', h1, h2⟩ := free fr t hfree j hj
            have hjl : j < prev.length := (List.getElem?_eq_some_iff.1 h1).1
            exact ⟨t', by rw [List.getElem?_append_left hjl]; exact h1, by omega, h2⟩
        · simp only [List.getElem?_cons_succ] at hi ht
          obtain ⟨f1, f2⟩ := e2 i x fr' t' hi ht
          have hk : decide (k < k + (i + 1)) = true := by simp
          simp only [selS, selH, hk, cond_true]
          rw [show k + (i + 1) = k + 1 + i from by omega, show n + 4 * (i + 1) = n + 4 + 4 * i from by omega]
          refine ⟨f1, fun j hj => ?_⟩
          obtain ⟨q, h1, h2, h3⟩ := f2 j hj
          refine ⟨q, by simpa using h1, by simp at h2; omega, h3⟩
      · simp only [selS, cond_true]; exact e3
      · simp only [selH, cond_true, List.length_cons]
        rw [show n + 4 * (l.length + 1) = n + 4 + 4 * l.length from by omega]
        exact e4
    have hval : AX.val s = AX.val s0 := val_congr hs
    rcases g with _ | ⟨j, want⟩
    · obtain ⟨v, u, rds, h1, h2, h3⟩ := OpR.of_opX (show opX P s H n _ op from h)
      exact step1 ⟨d, namesX (opXs op), rds, v, u, true⟩ s (fun _ => rfl) ⟨rfl, rfl, rfl, h1.same hval⟩ h2 (by simpa [TE.rec1] using h3) rfl
    · cases want
      · have h' : onGrd (getS s j) (fun b => split2 b
          (fun _ => freeOf (prev.map TE.rec1) ⟨d, [j], [], []⟩ fr = true ∧ runAny P l (prev.map TE.rec1 ++ [⟨d, [j], [], []⟩]) (putS ((j, .bool true) :: s) d (.tup [])) H (n + 4) K)
          (fun _ => opX P ((j, .bool false) :: s) H n (fun v u rds => freeOf (prev.map TE.rec1) ⟨d, j :: namesX (opXs op), rds, keys u⟩ fr = true ∧ runAny P l (prev.map TE.rec1 ++ [⟨d, j :: namesX (opXs op), rds, keys u⟩]) (putS ((j, .bool false) :: s) d v) (u ++ H) (n + 4) K) op)) (fun _ => freeOf (prev.map TE.rec1) ⟨d, [j], [], []⟩ fr = true ∧ runAny P l (prev.map TE.rec1 ++ [⟨d, [j], [], []⟩]) (putS s d (.tup [])) H (n + 4) K) := h
        unfold onGrd at h'
        split at h'
        · rename_i b hb
          have hb0 : getS s0 j = .bool b := by rw [← hs]; exact hb
          cases b
          · obtain ⟨v, u, rds, h1, h2, h3⟩ := OpR.of_opX (h'.2 rfl)
            have hss : SEq ((j, .bool false) :: s) s := getS_self hb
            exact step1 ⟨d, j :: namesX (opXs op), rds, v, u, true⟩ _ hss ⟨rfl, some false, hb0, rfl, .inl ⟨rfl, rfl, h1.same ((val_congr hss).trans hval)⟩⟩ h2 (by simpa [TE.rec1] using h3) rfl
          · obtain ⟨h2, h3⟩ := h'.1 rfl
            exact step1 ⟨d, [j], [], .tup [], [], false⟩ _ (getS_self hb) ⟨rfl, some true, hb0, rfl, .inr ⟨rfl, rfl, rfl, rfl, rfl⟩⟩ h2 (by simpa [TE.rec1, keys] using h3) rfl
        · rename_i hb
          have hb0 : getS s0 j = gPV none := by rw [← hs]; exact hb
          obtain ⟨h2, h3⟩ := h'
          exact step1 ⟨d, [j], [], .tup [], [], false⟩ s (fun _ => rfl) ⟨rfl, none, hb0, rfl, .inr ⟨rfl, rfl, rfl, rfl, rfl⟩⟩ h2 (by simpa [TE.rec1, keys] using h3) rfl
        · exact h'.elim
      · have h' : onGrd (getS s j) (fun b => split2 b
          (fun _ => opX P ((j, .bool true) :: s) H n (fun v u rds => freeOf (prev.map TE.rec1) ⟨d, j :: namesX (opXs op), rds, keys u⟩ fr = true ∧ runAny P l (prev.map TE.rec1 ++ [⟨d, j :: namesX (opXs op), rds, keys u⟩]) (putS ((j, .bool true) :: s) d v) (u ++ H) (n + 4) K) op)
          (fun _ => freeOf (prev.map TE.rec1) ⟨d, [j], [], []⟩ fr = true ∧ runAny P l (prev.map TE.rec1 ++ [⟨d, [j], [], []⟩]) (putS ((j, .bool false) :: s) d (.tup [])) H (n + 4) K)) (fun _ => freeOf (prev.map TE.rec1) ⟨d, [j], [], []⟩ fr = true ∧ runAny P l (prev.map TE.rec1 ++ [⟨d, [j], [], []⟩]) (putS s d (.tup [])) H (n + 4) K) := h
        unfold onGrd at h'
        split at h'
        · rename_i b hb
          have hb0 : getS s0 j = .bool b := by rw [← hs]; exact hb
          cases b
          · obtain ⟨h2, h3⟩ := h'.2 rfl
            exact step1 ⟨d, [j], [], .tup [], [], false⟩ _ (getS_self hb) ⟨rfl, some false, hb0, rfl, .inr ⟨rfl, rfl, rfl, rfl, rfl⟩⟩ h2 (by simpa [TE.rec1, keys] using h3) rfl
          · obtain ⟨v, u, rds, h1, h2, h3⟩ := OpR.of_opX (h'.1 rfl)
            have hss : SEq ((j, .bool true) :: s) s := getS_self hb
            exact step1 ⟨d, j :: namesX (opXs op), rds, v, u, true⟩ _ hss ⟨rfl, some true, hb0, rfl, .inl ⟨rfl, rfl, h1.same ((val_congr hss).trans hval)⟩⟩ h2 (by simpa [TE.rec1] using h3) rfl
        · rename_i hb
          have hb0 : getS s0 j = gPV none := by rw [← hs]; exact hb
          obtain ⟨h2, h3⟩ := h'
          exact step1 ⟨d, [j], [], .tup [], [], false⟩ s (fun _ => rfl) ⟨rfl, none, hb0, rfl, .inr ⟨rfl, rfl, rfl, rfl, rfl⟩⟩ h2 (by simpa [TE.rec1, keys] using h3) rfl
        · exact h'.elim

theorem compOps_get {ops : Array Oper} : ∀ {rest : List Oper} {la : List AIn}, compOps P nt ops rest = some la → la.length = rest.length ∧ ∀ (i : Nat) o, rest[i]? = some o → ∃ x, la[i]? = some x ∧ compOp P o = some x.op ∧ dstG ops o.guard = some x.guard ∧ dstIn nt o.dst = true ∧ x.dst = o.dst
  | [], la, h => by simp only [compOps, Option.some.injEq] at h; subst h; exact ⟨rfl, fun i o hi => by simp at hi⟩
  | o :: rest, la, h => by
    simp only [compOps] at h
    split at h
    · rename_i a g r h1 h2 h3
      split at h
      · rename_i hd
        simp only [Option.some.injEq] at h
        subst h
        obtain ⟨i1, i2⟩ := compOps_get h3
        refine ⟨by simp [i1], fun i o' hi => ?_⟩
        rcases i with _ | i
        · simp only [List.getElem?_cons_zero, Option.some.injEq] at hi
          subst hi
          exact ⟨_, rfl, h1, h2, hd, rfl⟩
        · simp only [List.getElem?_cons_succ] at hi ⊢
          exact i2 i o' hi
      · cases h
    · cases h
theorem hasH_keys {u : Heap} {id : Nat} : hasH u id = true ↔ id ∈ keys u := by
  induction u with
  | nil => simp [hasH, keys]
  | cons x u ih =>
    obtain ⟨i, b⟩ := x
    simp only [hasH, keys, List.map_cons, List.mem_cons, Bool.or_eq_true, beq_iff_eq]
    have ih' : hasH u id = true ↔ id ∈ u.map (·.1) := ih
    rw [ih']
    constructor
    · rintro (h | h)
      · exact .inl h.symm
      · exact .inr h
    · rintro (h | h)
      · exact .inl h.symm
      · exact .inr h
theorem disj_not {a b : List Nat} (h : disj a b = true) {x : Nat} (h1 : x ∈ a) (h2 : x ∈ b) : False := by
  have := List.all_eq_true.1 h x h1
  simp only [Bool.not_eq_true', ← Bool.not_eq_true, List.contains_iff_mem] at this
  exact this h2
theorem indep_spec {r q : Rec1} (h : indep r q = true) : (∀ t, r.dst = some t → t ∉ q.names) ∧ (∀ t, q.dst = some t → t ∉ r.names) ∧ (∀ t, r.dst = some t → q.dst ≠ some t) ∧ disj r.wrs q.rds = true ∧ disj q.wrs r.rds = true ∧ disj r.wrs q.wrs = true := by
  simp only [indep, Bool.and_eq_true] at h
  obtain ⟨⟨⟨⟨⟨h1, h2⟩, h3⟩, h4⟩, h5⟩, h6⟩ := h
  refine ⟨fun t e => ?_, fun t e => ?_, fun t e e' => ?_, h4, h5, h6⟩
  · rw [e] at h1
    have h1' : (!q.names.contains t) = true := h1
    simp only [Bool.not_eq_true', ← Bool.not_eq_true, List.contains_iff_mem] at h1'
    exact h1'
  · rw [e] at h2
    have h2' : (!r.names.contains t) = true := h2
    simp only [Bool.not_eq_true', ← Bool.not_eq_true, List.contains_iff_mem] at h2'
    exact h2'
  · rw [e, e'] at h3
    have h3' : (t != t) = true := h3
    simp at h3'
theorem namesX_mem {xs : List AX} {n : Nat} (h : AX.t n ∈ xs) : n ∈ namesX xs := by
  induction xs with
  | nil => cases h
  | cons x xs ih =>
    simp only [namesX, List.mem_append]
    rcases List.mem_cons.1 h with rfl | h
    · exact .inl (by simp [axSlot])
    · exact .inr (ih h)
def unl (listed : Array Bool) : Nat := (listed.toList.filter fun b => !b).length
theorem filt_set : ∀ (l : List Bool) (i : Nat), l[i]? = some false → ((l.set i true).filter fun b => !b).length + 1 = (l.filter fun b => !b).length
  | [], i, h => by simp at h
  | b :: l, 0, h => by simp at h; subst h; simp
  | b :: l, i + 1, h => by
    have := filt_set l i (by simpa using h)
    cases b <;> simp at this ⊢ <;> omega

theorem region_any_ok {ops : Array Oper} {la : List AIn} {Q : Exit → Act → World → Prop} {b : Nat} {K : Slots → Heap → Nat → Prop} (hK : ∀ s H n Y m a w, K s H n → Sat C nt Y m ⟨s, H, n, b⟩ a w → Q .normal a w)
    (hla : compOps P nt ops ops.toList = some la) (hcl : closedB ops (Region.before ops).toList = true) {s : Slots} {H : Heap} {n : Nat} {Y : Nat → Prop} {m : Names} {a : Act} {w : World} (hS : Sat C nt Y m ⟨s, H, n, b⟩ a w)
    (hrun : runAny P (la.zip (freesOf (Region.before ops).toList ops.size)) [] s H n K) : wpAny P .any ops Q ops.size (Array.replicate ops.size false) a w := by
  generalize hms : (Region.before ops).toList = ms at hcl hrun
  obtain ⟨hlen0, hget⟩ := compOps_get hla
  have hlen : la.length = ops.size := by have := hlen0; simpa using this
  obtain ⟨tr, t1, t2, s', t3, t4⟩ := runAny_trace (la.zip (freesOf ms ops.size)) [] 0 s s H n (fun _ => rfl) hrun
  have hN : (la.zip (freesOf ms ops.size)).length = ops.size := by simp [hlen, freesOf]
  rw [hN] at t1 t4
  simp only [Nat.zero_add, List.nil_append, List.length_nil] at t2
  -- the facts of operation i
  have fact : ∀ i o, ops[i]? = some o → ∃ x t, tr[i]? = some t ∧ compOp P o = some x.op ∧ dstG ops o.guard = some x.guard ∧ dstIn nt o.dst = true ∧ x.dst = o.dst ∧
      Fact P x (selS tr 0 (fun j => decide (j < i)) s) (selH tr 0 (fun j => decide (j < i)) H) (n + 4 * i) t ∧ ∀ j, j < i → (ms.getD i 0).testBit j = true ∨ ∃ t', tr[j]? = some t' ∧ indep t'.rec1 t.rec1 = true := by
    intro i o ho
    have hi : i < ops.size := (Array.getElem?_eq_some_iff.1 ho).1
    obtain ⟨x, x1, x2, x3, x4, x5⟩ := hget i o (by simpa using ho)
    obtain ⟨t, ht⟩ := get_some tr (k := i) (by omega)
    have hfr : (freesOf ms ops.size)[i]? = some ((List.range i).filter fun j => !(ms.getD i 0).testBit j) := by
      simp [freesOf, hi]
    have hz : (la.zip (freesOf ms ops.size))[i]? = some (x, (List.range i).filter fun j => !(ms.getD i 0).testBit j) := by
      rw [List.getElem?_zip_eq_some]; exact ⟨x1, hfr⟩
    obtain ⟨f1, f2⟩ := t2 i x _ t hz ht
    refine ⟨x, t, ht, x2, x3, x4, x5, f1, fun j hj => ?_⟩
    by_cases hb : (ms.getD i 0).testBit j = true
    · exact .inl hb
    · obtain ⟨t', g1, _, g3⟩ := f2 j (by simp only [List.mem_filter, List.mem_range]; exact ⟨hj, by simpa using hb⟩)
      exact .inr ⟨t', g1, g3⟩
  have bits : ∀ i o, ops[i]? = some o → (∀ e ∈ o.after, Region.binds .any e = true → e.on < i) ∧ ∀ k, k < ops.size → (ms.getD i 0).testBit k = true → directB o k = true ∨ ∃ e ∈ o.after, Region.binds .any e = true ∧ (ms.getD e.on 0).testBit k = true := by
    intro i o ho
    have hi : i < ops.size := (Array.getElem?_eq_some_iff.1 ho).1
    have h1 := List.all_eq_true.1 hcl i (List.mem_range.2 hi)
    simp only [ho, Bool.and_eq_true] at h1
    refine ⟨fun e he hbd => ?_, fun k hk htb => ?_⟩
    · have := Array.all_eq_true_iff_forall_mem.1 h1.1 e he
      simpa [hbd] using this
    · have := List.all_eq_true.1 h1.2 k (List.mem_range.2 hk)
      simp only [htb, Bool.not_true, Bool.false_or, Bool.or_eq_true] at this
      rcases this with h | h
      · exact .inl h
      · rw [← Array.any_toList, List.any_eq_true] at h
        obtain ⟨e, he, h⟩ := h
        replace he := Array.mem_toList_iff.1 he
        simp only [Bool.and_eq_true] at h
        exact .inr ⟨e, he, h.1, h.2⟩
  -- sets of operations that hold what theirs wait for
  let Closed : (Nat → Bool) → Prop := fun L => ∀ i o, L i = true → ops[i]? = some o → ∀ e ∈ o.after, Region.binds .any e = true → L e.on = true
  have clos : ∀ (L : Nat → Bool), Closed L → ∀ i o, ops[i]? = some o → (∀ e ∈ o.after, Region.binds .any e = true → L e.on = true) → ∀ k, k < ops.size → (ms.getD i 0).testBit k = true → L k = true := by
    intro L hL i
    induction i using Nat.strongRecOn with
    | _ i ih =>
      intro o ho hd k hk htb
      obtain ⟨b1, b2⟩ := bits i o ho
      rcases b2 k hk htb with h | ⟨e, he, hbd, h⟩
      · simp only [directB] at h
        rw [← Array.any_toList, List.any_eq_true] at h
        obtain ⟨e, he, h⟩ := h
        replace he := Array.mem_toList_iff.1 he
        simp only [Bool.and_eq_true, beq_iff_eq] at h
        rw [← h.2]
        exact hd e he h.1
      · have hlt := b1 e he hbd
        have hi : i < ops.size := (Array.getElem?_eq_some_iff.1 ho).1
        have ho' : ops[e.on]? = some ops[e.on] := Array.getElem?_eq_getElem (by omega)
        exact ih e.on hlt ops[e.on] ho' (hL e.on _ (hd e he hbd) ho') k hk h
  let FrL : (Nat → Bool) → Nat → Prop := fun L id => n ≤ id ∧ ∀ i, L i = true → ¬ (n + 4 * i ≤ id ∧ id < n + 4 * i + 4)
  let Inv : Array Bool → Act → World → Prop := fun listed a w => ∃ (L : Nat → Bool) (Y : Nat → Prop) (m : Names), listed.size = ops.size ∧ (∀ i, i < ops.size → listed[i]? = some (L i)) ∧ (∀ i, ops.size ≤ i → L i = false) ∧ Closed L ∧
    SatF C nt Y m (selS tr 0 L s) (selH tr 0 L H) (FrL L) a w
  have key : ∀ (fuel : Nat) (listed : Array Bool) (a : Act) (w : World), Inv listed a w → unl listed ≤ fuel → wpAny P .any ops Q fuel listed a w := by
    -- where nothing is ready, all is done
    have done : ∀ (listed : Array Bool) (a : Act) (w : World), Inv listed a w → Region.ready .any ops listed = [] → Q .normal a w := by
      rintro listed a w ⟨L, Y, m, h1, h2, h3, h4, h5⟩ hr
      have all : ∀ i, i < ops.size → L i = true := by
        intro i
        induction i using Nat.strongRecOn with
        | _ i ih =>
          intro hi
          cases hLi : L i with
          | true => rfl
          | false =>
            exfalso
            have hmem : i ∈ Region.ready .any ops listed := by
              rw [mem_ready]
              have ho : ops[i]? = some ops[i] := Array.getElem?_eq_getElem hi
              refine ⟨by rw [Array.getD_eq_getD_getElem?, h2 i hi, hLi]; rfl, ops[i], ho, fun e he hbd => ?_⟩
              have hlt := (bits i _ ho).1 e he hbd
              rw [Array.getD_eq_getD_getElem?, h2 e.on (by omega), ih e.on hlt (by omega)]
              rfl
            rw [hr] at hmem
            cases hmem
      have e1 : ∀ t, getS s' t = getS (selS tr 0 L s) t := fun t => by
        rw [t3 t]
        refine selS_congr tr 0 _ _ s s t rfl (fun j e hj _ => ?_)
        have hjl : j < tr.length := (List.getElem?_eq_some_iff.1 hj).1
        rw [Nat.zero_add, all j (by omega)]
      have e2 : ∀ id, getH (selH tr 0 (fun _ => true) H) id = getH (selH tr 0 L H) id := fun id => by
        refine selH_congr tr 0 _ _ H H id rfl (fun j e hj _ => ?_)
        have hjl : j < tr.length := (List.getElem?_eq_some_iff.1 hj).1
        rw [Nat.zero_add, all j (by omega)]
      refine hK _ _ _ Y m a w t4 ⟨h5.size, h5.defers, fun i p hp hne => h5.slots i p (by rw [← e1]; exact hp) hne, ?_, hS.base⟩
      refine (h5.heap.same e2).mono (fun id hid => ?_)
      have hid' : n + 4 * ops.size ≤ id := hid
      refine ⟨by omega, fun i hi hrng => ?_⟩
      have : i < ops.size := by
        rcases Nat.lt_or_ge i ops.size with h | h
        · exact h
        · rw [h3 i h] at hi; cases hi
      omega
    intro fuel
    induction fuel with
    | zero =>
      rintro listed a w hI hu
      have hr : Region.ready .any ops listed = [] := by
        obtain ⟨L, Y, m, h1, h2, h3, h4, h5⟩ := hI
        rw [List.eq_nil_iff_forall_not_mem]
        intro i hi
        have h0 := (mem_ready.1 hi).1
        rcases Nat.lt_or_ge i listed.size with hlt | hge
        · have hf : listed[i] = false := by simpa [Array.getD_eq_getD_getElem?, hlt] using h0
          have : false ∈ listed.toList.filter fun b => !b := by
            rw [List.mem_filter]; exact ⟨by rw [← hf]; exact Array.getElem_mem_toList hlt, rfl⟩
          have := List.length_pos_of_mem this
          unfold unl at hu
          omega
        · rw [Array.getD_eq_getD_getElem?, Array.getElem?_eq_none hge] at h0; cases h0
      exact ⟨hr, done listed a w hI hr⟩
    | succ fuel ih =>
      rintro listed a w hI hu
      refine ⟨done listed a w hI, fun i hi => ?_⟩
      obtain ⟨L, Y, m, h1, h2, h3, h4, h5⟩ := hI
      obtain ⟨hun, o, ho, hdir⟩ := mem_ready.1 hi
      have hi' : i < ops.size := (Array.getElem?_eq_some_iff.1 ho).1
      have hLi : L i = false := by rw [Array.getD_eq_getD_getElem?, h2 i hi'] at hun; exact hun
      have hbi := (bits i o ho).1
      have hdirL : ∀ e ∈ o.after, Region.binds .any e = true → L e.on = true := fun e he hbd => by
        have := hdir e he hbd
        rw [Array.getD_eq_getD_getElem?, h2 e.on (by have := hbi e he hbd; omega)] at this
        exact this
      obtain ⟨x, t, ht, x2, x3, x4, x5, hf, hfree⟩ := fact i o ho
      -- what the operation looks at is as in the text's order
      have before : ∀ j, j < i → L j = false → ∃ t', tr[j]? = some t' ∧ indep t'.rec1 t.rec1 = true := by
        intro j hj hLj
        rcases hfree j hj with h | h
        · rw [clos L h4 i o ho hdirL j (by omega) h] at hLj; cases hLj
        · exact h
      have behind : ∀ j, i < j → L j = true → ∃ t', tr[j]? = some t' ∧ indep t.rec1 t'.rec1 = true := by
        intro j hj hLj
        have hjN : j < ops.size := by
          rcases Nat.lt_or_ge j ops.size with h | h
          · exact h
          · rw [h3 j h] at hLj; cases hLj
        have hoj : ops[j]? = some ops[j] := Array.getElem?_eq_getElem hjN
        obtain ⟨x', t', ht', _, _, _, _, _, hfr'⟩ := fact j _ hoj
        rcases hfr' i hj with h | ⟨t0, g1, g2⟩
        · have := clos L h4 j _ hoj (h4 j _ hLj hoj) i hi' h
          rw [hLi] at this; cases this
        · rw [ht] at g1; injection g1 with g1; subst g1
          exact ⟨t', ht', g2⟩
      have seeS : ∀ q, q ∈ t.names → getS (selS tr 0 (fun j => decide (j < i)) s) q = getS (selS tr 0 L s) q := by
        intro q hq
        refine selS_congr tr 0 _ _ s s q rfl (fun j e hj hd => ?_)
        rw [Nat.zero_add]
        rcases Nat.lt_trichotomy j i with hlt | rfl | hgt
        · cases hLj : L j
          · exfalso
            obtain ⟨t', g1, g2⟩ := before j hlt hLj
            rw [hj] at g1; injection g1 with g1; subst g1
            exact (indep_spec g2).1 q hd hq
          · simp [hlt]
        · simp [hLi]
        · cases hLj : L j
          · simp; omega
          · exfalso
            obtain ⟨t', g1, g2⟩ := behind j hgt hLj
            rw [hj] at g1; injection g1 with g1; subst g1
            exact (indep_spec g2).2.1 q hd hq
      have seeH : ∀ id, id ∈ t.rds → getH (selH tr 0 (fun j => decide (j < i)) H) id = getH (selH tr 0 L H) id := by
        intro id hq
        refine selH_congr tr 0 _ _ H H id rfl (fun j e hj hd => ?_)
        rw [Nat.zero_add]
        have hk := hasH_keys.1 hd
        rcases Nat.lt_trichotomy j i with hlt | rfl | hgt
        · cases hLj : L j
          · exfalso
            obtain ⟨t', g1, g2⟩ := before j hlt hLj
            rw [hj] at g1; injection g1 with g1; subst g1
            exact disj_not (indep_spec g2).2.2.2.1 hk hq
          · simp [hlt]
        · simp [hLi]
        · cases hLj : L j
          · simp; omega
          · exfalso
            obtain ⟨t', g1, g2⟩ := behind j hgt hLj
            rw [hj] at g1; injection g1 with g1; subst g1
            exact disj_not (indep_spec g2).2.2.2.2.1 hk hq
      -- the set with it
      let L' : Nat → Bool := fun j => L j || j == i
      have newS : ∀ q, getS (selS tr 0 L' s) q = getS (putS (selS tr 0 L s) t.dst t.v) q := by
        intro q
        have := selS_add tr 0 i L s t q ht (by rw [Nat.zero_add]; exact hLi) (fun j e' hj hij hLj hd hd' => by
          rw [Nat.zero_add] at hLj
          obtain ⟨t', g1, g2⟩ := behind j hij hLj
          rw [hj] at g1; injection g1 with g1; subst g1
          exact (indep_spec g2).2.2.1 q hd hd')
        simpa using this
      have newH : ∀ id, getH (selH tr 0 L' H) id = getH (t.u ++ selH tr 0 L H) id := by
        intro id
        have := selH_add tr 0 i L H t id ht (by rw [Nat.zero_add]; exact hLi) (fun j e' hj hij hLj hd => by
          rw [Nat.zero_add] at hLj
          obtain ⟨t', g1, g2⟩ := behind j hij hLj
          rw [hj] at g1; injection g1 with g1; subst g1
          cases hh : hasH e'.u id
          · rfl
          · exact (disj_not (indep_spec g2).2.2.2.2.2 (hasH_keys.1 hd) (hasH_keys.1 hh)).elim)
        simpa using this
      have has : Has4 (FrL L) (n + 4 * i) := fun id g1 g2 => ⟨by omega, fun j hj hrng => by
        have : j = i := by omega
        subst this
        rw [hLi] at hj; cases hj⟩
      have frs : ∀ id, FrL L' id → Fr4 (FrL L) (n + 4 * i) id := fun id hid => ⟨⟨hid.1, fun j hj => hid.2 j (by simp [L', hj])⟩, hid.2 i (by simp [L'])⟩
      have next : ∀ (a' : Act) (w' : World) (Y' : Nat → Prop) (m' : Names), SatF C nt Y' m' (selS tr 0 L' s) (selH tr 0 L' H) (FrL L') a' w' → wpAny P .any ops Q fuel (listed.setIfInBounds i true) a' w' := by
        intro a' w' Y' m' hs
        refine ih _ a' w' ⟨L', Y', m', by simp [h1], fun j hj => ?_, fun j hj => ?_, fun j o' hLj hoj e he hbd => ?_, hs⟩ ?_
        · by_cases e : i = j
          · subst e; rw [Array.getElem?_setIfInBounds_self_of_lt (by omega)]; simp [L']
          · rw [Array.getElem?_setIfInBounds_ne e, h2 j hj]
            have : (j == i) = false := by simpa using fun h => e h.symm
            simp [L', this]
        · have : (j == i) = false := by
            have : j ≠ i := by omega
            simpa using this
          simp [L', this, h3 j hj]
        · by_cases e' : j = i
          · subst e'
            rw [ho] at hoj; injection hoj with hoj; subst hoj
            simp [L', hdirL e he hbd]
          · have hLj' : L j = true := by
              have : (j == i) = false := by simpa using e'
              simpa [L', this] using hLj
            simp [L', h4 j o' hLj' hoj e he hbd]
        · have hl : listed.toList[i]? = some false := by
            have := h2 i hi'
            rw [hLi] at this
            simpa using this
          have := filt_set listed.toList i hl
          unfold unl at hu ⊢
          rw [Array.toList_setIfInBounds]
          omega
      have hdst : t.dst = o.dst := hf.1.trans x5
      have skip : t.ran = false → t.v = .tup [] → t.u = [] → wpAny P .any ops Q fuel (listed.setIfInBounds i true) (a.put o.dst undef) w := by
        intro _ hv hu'
        refine next _ _ Y m (SatF.put h5 x4 (p := .tup []) (.tup (ps := []) (vs := []) rfl (by simp)) ?_ (Ev.refl _ _ _) (fun q => by rw [newS q, hdst, hv]))
        refine (h5.heap.same (fun id => by rw [newH id, hu']; rfl)).mono (fun id hid => (frs id hid).1)
      have run : OpR P (AX.val (selS tr 0 (fun j => decide (j < i)) s)) (selH tr 0 (fun j => decide (j < i)) H) (n + 4 * i) t.v t.u t.rds x.op → (∀ q, q ∈ namesX (opXs x.op) → q ∈ t.names) →
          o.wp P a w (wpAny P .any ops Q fuel (listed.setIfInBounds i true)) Q := by
        intro hop hnm
        have hloc := hop.local (ρ' := AX.val (selS tr 0 L s)) (H' := selH tr 0 L H) (fun y hy => by
          cases y with
          | t q => exact seeS q (hnm q (namesX_mem hy))
          | c p => rfl) (fun id hid => seeH id hid)
        refine hloc.sound x2 h5 has (fun val Y' m' w' g1 g2 g3 => next _ _ Y' m' ?_)
        exact SatF.put h5 x4 g1 ((g2.same (fun id => newH id)).mono frs) g3 (fun q => by rw [newS q, hdst])
      unfold wpOp
      simp only [ho]
      obtain ⟨_, hg⟩ := hf
      rcases hxg : x.guard with _ | ⟨j, want⟩
      · rw [hxg] at hg x3
        obtain ⟨_, g2, g3⟩ := hg
        rw [wanted_none x3, if_pos rfl]
        exact .inl (run g3 (fun q hq => by rw [g2]; exact hq))
      · rw [hxg] at hg x3
        obtain ⟨bb, g1, g2, g3⟩ := hg
        have hjn : j ∈ t.names := by
          rcases g3 with ⟨_, g3, _⟩ | ⟨_, g3, _⟩ <;> rw [g3] <;> simp
        have hgj : getS (selS tr 0 L s) j = gPV bb := by rw [← seeS j hjn]; exact g1
        rw [wantedF_of h5 x3 hgj]
        rcases g3 with ⟨r1, r2, r3⟩ | ⟨r1, r2, r3, r4, r5⟩
        · rw [if_pos (by rw [← g2, r1])]
          exact .inl (run r3 (fun q hq => by rw [r2]; simp [hq]))
        · rw [if_neg (by rw [← g2, r1]; simp)]
          exact skip r1 r3 r4
  refine key _ _ a w ⟨fun _ => false, Y, m, by simp, fun i hi => by simp [hi], fun _ _ => rfl, (fun i o h => by cases h), ?_⟩ ?_
  · rw [selS_none _ _ _ _ (fun _ _ => rfl), selH_none _ _ _ _ (fun _ _ => rfl)]
    exact ⟨hS.size, hS.defers, hS.slots, hS.heap.mono (fun id hid => hid.1)⟩
  · unfold unl
    exact Nat.le_trans (List.length_filter_le _ _) (by simp)
end Go.Proofs.Ytmnhlfkphibhfaa
/-
  The machine's run is right, for whole codes.
-/
namespace Go.Proofs.Ytmnhlfkphibhfaa
open Go.RowKit
set_option linter.unusedVariables false
set_option linter.unusedSimpArgs false
variable {P : Program} {C : Ctx} {nt : Nat}

/-- an abstract end's post in the model -/
def PostA (C : Ctx) (nt : Nat) (Q : AEx → ST → Prop) : Exit → Act → World → Prop
  | .normal, a, w => ∃ st Y m, Q .normal st ∧ Sat C nt Y m st a w
  | .exit i, a, w => ∃ st Y m, Q (.exit i) st ∧ Sat C nt Y m st a w
  | .ret, a, w => ∃ st Y m, Q .ret st ∧ Sat C nt Y m st a w
  | _, _, _ => False
theorem least {p : Nat → Prop} (h : ∃ k, p k) : ∃ k, p k ∧ ∀ j, p j → k ≤ j := by
  obtain ⟨k, hk⟩ := h
  induction k using Nat.strongRecOn with
  | _ k ih =>
    by_cases hj : ∃ j, j < k ∧ p j
    · obtain ⟨j, h1, h2⟩ := hj; exact ih j h1 h2
    · exact ⟨k, hk, fun j hpj => Nat.le_of_not_lt fun hlt => hj ⟨j, hlt, hpj⟩⟩
theorem Sat.drew {Y : Nat → Prop} {m : Names} {st : ST} {a : Act} {w : World} (h : Sat C nt Y m st a w) : ∃ Y', Sat C nt Y' m st a { w with drawn := w.drawn + 1 } := by
  have hg : w.grownBy { w with drawn := w.drawn + 1 } none := grown_drew (grown_refl w none)
  have hne : ∀ id b, getH st.heap id = some b → id ≠ st.next := by
    rintro id b hb rfl
    obtain ⟨pl, e, _⟩ := h.heap.blk _ b hb
    rw [h.heap.fresh _ (Nat.le_refl _)] at e
    cases e
  obtain ⟨h1, h2⟩ := h.heap.go (Fr' := fun id => st.next ≤ id) (fun _ h => h) hg (by simp) (m' := m) (fun _ _ h => h) (fun id hid => h.heap.fresh id hid) (fun _ _ h => .inl h) st.next (H' := st.heap) (fun id b hb => .inl ⟨hne id b hb, hb, by simp⟩)
  exact ⟨_, h.size, h.defers, fun i p hp hne => by
    obtain ⟨v, k1, k2⟩ := h.slots i p hp hne
    exact ⟨v, k1, k2.ev h2⟩, h1, h.base⟩
theorem run_ok : ∀ (c : Code) (ac : ACode) (st : ST) (Q : AEx → ST → Prop) (Y : Nat → Prop) (m : Names) (a : Act) (w : World), comp P nt c = some ac → run P ac st Q → Sat C nt Y m st a w → c.wp P (PostA C nt Q) a w := by
  intro c
  induction c with
  | skip =>
    intro ac st Q Y m a w hc h hS
    simp only [comp, Option.some.injEq] at hc; subst hc
    exact wp_skip ⟨st, Y, m, h, hS⟩
  | ret =>
    intro ac st Q Y m a w hc h hS
    simp only [comp, Option.some.injEq] at hc; subst hc
    exact wp_ret ⟨st, Y, m, h, hS⟩
  | exit i =>
    intro ac st Q Y m a w hc h hS
    simp only [comp, Option.some.injEq] at hc; subst hc
    exact wp_exit ⟨st, Y, m, h, hS⟩
  | region id ops d =>
    intro ac st Q Y m a w hc h hS
    cases d
    · simp only [comp, cond_false] at hc
      obtain ⟨l, hl, rfl⟩ := map_some hc
      obtain ⟨s, H, n, b⟩ := st
      exact wp_region_list (runOps_ok (b := b) (K := fun s H n => Q .normal ⟨s, H, n, b⟩) (fun s H n Y m a w hq hs => ⟨_, Y, m, hq, hs⟩) ops.toList l s H n Y m a w hl hS h)
    · simp only [comp, cond_true] at hc
      cases hcl : closedB ops (Region.before ops).toList && P.follows .mixedOrders
      · simp [hcl] at hc
      · simp only [hcl, cond_true] at hc
        obtain ⟨l, hl, rfl⟩ := map_some hc
        simp only [Bool.and_eq_true] at hcl
        obtain ⟨s, H, n, b⟩ := st
        obtain ⟨Y', hS'⟩ := hS.drew
        exact wp_region_any hcl.2 (region_any_ok (b := b) (K := fun s H n => Q .normal ⟨s, H, n, b⟩) (fun s H n Y m a w hq hs => ⟨_, Y, m, hq, hs⟩) hl hcl.1 hS' h)
  | seq x y ih1 ih2 =>
    intro ac st Q Y m a w hc h hS
    simp only [comp] at hc
    split at hc
    · rename_i x' y' h1 h2
      simp only [Option.some.injEq] at hc; subst hc
      refine wp_seq (wp_mono (ih1 x' st _ Y m a w h1 h hS) ?_)
      intro e a w hp
      cases e with
      | normal => obtain ⟨st', Y', m', hq, hs⟩ := hp; exact ih2 y' st' Q Y' m' a w h2 hq hs
      | exit i => exact hp
      | ret => exact hp
      | goto l => exact hp.elim
      | panic c => exact hp.elim
      | outgrown => exact hp.elim
    · cases hc
  | cond x b1 b2 ih1 ih2 =>
    intro ac st Q Y m a w hc h hS
    simp only [comp] at hc
    split at hc
    · rename_i x' y' z' h1 h2 h3
      simp only [Option.some.injEq] at hc; subst hc
      have h' : onBool (x'.val st.slots) fun c => split2 c (fun _ => run P y' st Q) (fun _ => run P z' st Q) := h
      unfold onBool at h'
      split at h'
      · rename_i t ht
        have hv := hS.operand x x' h1
        rw [ht] at hv
        exact wp_cond_split hv.bool_inv (fun e => ih1 y' st Q Y m a w h2 (h'.1 e) hS) (fun e => ih2 z' st Q Y m a w h3 (h'.2 e) hS)
      · exact h'.elim
    · cases hc
  | block id x ih =>
    intro ac st Q Y m a w hc h hS
    simp only [comp] at hc
    obtain ⟨x', hx, rfl⟩ := map_some hc
    refine wp_block (wp_mono (ih x' st _ Y m a w hx h hS) ?_)
    intro e a w hp
    cases e with
    | normal => exact hp
    | ret => exact hp
    | exit i =>
      obtain ⟨st', Y', m', hq, hs⟩ := hp
      have hq' : bif i == id then Q .normal st' else Q (.exit i) st' := hq
      show if i = id then PostA C nt Q .normal a w else PostA C nt Q (.exit i) a w
      by_cases e : i = id
      · subst e
        rw [if_pos rfl]
        exact ⟨st', Y', m', by simpa using hq', hs⟩
      · have : (i == id) = false := by simpa using e
        rw [if_neg e]
        exact ⟨st', Y', m', by simpa [this] using hq', hs⟩
    | goto l => exact hp.elim
    | panic c => exact hp.elim
    | outgrown => exact hp.elim
  | loop x ih =>
    intro ac st Q Y m a w hc h hS
    simp only [comp] at hc
    obtain ⟨x', hx, rfl⟩ := map_some hc
    obtain ⟨ι, I, μ, i0, hcov, hstep⟩ := h
    obtain ⟨Y0, m0, hS0⟩ := hcov C nt Y m a w hS
    -- the least measure of a member that the state fits
    let good : Act → World → Nat → Prop := fun a w k => ∃ i Y m, Sat C nt Y m (I i) a w ∧ μ i = k
    let M : Act → World → Nat := fun a w => open Classical in if h : ∃ k, good a w k then Classical.choose (least h) else 0
    have hM : ∀ a w k, good a w k → good a w (M a w) ∧ M a w ≤ k := by
      intro a w k hk
      have hex : ∃ k, good a w k := ⟨k, hk⟩
      have e : M a w = Classical.choose (least hex) := by simp only [M]; rw [dif_pos hex]
      have sp := Classical.choose_spec (least hex)
      rw [e]
      exact ⟨sp.1, sp.2 k hk⟩
    refine wp_loop (fun a w => ∃ k, good a w k) M ⟨_, i0, Y0, m0, hS0, rfl⟩ ?_
    rintro a w ⟨k, hk⟩
    obtain ⟨⟨i, Y, m, hS, hi⟩, _⟩ := hM a w k hk
    refine wp_mono (ih x' (I i) _ Y m a w hx (hstep i) hS) ?_
    intro e a1 w1 hp
    cases e with
    | normal =>
      obtain ⟨st', Y', m', ⟨j, hlt, hc2⟩, hs⟩ := hp
      obtain ⟨Y2, m2, hS2⟩ := hc2 C nt Y' m' a1 w1 hs
      have hg : good a1 w1 (μ j) := ⟨j, Y2, m2, hS2, rfl⟩
      exact ⟨⟨_, hg⟩, by have := (hM a1 w1 _ hg).2; omega⟩
    | exit i => exact hp
    | ret => exact hp
    | goto l => exact hp.elim
    | panic c => exact hp.elim
    | outgrown => exact hp.elim
  | _ => intro ac st Q Y m a w hc h hS; simp [comp] at hc
end Go.Proofs.Ytmnhlfkphibhfaa
/-
  States that say less, loops, and a function's contract out of its run.
-/
namespace Go.Proofs.Ytmnhlfkphibhfaa
open Go.RowKit
set_option linter.unusedVariables false
set_option linter.unusedSimpArgs false
variable {P : Program}

/-- the first n rows of a column alike -/
def ColEq (n : Nat) (c c' : Col) : Prop := ∀ (Y : Nat → Prop) (w : World) (k : Nat) (v : Value), k < n → ColRep Y w c k v → ColRep Y w c' k v
def ColsEq (n : Nat) : List Col → List Col → Prop
  | [], [] => True
  | c :: cs, d :: ds => ColEq n c d ∧ ColsEq n cs ds
  | _, _ => False
theorem ColEq.refl (n : Nat) (c : Col) : ColEq n c c := fun _ _ _ _ _ h => h
theorem ColEq.i {n : Nat} {k : IntKind} {g h : Nat → Int} (e : ∀ j, j < n → g j = h j) : ColEq n (.i k g) (.i k h) := fun Y w j v hj hv => by
  cases hv; rw [e j hj]; exact .i
theorem ColEq.b {n : Nat} {g h : Nat → Bool} (e : ∀ j, j < n → g j = h j) : ColEq n (.b g) (.b h) := fun Y w j v hj hv => by
  cases hv; rw [e j hj]; exact .b
theorem ColEq.s {n : Nat} {g h : Nat → List UInt8} (e : ∀ j, j < n → g j = h j) : ColEq n (.s g) (.s h) := fun Y w j v hj hv => by
  cases hv; rw [e j hj]; exact .s
theorem ColsEq.len : ∀ {n : Nat} {cs ds : List Col}, ColsEq n cs ds → cs.length = ds.length
  | n, [], [], h => rfl
  | n, c :: cs, [], h => h.elim
  | n, [], d :: ds, h => h.elim
  | n, c :: cs, d :: ds, h => by simp [ColsEq.len h.2]
theorem ColsEq.get : ∀ {n : Nat} {cs ds : List Col}, ColsEq n cs ds → ∀ (i : Nat) d, ds[i]? = some d → ∃ c, cs[i]? = some c ∧ ColEq n c d
  | n, [], [], h, i, d, hd => by simp at hd
  | n, c :: cs, [], h, i, d, hd => h.elim
  | n, [], d :: ds, h, i, d', hd => h.elim
  | n, c :: cs, d :: ds, h, i, d', hd => by
    rcases i with _ | i
    · simp only [List.getElem?_cons_zero, Option.some.injEq] at hd; subst hd; exact ⟨c, rfl, h.1⟩
    · simp only [List.getElem?_cons_succ] at hd; simpa using ColsEq.get h.2 i d' hd
theorem ColsEq.refl (n : Nat) : ∀ cs : List Col, ColsEq n cs cs
  | [] => trivial
  | c :: cs => ⟨ColEq.refl n c, ColsEq.refl n cs⟩
theorem ColsEq.lit {Y : Nat → Prop} {m : Names} {w : World} {nl : Bool} {n : Nat} {cs ds : List Col} {v : Value} (h : ColsEq n cs ds) (hr : Rep Y m w (.lit nl n cs) v) : Rep Y m w (.lit nl n ds) v := by
  obtain ⟨A, cap, u, rfl, e2, e3, e4, e5, e6⟩ := hr.lit_inv
  refine Rep.lit_mk u e2 e3 e4 (fun j k hj hk => by rw [← h.len] at hk ⊢; exact e5 j k hj hk) (fun j k d hj hd => ?_)
  obtain ⟨c, hc, he⟩ := h.get k d hd
  exact he _ _ _ _ hj (e6 j k c hj hc)
theorem ColEq.l {n : Nat} {nl nl' : Nat → Bool} {len len' : Nat → Nat} {cols cols' : Nat → List Col} (e : ∀ j, j < n → nl j = nl' j ∧ len j = len' j ∧ ColsEq (len j) (cols j) (cols' j)) : ColEq n (.l nl len cols) (.l nl' len' cols') := fun Y w j v hj hv => by
  obtain ⟨h1, h2, h3⟩ := e j hj
  have hr : Rep Y (fun _ => none) w (.lit (nl j) (len j) (cols j)) v := rep_colPV hv
  have := h3.lit hr
  rw [h1, h2] at this
  obtain ⟨A, cap, u, rfl, e2, e3, e4, e5, e6⟩ := this.lit_inv
  exact .l u e2 e3 e4 e5 e6

/-- names of the later state, and those of the earlier one that they are -/
def srcOf : List (Nat × Nat) → Nat → Nat
  | [], id => id
  | (a, b) :: r, id => bif a == id then b else srcOf r id
mutual
def PVCov (hi : Nat) (ren nils : List (Nat × Nat)) : PV → PV → Prop
  | _, .any => True
  | .int k n, .int k' n' => k = k' ∧ n = n'
  | .bool b, .bool b' => b = b'
  | .str s, .str s' => s = s'
  | .lit nl n c, .lit nl' n' c' => nl = nl' ∧ n = n' ∧ ColsEq n c c'
  | .ptr id o, .ptr id' o' => srcOf ren id' = id ∧ (nils.all fun x => x.1 != id') = true ∧ id' < hi ∧ o = o'
  | .nilp, .nilp => True
  | .elp c i, .elp c' i' => c = c' ∧ i = i'
  | .arp id i j, .arp id' i' j' => srcOf ren id' = id ∧ (nils.all fun x => x.1 != id') = true ∧ id' < hi ∧ i = i' ∧ j = j'
  | .sl id o n, .sl id' o' n' => srcOf ren id' = id ∧ (nils.all fun x => x.1 != id') = true ∧ id' < hi ∧ o = o' ∧ n = n'
  | .lit nl n _, .sl id' o' n' => (nils.any fun x => x.1 == id') = true ∧ nl = true ∧ n = 0 ∧ o' = 0 ∧ n' = 0
  | .agg ps, .agg ps' => PVCovs hi ren nils ps ps'
  | .tup ps, .tup ps' => PVCovs hi ren nils ps ps'
  | .fn f ps, .fn f' ps' => f = f' ∧ PVCovs hi ren nils ps ps'
  | _, _ => False
def PVCovs (hi : Nat) (ren nils : List (Nat × Nat)) : List PV → List PV → Prop
  | [], [] => True
  | p :: ps, q :: qs => PVCov hi ren nils p q ∧ PVCovs hi ren nils ps qs
  | _, _ => False
end
def BlkCov (hi : Nat) (ren nils : List (Nat × Nat)) : ABlk → ABlk → Prop
  | .box T cs, .box T' cs' => T = T' ∧ PVCovs hi ren nils cs cs'
  | .arr T n cols, .arr T' n' cols' => T = T' ∧ n = n' ∧ ColsEq n cols cols'
  | _, _ => False
def onBlk : Option ABlk → (ABlk → Prop) → Prop
  | some b, k => k b
  | none, _ => False
def nilBlk (sz : Nat) : ABlk → Prop
  | .arr _ n cols => n = 0 ∧ cols.length = sz
  | _ => False
def nilSz : List (Nat × Nat) → Nat → Option Nat
  | [], _ => none
  | (a, b) :: r, id => bif a == id then some b else nilSz r id
def orNil (o : Option Nat) (A : Nat → Prop) (B : Prop) : Prop := match o with
  | some sz => A sz
  | none => B
def HeapCov (hi : Nat) (ren nils : List (Nat × Nat)) (H : Heap) : Heap → Prop
  | [] => True
  | (_, none) :: H2 => HeapCov hi ren nils H H2
  | (id, some b) :: H2 => orNil (nilSz nils id) (fun sz => nilBlk sz b) (onBlk (getH H (srcOf ren id)) fun b1 => BlkCov hi ren nils b1 b) ∧ HeapCov hi ren nils H H2
def HCov (hi : Nat) (ren nils : List (Nat × Nat)) (H H2 : Heap) : Prop := ∀ id b, getH H2 id = some b → orNil (nilSz nils id) (fun sz => nilBlk sz b) (onBlk (getH H (srcOf ren id)) fun b1 => BlkCov hi ren nils b1 b)
def liveIds : Heap → List Nat
  | [] => []
  | (_, none) :: H => liveIds H
  | (id, some _) :: H => id :: liveIds H
/-- no two names of the later state have one source -/
def apart (ren nils : List (Nat × Nat)) : List Nat → Bool
  | [] => true
  | id :: r => (r.all fun j => j == id || (nilSz nils id).isSome || (nilSz nils j).isSome || srcOf ren j != srcOf ren id) && apart ren nils r
def SlotsCov (hi : Nat) (ren nils : List (Nat × Nat)) (s : Slots) : Slots → Prop
  | [] => True
  | (i, p) :: s2 => PVCov hi ren nils (getS s i) p ∧ SlotsCov hi ren nils s s2
def inRange (lo hi : Nat) (l : List (Nat × Nat)) : Bool := l.all fun x => decide (lo ≤ x.1) && decide (x.1 < hi)
def newNames (ren nils : List (Nat × Nat)) (hi : Nat) (m : Names) : Names := fun id =>
  match nilSz nils id with
  | some sz => some ⟨0, .slice none 0 0, 0, sz⟩
  | none => if id < hi then m (srcOf ren id) else none

section
variable {ren nils : List (Nat × Nat)} {Y : Nat → Prop} {m : Names} {w : World} {hi : Nat}
theorem nilSz_any {l : List (Nat × Nat)} {id : Nat} : (l.any fun x => x.1 == id) = true ↔ (nilSz l id).isSome = true := by
  induction l with
  | nil => simp [nilSz]
  | cons x l ih =>
    obtain ⟨a, b⟩ := x
    simp only [List.any_cons, nilSz, Bool.or_eq_true]
    by_cases h : (a == id) = true
    · simp [h]
    · simp only [Bool.not_eq_true] at h; simp [h, ih]
theorem nilSz_all {l : List (Nat × Nat)} {id : Nat} (h : (l.all fun x => x.1 != id) = true) : nilSz l id = none := by
  cases hn : nilSz l id with
  | none => rfl
  | some sz =>
    have := nilSz_any.2 (show (nilSz l id).isSome = true by rw [hn]; rfl)
    rw [List.any_eq_true] at this
    obtain ⟨x, hx, hx2⟩ := this
    rw [List.all_eq_true] at h
    have := h x hx
    simp only [bne_iff_ne, ne_eq] at this
    exact absurd (by simpa using hx2) this
/-- a name's place in the later state -/
theorem newNames_of {id' : Nat} (hn : (nils.all fun x => x.1 != id') = true) {pl : Pl} (hm : m (srcOf ren id') = some pl) (hlt : id' < hi) : newNames ren nils hi m id' = some pl := by
  unfold newNames
  rw [nilSz_all hn]
  simp only
  rw [if_pos hlt, hm]
mutual
theorem PVCov.rep : ∀ (q p : PV) (v : Value), PVCov hi ren nils p q → Rep Y m w p v → Rep Y (newNames ren nils hi m) w q v
  | .any, p, v, h, hr => .any
  | .int _ _, p, v, h, hr => by
    cases p <;> simp only [PVCov] at h
    obtain ⟨rfl, rfl⟩ := h; rw [hr.int_inv]; exact .int
  | .bool _, p, v, h, hr => by
    cases p <;> simp only [PVCov] at h
    subst h; rw [hr.bool_inv]; exact .bool
  | .str _, p, v, h, hr => by
    cases p <;> simp only [PVCov] at h
    subst h; rw [hr.str_inv]; exact .str
  | .lit _ _ _, p, v, h, hr => by
    cases p <;> simp only [PVCov] at h
    obtain ⟨rfl, rfl, h⟩ := h
    have := h.lit hr
    cases this with | lit h => exact .lit h
  | .ptr _ _, p, v, h, hr => by
    cases p <;> simp only [PVCov] at h
    obtain ⟨rfl, hn, hlt, rfl⟩ := h
    obtain ⟨pl, h1, rfl⟩ := hr.ptr_inv
    exact .ptr (newNames_of hn h1 hlt)
  | .nilp, p, v, h, hr => by
    cases p <;> simp only [PVCov] at h
    cases hr; exact .nilp
  | .elp _ _, p, v, h, hr => by
    cases p <;> simp only [PVCov] at h
    obtain ⟨rfl, rfl⟩ := h
    obtain ⟨b, oo, u, rfl, h1, h2⟩ := hr.elp_inv
    exact .elp h1 u h2
  | .arp _ _ _, p, v, h, hr => by
    cases p <;> simp only [PVCov] at h
    obtain ⟨rfl, hn, hlt, rfl, rfl⟩ := h
    obtain ⟨pl, h1, h2, rfl⟩ := hr.arp_inv
    exact .arp (newNames_of hn h1 hlt) h2
  | .sl id' _ _, p, v, h, hr => by
    cases p <;> simp only [PVCov] at h
    · obtain ⟨hn, rfl, rfl, rfl, rfl⟩ := h
      obtain ⟨A, cap, u, rfl, e2, e3, _⟩ := hr.lit_inv
      have hA : A = none := by cases A <;> simp at e2; rfl
      subst hA
      obtain ⟨_, rfl⟩ := e3 rfl
      obtain ⟨sz, hsz⟩ := Option.isSome_iff_exists.1 (nilSz_any.1 hn)
      have : newNames ren nils hi m id' = some ⟨0, .slice none 0 0, 0, sz⟩ := by unfold newNames; rw [hsz]
      exact .sl this rfl (Nat.le_refl _) (fun _ => ⟨rfl, rfl⟩) (fun h => by omega) (fun _ => rfl) (Nat.le_refl _)
    · obtain ⟨rfl, hn, hlt, rfl, rfl⟩ := h
      obtain ⟨pl, A, B, c, cap, h1, rfl, h3, h4, h5, h6, h7, h8⟩ := hr.sl_inv
      exact .sl (newNames_of hn h1 hlt) h3 h4 h5 h6 h7 h8
  | .agg qs, p, v, h, hr => by
    cases p <;> simp only [PVCov] at h
    obtain ⟨vs, rfl, h1, h2, h3⟩ := hr.agg_inv
    have := PVCovs.rep qs _ vs h h2
    exact .agg (h1.trans this.1) this.2 h3
  | .tup qs, p, v, h, hr => by
    cases p <;> simp only [PVCov] at h
    obtain ⟨vs, rfl, h1, h2⟩ := hr.tup_inv
    have := PVCovs.rep qs _ vs h h2
    exact .tup (h1.trans this.1) this.2
  | .fn _ qs, p, v, h, hr => by
    cases p <;> simp only [PVCov] at h
    obtain ⟨rfl, h⟩ := h
    obtain ⟨vs, rfl, h1, h2⟩ := hr.fn_inv
    have := PVCovs.rep qs _ vs h h2
    exact .fn (h1.trans this.1) this.2
  | .mp _, p, v, h, hr => by cases p <;> simp [PVCov] at h
theorem PVCovs.rep : ∀ (qs ps : List PV) (vs : List Value), PVCovs hi ren nils ps qs → (∀ (i : Nat) p v, ps[i]? = some p → vs[i]? = some v → Rep Y m w p v) →
    ps.length = qs.length ∧ ∀ (i : Nat) q v, qs[i]? = some q → vs[i]? = some v → Rep Y (newNames ren nils hi m) w q v
  | [], ps, vs, h, hr => by
    cases ps <;> simp only [PVCovs] at h
    exact ⟨rfl, fun i q v hq => by simp at hq⟩
  | q :: qs, ps, vs, h, hr => by
    cases ps <;> simp only [PVCovs] at h
    rename_i p ps
    have ih := PVCovs.rep qs ps (vs.drop 1) h.2 (fun i p v hp hv => hr (i + 1) p v (by simpa using hp) (by rw [List.getElem?_drop] at hv; rwa [Nat.add_comm] at hv))
    refine ⟨by simp [ih.1], fun i q' v hq hv => ?_⟩
    rcases i with _ | i
    · simp only [List.getElem?_cons_zero, Option.some.injEq] at hq
      subst hq
      exact PVCov.rep q p v h.1 (hr 0 p v rfl hv)
    · simp only [List.getElem?_cons_succ] at hq
      exact ih.2 i q' v hq (by rw [List.getElem?_drop, Nat.add_comm]; exact hv)
end

theorem BlkCov.sat {b1 b : ABlk} {pl : Pl} (h : BlkCov hi ren nils b1 b) (hb : BlkSat Y m w pl b1) : BlkSat Y (newNames ren nils hi m) w pl b ∧ b.lies pl = b1.lies pl := by
  cases b1 <;> cases b <;> simp only [BlkCov] at h
  · obtain ⟨rfl, h⟩ := h
    obtain ⟨vs, h1, h2, h3, h4⟩ := hb
    have := PVCovs.rep _ _ vs h h4
    exact ⟨⟨vs, h1, h2.trans this.1, h3, this.2⟩, rfl⟩
  · obtain ⟨rfl, rfl, h⟩ := h
    obtain ⟨xs, cap, s1, s2, s3, s4, s5, s6, s7⟩ := hb
    refine ⟨⟨xs, cap, s1, s2.trans h.len, by rw [← h.len]; exact s3, s4, s5, s6, fun i j d hi hd => ?_⟩, rfl⟩
    obtain ⟨c, hc, he⟩ := h.get j d hd
    obtain ⟨v, h1, h2⟩ := s7 i j c hi hc
    exact ⟨v, by rw [← h.len]; exact h1, he _ _ _ _ hi h2⟩
theorem HeapCov.get {H : Heap} : ∀ {H2 : Heap} {id : Nat} {b : ABlk}, HeapCov hi ren nils H H2 → getH H2 id = some b → orNil (nilSz nils id) (fun sz => nilBlk sz b) (onBlk (getH H (srcOf ren id)) fun b1 => BlkCov hi ren nils b1 b)
  | [], id, b, h, hg => by simp [getH] at hg
  | (i, none) :: H2, id, b, h, hg => by
    simp only [HeapCov] at h
    simp only [getH] at hg
    by_cases e : (i == id) = true
    · simp [e] at hg
    · simp only [Bool.not_eq_true] at e; simp only [e, cond_false] at hg; exact HeapCov.get h hg
  | (i, some b') :: H2, id, b, h, hg => by
    simp only [HeapCov] at h
    simp only [getH] at hg
    by_cases e : (i == id) = true
    · simp only [e, cond_true, Option.some.injEq] at hg
      subst hg
      have : i = id := by simpa using e
      subst this
      exact h.1
    · simp only [Bool.not_eq_true] at e; simp only [e, cond_false] at hg; exact HeapCov.get h.2 hg
theorem live_mem : ∀ {H : Heap} {id : Nat} {b : ABlk}, getH H id = some b → id ∈ liveIds H
  | [], id, b, h => by simp [getH] at h
  | (i, none) :: H, id, b, h => by
    simp only [getH] at h
    by_cases e : (i == id) = true
    · simp [e] at h
    · simp only [Bool.not_eq_true] at e; simp only [e, cond_false] at h; exact live_mem (H := H) h
  | (i, some b') :: H, id, b, h => by
    simp only [getH] at h
    simp only [liveIds, List.mem_cons]
    by_cases e : (i == id) = true
    · exact .inl (by simpa using e : i = id).symm
    · simp only [Bool.not_eq_true] at e; simp only [e, cond_false] at h; exact .inr (live_mem h)
theorem apart_spec : ∀ {l : List Nat}, apart ren nils l = true → ∀ id id', id ∈ l → id' ∈ l → id ≠ id' → nilSz nils id = none → nilSz nils id' = none → srcOf ren id ≠ srcOf ren id'
  | [], h, id, id', h1, h2, hne, n1, n2 => by cases h1
  | x :: l, h, id, id', h1, h2, hne, n1, n2 => by
    simp only [apart, Bool.and_eq_true, List.all_eq_true] at h
    rcases List.mem_cons.1 h1 with rfl | k1 <;> rcases List.mem_cons.1 h2 with rfl | k2
    · exact absurd rfl hne
    · have := h.1 id' k2
      simp only [n1, n2, Option.isSome_none, Bool.or_false, Bool.or_eq_true, beq_iff_eq, bne_iff_ne, ne_eq] at this
      rcases this with e | e
      · exact absurd e.symm hne
      · exact fun e' => e e'.symm
    · have := h.1 id k1
      simp only [n1, n2, Option.isSome_none, Bool.or_false, Bool.or_eq_true, beq_iff_eq, bne_iff_ne, ne_eq] at this
      rcases this with e | e
      · exact absurd e hne
      · exact e
    · exact apart_spec h.2 id id' k1 k2 hne n1 n2
theorem inRange_src {lo : Nat} {l : List (Nat × Nat)} (h : inRange lo hi l = true) {id : Nat} (hid : id < lo ∨ hi ≤ id) : srcOf l id = id ∧ nilSz l id = none := by
  induction l with
  | nil => exact ⟨rfl, rfl⟩
  | cons x l ih =>
    obtain ⟨a, b⟩ := x
    simp only [inRange, List.all_cons, Bool.and_eq_true, decide_eq_true_eq] at h
    have e : (a == id) = false := by
      have : a ≠ id := by omega
      simpa using this
    simp only [srcOf, nilSz, e, cond_false]
    exact ih (by unfold inRange; exact h.2)
/-- the later heap is right, if the earlier one is -/
theorem cov_heap {C : Ctx} {H H2 : Heap} {next : Nat} (hH : HS C Y m w H next) (h1 : C.base ≤ hi) (h2 : inRange C.base hi ren = true) (h3 : inRange C.base hi nils = true) (h4 : apart ren nils (liveIds H2) = true) (h5 : HCov hi ren nils H H2) (h6 : (liveIds H2).all (fun id => decide (id < hi)) = true) :
    HS C Y (newNames ren nils hi m) w H2 hi := by
  have get : ∀ id b, getH H2 id = some b → ∃ pl, newNames ren nils hi m id = some pl ∧ BlkSat Y (newNames ren nils hi m) w pl b ∧
      ((nilSz nils id ≠ none ∧ b.lies pl = none) ∨ (nilSz nils id = none ∧ ∃ b1, getH H (srcOf ren id) = some b1 ∧ m (srcOf ren id) = some pl ∧ b.lies pl = b1.lies pl)) := by
    intro id b hb
    have hg := h5 _ _ hb
    have hlt : id < hi := by have := List.all_eq_true.1 h6 id (live_mem hb); simpa using this
    cases hn : nilSz nils id with
    | some sz =>
      rw [hn] at hg
      have hg' : nilBlk sz b := hg
      cases b with
      | box T cs => exact hg'.elim
      | arr T n cols =>
        obtain ⟨rfl, hsz⟩ := hg'
        refine ⟨⟨0, .slice none 0 0, 0, sz⟩, by unfold newNames; rw [hn], ⟨[], 0, rfl, hsz.symm, ⟨by simp, .inl ⟨rfl, rfl⟩⟩, fun h => by omega, by simp, ⟨none, rfl⟩, fun i j c hi => by omega⟩, .inl ⟨by simp, rfl⟩⟩
    | none =>
      rw [hn] at hg
      have hg' : onBlk (getH H (srcOf ren id)) fun b1 => BlkCov hi ren nils b1 b := hg
      unfold onBlk at hg'
      split at hg'
      · rename_i b1 hb1
        obtain ⟨pl, p1, p2, p3⟩ := hH.blk _ _ hb1
        obtain ⟨q1, q2⟩ := hg'.sat p2
        exact ⟨pl, by unfold newNames; rw [hn]; simp only; rw [if_pos hlt, p1], q1, .inr ⟨rfl, b1, hb1, p1, q2⟩⟩
      · exact hg'.elim
  refine ⟨?_, ?_, hH.ylt, hH.keep, hH.size, hH.frame, hH.os, hH.tape, hH.output, hH.y0lt, hH.x0, hH.yless, hH.own, fun id hid => Nat.le_trans h1 hid, ?_, ?_, ?_⟩
  · intro id b hb
    obtain ⟨pl, p1, p2, p3⟩ := get id b hb
    refine ⟨pl, p1, p2, fun g hg => ?_⟩
    rcases p3 with ⟨_, p3⟩ | ⟨_, b1, q1, q2, q3⟩
    · rw [p3] at hg; cases hg
    · obtain ⟨pl', r1, _, r3⟩ := hH.blk _ _ q1
      rw [q2] at r1; injection r1 with r1; subst r1
      exact r3 g (q3 ▸ hg)
  · intro id id' b b' pl pl' g hne hb hb' hm hm' hl hl'
    obtain ⟨p, p1, _, p3⟩ := get id b hb
    obtain ⟨p', p1', _, p3'⟩ := get id' b' hb'
    rw [hm] at p1; injection p1 with p1; subst p1
    rw [hm'] at p1'; injection p1' with p1'; subst p1'
    rcases p3 with ⟨_, p3⟩ | ⟨n1, b1, q1, q2, q3⟩
    · rw [p3] at hl; cases hl
    · rcases p3' with ⟨_, p3'⟩ | ⟨n2, b2, r1, r2, r3⟩
      · rw [p3'] at hl'; cases hl'
      · exact hH.inj _ _ b1 b2 pl pl' g (apart_spec h4 id id' (live_mem hb) (live_mem hb') hne n1 n2) q1 r1 q2 r2 (q3 ▸ hl) (r3 ▸ hl')
  · intro id pl hid
    have hlt : id < C.base := by
      rcases Nat.lt_or_ge id C.base with h | h
      · exact h
      · rw [hH.own id h] at hid; cases hid
    obtain ⟨e1, _⟩ := inRange_src h2 (id := id) (.inl hlt)
    obtain ⟨_, e2⟩ := inRange_src h3 (id := id) (.inl hlt)
    unfold newNames
    rw [e2]
    simp only
    rw [if_pos (by omega), e1]
    exact hH.names id pl hid
  · intro id hid
    obtain ⟨_, e2⟩ := inRange_src h3 (id := id) (.inr hid)
    unfold newNames
    rw [e2]
    simp only
    rw [if_neg (by omega)]
  · intro id pl hid
    rcases Nat.lt_or_ge id C.base with hlt | hge
    · obtain ⟨e1, _⟩ := inRange_src h2 (id := id) (.inl hlt)
      obtain ⟨_, e2⟩ := inRange_src h3 (id := id) (.inl hlt)
      unfold newNames at hid
      rw [e2] at hid
      simp only at hid
      rw [if_pos (by omega), e1] at hid
      exact hH.known id pl hid
    · exact .inr hge
theorem SlotsCov.get {s : Slots} : ∀ {s2 : Slots} {i : Nat} {p : PV}, SlotsCov hi ren nils s s2 → getS s2 i = p → p ≠ .any → PVCov hi ren nils (getS s i) p
  | [], i, p, h, hg, hne => by simp only [getS] at hg; exact absurd hg.symm hne
  | (j, q) :: s2, i, p, h, hg, hne => by
    simp only [SlotsCov] at h
    simp only [getS] at hg
    by_cases e : (j == i) = true
    · simp only [e, cond_true] at hg
      subst hg
      have : j = i := by simpa using e
      subst this
      exact h.1
    · simp only [Bool.not_eq_true] at e
      simp only [e, cond_false] at hg
      exact SlotsCov.get h.2 hg hne
end
/-- a state covers a later one, by names and by values -/
theorem Cov.mk {st st2 : ST} (ren nils : List (Nat × Nat)) (h0 : st2.base = st.base) (h1 : st.base ≤ st2.next) (h2 : inRange st.base st2.next ren = true) (h3 : inRange st.base st2.next nils = true) (h4 : apart ren nils (liveIds st2.heap) = true)
    (h6 : (liveIds st2.heap).all (fun id => decide (id < st2.next)) = true) (h5 : HCov st2.next ren nils st.heap st2.heap) (h7 : SlotsCov st2.next ren nils st.slots st2.slots) : Cov st st2 := by
  intro C nt Y m a w hS
  refine ⟨Y, newNames ren nils st2.next m, hS.size, hS.defers, ?_, cov_heap hS.heap (by rw [hS.base]; exact h1) (by rw [hS.base]; exact h2) (by rw [hS.base]; exact h3) h4 h5 h6, hS.base.trans h0.symm⟩
  intro i p hp hne
  have hc := SlotsCov.get h7 hp hne
  by_cases hany : getS st.slots i = .any
  · rw [hany] at hc
    cases p <;> simp [PVCov] at hc hne
  · obtain ⟨v, e1, e2⟩ := hS.slots i _ rfl hany
    exact ⟨v, e1, PVCov.rep _ _ v hc e2⟩
theorem Cov.refl (st : ST) : Cov st st := fun C nt Y m a w h => ⟨Y, m, h⟩

/-- what the result variables hold -/
def readRes (st : ST) : ARes → Option PV
  | .t n => some (getS st.slots n)
  | .c n s => match step (AX.val st.slots) st.heap st.next (.load s (.t n)) with
    | some (_, p, _) => some p
    | none => none
def readAll (st : ST) : List ARes → Option (List PV)
  | [] => some []
  | r :: rs => match readRes st r, readAll st rs with
    | some p, some ps => some (p :: ps)
    | _, _ => none
def retPV : List PV → PV
  | [p] => p
  | ps => .tup ps
def onAll : Option (List PV) → (List PV → Prop) → Prop
  | some ps, k => k ps
  | none, _ => False
/-- a function's end: its results and its blocks cover what the contract says -/
def RetOK (rs : List ARes) (Hs : Heap) (nid : Nat) (r : PV) (u : Heap) : AEx → ST → Prop
  | .exit _, _ => False
  | _, st => onAll (readAll st rs) fun ps => ∃ ren nils : List (Nat × Nat), inRange nid (nid + 4) ren = true ∧ inRange nid (nid + 4) nils = true ∧ apart ren nils (liveIds (u ++ Hs)) = true ∧ (liveIds (u ++ Hs)).all (fun id => decide (id < nid + 4)) = true ∧
      HCov (nid + 4) ren nils st.heap (u ++ Hs) ∧ PVCov (nid + 4) ren nils (retPV ps) r

theorem did_load {o : Oper} {t : TypeId} {x : Operand} {ρv : Operand → Value} {w w' : World} {v : Value} (ho : o.op = .load t x) (h : Did P o ρv w v w') : ∃ a, ρv x = .pointer (some a) ∧ (loadVar t a).run P w = .ok v w' := by
  have key : (execOp ρv o).run P w = ((Instr.loadAt t (ρv x)).run P w).andThen fun a w' => .ok (.value a) w' := by
    simp [execOp, ho]
  unfold Did at h
  rw [key] at h
  unfold Instr.loadAt at h
  cases hv : ρv x with
  | pointer a =>
    cases a with
    | none => simp [hv, Instr.sureAddr] at h
    | some a =>
      refine ⟨a, rfl, ?_⟩
      simp only [hv, Instr.sureAddr, Sem.run_bind, Sem.run_pure, Result.andThen_ok] at h
      cases hl : (loadVar t a).run P w with
      | ok v' w'' =>
        rw [hl] at h
        simp only [Result.andThen_ok, Result.ok.injEq, Next.value.injEq, reduceCtorEq, false_and, or_false] at h
        obtain ⟨rfl, rfl⟩ := h
        rfl
      | halt x w'' => rw [hl] at h; simp at h
  | _ => simp [hv, Instr.sureAddr] at h
def resSem (a : Act) : ResultVar → Sem Value
  | .tmp t => pure (a.tmps.getD t undef)
  | .cell x t => do loadVar t (← asAddr (a.tmps.getD x undef))
theorem results_ok {C : Ctx} {nt : Nat} {Y : Nat → Prop} {m : Names} {st : ST} {a : Act} {w : World} (hS : Sat C nt Y m st a w) : ∀ (rs : List ResultVar) (as : List ARes) (ps : List PV), compR P rs = some as → readAll st as = some ps →
    ∃ vs : List Value, (rs.mapM (resSem a)).run P w = .ok vs w ∧ vs.length = ps.length ∧ ∀ (i : Nat) p v, ps[i]? = some p → vs[i]? = some v → Rep Y m w p v
  | [], as, ps, hc, hr => by
    simp only [compR, Option.some.injEq] at hc; subst hc
    simp only [readAll, Option.some.injEq] at hr; subst hr
    exact ⟨[], rfl, rfl, by simp⟩
  | .tmp t :: rs, as, ps, hc, hr => by
    simp only [compR] at hc
    obtain ⟨as', h1, rfl⟩ := map_some hc
    simp only [readAll, readRes] at hr
    split at hr
    · rename_i p ps' h2 h3
      simp only [Option.some.injEq] at hr h2
      subst hr; subst h2
      obtain ⟨vs, e1, e2, e3⟩ := results_ok hS rs as' ps' h1 h3
      have hv := hS.operand (.tmp t) (.t t) rfl
      refine ⟨a.tmps.getD t undef :: vs, ?_, by simp [e2], ?_⟩
      · rw [List.mapM_cons]
        simp [e1, resSem]
      · intro i p v hp hv'
        rcases i with _ | i
        · simp only [List.getElem?_cons_zero, Option.some.injEq] at hp hv'
          subst hp; subst hv'
          exact hv
        · simp only [List.getElem?_cons_succ] at hp hv'
          exact e3 i p v hp hv'
    · cases hr
  | .cell x t :: rs, as, ps, hc, hr => by
    simp only [compR] at hc
    split at hc
    · rename_i s as' h0 h1
      simp only [Option.some.injEq] at hc
      subst hc
      simp only [readAll, readRes] at hr
      split at hr
      · rename_i p ps' h2 h3
        simp only [Option.some.injEq] at hr
        subst hr
        split at h2
        · rename_i vc p' u hst
          simp only [Option.some.injEq] at h2
          subst h2
          obtain ⟨vs, e1, e2, e3⟩ := results_ok hS rs as' ps' h1 h3
          let o : Oper := { (default : Oper) with op := .load t (.tmp x) }
          have hu := load_quiet (P := P) (o := o) (x' := .t x) rfl h0 rfl Y m w st.heap st.next (AX.val st.slots) a.eval vc p' u hS.operand (fun id b hb => by obtain ⟨pl, q1, q2, _⟩ := hS.heap.blk id b hb; exact ⟨pl, q1, q2⟩) hst
          obtain ⟨rfl, v, hd, hrep⟩ := hu
          obtain ⟨ad, d1, d2⟩ := did_load rfl hd
          have d1' : a.tmps.getD x undef = .pointer (some ad) := d1
          refine ⟨v :: vs, ?_, by simp [e2], ?_⟩
          · rw [List.mapM_cons]
            simp [resSem, d1', asAddr, d2, e1]
          · intro i p v' hp hv'
            rcases i with _ | i
            · simp only [List.getElem?_cons_zero, Option.some.injEq] at hp hv'
              subst hp; subst hv'
              exact hrep
            · simp only [List.getElem?_cons_succ] at hp hv'
              exact e3 i p v' hp hv'
        · cases h2
      · cases hr
    · cases hc

def argSlots : Nat → List PV → Slots
  | _, [] => []
  | k, p :: ps => (k, p) :: argSlots (k + 1) ps
theorem getS_args : ∀ (ps : List PV) (k i : Nat), getS (argSlots k ps) i = if k ≤ i then ps.getD (i - k) .any else .any
  | [], k, i => by simp [argSlots, getS]
  | p :: ps, k, i => by
    simp only [argSlots, getS]
    by_cases h : k = i
    · subst h; simp
    · have e : (k == i) = false := by simpa using h
      simp only [e, cond_false]
      rw [getS_args ps]
      by_cases h2 : k ≤ i
      · obtain ⟨d, hd⟩ : ∃ d, i - k = d + 1 := ⟨i - k - 1, by omega⟩
        rw [if_pos h2, if_pos (by omega), hd, show i - (k + 1) = d from by omega]
        rfl
      · rw [if_neg h2, if_neg (by omega)]
theorem HSF.ev {C : Ctx} {Y : Nat → Prop} {m : Names} {w : World} {H : Heap} {Fr : Nat → Prop} (h : HSF C Y m w H Fr) : Ev C.Y0 C.m0 C.w0 Y m w :=
  ⟨h.size, fun b hb hY => h.frame b hb (fun hx => hY (h.x0 b hx)), h.yless, h.names⟩
/-- a code's run, whatever program code it came from -/
def SRun (P : Program) (ac : ACode) (st : ST) (Q : AEx → ST → Prop) : Prop := ∀ (nt : Nat) (c : Code) (C : Ctx) (Y : Nat → Prop) (m : Names) (a : Act) (w : World), comp P nt c = some ac → Sat C nt Y m st a w → c.wp P (PostA C nt Q) a w
theorem SRun.of_run {ac : ACode} {st : ST} {Q : AEx → ST → Prop} (h : run P ac st Q) : SRun P ac st Q := fun nt c C Y m a w hc hS => run_ok c ac st Q Y m a w hc h hS
theorem comp_seq_inv {nt : Nat} {c : Code} {x y : ACode} (h : comp P nt c = some (.seq x y)) : ∃ c1 c2, c = .seq c1 c2 ∧ comp P nt c1 = some x ∧ comp P nt c2 = some y := by
  cases c with
  | seq c1 c2 =>
    simp only [comp] at h
    split at h
    · rename_i x' y' h1 h2
      simp only [Option.some.injEq, ACode.seq.injEq] at h
      obtain ⟨rfl, rfl⟩ := h
      exact ⟨c1, c2, rfl, h1, h2⟩
    · cases h
  | region id ops d =>
    simp only [comp] at h
    cases d
    · simp only [cond_false] at h
      obtain ⟨_, _, e⟩ := map_some h; cases e
    · simp only [cond_true] at h
      cases hb : closedB ops (Region.before ops).toList && P.follows .mixedOrders
      · simp [hb] at h
      · simp only [hb, cond_true] at h
        obtain ⟨_, _, e⟩ := map_some h; cases e
  | cond x a b => simp only [comp] at h; split at h <;> simp at h
  | block i x => simp only [comp] at h; obtain ⟨_, _, e⟩ := map_some h; cases e
  | loop x => simp only [comp] at h; obtain ⟨_, _, e⟩ := map_some h; cases e
  | _ => simp [comp] at h
theorem SRun.seq {x y : ACode} {st : ST} {Q : AEx → ST → Prop} (h : SRun P x st (seqK (fun s => SRun P y s Q) Q)) : SRun P (.seq x y) st Q := by
  intro nt c C Y m a w hc hS
  obtain ⟨c1, c2, rfl, h1, h2⟩ := comp_seq_inv hc
  refine wp_seq (wp_mono (h nt c1 C Y m a w h1 hS) ?_)
  intro e a w hp
  cases e with
  | normal => obtain ⟨st', Y', m', hq, hs⟩ := hp; exact hq nt c2 C Y' m' a w h2 hs
  | exit i => exact hp
  | ret => exact hp
  | goto l => exact hp.elim
  | panic c => exact hp.elim
  | outgrown => exact hp.elim
theorem SRun.cov {x : ACode} {st st' : ST} {Q : AEx → ST → Prop} (hc : Cov st st') (h : SRun P x st' Q) : SRun P x st Q := fun nt c C Y m a w hcc hS => by
  obtain ⟨Y', m', hS'⟩ := hc C nt Y m a w hS
  exact h nt c C Y' m' a w hcc hS'
def frzS (H : Heap) (G : List Nat) (nl : Nat → Bool) (s : Slots) : Slots := s.map fun x => (x.1, lend H G nl x.2)
theorem getS_frz (H : Heap) (G : List Nat) (nl : Nat → Bool) : ∀ (s : Slots) (i : Nat), getS (frzS H G nl s) i = lend H G nl (getS s i)
  | [], i => by simp [frzS, getS, lend]
  | (j, p) :: s, i => by
    have ih := getS_frz H G nl s i
    simp only [frzS] at ih
    simp only [frzS, List.map_cons, getS]
    cases j == i
    · simpa using ih
    · rfl
/-- named arrays are written no more from here on: their slices in the slots become unwritten ones -/
theorem SRun.freeze {x : ACode} {s : Slots} {H : Heap} {n b : Nat} {Q : AEx → ST → Prop} (G : List Nat) (h : ∀ nl : Nat → Bool, SRun P x ⟨frzS H G nl s, kill G ++ H, n, b⟩ Q) : SRun P x ⟨s, H, n, b⟩ Q := fun nt c C Y m a w hcc hS => by
  obtain ⟨Y', h1, h2, h3⟩ := freeze_core hS.heap G
  refine h (nlOf m) nt c C Y' m a w hcc ⟨hS.size, hS.defers, ?_, h2, hS.base⟩
  intro i p hp hne
  simp only at hp
  rw [getS_frz] at hp
  have hne' : getS s i ≠ .any := fun e => hne (by rw [← hp, e]; simp [lend])
  obtain ⟨v, k1, k2⟩ := hS.slots i _ rfl hne'
  refine ⟨v, k1, ?_⟩
  subst hp
  exact h1 _ v k2
/-- a function's contract, out of its run -/
theorem acall_of_srun {f : Nat} {af : AFn} (hf : compF P f = some af) {args : List PV} {Hs : Heap} {nid : Nat} {r : PV} {u : Heap} (hlen : args.length ≤ af.nt) (h : SRun P af.body ⟨argSlots 0 args, Hs, nid, nid⟩ (RetOK af.res Hs nid r u)) :
    ACall P f args Hs nid r u := by
  intro C vs hbase hl hr hH
  unfold compF at hf
  split at hf
  · rename_i fn hfn
    split at hf
    · cases hf
    · rename_i hname
      split at hf
      · rename_i c hbody
        split at hf
        · rename_i b rs hb hrs
          simp only [Option.some.injEq] at hf
          subst hf
          simp only at h hlen
          refine .inl ⟨fn, hfn, by simpa using hname, by rw [hbody]; rfl, ?_⟩
          refine calls_of_wp hfn hbody ?_
          have hS : Sat C fn.ntmps C.Y0 C.m0 ⟨argSlots 0 args, Hs, nid, nid⟩ { tmps := vs.toArray ++ Array.replicate (fn.ntmps - vs.toArray.size) undef, defers := [] } C.w0 := by
            refine ⟨by simp; omega, rfl, ?_, hH, hbase⟩
            intro i p hp hne
            simp only at hp
            rw [getS_args] at hp
            simp only [Nat.zero_le, if_true, Nat.sub_zero] at hp
            have hi : i < args.length := by
              rcases Nat.lt_or_ge i args.length with h | h
              · exact h
              · rw [List.getD_eq_getElem?_getD, List.getElem?_eq_none h] at hp
                exact absurd hp.symm hne
            rw [List.getD_eq_getElem?_getD, List.getElem?_eq_getElem hi] at hp
            have hv : vs[i]? = some vs[i] := List.getElem?_eq_getElem (by omega)
            refine ⟨vs[i], ?_, hr i p _ (by rw [List.getElem?_eq_getElem hi]; exact congrArg some hp) hv⟩
            rw [Array.getElem?_append_left (by simp; omega)]
            simp
          refine wp_mono (h fn.ntmps c C C.Y0 C.m0 _ C.w0 hb hS) ?_
          have fin : ∀ (st : ST) (Y : Nat → Prop) (m : Names) (a : Act) (w : World), RetOK rs Hs nid r u .ret st → Sat C fn.ntmps Y m st a w →
              a.defers = [] ∧ ∃ v, (results fn a.tmps).run P w = .ok v w ∧ ∃ v', Ending.returned v = .returned v' ∧ ∃ Y' m', Rep Y' m' w r v' ∧ HS C Y' m' w (u ++ Hs) (nid + 4) ∧ Ev C.Y0 C.m0 C.w0 Y' m' w := by
            intro st Y m a w hq hS
            have hq' : onAll (readAll st rs) fun ps => ∃ ren nils : List (Nat × Nat), inRange nid (nid + 4) ren = true ∧ inRange nid (nid + 4) nils = true ∧ apart ren nils (liveIds (u ++ Hs)) = true ∧ (liveIds (u ++ Hs)).all (fun id => decide (id < nid + 4)) = true ∧
              HCov (nid + 4) ren nils st.heap (u ++ Hs) ∧ PVCov (nid + 4) ren nils (retPV ps) r := hq
            unfold onAll at hq'
            split at hq'
            · rename_i ps hps
              obtain ⟨ren, nils, h1, h2, h3, h4, h5, h6⟩ := hq'
              obtain ⟨ws, e1, e2, e3⟩ := results_ok hS fn.results.toList rs ps hrs hps
              have hres : (results fn a.tmps).run P w = .ok (if hh : ws.toArray.size = 1 then ws.toArray[0] else .tuple ws.toArray) w := by
                have hm : fn.results.mapM (resSem a) = List.toArray <$> fn.results.toList.mapM (resSem a) := by
                  conv => lhs; rw [← Array.toArray_toList (xs := fn.results)]
                  rw [List.mapM_toArray]
                have h0 : (results fn a.tmps) = (do let vs ← fn.results.mapM (resSem a); pure (if hh : vs.size = 1 then vs[0] else .tuple vs)) := by
                  unfold results
                  have : (fun (x : ResultVar) => match x with | .tmp t => (pure (a.tmps.getD t undef) : Sem Value) | .cell x t => do loadVar t (← asAddr (a.tmps.getD x undef))) = resSem a := by
                    funext x
                    cases x <;> rfl
                  rw [← this]
                  rfl
                rw [h0, hm]
                simp only [Sem.run_bind, Sem.run_map, e1, Result.andThen_ok, Sem.run_pure]
              refine ⟨hS.defers, _, hres, _, rfl, Y, newNames ren nils (nid + 4) m, ?_, ?_, ?_⟩
              · refine PVCov.rep _ _ _ h6 ?_
                rcases ps with _ | ⟨p, _ | ⟨p2, ps⟩⟩
                · have : ws = [] := List.eq_nil_of_length_eq_zero e2
                  subst this
                  exact .tup rfl (by simp)
                · obtain ⟨w0, hw0⟩ : ∃ w0, ws = [w0] := List.length_eq_one_iff.1 e2
                  subst hw0
                  exact e3 0 p w0 rfl rfl
                · have hne : ws.length ≠ 1 := by rw [e2]; simp
                  have : (if hh : ws.toArray.size = 1 then ws.toArray[0] else Value.tuple ws.toArray) = .tuple ws.toArray := by rw [dif_neg (by simpa using hne)]
                  rw [this]
                  exact .tup e2 e3
              · exact cov_heap hS.heap (by rw [hbase]; omega) (by rw [hbase]; exact h1) (by rw [hbase]; exact h2) h3 h5 h4
              · exact (cov_heap hS.heap (by rw [hbase]; omega) (by rw [hbase]; exact h1) (by rw [hbase]; exact h2) h3 h5 h4).ev
            · exact hq'.elim
          intro e a w hp
          cases e with
          | normal => obtain ⟨st, Y, m, hq, hs⟩ := hp; exact fin st Y m a w hq hs
          | ret => obtain ⟨st, Y, m, hq, hs⟩ := hp; exact fin st Y m a w hq hs
          | exit i => obtain ⟨st, Y, m, hq, hs⟩ := hp; exact hq.elim
          | goto l => exact hp.elim
          | panic c => exact hp.elim
          | outgrown => exact hp.elim
        · cases hf
      · cases hf
  · cases hf
theorem acall_of_run {f : Nat} {af : AFn} (hf : compF P f = some af) {args : List PV} {Hs : Heap} {nid : Nat} {r : PV} {u : Heap} (hlen : args.length ≤ af.nt) (h : run P af.body ⟨argSlots 0 args, Hs, nid, nid⟩ (RetOK af.res Hs nid r u)) :
    ACall P f args Hs nid r u := acall_of_srun hf hlen (.of_run h)
end Go.Proofs.Ytmnhlfkphibhfaa
/-
  Words for the use of the abstract machine in proofs of contracts.
-/
namespace Go.Proofs.Ytmnhlfkphibhfaa
open Go.RowKit
set_option linter.unusedVariables false
set_option linter.unusedSimpArgs false

theorem LoopOK_congr {R : ST → (AEx → ST → Prop) → Prop} {st st' : ST} (h : st = st') (Q : AEx → ST → Prop) : LoopOK R st Q = LoopOK R st' Q := by rw [h]
theorem Cov_congr {st st' st2 : ST} (h : st = st') : Cov st st2 = Cov st' st2 := by rw [h]
theorem RetOK_congr {rs : List ARes} {Hs : Heap} {nid : Nat} {r : PV} {u : Heap} {e : AEx} {st st' : ST} (h : st = st') : RetOK rs Hs nid r u e st = RetOK rs Hs nid r u e st' := by rw [h]
theorem split2_intro {b : Bool} {X Y : Unit → Prop} (h1 : b = true → X ()) (h2 : b = false → Y ()) : split2 b X Y := ⟨h1, h2⟩
/-- a decided test -/
theorem split2_dec {p : Prop} [Decidable p] {X Y : Unit → Prop} (h1 : p → X ()) (h2 : ¬ p → Y ()) : split2 (decide p) X Y := ⟨fun h => h1 (of_decide_eq_true h), fun h => h2 (of_decide_eq_false h)⟩
theorem split2_yes {b : Bool} {X Y : Unit → Prop} (hb : b = true) (h1 : X ()) : split2 b X Y := ⟨fun _ => h1, fun h => absurd (hb.symm.trans h) (by simp)⟩
theorem split2_no {b : Bool} {X Y : Unit → Prop} (hb : b = false) (h1 : Y ()) : split2 b X Y := ⟨fun h => absurd (hb.symm.trans h) (by simp), fun _ => h1⟩
theorem LoopOK.mk {R : ST → (AEx → ST → Prop) → Prop} {st : ST} {Q : AEx → ST → Prop} {ι : Type} (I : ι → ST) (μ : ι → Nat) (x : ι) (h1 : Cov st (I x)) (h2 : ∀ x, R (I x) (loopK (fun s => ∃ y, μ y < μ x ∧ Cov s (I y)) Q)) : LoopOK R st Q :=
  ⟨ι, I, μ, x, h1, h2⟩
/-- an end without blocks -/
theorem RetOK.pure {rs : List ARes} {nid : Nat} {r : PV} {e : AEx} {st : ST} (he : e = .ret ∨ e = .normal) {ps : List PV} (h1 : readAll st rs = some ps) (h2 : PVCov (nid + 4) [] [] (retPV ps) r) : RetOK rs [] nid r [] e st := by
  rcases he with rfl | rfl
  · show onAll (readAll st rs) _
    rw [h1]
    exact ⟨[], [], rfl, rfl, rfl, rfl, fun id b h => by simp [getH] at h, h2⟩
  · show onAll (readAll st rs) _
    rw [h1]
    exact ⟨[], [], rfl, rfl, rfl, rfl, fun id b h => by simp [getH] at h, h2⟩
theorem RetOK.mk {rs : List ARes} {Hs : Heap} {nid : Nat} {r : PV} {u : Heap} {e : AEx} {st : ST} (he : e = .ret ∨ e = .normal) {ps : List PV} (ren nils : List (Nat × Nat)) (h1 : readAll st rs = some ps) (h2 : inRange nid (nid + 4) ren = true) (h3 : inRange nid (nid + 4) nils = true)
    (h4 : apart ren nils (liveIds (u ++ Hs)) = true) (h5 : (liveIds (u ++ Hs)).all (fun id => decide (id < nid + 4)) = true) (h60 : HeapCov (nid + 4) ren nils st.heap (u ++ Hs)) (h7 : PVCov (nid + 4) ren nils (retPV ps) r) : RetOK rs Hs nid r u e st := by
  have h6 : HCov (nid + 4) ren nils st.heap (u ++ Hs) := fun id b h => HeapCov.get h60 h
  rcases he with rfl | rfl
  · show onAll (readAll st rs) _
    rw [h1]
    exact ⟨ren, nils, h2, h3, h4, h5, h6, h7⟩
  · show onAll (readAll st rs) _
    rw [h1]
    exact ⟨ren, nils, h2, h3, h4, h5, h6, h7⟩
/-- a state without blocks -/
theorem Cov.plain {st st2 : ST} (h0 : st2.base = st.base) (h1 : st.base ≤ st2.next) (h2 : st2.heap = []) (h7 : SlotsCov st2.next [] [] st.slots st2.slots) : Cov st st2 :=
  Cov.mk [] [] h0 h1 rfl rfl (by rw [h2]; rfl) (by rw [h2]; rfl) (by rw [h2]; exact fun id b h => by simp [getH] at h) h7
mutual
theorem lend_nil (H : Heap) (nl : Nat → Bool) : ∀ p, lend H [] nl p = p
  | .agg ps => by simp only [lend]; rw [lends_nil H nl ps]
  | .sl _ _ _ => by simp [lend]
  | .int _ _ => by simp [lend]
  | .bool _ => by simp [lend]
  | .str _ => by simp [lend]
  | .lit _ _ _ => by simp [lend]
  | .ptr _ _ => by simp [lend]
  | .nilp => by simp [lend]
  | .elp _ _ => by simp [lend]
  | .arp _ _ _ => by simp [lend]
  | .tup _ => by simp [lend]
  | .fn _ _ => by simp [lend]
  | .mp _ => by simp [lend]
  | .any => by simp [lend]
theorem lends_nil (H : Heap) (nl : Nat → Bool) : ∀ ps, lends H [] nl ps = ps
  | [] => by simp [lends]
  | p :: ps => by simp only [lends]; rw [lend_nil H nl p, lends_nil H nl ps]
end
/-- a call of a function whose contract is known, nothing lent -/
theorem CallX.pure {P : Program} {f : Nat} {args : List PV} {H : Heap} {nid : Nat} {K : PV → Heap → List Nat → Prop} {r : PV} {u : Heap} (h : ACall P f args [] nid r u) (hK : K r u []) : CallX P f args H nid K :=
  ⟨[], [], [], r, u, fun id b h => by simp [getH] at h, fun id h => by simp at h, .inl rfl, fun nl => by show ACall P f (lends H [] nl args) [] nid r u; rw [lends_nil]; exact h, by simpa [kill, keys] using hK⟩
/-- .. over named blocks -/
theorem CallX.on {P : Program} {f : Nat} {args : List PV} {H : Heap} {nid : Nat} {K : PV → Heap → List Nat → Prop} {Hs : Heap} {r : PV} {u : Heap} (h : ACall P f args Hs nid r u) (hs : subH Hs H) (hK : K r u (keys Hs)) : CallX P f args H nid K :=
  ⟨[], [], Hs, r, u, hs, fun id h => by simp at h, .inl rfl, fun nl => by show ACall P f (lends H [] nl args) Hs nid r u; rw [lends_nil]; exact h, by simpa [kill] using hK⟩
/-- .. some arrays lent -/
theorem CallX.lent {P : Program} {f : Nat} {args : List PV} {H : Heap} {nid : Nat} {K : PV → Heap → List Nat → Prop} (L : List Nat) {r : PV} {u : Heap} (h : ∀ nl, ACall P f (lends H L nl args) [] nid r u) (hp : r.plain = true) (hu : plainH u = true) (hL : ∀ id ∈ L, getH u id = none) (hK : K r u L) : CallX P f args H nid K :=
  ⟨L, [], [], r, u, fun id b h => by simp [getH] at h, fun id h => ⟨rfl, hL id (by simpa using h)⟩, .inr ⟨hp, hu, rfl⟩, fun nl => by rw [List.append_nil]; exact h nl, by simpa [kill, keys] using hK⟩
/-- .. some arrays given up -/
theorem CallX.given {P : Program} {f : Nat} {args : List PV} {H : Heap} {nid : Nat} {K : PV → Heap → List Nat → Prop} (F : List Nat) {Hs : Heap} {r : PV} {u : Heap} (h : ∀ nl, ACall P f (lends H F nl args) Hs nid r u) (hs : subH Hs H) (hF : ∀ id ∈ F, getH Hs id = none ∧ getH u id = none) (hK : K r (u ++ kill F) (keys Hs ++ F)) : CallX P f args H nid K :=
  ⟨[], F, Hs, r, u, hs, fun id h => hF id (by simpa using h), .inl rfl, fun nl => by rw [List.nil_append]; exact h nl, by simpa using hK⟩
/-- calls of regions in the text's order -/
theorem CallO.x {P : Program} {f : Nat} {args : List PV} {H : Heap} {nid : Nat} {K : PV → Heap → Prop} (h : CallX P f args H nid (fun r u _ => K r u)) : CallOK P f args H nid K := by
  obtain ⟨L, F, Hs, r, u, h1, h2, h3, h4, h5⟩ := h
  refine ⟨[], L, F, Hs, r, u, h1, h2, h3, h4, fun nl => ?_⟩
  rw [lend_nil]
  exact h5
theorem CallO.froze {P : Program} {f : Nat} {args : List PV} {H : Heap} {nid : Nat} {K : PV → Heap → Prop} (G : List Nat) (h : CallX P f args H nid (fun r u _ => ∀ nl : Nat → Bool, K (lend (u ++ H) G nl r) (kill G ++ u))) : CallOK P f args H nid K := ⟨G, h⟩
theorem CallO.pure {P : Program} {f : Nat} {args : List PV} {H : Heap} {nid : Nat} {K : PV → Heap → Prop} {r : PV} {u : Heap} (h : ACall P f args [] nid r u) (hK : K r u) : CallOK P f args H nid K := CallO.x (CallX.pure h hK)
theorem CallO.on {P : Program} {f : Nat} {args : List PV} {H : Heap} {nid : Nat} {K : PV → Heap → Prop} {Hs : Heap} {r : PV} {u : Heap} (h : ACall P f args Hs nid r u) (hs : subH Hs H) (hK : K r u) : CallOK P f args H nid K := CallO.x (CallX.on h hs hK)
theorem CallO.lent {P : Program} {f : Nat} {args : List PV} {H : Heap} {nid : Nat} {K : PV → Heap → Prop} (L : List Nat) {r : PV} {u : Heap} (h : ∀ nl, ACall P f (lends H L nl args) [] nid r u) (hp : r.plain = true) (hu : plainH u = true) (hL : ∀ id ∈ L, getH u id = none) (hK : K r u) : CallOK P f args H nid K :=
  CallO.x (CallX.lent L h hp hu hL hK)
theorem CallO.given {P : Program} {f : Nat} {args : List PV} {H : Heap} {nid : Nat} {K : PV → Heap → Prop} (F : List Nat) {Hs : Heap} {r : PV} {u : Heap} (h : ∀ nl, ACall P f (lends H F nl args) Hs nid r u) (hs : subH Hs H) (hF : ∀ id ∈ F, getH Hs id = none ∧ getH u id = none) (hK : K r (u ++ kill F)) : CallOK P f args H nid K :=
  CallO.x (CallX.given F h hs hF hK)
theorem subH_one {id : Nat} {b : ABlk} {H : Heap} (h : getH H id = some b) : subH [(id, some b)] H := fun i c hc => by
  simp only [getH] at hc
  by_cases e : (id == i) = true
  · simp only [e, cond_true, Option.some.injEq] at hc
    have : id = i := by simpa using e
    subst this; subst hc
    exact h
  · simp only [Bool.not_eq_true] at e; simp [e] at hc
theorem id_facts {s nid : Nat} (h : s < nid) : (nid == s) = false ∧ (s == nid) = false ∧ (∀ k, (nid + k == s) = false) ∧ (∀ k, (s == nid + k) = false) := by
  refine ⟨?_, ?_, fun k => ?_, fun k => ?_⟩ <;> (rw [beq_eq_false_iff_ne]; omega)
end Go.Proofs.Ytmnhlfkphibhfaa
/-
  The machine's run once more, in a form that simp evaluates step by step: what comes later is hidden from simp by a tag (an argument on whose value a type depends is not rewritten).
-/
namespace Go.Proofs.Ytmnhlfkphibhfaa
open Go.RowKit
set_option linter.unusedVariables false
set_option linter.unusedSimpArgs false

universe u
inductive Tag {α : Sort u} (a : α) : Type where
  | mk
def BS (s : Step) (K : PV → Heap → Prop) (_ : Tag K) : Prop := bindStep s K
theorem BS_some (vc : Prop) (v : PV) (u : Heap) (K : PV → Heap → Prop) (t : Tag K) : BS (some (vc, v, u)) K t = (vc ∧ K v u) := rfl
theorem BS_true (v : PV) (u : Heap) (K : PV → Heap → Prop) (t : Tag K) : BS (some (True, v, u)) K t = K v u := by show (True ∧ K v u) = K v u; simp
theorem BS_none (K : PV → Heap → Prop) (t : Tag K) : BS none K t = False := rfl
def OB (p : PV) (K : Bool → Prop) (_ : Tag K) : Prop := onBool p K
theorem OB_bool (b : Bool) (K : Bool → Prop) (t : Tag K) : OB (.bool b) K t = K b := rfl
def OG (p : PV) (K : Bool → Prop) (Z : Unit → Prop) (_ : Tag K) (_ : Tag Z) : Prop := onGrd p K Z
theorem OG_bool (b : Bool) (K : Bool → Prop) (Z : Unit → Prop) (t : Tag K) (t' : Tag Z) : OG (.bool b) K Z t t' = K b := rfl
theorem OG_tup (K : Bool → Prop) (Z : Unit → Prop) (t : Tag K) (t' : Tag Z) : OG (.tup []) K Z t t' = Z () := rfl
def S2 (b : Bool) (X Y : Unit → Prop) (_ : Tag X) (_ : Tag Y) : Prop := split2 b X Y
theorem S2_true (X Y : Unit → Prop) (t : Tag X) (t' : Tag Y) : S2 true X Y t t' = X () := split2_true X Y
theorem S2_false (X Y : Unit → Prop) (t : Tag X) (t' : Tag Y) : S2 false X Y t t' = Y () := split2_false X Y
def OF (p : PV) (K : Nat → List PV → Prop) (_ : Tag K) : Prop := onFn p K
theorem OF_fn (f : Nat) (cap : List PV) (K : Nat → List PV → Prop) (t : Tag K) : OF (.fn f cap) K t = K f cap := rfl
def CX (P : Program) (f : Nat) (args : List PV) (H : Heap) (nid : Nat) (K : PV → Heap → List Nat → Prop) (_ : Tag K) : Prop := CallX P f args H nid K
def CO (P : Program) (f : Nat) (args : List PV) (H : Heap) (nid : Nat) (K : PV → Heap → Prop) (_ : Tag K) : Prop := CallOK P f args H nid K
section
variable (P : Program)
def ROp (s : Slots) (H : Heap) (n : Nat) (K : PV → Heap → Prop) (t : Tag K) : AOp → Prop
  | .call f args => CO P f (args.map (AX.val s)) H n K t
  | .callv x args => OF (x.val s) (fun f cap => CO P f (args.map (AX.val s) ++ cap) H n K t) .mk
  | op => BS (step (AX.val s) H n op) K t
theorem ROp_eq (s : Slots) (H : Heap) (n : Nat) (K : PV → Heap → Prop) (t : Tag K) (op : AOp) : ROp P s H n K t op = runOp P s H n K op := by cases op <;> rfl
def ROps : List AIn → Slots → Heap → Nat → (K : Slots → Heap → Nat → Prop) → Tag K → Prop
  | [], s, H, n, K, _ => K s H n
  | ⟨d, none, op⟩ :: l, s, H, n, K, t => ROp P s H n (fun v u => ROps l (putS s d v) (u ++ H) (n + 4) K t) .mk op
  | ⟨d, some (j, true), op⟩ :: l, s, H, n, K, t => OG (getS s j) (fun b => S2 b
      (fun _ => ROp P ((j, .bool true) :: s) H n (fun v u => ROps l (putS ((j, .bool true) :: s) d v) (u ++ H) (n + 4) K t) .mk op)
      (fun _ => ROps l (putS ((j, .bool false) :: s) d (.tup [])) H (n + 4) K t) .mk .mk) (fun _ => ROps l (putS s d (.tup [])) H (n + 4) K t) .mk .mk
  | ⟨d, some (j, false), op⟩ :: l, s, H, n, K, t => OG (getS s j) (fun b => S2 b
      (fun _ => ROps l (putS ((j, .bool true) :: s) d (.tup [])) H (n + 4) K t)
      (fun _ => ROp P ((j, .bool false) :: s) H n (fun v u => ROps l (putS ((j, .bool false) :: s) d v) (u ++ H) (n + 4) K t) .mk op) .mk .mk) (fun _ => ROps l (putS s d (.tup [])) H (n + 4) K t) .mk .mk
theorem ROps_eq : ∀ (l : List AIn) (s : Slots) (H : Heap) (n : Nat) (K : Slots → Heap → Nat → Prop) (t : Tag K), ROps P l s H n K t = runOps P l s H n K
  | [], s, H, n, K, t => rfl
  | ⟨d, none, op⟩ :: l, s, H, n, K, t => by
    simp only [ROps, runOps, ROp_eq, ROps_eq l]
  | ⟨d, some (j, true), op⟩ :: l, s, H, n, K, t => by
    simp only [ROps, runOps, ROp_eq, ROps_eq l, OG, S2]
  | ⟨d, some (j, false), op⟩ :: l, s, H, n, K, t => by
    simp only [ROps, runOps, ROp_eq, ROps_eq l, OG, S2]
def OX (s : Slots) (H : Heap) (n : Nat) (K : PV → Heap → List Nat → Prop) (t : Tag K) : AOp → Prop
  | .call f args => CX P f (args.map (AX.val s)) H n (fun v u rds => lowH H n (idsOf (.agg (args.map (AX.val s))) ++ rds) = true ∧ K v u (idsOf (.agg (args.map (AX.val s))) ++ rds)) .mk
  | .callv x args => OF (x.val s) (fun f cap => CX P f (args.map (AX.val s) ++ cap) H n (fun v u rds => lowH H n (idsOf (.agg (args.map (AX.val s) ++ cap)) ++ rds) = true ∧ K v u (idsOf (.agg (args.map (AX.val s) ++ cap)) ++ rds)) .mk) .mk
  | op => BS (step (AX.val s) H n op) (fun v u => K v u (idsOf (.agg ((rdXs op).map (AX.val s))))) .mk
theorem OX_eq (s : Slots) (H : Heap) (n : Nat) (K : PV → Heap → List Nat → Prop) (t : Tag K) (op : AOp) : OX P s H n K t op = opX P s H n K op := by cases op <;> simp only [OX, opX, idsOf] <;> rfl
def RAny : List (AIn × List Nat) → List Rec1 → Slots → Heap → Nat → (K : Slots → Heap → Nat → Prop) → Tag K → Prop
  | [], recs, s, H, n, K, _ => K s H n
  | (⟨d, none, op⟩, fr) :: l, recs, s, H, n, K, t => OX P s H n (fun v u rds => freeOf recs ⟨d, namesX (opXs op), rds, keys u⟩ fr = true ∧ RAny l (recs ++ [⟨d, namesX (opXs op), rds, keys u⟩]) (putS s d v) (u ++ H) (n + 4) K t) .mk op
  | (⟨d, some (j, true), op⟩, fr) :: l, recs, s, H, n, K, t => OG (getS s j) (fun b => S2 b
      (fun _ => OX P ((j, .bool true) :: s) H n (fun v u rds => freeOf recs ⟨d, j :: namesX (opXs op), rds, keys u⟩ fr = true ∧ RAny l (recs ++ [⟨d, j :: namesX (opXs op), rds, keys u⟩]) (putS ((j, .bool true) :: s) d v) (u ++ H) (n + 4) K t) .mk op)
      (fun _ => freeOf recs ⟨d, [j], [], []⟩ fr = true ∧ RAny l (recs ++ [⟨d, [j], [], []⟩]) (putS ((j, .bool false) :: s) d (.tup [])) H (n + 4) K t) .mk .mk) (fun _ => freeOf recs ⟨d, [j], [], []⟩ fr = true ∧ RAny l (recs ++ [⟨d, [j], [], []⟩]) (putS s d (.tup [])) H (n + 4) K t) .mk .mk
  | (⟨d, some (j, false), op⟩, fr) :: l, recs, s, H, n, K, t => OG (getS s j) (fun b => S2 b
      (fun _ => freeOf recs ⟨d, [j], [], []⟩ fr = true ∧ RAny l (recs ++ [⟨d, [j], [], []⟩]) (putS ((j, .bool true) :: s) d (.tup [])) H (n + 4) K t)
      (fun _ => OX P ((j, .bool false) :: s) H n (fun v u rds => freeOf recs ⟨d, j :: namesX (opXs op), rds, keys u⟩ fr = true ∧ RAny l (recs ++ [⟨d, j :: namesX (opXs op), rds, keys u⟩]) (putS ((j, .bool false) :: s) d v) (u ++ H) (n + 4) K t) .mk op) .mk .mk) (fun _ => freeOf recs ⟨d, [j], [], []⟩ fr = true ∧ RAny l (recs ++ [⟨d, [j], [], []⟩]) (putS s d (.tup [])) H (n + 4) K t) .mk .mk
theorem RAny_eq : ∀ (l : List (AIn × List Nat)) (recs : List Rec1) (s : Slots) (H : Heap) (n : Nat) (K : Slots → Heap → Nat → Prop) (t : Tag K), RAny P l recs s H n K t = runAny P l recs s H n K
  | [], recs, s, H, n, K, t => rfl
  | (⟨d, none, op⟩, fr) :: l, recs, s, H, n, K, t => by
    simp only [RAny, runAny, OX_eq, RAny_eq l]
  | (⟨d, some (j, true), op⟩, fr) :: l, recs, s, H, n, K, t => by
    simp only [RAny, runAny, OX_eq, RAny_eq l, OG, S2]
  | (⟨d, some (j, false), op⟩, fr) :: l, recs, s, H, n, K, t => by
    simp only [RAny, runAny, OX_eq, RAny_eq l, OG, S2]
def blkK (id : Nat) (Q : AEx → ST → Prop) : AEx → ST → Prop
  | .normal, s => Q .normal s
  | .exit i, s => S2 (i == id) (fun _ => Q .normal s) (fun _ => Q (.exit i) s) .mk .mk
  | .ret, s => Q .ret s
theorem blkK_eq (id : Nat) (Q : AEx → ST → Prop) : blkK id Q = blockK id Q := by
  funext e s
  cases e with
  | normal => rfl
  | ret => rfl
  | exit i =>
    simp only [blkK, blockK, S2]
    cases i == id
    · simp [split2]
    · simp [split2]
def LP (c : ACode) (st : ST) (Q : AEx → ST → Prop) (_ : Tag Q) : Prop := LoopOK (run P c) st Q
def Run : ACode → ST → (Q : AEx → ST → Prop) → Tag Q → Prop
  | .skip, st, Q, _ => Q .normal st
  | .ops l, st, Q, _ => ROps P l st.slots st.heap st.next (fun s H n => Q .normal ⟨s, H, n, st.base⟩) .mk
  | .any l, st, Q, _ => RAny P l [] st.slots st.heap st.next (fun s H n => Q .normal ⟨s, H, n, st.base⟩) .mk
  | .seq a b, st, Q, t => Run a st (seqK (fun s => Run b s Q t) Q) .mk
  | .cond x a b, st, Q, t => OB (x.val st.slots) (fun c => S2 c (fun _ => Run a st Q t) (fun _ => Run b st Q t) .mk .mk) .mk
  | .block id c, st, Q, _ => Run c st (blkK id Q) .mk
  | .loop c, st, Q, t => LP P c st Q t
  | .exit i, st, Q, _ => Q (.exit i) st
  | .ret, st, Q, _ => Q .ret st
theorem Run_eq : ∀ (c : ACode) (st : ST) (Q : AEx → ST → Prop) (t : Tag Q), Run P c st Q t = run P c st Q
  | .skip, st, Q, t => rfl
  | .ops l, st, Q, t => by simp only [Run, run, ROps_eq]
  | .any l, st, Q, t => by simp only [Run, run, RAny_eq]
  | .seq a b, st, Q, t => by simp only [Run, run, Run_eq a, Run_eq b]
  | .cond x a b, st, Q, t => by simp only [Run, run, Run_eq a, Run_eq b, OB, S2]
  | .block id c, st, Q, t => by simp only [Run, run, Run_eq c, blkK_eq]
  | .loop c, st, Q, t => by simp only [Run, run, LP]
  | .exit i, st, Q, t => rfl
  | .ret, st, Q, t => rfl
end
theorem getS_hit (i : Nat) (p : PV) (s : Slots) : getS ((i, p) :: s) i = p := by simp [getS]
theorem getS_miss {i j : Nat} (h : (i == j) = false) (p : PV) (s : Slots) : getS ((i, p) :: s) j = getS s j := by simp [getS, h]
theorem getH_hit (i : Nat) (b : Option ABlk) (H : Heap) : getH ((i, b) :: H) i = b := by simp [getH]
theorem getH_miss {i j : Nat} (h : (i == j) = false) (b : Option ABlk) (H : Heap) : getH ((i, b) :: H) j = getH H j := by simp [getH, h]
theorem acall_run {P : Program} {f : Nat} {af : AFn} {args : List PV} {Hs : Heap} {nid : Nat} {r : PV} {u : Heap} (hc : compF P f = some af) (hn : args.length ≤ af.nt)
    (h : Run P af.body ⟨argSlots 0 args, Hs, nid, nid⟩ (RetOK af.res Hs nid r u) .mk) : ACall P f args Hs nid r u :=
  acall_of_run hc hn (by rw [← Run_eq]; exact h)
theorem LP.mk {P : Program} {c : ACode} {st : ST} {Q : AEx → ST → Prop} {t : Tag Q} {ι : Type} (I : ι → ST) (μ : ι → Nat) (x : ι) (h1 : Cov st (I x)) (h2 : ∀ x, Run P c (I x) (loopK (fun s => ∃ y, μ y < μ x ∧ Cov s (I y)) Q) .mk) : LP P c st Q t :=
  LoopOK.mk I μ x h1 fun x => by rw [← Run_eq P c _ _ .mk]; exact h2 x
theorem S2.dec {p : Prop} [Decidable p] {X Y : Unit → Prop} {t : Tag X} {t' : Tag Y} (h1 : p → X ()) (h2 : ¬ p → Y ()) : S2 (decide p) X Y t t' := split2_dec h1 h2
theorem S2.yes {b : Bool} {X Y : Unit → Prop} {t : Tag X} {t' : Tag Y} (hb : b = true) (h1 : X ()) : S2 b X Y t t' := split2_yes hb h1
theorem S2.no {b : Bool} {X Y : Unit → Prop} {t : Tag X} {t' : Tag Y} (hb : b = false) (h1 : Y ()) : S2 b X Y t t' := split2_no hb h1
theorem S2.intro {b : Bool} {X Y : Unit → Prop} {t : Tag X} {t' : Tag Y} (h1 : b = true → X ()) (h2 : b = false → Y ()) : S2 b X Y t t' := ⟨h1, h2⟩
theorem apart_nil : ∀ l : List Nat, apart [] [] l = true
  | [] => rfl
  | id :: r => by
    simp only [apart, apart_nil r, nilSz, srcOf, Bool.and_true, List.all_eq_true]
    intro j hj
    by_cases h : j = id <;> simp [h]
/-- what of a heap is not set anew -/
def over (u : Heap) : Heap → Heap
  | [] => []
  | (i, b) :: H => bif (keys u).contains i then over u H else (i, b) :: over u H
theorem getH_appC : ∀ (u H : Heap) (i : Nat), getH (u ++ H) i = bif (keys u).contains i then getH u i else getH H i
  | [], H, i => by simp [keys]
  | (j, b) :: u, H, i => by
    simp only [List.cons_append, getH, keys, List.map_cons, List.contains_cons]
    have := getH_appC u H i
    simp only [keys] at this
    by_cases e : j = i
    · subst e; simp
    · have e1 : (j == i) = false := by simpa using e
      have e2 : (i == j) = false := by simpa using fun h => e h.symm
      simp only [e1, e2, cond_false, Bool.false_or, this]
theorem getH_over (u : Heap) : ∀ (H : Heap) (i : Nat), (keys u).contains i = false → getH (over u H) i = getH H i
  | [], i, h => rfl
  | (j, b) :: H, i, h => by
    by_cases e : j = i
    · subst e
      simp only [over, h, cond_false, getH]
      simp
    · have e1 : (j == i) = false := by simpa using e
      cases hj : (keys u).contains j
      · simp only [over, hj, cond_false, getH, e1]
        exact getH_over u H i h
      · simp only [over, hj, cond_true, getH, e1, cond_false]
        exact getH_over u H i h
/-- an end, blocks of the caller's written -/
theorem RetOK.over {rs : List ARes} {Hs : Heap} {nid : Nat} {r : PV} {u : Heap} {e : AEx} {st : ST} (he : e = .ret ∨ e = .normal) {ps : List PV} (ren nils : List (Nat × Nat)) (h1 : readAll st rs = some ps) (h2 : inRange nid (nid + 4) ren = true) (h3 : inRange nid (nid + 4) nils = true)
    (h4 : apart ren nils (liveIds (u ++ Hs)) = true) (h5 : (liveIds (u ++ Hs)).all (fun id => decide (id < nid + 4)) = true) (h60 : HeapCov (nid + 4) ren nils st.heap (u ++ Go.Proofs.Ytmnhlfkphibhfaa.over u Hs)) (h7 : PVCov (nid + 4) ren nils (retPV ps) r) : RetOK rs Hs nid r u e st := by
  have h6 : HCov (nid + 4) ren nils st.heap (u ++ Hs) := fun id b h => HeapCov.get h60 (by
    rw [getH_appC] at h ⊢
    cases hk : (keys u).contains id
    · simp only [hk, cond_false] at h ⊢
      rw [getH_over u Hs id hk]; exact h
    · simp only [hk, cond_true] at h ⊢
      exact h)
  rcases he with rfl | rfl
  · show onAll (readAll st rs) _
    rw [h1]
    exact ⟨ren, nils, h2, h3, h4, h5, h6, h7⟩
  · show onAll (readAll st rs) _
    rw [h1]
    exact ⟨ren, nils, h2, h3, h4, h5, h6, h7⟩
theorem RetOK.same {rs : List ARes} {Hs : Heap} {nid : Nat} {r : PV} {u : Heap} {e : AEx} {st : ST} (he : e = .ret ∨ e = .normal) {ps : List PV} (h1 : readAll st rs = some ps) (h5 : (liveIds (u ++ Hs)).all (fun id => decide (id < nid + 4)) = true)
    (h6 : HeapCov (nid + 4) [] [] st.heap (u ++ Go.Proofs.Ytmnhlfkphibhfaa.over u Hs)) (h7 : PVCov (nid + 4) [] [] (retPV ps) r) : RetOK rs Hs nid r u e st :=
  RetOK.over he [] [] h1 rfl rfl (apart_nil _) h5 h6 h7
theorem subH_hit (id : Nat) (b : Option ABlk) (H : Heap) : subH [(id, b)] ((id, b) :: H) := fun i c h => by
  by_cases e : id = i
  · subst e; simp only [getH_hit] at h ⊢; exact h
  · have e1 : (id == i) = false := by simpa using e
    simp [getH, e1] at h
theorem subH_get {id : Nat} {b : Option ABlk} {H : Heap} (h : getH H id = b) : subH [(id, b)] H := fun i c hc => by
  by_cases e : id = i
  · subst e; simp only [getH_hit] at hc; rw [h]; exact hc
  · have e1 : (id == i) = false := by simpa using e
    simp [getH, e1] at hc
theorem Cov.go (ren nils : List (Nat × Nat)) {s1 s2 : Slots} {H1 H2 : Heap} {n1 n2 b : Nat} (h : b ≤ n2 ∧ inRange b n2 ren = true ∧ inRange b n2 nils = true ∧ apart ren nils (liveIds H2) = true ∧ (liveIds H2).all (fun id => decide (id < n2)) = true ∧
    HeapCov n2 ren nils H1 H2 ∧ SlotsCov n2 ren nils s1 s2) : Cov ⟨s1, H1, n1, b⟩ ⟨s2, H2, n2, b⟩ :=
  Cov.mk ren nils rfl h.1 h.2.1 h.2.2.1 h.2.2.2.1 h.2.2.2.2.1 (fun id b hb => HeapCov.get h.2.2.2.2.2.1 hb) h.2.2.2.2.2.2
theorem idS1 (n k : Nat) : (n + (k + 1) == n) = false := by rw [beq_eq_false_iff_ne]; omega
theorem idS2 (n k : Nat) : (n == n + (k + 1)) = false := by rw [beq_eq_false_iff_ne]; omega
/-- a name of the caller's is none of the call's own -/
theorem id_all {s nid : Nat} (h : s < nid) : (nid == s) = false ∧ (s == nid) = false ∧ (∀ k, (nid + k == s) = false) ∧ (∀ k, (s == nid + k) = false) ∧ ¬ nid = s ∧ ¬ s = nid ∧ (∀ k, ¬ nid + k = s) ∧ (∀ k, ¬ s = nid + k) ∧ ∀ k, s < nid + k := by
  obtain ⟨h1, h2, h3, h4⟩ := id_facts h
  exact ⟨h1, h2, h3, h4, by omega, by omega, fun k => by omega, fun k => by omega, fun k => by omega⟩
theorem lowBlk_box (n T : Nat) (cs : List PV) : lowBlk n (some (.box T cs)) = lowAll n (idsOfs cs) := rfl
theorem lowBlk_arr (n T k : Nat) (cols : List Col) : lowBlk n (some (.arr T k cols)) = true := rfl
theorem lowBlk_none (n : Nat) : lowBlk n none = true := rfl
theorem repl_one (z : List PV) : repl 1 z = z := by simp [repl]
/-- a loop whose family has a condition -/
theorem LP.mkP {P : Program} {c : ACode} {st : ST} {Q : AEx → ST → Prop} {t : Tag Q} {ι : Type} (p : ι → Prop) (I : ι → ST) (μ : ι → Nat) (x : ι) (hx : p x) (h1 : Cov st (I x))
    (h2 : ∀ x, p x → Run P c (I x) (loopK (fun s => ∃ y, (p y ∧ μ y < μ x) ∧ Cov s (I y)) Q) .mk) : LP P c st Q t :=
  LP.mk (ι := {x : ι // p x}) (fun x => I x.1) (fun x => μ x.1) ⟨x, hx⟩ h1 fun x => by
    have e : (fun s => ∃ y : {x : ι // p x}, μ y.1 < μ x.1 ∧ Cov s (I y.1)) = (fun s => ∃ y, (p y ∧ μ y < μ x.1) ∧ Cov s (I y)) := by
      funext s
      exact propext ⟨fun ⟨y, h1, h2⟩ => ⟨y.1, ⟨y.2, h1⟩, h2⟩, fun ⟨y, ⟨h1, h2⟩, h3⟩ => ⟨⟨y, h1⟩, h2, h3⟩⟩
    rw [e]
    exact h2 x.1 x.2
theorem RetOK.go {rs : List ARes} {Hs : Heap} {nid : Nat} {r : PV} {u : Heap} {e : AEx} {st : ST} (ren nils : List (Nat × Nat)) (he : e = .ret ∨ e = .normal) (h : onAll (readAll st rs) fun ps => inRange nid (nid + 4) ren = true ∧ inRange nid (nid + 4) nils = true ∧
    apart ren nils (liveIds (u ++ Hs)) = true ∧ (liveIds (u ++ Hs)).all (fun id => decide (id < nid + 4)) = true ∧ HeapCov (nid + 4) ren nils st.heap (u ++ Go.Proofs.Ytmnhlfkphibhfaa.over u Hs) ∧ PVCov (nid + 4) ren nils (retPV ps) r) : RetOK rs Hs nid r u e st := by
  cases hp : readAll st rs with
  | none => rw [hp] at h; exact h.elim
  | some ps =>
    rw [hp] at h
    obtain ⟨h2, h3, h4, h5, h6, h7⟩ := h
    exact RetOK.over he ren nils hp h2 h3 h4 h5 h6 h7
/-- the run of what is left: a state may be said more weakly here, and named arrays frozen -/
def SR (P : Program) (c : ACode) (st : ST) (Q : AEx → ST → Prop) (_ : Tag Q) : Prop := SRun P c st Q
theorem SR.run {P : Program} {c : ACode} {st : ST} {Q : AEx → ST → Prop} {t t' : Tag Q} (h : Run P c st Q t) : SR P c st Q t' := SRun.of_run (by rw [← Run_eq P c st Q t]; exact h)
theorem SR.seq {P : Program} {x y : ACode} {st : ST} {Q : AEx → ST → Prop} {t : Tag Q} (h : Run P x st (seqK (fun s => SR P y s Q .mk) Q) .mk) : SR P (.seq x y) st Q t := SRun.seq (SRun.of_run (by rw [← Run_eq P x st _ .mk]; exact h))
theorem SR.cov {P : Program} {x : ACode} {st st' : ST} {Q : AEx → ST → Prop} {t t' : Tag Q} (hc : Cov st st') (h : SR P x st' Q t') : SR P x st Q t := SRun.cov hc h
theorem SR.freeze {P : Program} {x : ACode} {s : Slots} {H : Heap} {n b : Nat} {Q : AEx → ST → Prop} {t : Tag Q} (G : List Nat) (h : ∀ nl : Nat → Bool, SR P x ⟨frzS H G nl s, kill G ++ H, n, b⟩ Q .mk) : SR P x ⟨s, H, n, b⟩ Q t := SRun.freeze G h
theorem acall_sr {P : Program} {f : Nat} {af : AFn} {args : List PV} {Hs : Heap} {nid : Nat} {r : PV} {u : Heap} (hc : compF P f = some af) (hn : args.length ≤ af.nt)
    (h : SR P af.body ⟨argSlots 0 args, Hs, nid, nid⟩ (RetOK af.res Hs nid r u) .mk) : ACall P f args Hs nid r u := acall_of_srun hc hn h
/-- the machine's laws for simp, all at once -/
theorem aqT : type_of% (And.intro (And.intro (And.intro (And.intro (And.intro (And.intro @Run.eq_1 (And.intro @Run.eq_2 @Run.eq_3)) (And.intro @Run.eq_4 (And.intro @Run.eq_5 @Run.eq_6))) (And.intro (And.intro @Run.eq_7 (And.intro @Run.eq_8 @Run.eq_9)) (And.intro @ROps.eq_1 (And.intro @ROps.eq_2 @ROps.eq_3)))) (And.intro (And.intro (And.intro @ROps.eq_4 (And.intro @RAny.eq_1 @RAny.eq_2)) (And.intro @RAny.eq_3 (And.intro @RAny.eq_4 @BS_some))) (And.intro (And.intro @BS_true (And.intro @BS_none @OB_bool)) (And.intro @OG_bool (And.intro @OG_tup @S2_true))))) (And.intro (And.intro (And.intro (And.intro @S2_false (And.intro @OF_fn @getS_hit)) (And.intro @getS_miss (And.intro @getS.eq_1 @getH_hit))) (And.intro (And.intro @getH_miss (And.intro @getH.eq_1 @putS.eq_1)) (And.intro @putS.eq_2 (And.intro @AX.val.eq_1 @AX.val.eq_2)))) (And.intro (And.intro (And.intro @cond_true.{1} (And.intro @cond_false.{1} @idS1)) (And.intro @idS2 (And.intro @List.nil_append.{0} @List.cons_append.{0}))) (And.intro (And.intro @true_and (And.intro @and_true @ne_eq.{1})) (And.intro @not_true_eq_false (And.intro @if_false.{1} @if_true.{1})))))) (And.intro (And.intro (And.intro (And.intro (And.intro @ite_false.{1} (And.intro @ite_true.{1} @List.map_cons.{0,0})) (And.intro @List.map_nil.{0,0} (And.intro @List.drop_zero.{0} @List.drop_succ_cons.{0}))) (And.intro (And.intro @List.take_succ_cons.{0} (And.intro @List.take_zero.{0} @List.length_cons.{0})) (And.intro @List.length_nil.{0} (And.intro @Nat.zero_add @decide_true)))) (And.intro (And.intro (And.intro @decide_false (And.intro @beq_self_eq_true.{0} @Bool.and_true)) (And.intro @Bool.and_false (And.intro @Bool.true_and @Bool.false_and))) (And.intro (And.intro @Int.toNat_natCast (And.intro @lowBlk_box @lowBlk_arr)) (And.intro @lowBlk_none (And.intro @List.append_nil.{0} @List.getElem?_cons_zero.{0}))))) (And.intro (And.intro (And.intro (And.intro @List.getElem?_cons_succ.{0} (And.intro @List.all_cons.{0} @List.all_nil.{0})) (And.intro @List.any_cons.{0} (And.intro @List.any_nil.{0} @List.contains_cons.{0}))) (And.intro (And.intro @List.contains_nil.{0} (And.intro @Bool.or_false @Bool.false_or)) (And.intro @Bool.or_true (And.intro @Bool.true_or @Bool.not_false)))) (And.intro (And.intro (And.intro @Bool.not_true (And.intro @bne_self_eq_false.{0} @List.singleton_append.{0})) (And.intro @Int.add_sub_cancel (And.intro @List.replicate_succ.{0} @List.replicate_zero.{0}))) (And.intro (And.intro @List.flatten_cons.{0} (And.intro @List.flatten_nil.{0} @List.set_cons_succ.{0})) (And.intro (And.intro @List.set_cons_zero.{0} @List.headD_cons.{0}) (And.intro @List.tail_cons.{0} @Nat.add_lt_add_iff_left))))))) := And.intro (And.intro (And.intro (And.intro (And.intro (And.intro @Run.eq_1 (And.intro @Run.eq_2 @Run.eq_3)) (And.intro @Run.eq_4 (And.intro @Run.eq_5 @Run.eq_6))) (And.intro (And.intro @Run.eq_7 (And.intro @Run.eq_8 @Run.eq_9)) (And.intro @ROps.eq_1 (And.intro @ROps.eq_2 @ROps.eq_3)))) (And.intro (And.intro (And.intro @ROps.eq_4 (And.intro @RAny.eq_1 @RAny.eq_2)) (And.intro @RAny.eq_3 (And.intro @RAny.eq_4 @BS_some))) (And.intro (And.intro @BS_true (And.intro @BS_none @OB_bool)) (And.intro @OG_bool (And.intro @OG_tup @S2_true))))) (And.intro (And.intro (And.intro (And.intro @S2_false (And.intro @OF_fn @getS_hit)) (And.intro @getS_miss (And.intro @getS.eq_1 @getH_hit))) (And.intro (And.intro @getH_miss (And.intro @getH.eq_1 @putS.eq_1)) (And.intro @putS.eq_2 (And.intro @AX.val.eq_1 @AX.val.eq_2)))) (And.intro (And.intro (And.intro @cond_true.{1} (And.intro @cond_false.{1} @idS1)) (And.intro @idS2 (And.intro @List.nil_append.{0} @List.cons_append.{0}))) (And.intro (And.intro @true_and (And.intro @and_true @ne_eq.{1})) (And.intro @not_true_eq_false (And.intro @if_false.{1} @if_true.{1})))))) (And.intro (And.intro (And.intro (And.intro (And.intro @ite_false.{1} (And.intro @ite_true.{1} @List.map_cons.{0,0})) (And.intro @List.map_nil.{0,0} (And.intro @List.drop_zero.{0} @List.drop_succ_cons.{0}))) (And.intro (And.intro @List.take_succ_cons.{0} (And.intro @List.take_zero.{0} @List.length_cons.{0})) (And.intro @List.length_nil.{0} (And.intro @Nat.zero_add @decide_true)))) (And.intro (And.intro (And.intro @decide_false (And.intro @beq_self_eq_true.{0} @Bool.and_true)) (And.intro @Bool.and_false (And.intro @Bool.true_and @Bool.false_and))) (And.intro (And.intro @Int.toNat_natCast (And.intro @lowBlk_box @lowBlk_arr)) (And.intro @lowBlk_none (And.intro @List.append_nil.{0} @List.getElem?_cons_zero.{0}))))) (And.intro (And.intro (And.intro (And.intro @List.getElem?_cons_succ.{0} (And.intro @List.all_cons.{0} @List.all_nil.{0})) (And.intro @List.any_cons.{0} (And.intro @List.any_nil.{0} @List.contains_cons.{0}))) (And.intro (And.intro @List.contains_nil.{0} (And.intro @Bool.or_false @Bool.false_or)) (And.intro @Bool.or_true (And.intro @Bool.true_or @Bool.not_false)))) (And.intro (And.intro (And.intro @Bool.not_true (And.intro @bne_self_eq_false.{0} @List.singleton_append.{0})) (And.intro @Int.add_sub_cancel (And.intro @List.replicate_succ.{0} @List.replicate_zero.{0}))) (And.intro (And.intro @List.flatten_cons.{0} (And.intro @List.flatten_nil.{0} @List.set_cons_succ.{0})) (And.intro (And.intro @List.set_cons_zero.{0} @List.headD_cons.{0}) (And.intro @List.tail_cons.{0} @Nat.add_lt_add_iff_left))))))
end Go.Proofs.Ytmnhlfkphibhfaa
/-
  Contracts at arguments that say more, slices that are not empty, and loops that are run round by round.
-/
namespace Go.Proofs.Ytmnhlfkphibhfaa
open Go.RowKit
set_option linter.unusedVariables false
set_option linter.unusedSimpArgs false
mutual
/-- alike as far as the slices' rows go -/
def ArgEq : PV → PV → Prop
  | .lit nl n c, .lit nl' n' c' => nl = nl' ∧ n = n' ∧ ColsEq n c c'
  | .agg ps, .agg qs => ArgEqs ps qs
  | p, q => p = q
def ArgEqs : List PV → List PV → Prop
  | [], [] => True
  | p :: ps, q :: qs => ArgEq p q ∧ ArgEqs ps qs
  | _, _ => False
end
section
variable {Y : Nat → Prop} {m : Names} {w : World}
mutual
theorem ArgEq.rep : ∀ (q p : PV) (v : Value), ArgEq p q → Rep Y m w p v → Rep Y m w q v
  | .lit _ _ _, p, v, h, hr => by
    cases p <;> simp only [ArgEq] at h <;> try contradiction
    obtain ⟨rfl, rfl, h⟩ := h
    exact h.lit hr
  | .agg qs, p, v, h, hr => by
    cases p <;> simp only [ArgEq] at h <;> try contradiction
    obtain ⟨vs, rfl, h1, h2, h3⟩ := hr.agg_inv
    have := ArgEqs.rep qs _ vs h h2
    exact .agg (h1.trans this.1) this.2 h3
  | .int _ _, p, v, h, hr => by cases p <;> simp only [ArgEq] at h <;> first | contradiction | (injections; subst_vars; exact hr)
  | .bool _, p, v, h, hr => by cases p <;> simp only [ArgEq] at h <;> first | contradiction | (injections; subst_vars; exact hr)
  | .str _, p, v, h, hr => by cases p <;> simp only [ArgEq] at h <;> first | contradiction | (injections; subst_vars; exact hr)
  | .ptr _ _, p, v, h, hr => by cases p <;> simp only [ArgEq] at h <;> first | contradiction | (injections; subst_vars; exact hr)
  | .nilp, p, v, h, hr => by cases p <;> simp only [ArgEq] at h <;> first | contradiction | exact hr
  | .elp _ _, p, v, h, hr => by cases p <;> simp only [ArgEq] at h <;> first | contradiction | (injections; subst_vars; exact hr)
  | .arp _ _ _, p, v, h, hr => by cases p <;> simp only [ArgEq] at h <;> first | contradiction | (injections; subst_vars; exact hr)
  | .sl _ _ _, p, v, h, hr => by cases p <;> simp only [ArgEq] at h <;> first | contradiction | (injections; subst_vars; exact hr)
  | .tup _, p, v, h, hr => by cases p <;> simp only [ArgEq] at h <;> first | contradiction | (injections; subst_vars; exact hr)
  | .fn _ _, p, v, h, hr => by cases p <;> simp only [ArgEq] at h <;> first | contradiction | (injections; subst_vars; exact hr)
  | .mp _, p, v, h, hr => by cases p <;> simp only [ArgEq] at h <;> first | contradiction | (injections; subst_vars; exact hr)
  | .any, p, v, h, hr => .any
theorem ArgEqs.rep : ∀ (qs ps : List PV) (vs : List Value), ArgEqs ps qs → (∀ (i : Nat) p v, ps[i]? = some p → vs[i]? = some v → Rep Y m w p v) →
    ps.length = qs.length ∧ ∀ (i : Nat) q v, qs[i]? = some q → vs[i]? = some v → Rep Y m w q v
  | [], ps, vs, h, hr => by
    cases ps <;> simp only [ArgEqs] at h
    exact ⟨rfl, fun i q v hq => by simp at hq⟩
  | q :: qs, ps, vs, h, hr => by
    cases ps <;> simp only [ArgEqs] at h
    rename_i p ps
    have ih := ArgEqs.rep qs ps (vs.drop 1) h.2 (fun i p v hp hv => hr (i + 1) p v (by simpa using hp) (by rw [List.getElem?_drop] at hv; rwa [Nat.add_comm] at hv))
    refine ⟨by simp [ih.1], fun i q' v hq hv => ?_⟩
    rcases i with _ | i
    · simp only [List.getElem?_cons_zero, Option.some.injEq] at hq
      subst hq
      exact ArgEq.rep q p v h.1 (hr 0 p v rfl hv)
    · simp only [List.getElem?_cons_succ] at hq
      exact ih.2 i q' v hq (by rw [List.getElem?_drop, Nat.add_comm]; exact hv)
end
end
variable {P : Program} {f : Nat} {as as' : List PV} {Hs : Heap} {nid : Nat} {r : PV} {u : Heap}
theorem ACall.args (ha : ACall P f as' Hs nid r u) (h : ArgEqs as as') : ACall P f as Hs nid r u := fun C vs hb hl hr hs => by
  have := ArgEqs.rep as' as vs h hr
  exact ha C vs hb (hl.trans this.1) this.2 hs
/-- a slice among the arguments that is nil has no rows -/
theorem ACall.nonnil (i : Nat) {nl : Bool} {n : Nat} {cols : List Col} (hi : as[i]? = some (.lit nl n cols)) (h : (nl = true → n = 0) → ACall P f as Hs nid r u) : ACall P f as Hs nid r u := fun C vs hb hl hr hs => by
  have hlt : i < vs.length := by rw [hl]; exact (List.getElem?_eq_some_iff.1 hi).1
  obtain ⟨A, cap, u', hv, e2, e3, _⟩ := (hr i _ vs[i] hi (List.getElem?_eq_getElem hlt)).lit_inv
  exact h (fun hn => by
    subst hn
    have hA : A = none := by cases A <;> simp at e2; rfl
    exact (e3 hA).1) C vs hb hl hr hs
/-- a call that is given arrays, and works on nothing else -/
theorem CallX.gave {P : Program} {f : Nat} {args : List PV} {H : Heap} {nid : Nat} {K : PV → Heap → List Nat → Prop} (F : List Nat) {r : PV} {u : Heap} (h : ∀ nl, ACall P f (lends H F nl args) [] nid r u) (hF : ∀ id ∈ F, getH u id = none) (hK : K r (u ++ kill F) F) : CallX P f args H nid K :=
  CallX.given F h (fun id b h => by simp [getH] at h) (fun id hid => ⟨rfl, hF id hid⟩) (by simpa [keys] using hK)
theorem CallO.gave {P : Program} {f : Nat} {args : List PV} {H : Heap} {nid : Nat} {K : PV → Heap → Prop} (F : List Nat) {r : PV} {u : Heap} (h : ∀ nl, ACall P f (lends H F nl args) [] nid r u) (hF : ∀ id ∈ F, getH u id = none) (hK : K r (u ++ kill F)) : CallOK P f args H nid K :=
  CallO.x (CallX.gave F h hF hK)
theorem subH_cons {id : Nat} {b : Option ABlk} {Hs H : Heap} (h : getH H id = b) (hs : subH Hs H) : subH ((id, b) :: Hs) H := fun i c hc => by
  by_cases e : id = i
  · subst e; simp only [getH_hit] at hc; rw [h]; exact hc
  · have e1 : (id == i) = false := by simpa using e
    rw [getH_miss e1] at hc
    exact hs i c hc
theorem subH_nil (H : Heap) : subH [] H := fun i c hc => by simp [getH] at hc
theorem SRun.mono {x : ACode} {st : ST} {Q Q' : AEx → ST → Prop} (h : ∀ e s, Q e s → Q' e s) (k : SRun P x st Q) : SRun P x st Q' := fun nt c C Y m a w hc hS => by
  refine wp_mono (k nt c C Y m a w hc hS) ?_
  intro e a w hp
  cases e with
  | normal => obtain ⟨st', Y', m', hq, hs⟩ := hp; exact ⟨st', Y', m', h _ _ hq, hs⟩
  | exit i => obtain ⟨st', Y', m', hq, hs⟩ := hp; exact ⟨st', Y', m', h _ _ hq, hs⟩
  | ret => obtain ⟨st', Y', m', hq, hs⟩ := hp; exact ⟨st', Y', m', h _ _ hq, hs⟩
  | goto l => exact hp.elim
  | panic c => exact hp.elim
  | outgrown => exact hp.elim
/-- a first part that leads, by all its ways, to a state that is said once -/
theorem SR.seqTo {x y : ACode} {st : ST} {Q : AEx → ST → Prop} {t : Tag Q} (st' : ST) (h : Run P x st (seqK (fun s => Cov s st') Q) .mk) (h2 : SR P y st' Q .mk) : SR P (.seq x y) st Q t :=
  SRun.seq (SRun.mono (Q := seqK (fun s => Cov s st') Q) (fun e s hk => by
    cases e
    · exact SRun.cov hk h2
    · exact hk
    · exact hk) (SRun.of_run (by rw [← Run_eq P x st _ .mk]; exact h)))
/-- .. for some data: those that the first part makes -/
theorem SR.seqEx {x y : ACode} {st : ST} {Q : AEx → ST → Prop} {t : Tag Q} {ι : Type} (I : ι → ST) (h : Run P x st (seqK (fun s => ∃ i, Cov s (I i)) Q) .mk) (h2 : ∀ i, SR P y (I i) Q .mk) : SR P (.seq x y) st Q t :=
  SRun.seq (SRun.mono (Q := seqK (fun s => ∃ i, Cov s (I i)) Q) (fun e s hk => by
    cases e
    · obtain ⟨i, hk⟩ := hk; exact SRun.cov hk (h2 i)
    · exact hk
    · exact hk) (SRun.of_run (by rw [← Run_eq P x st _ .mk]; exact h)))
/-- what the model does at a call of a function that has a body -/
theorem calls_of_callSat {f : Nat} {fn : Func} {vs : Array Value} {w : World} {R : Value → World → Prop} (hf : P.funcs[f]? = some fn) (h1 : (fn.name == "runtime.NumGoroutine") = false) (h2 : fn.body.isNone = false) (h : CallSat P f vs w R) :
    Calls P f vs w fun e w' => ∃ v, e = .returned v ∧ R v w' := by
  rcases h with ⟨_, _, _, _, h⟩ | ⟨v, w', h, _⟩
  · exact h
  · exfalso
    unfold callFunc at h
    have h1' : fn.name ≠ "runtime.NumGoroutine" := by simpa using h1
    have h2' : fn.body ≠ none := fun e => by rw [e] at h2; simp at h2
    simp [hf, h1', h2'] at h
/-- a contract at a list of numbers, from the world that the list lies in -/
theorem calls_of_acall {f : Nat} {fn : Func} {A : Option Addr} {cap : Nat} {L : List Int} {w : World} (hf : P.funcs[f]? = some fn) (h1 : (fn.name == "runtime.NumGoroutine") = false) (h2 : fn.body.isNone = false) (hr : RowV w A (ints L)) (hcap : A = none → cap = 0) (hle : L.length ≤ cap)
    (h : ∀ nl nid, ACall P f [.lit nl L.length [.i .i64 fun i => L.getD i 0]] [] nid (.bool true) []) : Calls P f #[.slice A L.length cap] w fun e w' => e = .returned (.bool true) ∧ Below w.heap.size w w' := by
  have hn0 : A = none → L.length = 0 := fun e => by
    rcases L with _ | ⟨x, L⟩
    · rfl
    · obtain ⟨b, o, h, _⟩ := hr.int (k := 0) (x := x) rfl
      rw [e] at h; cases h
  let C : Ctx := ⟨w, fun _ => False, fun _ => False, fun _ => none, 0⟩
  have hs : HS C C.Y0 C.m0 C.w0 [] 0 := by
    refine ⟨fun id b hb => by simp [getH] at hb, fun id id' b b' pl pl' g hne hb => by simp [getH] at hb, fun b hb => hb.elim, fun b hb => hb.elim, Nat.le_refl _, fun b _ _ => rfl, rfl, rfl, rfl, fun b hb => hb.elim, fun b hb => hb.elim, fun b hb => hb.elim, fun _ _ => rfl, fun id hid => hid, fun id pl hp => hp, fun _ _ => rfl, fun id pl hp => by cases hp⟩
  have hrep : Rep C.Y0 C.m0 C.w0 (.lit A.isNone L.length [.i .i64 fun i => L.getD i 0]) (.slice A L.length cap) := by
    refine .lit (.l (u := fun j _ => .int .i64 (L.getD j 0)) rfl (fun e => ⟨hn0 e, hcap e⟩) hle (fun j m hj hm => ?_) (fun j m c hj hm => ?_))
    · have hj' : j < L.length := hj
      have hm0 : m = 0 := by have : m < 1 := hm; omega
      subst hm0
      obtain ⟨b, o, h, hc⟩ := hr.int (k := j) (x := L.getD j 0) (by rw [List.getD_eq_getElem?_getD, List.getElem?_eq_getElem hj']; rfl)
      exact ⟨b, o, h, id, by simpa using hc⟩
    · rcases m with _ | m
      · simp only [List.getElem?_cons_zero, Option.some.injEq] at hm
        subst hm
        exact .i (g := fun i => L.getD i 0)
      · simp at hm
  have hc := h A.isNone 0 C [.slice A L.length cap] rfl rfl (fun i p v hp hv => by
    rcases i with _ | i
    · simp only [List.getElem?_cons_zero, Option.some.injEq] at hp hv
      subst hp; subst hv
      exact hrep
    · simp at hp) hs
  refine (calls_of_callSat hf h1 h2 hc).mono ?_
  rintro e w' ⟨v, rfl, Y', m', r1, r2, r3⟩
  have hv := r1.bool_inv
  subst hv
  exact ⟨rfl, ⟨r2.os, r2.tape, r2.output, r2.size, fun k hk => r2.frame k hk id⟩⟩
/-- a loop of so many rounds at most -/
def LN (P : Program) (c : ACode) : Nat → ST → (AEx → ST → Prop) → Prop
  | 0, _, _ => False
  | k + 1, st, Q => Run P c st (loopK (fun s => LN P c k s Q) Q) .mk
theorem loopK_mono {N N' : ST → Prop} {Q : AEx → ST → Prop} (h : ∀ s, N s → N' s) : ∀ e s, loopK N Q e s → loopK N' Q e s := fun e s hk => by
  cases e
  · exact h s hk
  · exact hk
  · exact hk
end Go.Proofs.Ytmnhlfkphibhfaa
/-
  Plain functions on lists of integers that the flash memory's functions compute, and small laws about them. No program stands in this text.
-/
namespace Go.Proofs.Ytmnhlfkphibhfaa

def sumI : List Int → Int
  | [] => 0
  | x :: l => x + sumI l
theorem sumI_snoc (l : List Int) (x : Int) : sumI (l ++ [x]) = sumI l + x := by
  induction l with
  | nil => simp [sumI]
  | cons a l ih => simp only [List.cons_append, sumI, ih]; omega
theorem sumI_append (l m : List Int) : sumI (l ++ m) = sumI l + sumI m := by
  induction l with
  | nil => simp [sumI]
  | cons a l ih => simp only [List.cons_append, sumI, ih]; omega
theorem sumI_bd {lo hi : Int} (l : List Int) (h : Within lo hi l) : lo * l.length ≤ sumI l ∧ sumI l ≤ hi * l.length := by
  induction l with
  | nil => simp [sumI]
  | cons a l ih =>
    have h1 := ih (fun x hx => h x (by simp [hx]))
    have h2 := h a (by simp)
    simp only [sumI, List.length_cons, Int.natCast_add, Int.mul_add]
    omega
def outB (x lo hi : Int) : Bool := decide (x < lo ∨ hi < x)
/-- the first fault of a list's elements -/
def firstBad {α : Type} (f : α → Int) : List α → Int
  | [] => 0
  | x :: l => if f x = 0 then firstBad f l else f x
theorem firstBad_append {α : Type} (f : α → Int) (l m : List α) (h : firstBad f l = 0) : firstBad f (l ++ m) = firstBad f m := by
  induction l with
  | nil => rfl
  | cons a l ih =>
    simp only [firstBad] at h
    split at h
    · rename_i h0
      simp only [List.cons_append, firstBad, h0, if_true]
      exact ih h
    · contradiction
theorem firstBad_hit {α : Type} {f : α → Int} {l : List α} {k : Nat} {x : α} (hx : l[k]? = some x) (h : firstBad f (l.take k) = 0) (hf : f x ≠ 0) : firstBad f l = f x := by
  have hk : k < l.length := (List.getElem?_eq_some_iff.1 hx).1
  have e : l = l.take k ++ x :: l.drop (k + 1) := by
    rw [(List.getElem?_eq_some_iff.1 hx).2.symm, ← List.drop_eq_getElem_cons hk, List.take_append_drop]
  rw [e, firstBad_append f _ _ h]
  simp [firstBad, hf]
theorem firstBad_step {α : Type} {f : α → Int} {l : List α} {k : Nat} {x : α} (hx : l[k]? = some x) (h : firstBad f (l.take k) = 0) (hf : f x = 0) : firstBad f (l.take (k + 1)) = 0 := by
  rw [take_snoc hx, firstBad_append f _ _ h]
  simp [firstBad, hf]
theorem firstBad_all {α : Type} {f : α → Int} {l : List α} (h : firstBad f l = 0) : ∀ x ∈ l, f x = 0 := by
  induction l with
  | nil => intro x hx; cases hx
  | cons a l ih =>
    simp only [firstBad] at h
    split at h
    · rename_i h0
      intro x hx
      rcases List.mem_cons.1 hx with rfl | hx
      · exact h0
      · exact ih h x hx
    · contradiction
def secBad (x : Int) : Int := if outB x 1 4096 = true then 1 else 0
def wordBad (x : Int) : Int := if outB x 0 65535 = true then 1 else 0
/-- what is wrong with a memory -/
def flashFault (l : List Int) : Int :=
  if l.length = 0 then 8 else if 20 < l.length then 2 else if firstBad secBad l ≠ 0 then 1 else if 4096 < sumI l then 2 else 0
structure FlashOk (l : List Int) : Prop where
  pos : 0 < l.length
  len : l.length ≤ 20
  wit : Within 1 4096 l
  sum : sumI l ≤ 4096
theorem within_of_secBad {l : List Int} (h : firstBad secBad l = 0) : Within 1 4096 l := fun x hx => by
  have := firstBad_all h x hx
  simp only [secBad, outB, decide_eq_true_eq] at this
  split at this
  · contradiction
  · omega
theorem flashFault_ok {l : List Int} (h : flashFault l = 0) : FlashOk l := by
  unfold flashFault at h
  split at h; · contradiction
  split at h; · contradiction
  split at h; · contradiction
  rename_i h3
  split at h; · contradiction
  exact ⟨by omega, by omega, within_of_secBad (Decidable.not_not.1 h3), by omega⟩
theorem flashFault_mk {l : List Int} (h1 : l.length ≠ 0) (h2 : l.length ≤ 20) (h3 : firstBad secBad l = 0) : flashFault l = if 4096 < sumI l then 2 else 0 := by
  unfold flashFault
  rw [if_neg h1, if_neg (by omega), if_neg (by simp [h3])]
def imageFault (secs ws : List Int) : Int := if (ws.length : Int) ≠ sumI secs then 3 else firstBad wordBad ws
def checkImage (secs ws : List Int) : Int := if flashFault secs = 0 then imageFault secs ws else flashFault secs
end Go.Proofs.Ytmnhlfkphibhfaa
/-
  Two statements at once that lead to one state; a nil slice among the arguments.
-/
namespace Go.Proofs.Ytmnhlfkphibhfaa
open Go.RowKit
set_option linter.unusedVariables false
set_option linter.unusedSimpArgs false
variable {P : Program}
theorem SR.seqTo2 {x y z : ACode} {st : ST} {Q : AEx → ST → Prop} {t : Tag Q} (st' : ST) (h : Run P x st (seqK (fun s => Run P y s (seqK (fun s => Cov s st') Q) .mk) Q) .mk) (h2 : SR P z st' Q .mk) : SR P (.seq x (.seq y z)) st Q t :=
  SRun.seq (SRun.mono (Q := seqK (fun s => Run P y s (seqK (fun s => Cov s st') Q) .mk) Q) (fun e s hk => by
    cases e
    · exact SR.seqTo (t := .mk) st' hk h2
    · exact hk
    · exact hk) (SRun.of_run (by rw [← Run_eq P x st _ .mk]; exact h)))
variable {f : Nat} {as as' : List PV} {Hs : Heap} {nid : Nat} {r : PV} {u : Heap}
theorem rep_nil {Y : Nat → Prop} {m : Names} {w : World} {c c' : List Col} {v : Value} (h : Rep Y m w (.lit true 0 c) v) : Rep Y m w (.lit true 0 c') v := by
  obtain ⟨A, cap, u, rfl, e2, e3, _⟩ := h.lit_inv
  have hA : A = none := by cases A <;> simp at e2; rfl
  subst hA
  obtain ⟨_, rfl⟩ := e3 rfl
  exact .lit (.l (u := fun _ _ => .bool true) rfl (fun _ => ⟨rfl, rfl⟩) (Nat.le_refl _) (fun j m hj _ => absurd hj (Nat.not_lt_zero _)) (fun j m c hj _ => absurd hj (Nat.not_lt_zero _)))
theorem ACall.nilArg (i : Nat) {c c' : List Col} (hi : as[i]? = some (.lit true 0 c)) (ha : ACall P f (as.set i (.lit true 0 c')) Hs nid r u) : ACall P f as Hs nid r u := fun C vs hb hl hr hs => by
  refine ha C vs hb (by simpa using hl) (fun j p v hp hv => ?_) hs
  rw [List.getElem?_set] at hp
  split at hp
  · rename_i hij
    subst hij
    split at hp
    · simp only [Option.some.injEq] at hp
      subst hp
      exact rep_nil (hr i _ v hi hv)
    · cases hp
  · exact hr j p v hp hv
theorem firstBad2 (a b : Int) : firstBad (fun x : Int => x) [a, b] = if a = 0 then b else a := by
  simp only [firstBad]
  split
  · rename_i h; split
    · rename_i h2; exact h2.symm
    · rfl
  · rfl
end Go.Proofs.Ytmnhlfkphibhfaa
/-
  The stream's draws as plain functions of the numbers and of how many have been drawn. No program stands in this text.
-/
namespace Go.Proofs.Ytmnhlfkphibhfaa

def below (x n : Int) : Int := if n < 1 then 0 else x % n
/-- the draw behind p draws, reduced below n -/
def nextV (L : List Int) (p : Nat) (n : Int) : Int :=
  if L.length = 0 then below (((p : Int) + 1) * 7919) n
  else below (below (L.getD (p % L.length) 0) 1073741824 + (p : Int) / (L.length : Int) * (7919 + (p : Int) % (L.length : Int))) n
theorem below_bd (x : Int) {n : Int} (h : 1 ≤ n) : 0 ≤ below x n ∧ below x n < n := by
  unfold below
  rw [if_neg (by omega)]
  exact ⟨Int.emod_nonneg _ (by omega), Int.emod_lt_of_pos _ (by omega)⟩
theorem nextV_bd (L : List Int) (p : Nat) {n : Int} (h : 1 ≤ n) : 0 ≤ nextV L p n ∧ nextV L p n < n := by
  unfold nextV
  split <;> exact below_bd _ h
def flipV (L : List Int) (p : Nat) (n : Int) : Bool := nextV L p n == 0
def rangeV (L : List Int) (p : Nat) (lo hi : Int) : Int := lo + nextV L p (hi - lo + 1)
theorem rangeV_bd (L : List Int) (p : Nat) {lo hi : Int} (h : lo ≤ hi) : lo ≤ rangeV L p lo hi ∧ rangeV L p lo hi ≤ hi := by
  have := nextV_bd L p (n := hi - lo + 1) (by omega)
  unfold rangeV
  omega
/-- the place that a pick takes -/
def pickI (L : List Int) (p : Nat) (n : Nat) : Nat := (nextV L p n).toNat
theorem pickI_lt (L : List Int) (p : Nat) {n : Nat} (h : 0 < n) : pickI L p n < n := by
  have := nextV_bd L p (n := (n : Int)) (by omega)
  unfold pickI
  omega
def pickV (L : List Int) (p : Nat) (l : List Int) : Int := l.getD (pickI L p l.length) 0
theorem pickV_mem (L : List Int) (p : Nat) {l : List Int} (h : 0 < l.length) : pickV L p l ∈ l := by
  have := pickI_lt L p h
  unfold pickV
  rw [List.getD_eq_getElem?_getD, List.getElem?_eq_getElem this]
  exact List.getElem_mem _
theorem pickV_bd (L : List Int) (p : Nat) {l : List Int} {lo hi : Int} (h : 0 < l.length) (hb : ∀ x ∈ l, lo ≤ x ∧ x ≤ hi) : lo ≤ pickV L p l ∧ pickV L p l ≤ hi := hb _ (pickV_mem L p h)
def oddV (L : List Int) (p : Nat) (lo hi : Int) : Int × Nat :=
  if flipV L p 12 then (pickV L (p + 1) [lo - 1, hi + 1, lo, hi, -1099511627776, 1099511627776], p + 2) else (rangeV L (p + 1) lo hi, p + 2)
theorem round_bd (p n : Nat) (hn : 0 < n) (hp : p ≤ 1099511627776) : 0 ≤ (p : Int) / (n : Int) * (7919 + (p : Int) % (n : Int)) ∧ (p : Int) / (n : Int) * (7919 + (p : Int) % (n : Int)) ≤ 8708132091985920 := by
  have h : ((p : Int) / (n : Int) * (7919 + (p : Int) % (n : Int))) = ((p / n * (7919 + p % n) : Nat) : Int) := by
    rw [Int.natCast_mul, Int.natCast_add, Int.natCast_ediv, Int.natCast_emod]; rfl
  rw [h]
  have h1 : p / n * (p % n) ≤ p := Nat.le_trans (Nat.mul_le_mul_left _ (Nat.le_of_lt (Nat.mod_lt _ hn))) (Nat.div_mul_le_self p n)
  have h2 : p / n ≤ p := Nat.div_le_self _ _
  have h3 : p / n * (7919 + p % n) = 7919 * (p / n) + p / n * (p % n) := by rw [Nat.mul_add, Nat.mul_comm (p / n) 7919]
  omega
end Go.Proofs.Ytmnhlfkphibhfaa
/-
  The flash memories, words and operations that a stream makes, as plain functions. No program stands in this text.
-/
namespace Go.Proofs.Ytmnhlfkphibhfaa

def secs0 (L : List Int) (p : Nat) : List Int := (List.range (rangeV L p 1 4).toNat).map fun i => rangeV L (p + 1 + i) 1 5
def secs1 (L : List Int) (p : Nat) : List Int × Nat :=
  if flipV L (p + 1 + (secs0 L p).length) 20 then
    ((secs0 L p).set (pickI L (p + 1 + (secs0 L p).length + 1) (secs0 L p).length) (pickV L (p + 1 + (secs0 L p).length + 2) [0, -1, 4096, 4097]), p + 1 + (secs0 L p).length + 3)
  else (secs0 L p, p + 1 + (secs0 L p).length + 1)
def flashOfV (L : List Int) (p : Nat) : List Int × Nat :=
  if flipV L (secs1 L p).2 40 then ([], (secs1 L p).2 + 1) else ((secs1 L p).1, (secs1 L p).2 + 1)
theorem secs0_len (L : List Int) (p : Nat) : 1 ≤ (secs0 L p).length ∧ (secs0 L p).length ≤ 4 := by
  have := rangeV_bd L p (lo := 1) (hi := 4) (by decide)
  simp only [secs0, List.length_map, List.length_range]
  omega
theorem secs0_bd (L : List Int) (p : Nat) : Within (-1) 4097 (secs0 L p) := by
  intro x hx
  obtain ⟨i, _, rfl⟩ := List.mem_map.1 hx
  have := rangeV_bd L (p + 1 + i) (lo := 1) (hi := 5) (by decide)
  omega
theorem Within.set {lo hi : Int} {l : List Int} (h : Within lo hi l) (k : Nat) {x : Int} (hx : lo ≤ x ∧ x ≤ hi) : Within lo hi (l.set k x) := fun y hy => by
  rcases List.mem_or_eq_of_mem_set hy with h1 | h1
  · exact h y h1
  · subst h1; exact hx
theorem secs1_bd (L : List Int) (p : Nat) : (secs1 L p).1.length ≤ 4 ∧ Within (-1) 4097 (secs1 L p).1 ∧ (secs1 L p).2 ≤ p + 8 := by
  have h1 := secs0_len L p
  have h2 := secs0_bd L p
  have h3 := pickV_bd L (p + 1 + (secs0 L p).length + 2) (l := [0, -1, 4096, 4097]) (lo := -1) (hi := 4097) (by simp) (by decide)
  unfold secs1
  split
  · exact ⟨by simp; omega, h2.set _ h3, by simp only; omega⟩
  · exact ⟨h1.2, h2, by simp only; omega⟩
theorem flashOfV_bd (L : List Int) (p : Nat) : (flashOfV L p).1.length ≤ 4 ∧ Within (-1) 4097 (flashOfV L p).1 ∧ (flashOfV L p).2 ≤ p + 9 := by
  have h := secs1_bd L p
  unfold flashOfV
  split
  · exact ⟨by simp, (fun x hx => by cases hx), by simp only; omega⟩
  · exact ⟨h.1, h.2.1, by simp only; omega⟩

def sumMax : List Int → Int
  | [] => 0
  | x :: l => max x 0 + sumMax l
theorem sumMax_snoc (l : List Int) (x : Int) : sumMax (l ++ [x]) = sumMax l + max x 0 := by
  induction l with
  | nil => simp [sumMax]
  | cons a l ih => simp only [List.cons_append, sumMax, ih]; omega
theorem sumMax_bd (l : List Int) (h : Within (-1) 4097 l) : 0 ≤ sumMax l ∧ sumMax l ≤ 4097 * l.length := by
  induction l with
  | nil => simp [sumMax]
  | cons a l ih =>
    have h1 := ih (fun x hx => h x (by simp [hx]))
    have h2 := h a (by simp)
    simp only [sumMax, List.length_cons, Int.natCast_add, Int.mul_add]
    omega
def word1 (L : List Int) (p : Nat) : Int := pickV L (p + 1) [65535, 65535, 0, 1, 3, 65534, nextV L p 65536]
def words0 (L : List Int) (p m : Nat) : List Int := (List.range m).map fun i => word1 L (p + 2 * i)
def words1 (L : List Int) (p m : Nat) : List Int × Nat :=
  if m = 0 then (words0 L p m, p + 2 * m) else
  if flipV L (p + 2 * m) 20 then ((words0 L p m).set (pickI L (p + 2 * m + 1) m) (pickV L (p + 2 * m + 2) [-1, 65536]), p + 2 * m + 3) else (words0 L p m, p + 2 * m + 1)
def wordMany (secs : List Int) : Nat := (min (sumMax secs) 40).toNat
def wordListV (L : List Int) (p : Nat) (secs : List Int) : List Int × Nat :=
  if flipV L (words1 L p (wordMany secs)).2 30 then ((words1 L p (wordMany secs)).1 ++ [0], (words1 L p (wordMany secs)).2 + 1)
  else ((words1 L p (wordMany secs)).1, (words1 L p (wordMany secs)).2 + 1)
theorem words0_len (L : List Int) (p m : Nat) : (words0 L p m).length = m := by simp [words0]
theorem words0_get (L : List Int) (p : Nat) {m k : Nat} (h : k < m) : (words0 L p m)[k]? = some (word1 L (p + 2 * k)) := by simp [words0, h]
theorem word1_bd (L : List Int) (p : Nat) : 0 ≤ word1 L p ∧ word1 L p ≤ 65535 := by
  have h := nextV_bd L p (n := 65536) (by decide)
  unfold word1
  refine pickV_bd L (p + 1) (by simp) ?_
  intro x hx
  simp only [List.mem_cons, List.not_mem_nil, or_false] at hx
  rcases hx with rfl | rfl | rfl | rfl | rfl | rfl | rfl <;> omega
theorem words1_bd (L : List Int) (p m : Nat) (hm : m ≤ 40) : (words1 L p m).1.length = m ∧ Within (-1) 65536 (words1 L p m).1 ∧ (words1 L p m).2 ≤ p + 83 := by
  have h2 : Within (-1) 65536 (words0 L p m) := by
    intro x hx
    obtain ⟨i, _, rfl⟩ := List.mem_map.1 hx
    have := word1_bd L (p + 2 * i)
    omega
  have h3 := pickV_bd L (p + 2 * m + 2) (l := [-1, 65536]) (lo := -1) (hi := 65536) (by simp) (by decide)
  unfold words1
  split
  · exact ⟨words0_len _ _ _, h2, by simp only; omega⟩
  · split
    · exact ⟨by simp [words0_len], h2.set _ h3, by simp only; omega⟩
    · exact ⟨words0_len _ _ _, h2, by simp only; omega⟩
theorem wordMany_le (secs : List Int) : wordMany secs ≤ 40 := by unfold wordMany; omega
theorem wordListV_bd (L : List Int) (p : Nat) (secs : List Int) : (wordListV L p secs).1.length ≤ 41 ∧ Within (-1) 65536 (wordListV L p secs).1 ∧ (wordListV L p secs).2 ≤ p + 84 := by
  have h := words1_bd L p (wordMany secs) (wordMany_le secs)
  have hm := wordMany_le secs
  unfold wordListV
  split
  · refine ⟨by simp only [List.length_append, List.length_singleton]; omega, ?_, by simp only; omega⟩
    intro x hx
    rcases List.mem_append.1 hx with h1 | h1
    · exact h.2.1 x h1
    · simp at h1; omega
  · exact ⟨by simp only; omega, h.2.1, by simp only; omega⟩
end Go.Proofs.Ytmnhlfkphibhfaa
/-
  Operations of a flash memory as data, and those that a stream makes, as plain functions. No program stands in this text.
-/
namespace Go.Proofs.Ytmnhlfkphibhfaa

structure FOp where
  k : Int
  a : Int
  v : Int
def FOp.cells (x : FOp) : List Value := [.int .i64 x.k, .int .i64 x.a, .int .i64 x.v]
def ops (l : List FOp) : List Value := l.flatMap FOp.cells
theorem ops_snoc (l : List FOp) (x : FOp) : ops (l ++ [x]) = ops l ++ x.cells := by simp [ops]
theorem ops_append (l m : List FOp) : ops (l ++ m) = ops l ++ ops m := by simp [ops]
theorem ops_len (l : List FOp) : (ops l).length = l.length * 3 := by
  induction l with
  | nil => rfl
  | cons x l ih => simp only [ops, List.flatMap_cons, List.length_append, List.length_cons] at ih ⊢; rw [ih]; simp [FOp.cells]; omega
theorem ops_get (l : List FOp) {i : Nat} {x : FOp} (h : l[i]? = some x) : (ops l)[i * 3]? = some (.int .i64 x.k) ∧ (ops l)[i * 3 + 1]? = some (.int .i64 x.a) ∧ (ops l)[i * 3 + 2]? = some (.int .i64 x.v) := by
  induction l generalizing i with
  | nil => simp at h
  | cons y l ih =>
    cases i with
    | zero =>
      simp at h; subst h
      simp [ops, FOp.cells]
    | succ i =>
      have := ih (i := i) (by simpa using h)
      have e : ops (y :: l) = .int .i64 y.k :: .int .i64 y.a :: .int .i64 y.v :: ops l := rfl
      rw [e, show (i + 1) * 3 = i * 3 + 1 + 1 + 1 from by omega]
      simpa using this
theorem ops_set (l : List FOp) (i : Nat) (x : FOp) : (((ops l).set (i * 3) (.int .i64 x.k)).set (i * 3 + 1) (.int .i64 x.a)).set (i * 3 + 2) (.int .i64 x.v) = ops (l.set i x) := by
  induction l generalizing i with
  | nil => simp [ops]
  | cons y l ih =>
    have e : ∀ (y : FOp) (l : List FOp), ops (y :: l) = .int .i64 y.k :: .int .i64 y.a :: .int .i64 y.v :: ops l := fun _ _ => rfl
    cases i with
    | zero => simp [e, List.set_cons_zero]
    | succ i =>
      rw [e, show (i + 1) * 3 = i * 3 + 1 + 1 + 1 from by omega]
      simp only [List.set_cons_succ, e]
      rw [ih i]
theorem RowV.op {w : World} {A : Option Addr} {l : List FOp} (h : RowV w A (ops l)) {k : Nat} {x : FOp} (hk : l[k]? = some x) :
    ∃ b o, A = some ⟨b, o, none⟩ ∧ w.cell? ⟨b, o + k * 3, none⟩ = some (.int .i64 x.k) ∧ w.cell? ⟨b, o + k * 3 + 1, none⟩ = some (.int .i64 x.a) ∧ w.cell? ⟨b, o + k * 3 + 2, none⟩ = some (.int .i64 x.v) := by
  obtain ⟨c0, c1, c2⟩ := ops_get l hk
  obtain ⟨b, o, rfl, h0⟩ := h _ _ c0
  obtain ⟨b1, o1, e1, h1⟩ := h _ _ c1
  obtain ⟨b2, o2, e2, h2⟩ := h _ _ c2
  injection e1 with e1; injection e1 with e1 e1'
  injection e2 with e2; injection e2 with e2 e2'
  subst e1; subst e1'; subst e2; subst e2'
  exact ⟨b, o, rfl, h0, h1, h2⟩
theorem oneCell_ops (l : List FOp) : ∀ u ∈ ops l, u.oneCell' = true := by
  intro u hu
  obtain ⟨x, _, hx⟩ := List.mem_flatMap.1 hu
  simp [FOp.cells] at hx
  rcases hx with rfl | rfl | rfl <;> rfl

/-- what is wrong with an operation of a memory of n sectors and sz words -/
def opFault (n : Nat) (sz : Int) (x : FOp) : Int :=
  if x.k = 1 then (if outB x.a 0 ((n : Int) - 1) = true then 1 else if x.v = 0 then 0 else 3)
  else if x.k = 2 then (if outB x.a 0 (sz - 1) = true then 1 else if outB x.v 0 65535 = true then 1 else 0) else 4
def opsFault (secs : List Int) (l : List FOp) : Int := if 50000 < l.length then 2 else firstBad (opFault secs.length (sumI secs)) l
def checkOps (secs : List Int) (l : List FOp) : Int := if flashFault secs = 0 then opsFault secs l else flashFault secs
/-- the operation made at draw q, and the draws behind it; n: how many sectors -/
def opAt (L : List Int) (q : Nat) (n : Nat) : FOp × Nat :=
  if flipV L q 3 then (⟨1, nextV L (q + 1) (max 1 (n : Int)), 0⟩, q + 2) else (⟨2, nextV L (q + 1) 4, pickV L (q + 2) [0, 1, 65535, 65534, 240]⟩, q + 3)
def opsTo (L : List Int) (p n : Nat) : Nat → List FOp × Nat
  | 0 => ([], p)
  | k + 1 => ((opsTo L p n k).1 ++ [(opAt L (opsTo L p n k).2 n).1], (opAt L (opsTo L p n k).2 n).2)
theorem opsTo_len (L : List Int) (p n k : Nat) : (opsTo L p n k).1.length = k := by
  induction k with
  | zero => rfl
  | succ k ih => simp [opsTo, ih]
theorem opAt_le (L : List Int) (q n : Nat) : (opAt L q n).2 ≤ q + 3 := by unfold opAt; split <;> simp only <;> omega
theorem opsTo_le (L : List Int) (p n k : Nat) : (opsTo L p n k).2 ≤ p + 3 * k := by
  induction k with
  | zero => simp [opsTo]
  | succ k ih => have := opAt_le L (opsTo L p n k).2 n; simp only [opsTo]; omega
def opMany (L : List Int) (p : Nat) : Nat := (rangeV L p 0 8).toNat
def spoilOp (L : List Int) (q : Nat) (x : FOp) : FOp := ⟨(oddV L q 1 2).1, pickV L (q + 2) [x.a, -1, 99], pickV L (q + 3) [x.v, -1, 65536]⟩
def opListV (L : List Int) (p n : Nat) : List FOp × Nat :=
  if opMany L p = 0 then (opsTo L (p + 1) n (opMany L p)) else
  if flipV L (opsTo L (p + 1) n (opMany L p)).2 15 then
    ((opsTo L (p + 1) n (opMany L p)).1.set (pickI L ((opsTo L (p + 1) n (opMany L p)).2 + 1) (opMany L p))
        (spoilOp L ((opsTo L (p + 1) n (opMany L p)).2 + 2) ((opsTo L (p + 1) n (opMany L p)).1.getD (pickI L ((opsTo L (p + 1) n (opMany L p)).2 + 1) (opMany L p)) ⟨0, 0, 0⟩)),
      (opsTo L (p + 1) n (opMany L p)).2 + 6)
  else ((opsTo L (p + 1) n (opMany L p)).1, (opsTo L (p + 1) n (opMany L p)).2 + 1)
theorem opMany_le (L : List Int) (p : Nat) : opMany L p ≤ 8 := by
  have := rangeV_bd L p (lo := 0) (hi := 8) (by decide)
  unfold opMany; omega
theorem opListV_bd (L : List Int) (p n : Nat) : (opListV L p n).1.length ≤ 8 ∧ (opListV L p n).2 ≤ p + 40 := by
  have h1 := opsTo_len L (p + 1) n (opMany L p)
  have h2 := opsTo_le L (p + 1) n (opMany L p)
  have h3 := opMany_le L p
  unfold opListV
  split
  · exact ⟨by omega, by omega⟩
  · split
    · exact ⟨by simp only [List.length_set]; omega, by simp only; omega⟩
    · exact ⟨by simp only; omega, by simp only; omega⟩
def IntsOk (x : FOp) : Prop := (-9223372036854775808 ≤ x.k ∧ x.k ≤ 9223372036854775807) ∧ (-9223372036854775808 ≤ x.a ∧ x.a ≤ 9223372036854775807) ∧ (-9223372036854775808 ≤ x.v ∧ x.v ≤ 9223372036854775807)
theorem opAt_ok (L : List Int) (q : Nat) {n : Nat} (hn : n ≤ 1000) : IntsOk (opAt L q n).1 := by
  have h1 := nextV_bd L (q + 1) (n := max 1 (n : Int)) (by omega)
  have h2 := nextV_bd L (q + 1) (n := 4) (by decide)
  have h3 := pickV_bd L (q + 2) (l := [0, 1, 65535, 65534, 240]) (lo := 0) (hi := 65535) (by simp) (by decide)
  unfold opAt IntsOk
  split <;> simp only <;> omega
theorem oddV_bd (L : List Int) (p : Nat) {lo hi : Int} (h : lo ≤ hi) (h1 : -1000000 ≤ lo) (h2 : hi ≤ 1000000) : -1099511627776 ≤ (oddV L p lo hi).1 ∧ (oddV L p lo hi).1 ≤ 1099511627776 := by
  have h3 := rangeV_bd L (p + 1) h
  have h4 : -1099511627776 ≤ pickV L (p + 1) [lo - 1, hi + 1, lo, hi, -1099511627776, 1099511627776] ∧ pickV L (p + 1) [lo - 1, hi + 1, lo, hi, -1099511627776, 1099511627776] ≤ 1099511627776 := by
    refine pickV_bd L (p + 1) (by simp) ?_
    intro x hx
    simp only [List.mem_cons, List.not_mem_nil, or_false] at hx
    rcases hx with rfl | rfl | rfl | rfl | rfl | rfl <;> omega
  unfold oddV
  split <;> simp only <;> omega
theorem spoilOp_ok (L : List Int) (q : Nat) {x : FOp} (hx : IntsOk x) : IntsOk (spoilOp L q x) := by
  have h1 := oddV_bd L q (lo := 1) (hi := 2) (by decide) (by decide) (by decide)
  have h2 : -9223372036854775808 ≤ pickV L (q + 2) [x.a, -1, 99] ∧ pickV L (q + 2) [x.a, -1, 99] ≤ 9223372036854775807 := by
    refine pickV_bd L (q + 2) (by simp) ?_
    intro y hy
    have := hx.2.1
    simp only [List.mem_cons, List.not_mem_nil, or_false] at hy
    rcases hy with rfl | rfl | rfl <;> omega
  have h3 : -9223372036854775808 ≤ pickV L (q + 3) [x.v, -1, 65536] ∧ pickV L (q + 3) [x.v, -1, 65536] ≤ 9223372036854775807 := by
    refine pickV_bd L (q + 3) (by simp) ?_
    intro y hy
    have := hx.2.2
    simp only [List.mem_cons, List.not_mem_nil, or_false] at hy
    rcases hy with rfl | rfl | rfl <;> omega
  unfold spoilOp IntsOk
  simp only
  omega
theorem opsTo_ok (L : List Int) (p : Nat) {n : Nat} (hn : n ≤ 1000) (k : Nat) : ∀ x ∈ (opsTo L p n k).1, IntsOk x := by
  induction k with
  | zero => intro x hx; cases hx
  | succ k ih =>
    intro x hx
    simp only [opsTo, List.mem_append, List.mem_singleton] at hx
    rcases hx with h | rfl
    · exact ih x h
    · exact opAt_ok L _ hn
theorem opListV_ok (L : List Int) (p : Nat) {n : Nat} (hn : n ≤ 1000) : ∀ x ∈ (opListV L p n).1, IntsOk x := by
  have h1 := opsTo_ok L (p + 1) hn (opMany L p)
  unfold opListV
  split
  · exact h1
  · split
    · intro x hx
      rcases List.mem_or_eq_of_mem_set hx with h | h
      · exact h1 x h
      · subst h
        refine spoilOp_ok L _ ?_
        rw [List.getD_eq_getElem?_getD]
        cases hg : (opsTo L (p + 1) n (opMany L p)).1[pickI L ((opsTo L (p + 1) n (opMany L p)).2 + 1) (opMany L p)]? with
        | none => simp [IntsOk]
        | some y => exact h1 y (mem_of_get hg)
    · exact h1
end Go.Proofs.Ytmnhlfkphibhfaa
/-
  Sectors of a memory as plain functions: the sector of an address, its window, words erased, operations applied. No program stands in this text.
-/
namespace Go.Proofs.Ytmnhlfkphibhfaa

/-- the words of the first k sectors -/
def pre (l : List Int) (k : Nat) : Int := sumI (l.take k)
theorem pre_succ {l : List Int} {k : Nat} {x : Int} (h : l[k]? = some x) : pre l (k + 1) = pre l k + x := by unfold pre; rw [take_snoc h, sumI_snoc]
theorem pre_zero (l : List Int) : pre l 0 = 0 := rfl
theorem pre_all (l : List Int) : pre l l.length = sumI l := by unfold pre; rw [List.take_length]
theorem pre_mono {l : List Int} (hv : Within 1 4096 l) {j k : Nat} (h : j ≤ k) : pre l j ≤ pre l k := by
  induction k with
  | zero =>
    obtain rfl : j = 0 := by omega
    exact Int.le_refl _
  | succ k ih =>
    rcases Nat.lt_or_ge j (k + 1) with hj | hj
    · refine Int.le_trans (ih (by omega)) ?_
      rcases Nat.lt_or_ge k l.length with hk | hk
      · obtain ⟨x, hx⟩ := get_some l hk
        have := hv.get hx
        rw [pre_succ hx]; omega
      · unfold pre; rw [List.take_of_length_le hk, List.take_of_length_le (by omega)]; exact Int.le_refl _
    · obtain rfl : j = k + 1 := by omega
      exact Int.le_refl _
theorem pre_bd {l : List Int} (hv : Within 1 4096 l) (hn : l.length ≤ 20) (k : Nat) : 0 ≤ pre l k ∧ pre l k ≤ 81920 := by
  have h := sumI_bd (l.take k) (hv.take k)
  have : (l.take k).length ≤ 20 := by rw [List.length_take]; omega
  unfold pre
  omega
theorem pre_le {l : List Int} (hv : Within 1 4096 l) (k : Nat) : pre l k ≤ sumI l := by
  rcases Nat.le_total k l.length with h | h
  · rw [← pre_all]; exact pre_mono hv h
  · unfold pre; rw [List.take_of_length_le h]; exact Int.le_refl _
/-- s is the sector of address a -/
def IsSec (l : List Int) (a : Int) (s : Nat) : Prop := s < l.length ∧ pre l s ≤ a ∧ a < pre l (s + 1)
theorem isSec_unique {l : List Int} (hv : Within 1 4096 l) {a : Int} {s t : Nat} (h : IsSec l a s) (k : IsSec l a t) : s = t := by
  rcases Nat.lt_trichotomy s t with hl | rfl | hl
  · have := pre_mono hv (show s + 1 ≤ t from hl)
    have := h.2.2; have := k.2.1
    omega
  · rfl
  · have := pre_mono hv (show t + 1 ≤ s from hl)
    have := k.2.2; have := h.2.1
    omega
/-- the sector of an address, looked for among the first k -/
def secGo (l : List Int) (a : Int) : Nat → Nat
  | 0 => 0
  | k + 1 => if a < pre l k then secGo l a k else k
def secOf (l : List Int) (a : Int) : Nat := secGo l a l.length
theorem secGo_spec (l : List Int) (a : Int) (h0 : 0 ≤ a) : ∀ k, k ≤ l.length → 0 < k → a < pre l k → secGo l a k < k ∧ pre l (secGo l a k) ≤ a ∧ a < pre l (secGo l a k + 1) := by
  intro k
  induction k with
  | zero => intro _ h; omega
  | succ k ih =>
    intro hk _ ha
    unfold secGo
    split
    · rename_i h1
      rcases Nat.eq_zero_or_pos k with rfl | hp
      · rw [pre_zero] at h1; omega
      · have := ih (by omega) hp h1
        omega
    · exact ⟨by omega, by omega, ha⟩
theorem secOf_is {l : List Int} {a : Int} (h0 : 0 ≤ a) (h1 : a < sumI l) : IsSec l a (secOf l a) := by
  have hp : 0 < l.length := by
    rcases Nat.eq_zero_or_pos l.length with h | h
    · have := List.eq_nil_of_length_eq_zero h
      subst this
      simp [sumI] at h1; omega
    · exact h
  have := secGo_spec l a h0 l.length (Nat.le_refl _) hp (by rw [pre_all]; exact h1)
  exact ⟨this.1, this.2.1, this.2.2⟩
theorem secOf_eq {l : List Int} (hv : Within 1 4096 l) {a : Int} (h0 : 0 ≤ a) {s : Nat} (h : IsSec l a s) : secOf l a = s := by
  have h1 : a < sumI l := by have := h.2.2; have := pre_le hv (s + 1); omega
  exact isSec_unique hv (secOf_is h0 h1) h
/-- there is such an address -/
def isAddr (l : List Int) (a : Int) : Bool := !outB a 0 (sumI l - 1)
/-- words with sector s erased -/
def eraseV (l : List Int) (ws : List Int) (s : Nat) : List Int := ws.mapIdx fun i x => if pre l s ≤ i ∧ (i : Int) < pre l (s + 1) then 65535 else x
theorem eraseV_len (l ws : List Int) (s : Nat) : (eraseV l ws s).length = ws.length := by simp [eraseV]
theorem eraseV_get (l ws : List Int) (s : Nat) {i : Nat} {x : Int} (h : ws[i]? = some x) : (eraseV l ws s)[i]? = some (if pre l s ≤ i ∧ (i : Int) < pre l (s + 1) then 65535 else x) := by
  simp [eraseV, List.getElem?_mapIdx, h]
theorem eraseV_within {l ws : List Int} {s : Nat} (h : Within 0 65535 ws) : Within 0 65535 (eraseV l ws s) := by
  intro x hx
  obtain ⟨i, hi, rfl⟩ := List.mem_mapIdx.1 hx
  have := h _ (List.getElem_mem hi)
  split <;> omega
/-- the bits that both have -/
def andI (a b : Int) : Int := ((a.toNat &&& b.toNat : Nat) : Int)
theorem andI_bd {a b : Int} (ha : 0 ≤ a ∧ a ≤ 65535) : 0 ≤ andI a b ∧ andI a b ≤ 65535 := by
  have := Nat.and_le_left (n := a.toNat) (m := b.toNat)
  unfold andI
  omega
def opV (l : List Int) (ws : List Int) (x : FOp) : List Int :=
  if x.k = 1 then eraseV l ws x.a.toNat else ws.set x.a.toNat (andI (ws.getD x.a.toNat 0) x.v)
def applyV (l : List Int) (ws : List Int) : List FOp → List Int
  | [] => ws
  | x :: r => applyV l (opV l ws x) r
theorem applyV_snoc (l ws : List Int) (r : List FOp) (x : FOp) : applyV l ws (r ++ [x]) = opV l (applyV l ws r) x := by
  induction r generalizing ws with
  | nil => rfl
  | cons y r ih => exact ih (opV l ws y)
theorem opV_len (l ws : List Int) (x : FOp) : (opV l ws x).length = ws.length := by unfold opV; split <;> simp [eraseV_len]
theorem applyV_len (l ws : List Int) (r : List FOp) : (applyV l ws r).length = ws.length := by
  induction r generalizing ws with
  | nil => rfl
  | cons y r ih => exact (ih (opV l ws y)).trans (opV_len l ws y)
theorem getD_within {ws : List Int} (h : Within 0 65535 ws) (i : Nat) : 0 ≤ ws.getD i 0 ∧ ws.getD i 0 ≤ 65535 := by
  rw [List.getD_eq_getElem?_getD]
  cases hg : ws[i]? with
  | none => simp
  | some y => exact h y (mem_of_get hg)
theorem opV_within {l ws : List Int} {x : FOp} (h : Within 0 65535 ws) : Within 0 65535 (opV l ws x) := by
  unfold opV
  split
  · exact eraseV_within h
  · intro y hy
    rcases List.mem_or_eq_of_mem_set hy with h1 | h1
    · exact h y h1
    · subst h1; exact andI_bd (getD_within h _)
theorem applyV_within {l ws : List Int} {r : List FOp} (h : Within 0 65535 ws) : Within 0 65535 (applyV l ws r) := by
  induction r generalizing ws with
  | nil => exact h
  | cons y r ih => exact ih (opV_within h)
theorem within_of_imageFault {l ws : List Int} (h : imageFault l ws = 0) : (ws.length : Int) = sumI l ∧ Within 0 65535 ws := by
  unfold imageFault at h
  split at h
  · contradiction
  · refine ⟨by omega, fun x hx => ?_⟩
    have := firstBad_all h x hx
    simp only [wordBad, outB, decide_eq_true_eq] at this
    split at this
    · contradiction
    · omega
/-- an operation that is right -/
structure OpOk (l : List Int) (x : FOp) : Prop where
  kind : x.k = 1 ∨ x.k = 2
  er : x.k = 1 → 0 ≤ x.a ∧ x.a < l.length
  pr : x.k = 2 → 0 ≤ x.a ∧ x.a < sumI l ∧ 0 ≤ x.v ∧ x.v ≤ 65535
theorem ok_of_opsFault {l : List Int} {xs : List FOp} (h : opsFault l xs = 0) : xs.length ≤ 50000 ∧ ∀ x ∈ xs, OpOk l x := by
  unfold opsFault at h
  split at h
  · contradiction
  · refine ⟨by omega, fun x hx => ?_⟩
    have := firstBad_all h x hx
    simp only [opFault, outB, decide_eq_true_eq] at this
    split at this
    · rename_i h1
      split at this
      · contradiction
      · exact ⟨.inl h1, fun _ => by omega, fun h2 => by omega⟩
    · split at this
      · rename_i h1 h2
        split at this
        · contradiction
        · split at this
          · contradiction
          · exact ⟨.inr h2, fun h3 => by omega, fun _ => by omega⟩
      · contradiction

/-- words with those from a on and before b erased -/
def eraseTo (ws : List Int) (a b : Int) : List Int := ws.mapIdx fun i x => if a ≤ i ∧ (i : Int) < b then 65535 else x
theorem eraseV_to (l ws : List Int) (s : Nat) : eraseV l ws s = eraseTo ws (pre l s) (pre l (s + 1)) := rfl
theorem eraseTo_len (ws : List Int) (a b : Int) : (eraseTo ws a b).length = ws.length := by simp [eraseTo]
theorem eraseTo_same (ws : List Int) (a : Int) : eraseTo ws a a = ws := by
  apply List.ext_getElem?
  intro i
  simp only [eraseTo, List.getElem?_mapIdx]
  cases ws[i]? with
  | none => rfl
  | some x => simp only [Option.map_some]; rw [if_neg (by omega)]
theorem eraseTo_step (ws : List Int) (a : Int) (j : Nat) (h : a ≤ j) : eraseTo ws a ((j : Int) + 1) = (eraseTo ws a j).set j 65535 := by
  apply List.ext_getElem?
  intro i
  simp only [eraseTo, List.getElem?_mapIdx, List.getElem?_set, List.length_mapIdx]
  by_cases hij : j = i
  · subst hij
    rw [if_pos rfl]
    cases hw : ws[j]? with
    | none =>
      rw [if_neg (by rw [List.getElem?_eq_none_iff] at hw; omega)]
      rfl
    | some x =>
      have := (List.getElem?_eq_some_iff.1 hw).1
      rw [if_pos this]
      simp only [Option.map_some]
      rw [if_pos (by omega)]
  · rw [if_neg hij]
    cases ws[i]? with
    | none => rfl
    | some x =>
      simp only [Option.map_some]
      by_cases hc : a ≤ i ∧ (i : Int) < j
      · rw [if_pos hc, if_pos (by omega)]
      · rw [if_neg hc, if_neg (by omega)]
/-- the erasing of the reference: word by word, by the sector of its address -/
def eraseBy (l ws : List Int) (s k : Nat) : List Int := ws.mapIdx fun i x => if secOf l i = s ∧ i < k then 65535 else x
theorem eraseBy_len (l ws : List Int) (s k : Nat) : (eraseBy l ws s k).length = ws.length := by simp [eraseBy]
theorem eraseBy_zero (l ws : List Int) (s : Nat) : eraseBy l ws s 0 = ws := by
  apply List.ext_getElem?
  intro i
  simp only [eraseBy, List.getElem?_mapIdx]
  cases ws[i]? with
  | none => rfl
  | some x => simp
theorem eraseBy_hit (l ws : List Int) (s k : Nat) (h : secOf l k = s) : eraseBy l ws s (k + 1) = (eraseBy l ws s k).set k 65535 := by
  apply List.ext_getElem?
  intro i
  simp only [eraseBy, List.getElem?_mapIdx, List.getElem?_set, List.length_mapIdx]
  by_cases hij : k = i
  · subst hij
    rw [if_pos rfl]
    cases hw : ws[k]? with
    | none =>
      rw [if_neg (by rw [List.getElem?_eq_none_iff] at hw; omega)]
      rfl
    | some x =>
      have := (List.getElem?_eq_some_iff.1 hw).1
      rw [if_pos this]
      simp only [Option.map_some]
      rw [if_pos ⟨h, by omega⟩]
  · rw [if_neg hij]
    cases ws[i]? with
    | none => rfl
    | some x =>
      simp only [Option.map_some]
      by_cases hc : secOf l i = s ∧ i < k
      · rw [if_pos hc, if_pos ⟨hc.1, by omega⟩]
      · rw [if_neg hc, if_neg (fun h2 => hc ⟨h2.1, by omega⟩)]
theorem eraseBy_miss (l ws : List Int) (s k : Nat) (h : secOf l k ≠ s) : eraseBy l ws s (k + 1) = eraseBy l ws s k := by
  apply List.ext_getElem?
  intro i
  simp only [eraseBy, List.getElem?_mapIdx]
  cases ws[i]? with
  | none => rfl
  | some x =>
    simp only [Option.map_some]
    by_cases hc : secOf l i = s ∧ i < k
    · rw [if_pos hc, if_pos ⟨hc.1, by omega⟩]
    · rw [if_neg hc, if_neg (fun h2 => hc ⟨h2.1, by
        rcases Nat.lt_or_ge i k with h3 | h3
        · exact h3
        · obtain rfl : i = k := by omega
          exact absurd h2.1 h⟩)]
theorem eraseBy_all {l ws : List Int} (hv : Within 1 4096 l) (hw : (ws.length : Int) = sumI l) {s : Nat} (hs : s < l.length) : eraseBy l ws s ws.length = eraseV l ws s := by
  apply List.ext_getElem?
  intro i
  simp only [eraseBy, eraseV, List.getElem?_mapIdx]
  cases hx : ws[i]? with
  | none => rfl
  | some x =>
    have hi := (List.getElem?_eq_some_iff.1 hx).1
    simp only [Option.map_some]
    by_cases hc : pre l s ≤ i ∧ (i : Int) < pre l (s + 1)
    · rw [if_pos hc, if_pos ⟨secOf_eq hv (by omega) ⟨hs, hc.1, hc.2⟩, hi⟩]
    · rw [if_neg hc, if_neg (fun h2 => hc ?_)]
      have := secOf_is (l := l) (a := (i : Int)) (by omega) (by omega)
      rw [h2.1] at this
      exact this.2

/-- what is wrong with a memory, words and operations -/
def applyFault (l ws : List Int) (xs : List FOp) : Int := firstBad (fun x => x) [checkImage l ws, checkOps l xs]
def applyR (l ws : List Int) (xs : List FOp) : List Int := if applyFault l ws xs = 0 then applyV l ws xs else []
theorem applyFault_ok {l ws : List Int} {xs : List FOp} (h : applyFault l ws xs = 0) : FlashOk l ∧ (ws.length : Int) = sumI l ∧ Within 0 65535 ws ∧ xs.length ≤ 50000 ∧ ∀ x ∈ xs, OpOk l x := by
  have h1 := firstBad_all h (checkImage l ws) (by simp)
  have h2 := firstBad_all h (checkOps l xs) (by simp)
  unfold checkImage at h1
  unfold checkOps at h2
  split at h1
  · rename_i h0
    rw [if_pos h0] at h2
    have h3 := within_of_imageFault h1
    have h4 := ok_of_opsFault h2
    exact ⟨flashFault_ok h0, h3.1, h3.2, h4.1, h4.2⟩
  · contradiction
end Go.Proofs.Ytmnhlfkphibhfaa
/-
  Write cycles of a flash memory as plain functions: those of operations, those that a stream makes, and what a memory does at them. No program stands in this text.
-/
namespace Go.Proofs.Ytmnhlfkphibhfaa

abbrev Cyc := Int × Int
def c0 : Cyc := (0, 0)
def key : List Cyc := [(1365, 170), (682, 85)]
def seqV (l : List Int) (x : FOp) : List Cyc := if x.k = 2 then key ++ [(1365, 160), (x.a, x.v)] else key ++ [(1365, 128)] ++ key ++ [(pre l x.a.toNat, 48)]
def seqsV (l : List Int) (os : List FOp) : List Cyc := os.flatMap (seqV l)
theorem seqsV_snoc (l : List Int) (os : List FOp) (x : FOp) : seqsV l (os ++ [x]) = seqsV l os ++ seqV l x := by simp [seqsV]
def cycN : List FOp → Int
  | [] => 0
  | x :: r => (if x.k = 1 then 6 else 4) + cycN r
theorem cycN_snoc (os : List FOp) (x : FOp) : cycN (os ++ [x]) = cycN os + (if x.k = 1 then 6 else 4) := by
  induction os with
  | nil => simp [cycN]
  | cons y os ih => simp only [List.cons_append, cycN, ih]; omega
theorem cycN_bd (os : List FOp) : 0 ≤ cycN os ∧ cycN os ≤ 6 * os.length := by
  induction os with
  | nil => simp [cycN]
  | cons y os ih => simp only [cycN, List.length_cons]; split <;> omega
theorem cycN_len {l : List Int} {os : List FOp} (h : ∀ x ∈ os, OpOk l x) : ((seqsV l os).length : Int) = cycN os := by
  induction os with
  | nil => rfl
  | cons y os ih =>
    have h1 := ih (fun x hx => h x (by simp [hx]))
    have h2 := (h y (by simp)).kind
    simp only [seqsV, List.flatMap_cons, List.length_append, cycN] at h1 ⊢
    rcases h2 with h2 | h2
    · have e : (seqV l y).length = 6 := by unfold seqV; rw [if_neg (by omega)]; rfl
      rw [if_pos h2, e]; omega
    · have e : (seqV l y).length = 4 := by unfold seqV; rw [if_pos h2]; rfl
      rw [if_neg (by omega), e]; omega
theorem seqsV_len (l : List Int) (os : List FOp) : (seqsV l os).length ≤ 6 * os.length := by
  induction os with
  | nil => simp [seqsV]
  | cons y os ih =>
    have h1 : (seqV l y).length ≤ 6 := by unfold seqV; split <;> simp [key]
    simp only [seqsV, List.flatMap_cons, List.length_append, List.length_cons] at ih ⊢
    omega
def cyclesFault (l : List Int) (os : List FOp) : Int := if checkOps l os ≠ 0 then checkOps l os else if 50000 < cycN os then 12 else 0
def cyclesR (l : List Int) (os : List FOp) : List Cyc := if cyclesFault l os = 0 then seqsV l os else []
def shiftsFault (l : List Int) (os : List FOp) (long : Int) : Int := if checkOps l os ≠ 0 then checkOps l os else if outB long 1 100000 = true then 1 else if 50000 < cycN os then 12 else 0
def shiftsR (l : List Int) (os : List FOp) (long : Int) : Int := if shiftsFault l os long = 0 then cycN os * (3 * long + 5) else 0

/-- whether a cycle is the one that the place in a sequence asks for -/
def fitsV (n pl : Nat) (c : Cyc) : Bool :=
  if pl = 0 ∨ pl = 3 then c == (1365, 170) else if pl = 1 ∨ pl = 4 then c == (682, 85) else if pl = 2 then c == (1365, 160) || c == (1365, 128)
  else if pl = 5 then c.2 == 48 && decide (c.1 < n) else decide (c.1 < n)
def takeV (l : List Int) (s : Nat × List Int) (c : Cyc) : Bool × Nat × List Int :=
  if c.2 = 240 ∧ s.1 ≠ 9 then (true, 0, s.2) else if fitsV s.2.length s.1 c = false then (false, 0, s.2)
  else if s.1 = 9 then (true, 0, s.2.set c.1.toNat (andI (s.2.getD c.1.toNat 0) c.2)) else if s.1 = 5 then (true, 0, eraseV l s.2 (secOf l c.1))
  else if s.1 = 2 ∧ c.2 = 160 then (true, 9, s.2) else (true, s.1 + 1, s.2)
def driveTo (l ws : List Int) (cs : List Cyc) : Nat → (Nat × List Int) × List Int
  | 0 => ((0, ws), [])
  | k + 1 => ((takeV l (driveTo l ws cs k).1 (cs.getD k c0)).2, (driveTo l ws cs k).2 ++ if (takeV l (driveTo l ws cs k).1 (cs.getD k c0)).1 = true then [] else [(k : Int)])
def Place (pl : Nat) : Prop := pl ≤ 5 ∨ pl = 9
theorem takeV_place {l : List Int} {s : Nat × List Int} {c : Cyc} (h : Place s.1) : Place (takeV l s c).2.1 := by
  unfold Place at h ⊢
  unfold takeV
  split
  · simp
  split
  · simp
  split
  · simp
  split
  · simp
  split
  · simp
  · simp only; omega
theorem takeV_len (l : List Int) (s : Nat × List Int) (c : Cyc) : (takeV l s c).2.2.length = s.2.length := by
  unfold takeV
  split
  · rfl
  split
  · rfl
  split
  · simp
  split
  · simp [eraseV_len]
  split <;> rfl
theorem takeV_within {l : List Int} {s : Nat × List Int} {c : Cyc} (h : Within 0 65535 s.2) : Within 0 65535 (takeV l s c).2.2 := by
  unfold takeV
  split
  · exact h
  split
  · exact h
  split
  · intro y hy
    rcases List.mem_or_eq_of_mem_set hy with h1 | h1
    · exact h y h1
    · subst h1; exact andI_bd (getD_within h _)
  split
  · exact eraseV_within h
  split <;> exact h
theorem driveTo_ok {l ws : List Int} (cs : List Cyc) (h : Within 0 65535 ws) (k : Nat) : Place (driveTo l ws cs k).1.1 ∧ (driveTo l ws cs k).1.2.length = ws.length ∧ Within 0 65535 (driveTo l ws cs k).1.2 ∧ (driveTo l ws cs k).2.length ≤ k := by
  induction k with
  | zero => exact ⟨.inl (by simp [driveTo]), rfl, h, by simp [driveTo]⟩
  | succ k ih =>
    obtain ⟨h1, h2, h3, h4⟩ := ih
    refine ⟨takeV_place h1, (takeV_len _ _ _).trans h2, takeV_within h3, ?_⟩
    simp only [driveTo, List.length_append]
    split <;> simp <;> omega
def cycBad (c : Cyc) : Int := if outB c.1 0 65535 = true then 1 else if outB c.2 0 65535 = true then 1 else 0
def cyclesBad (cs : List Cyc) : Int := if 50000 < cs.length then 2 else firstBad cycBad cs
def driveFault (l ws : List Int) (cs : List Cyc) : Int := if checkImage l ws ≠ 0 then checkImage l ws else cyclesBad cs
def driveR (l ws : List Int) (cs : List Cyc) : List Int × List Int := if driveFault l ws cs = 0 then ((driveTo l ws cs cs.length).1.2, (driveTo l ws cs cs.length).2) else ([], [])
theorem cyclesBad_ok {cs : List Cyc} (h : cyclesBad cs = 0) : cs.length ≤ 50000 ∧ ∀ k, k < cs.length → (0 ≤ (cs.getD k c0).1 ∧ (cs.getD k c0).1 ≤ 65535) ∧ 0 ≤ (cs.getD k c0).2 ∧ (cs.getD k c0).2 ≤ 65535 := by
  unfold cyclesBad at h
  split at h
  · contradiction
  refine ⟨by omega, fun k hk => ?_⟩
  have := firstBad_all h (cs.getD k c0) (by rw [List.getD_eq_getElem?_getD, List.getElem?_eq_getElem hk]; exact List.getElem_mem hk)
  simp only [cycBad, outB, decide_eq_true_eq] at this
  split at this
  · contradiction
  split at this
  · contradiction
  · omega

/-- the cycles so far of a sequence that has begun -/
def progRow : List Cyc := [(1365, 170), (682, 85), (1365, 160)]
def eraRow : List Cyc := [(1365, 170), (682, 85), (1365, 128), (1365, 170), (682, 85)]
def rowOf (pl : Nat) : List Cyc := if pl = 9 then progRow else eraRow.take pl
theorem rowOf_prog {pl : Nat} (h : Place pl) : (rowOf pl == progRow) = (pl == 9) := by
  rcases h with h | rfl
  · have : pl = 0 ∨ pl = 1 ∨ pl = 2 ∨ pl = 3 ∨ pl = 4 ∨ pl = 5 := by omega
    rcases this with rfl | rfl | rfl | rfl | rfl | rfl <;> decide
  · decide
theorem rowOf_era {pl : Nat} (h : Place pl) : (rowOf pl == eraRow) = (pl == 5) := by
  rcases h with h | rfl
  · have : pl = 0 ∨ pl = 1 ∨ pl = 2 ∨ pl = 3 ∨ pl = 4 ∨ pl = 5 := by omega
    rcases this with rfl | rfl | rfl | rfl | rfl | rfl <;> decide
  · decide
theorem rowOf_len {pl : Nat} (h : pl ≤ 5) : (rowOf pl).length = pl := by
  have : pl = 0 ∨ pl = 1 ∨ pl = 2 ∨ pl = 3 ∨ pl = 4 ∨ pl = 5 := by omega
  rcases this with rfl | rfl | rfl | rfl | rfl | rfl <;> decide
/-- what the document asks: the cycles with one more begin a sequence -/
def goesOn (pl : Nat) (c : Cyc) : Bool := (decide (pl + 1 ≤ 3) && (rowOf pl ++ [c] == progRow.take (pl + 1))) || (decide (pl + 1 ≤ 5) && (rowOf pl ++ [c] == eraRow.take (pl + 1)))
theorem takeV_prog {l ws : List Int} {c : Cyc} (hw : (ws.length : Int) = sumI l) (hc : 0 ≤ c.1) : takeV l (9, ws) c = if isAddr l c.1 = true then (true, 0, ws.set c.1.toNat (andI (ws.getD c.1.toNat 0) c.2)) else (false, 0, ws) := by
  have e : fitsV ws.length 9 c = isAddr l c.1 := by
    unfold fitsV isAddr outB
    simp
    by_cases h : c.1 < (ws.length : Int)
    · simp [h]; omega
    · simp [h]; omega
  unfold takeV
  simp only [e]
  rw [if_neg (by simp)]
  cases isAddr l c.1 <;> simp
theorem takeV_reset {l ws : List Int} {pl : Nat} {c : Cyc} (h : pl ≠ 9) (hc : c.2 = 240) : takeV l (pl, ws) c = (true, 0, ws) := by
  unfold takeV
  rw [if_pos ⟨hc, h⟩]
theorem takeV_era {l ws : List Int} {c : Cyc} (hw : (ws.length : Int) = sumI l) (hc : 0 ≤ c.1) (h : c.2 ≠ 240) : takeV l (5, ws) c = if c.2 = 48 ∧ isAddr l c.1 = true then (true, 0, eraseV l ws (secOf l c.1)) else (false, 0, ws) := by
  have e : fitsV ws.length 5 c = (c.2 == 48 && isAddr l c.1) := by
    unfold fitsV isAddr outB
    simp
    by_cases h : c.1 < (ws.length : Int)
    · simp [h]; intro _; omega
    · simp [h]; intro _; omega
  unfold takeV
  simp only [e]
  rw [if_neg (by simp [h])]
  by_cases h48 : c.2 = 48
  · cases isAddr l c.1 <;> simp [h48]
  · simp [h48]
theorem takeV_else {l ws : List Int} {pl : Nat} {c : Cyc} (hp : pl ≤ 4) (h : c.2 ≠ 240) : (goesOn pl c = false → takeV l (pl, ws) c = (false, 0, ws)) ∧ (goesOn pl c = true → (takeV l (pl, ws) c).1 = true ∧ (takeV l (pl, ws) c).2.2 = ws ∧ rowOf (takeV l (pl, ws) c).2.1 = rowOf pl ++ [c]) := by
  obtain ⟨a, d⟩ := c
  have : pl = 0 ∨ pl = 1 ∨ pl = 2 ∨ pl = 3 ∨ pl = 4 := by omega
  rcases this with rfl | rfl | rfl | rfl | rfl
  · by_cases e : (a, d) = ((1365, 170) : Cyc)
    · cases e; exact ⟨fun hg => absurd hg (by decide), fun _ => ⟨rfl, rfl, rfl⟩⟩
    · refine ⟨fun _ => ?_, fun hg => ?_⟩
      · simp at e; simp at h
        simp [takeV, fitsV, h]
        intro h1 h2; exact absurd h2 (e h1)
      · simp [goesOn, rowOf, progRow, eraRow] at hg; simp at e; exact absurd hg.2 (e hg.1)
  · by_cases e : (a, d) = ((682, 85) : Cyc)
    · cases e; exact ⟨fun hg => absurd hg (by decide), fun _ => ⟨rfl, rfl, rfl⟩⟩
    · refine ⟨fun _ => ?_, fun hg => ?_⟩
      · simp at e; simp at h
        simp [takeV, fitsV, h]
        intro h1 h2; exact absurd h2 (e h1)
      · simp [goesOn, rowOf, progRow, eraRow] at hg; simp at e; exact absurd hg.2 (e hg.1)
  · by_cases e : (a, d) = ((1365, 160) : Cyc)
    · cases e; exact ⟨fun hg => absurd hg (by decide), fun _ => ⟨rfl, rfl, rfl⟩⟩
    · by_cases e2 : (a, d) = ((1365, 128) : Cyc)
      · cases e2; exact ⟨fun hg => absurd hg (by decide), fun _ => ⟨rfl, rfl, rfl⟩⟩
      · refine ⟨fun _ => ?_, fun hg => ?_⟩
        · simp at e e2; simp at h
          simp [takeV, fitsV, h]
          refine fun h1 => ?_
          have h2 := h1 e
          exact absurd h2.2 (e2 h2.1)
        · simp [goesOn, rowOf, progRow, eraRow] at hg; simp at e e2
          rcases hg with hg | hg
          · exact absurd hg.2 (e hg.1)
          · exact absurd hg.2 (e2 hg.1)
  · by_cases e : (a, d) = ((1365, 170) : Cyc)
    · cases e; exact ⟨fun hg => absurd hg (by decide), fun _ => ⟨rfl, rfl, rfl⟩⟩
    · refine ⟨fun _ => ?_, fun hg => ?_⟩
      · simp at e; simp at h
        simp [takeV, fitsV, h]
        intro h1 h2; exact absurd h2 (e h1)
      · simp [goesOn, rowOf, progRow, eraRow] at hg; simp at e; exact absurd hg.2 (e hg.1)
  · by_cases e : (a, d) = ((682, 85) : Cyc)
    · cases e; exact ⟨fun hg => absurd hg (by decide), fun _ => ⟨rfl, rfl, rfl⟩⟩
    · refine ⟨fun _ => ?_, fun hg => ?_⟩
      · simp at e; simp at h
        simp [takeV, fitsV, h]
        intro h1 h2; exact absurd h2 (e h1)
      · simp [goesOn, rowOf, progRow, eraRow] at hg; simp at e; exact absurd hg.2 (e hg.1)

/-- the cycles that a stream makes -/
def cycAt (L : List Int) (q : Nat) : List Cyc × Nat :=
  if nextV L (q + 2) 3 = 0 then (key ++ [(1365, 160), (pickV L q [0, 1, 2, 3, 99], pickV L (q + 1) [0, 1, 65535, 240, 48])], q + 3)
  else if nextV L (q + 2) 3 = 1 then (key ++ [(1365, 128)] ++ key ++ [(pickV L q [0, 1, 2, 3, 99], pickV L (q + 3) [48, 48, 48, 49, 240])], q + 4)
  else ([(pickV L q [0, 1, 2, 3, 99], pickV L (q + 1) [0, 1, 65535, 240, 48]), (pickV L (q + 3) [1365, 682], pickV L (q + 4) [170, 85, 240])], q + 5)
def cycTo (L : List Int) (p : Nat) : Nat → List Cyc × Nat
  | 0 => ([], p)
  | k + 1 => ((cycTo L p k).1 ++ (cycAt L (cycTo L p k).2).1, (cycAt L (cycTo L p k).2).2)
theorem cycAt_bd (L : List Int) (q : Nat) : (cycAt L q).1.length ≤ 6 ∧ (cycAt L q).2 ≤ q + 5 := by
  unfold cycAt
  split
  · simp [key]
  split
  · simp [key]
  · simp
theorem cycTo_bd (L : List Int) (p k : Nat) : (cycTo L p k).1.length ≤ 6 * k ∧ (cycTo L p k).2 ≤ p + 5 * k := by
  induction k with
  | zero => simp [cycTo]
  | succ k ih =>
    have := cycAt_bd L (cycTo L p k).2
    simp only [cycTo, List.length_append]
    omega
def cutTo (L : List Int) (l : List Cyc) (p : Nat) : Nat → List Cyc × Nat
  | 0 => (l, p)
  | k + 1 => if (cutTo L l p k).1.length = 0 then cutTo L l p k else ((cutTo L l p k).1.eraseIdx (pickI L (cutTo L l p k).2 (cutTo L l p k).1.length), (cutTo L l p k).2 + 1)
theorem cutTo_bd (L : List Int) (l : List Cyc) (p k : Nat) : (cutTo L l p k).1.length ≤ l.length ∧ (cutTo L l p k).2 ≤ p + k := by
  induction k with
  | zero => simp [cutTo]
  | succ k ih =>
    simp only [cutTo]
    split
    · omega
    · simp only [List.length_eraseIdx]
      split <;> omega
def spoilCyc (L : List Int) (l : List Cyc) (p : Nat) : List Cyc × Nat :=
  if l.length = 0 then (l, p) else if flipV L p 15 then
    (l.set (pickI L (p + 1) l.length) (pickV L (p + 2) [(l.getD (pickI L (p + 1) l.length) c0).1, -1, 65536], pickV L (p + 3) [(l.getD (pickI L (p + 1) l.length) c0).2, -1, 65536]), p + 4)
  else (l, p + 1)
theorem spoilCyc_bd (L : List Int) (l : List Cyc) (p : Nat) : (spoilCyc L l p).1.length = l.length ∧ (spoilCyc L l p).2 ≤ p + 4 := by
  unfold spoilCyc
  split
  · simp
  split
  · simp
  · simp
def cycMany (L : List Int) (p : Nat) : Nat := (rangeV L p 0 5).toNat
def cutMany (L : List Int) (p : Nat) : Nat := (pickV L p [0, 0, 1, 2]).toNat
def cycA (L : List Int) (p : Nat) : List Cyc × Nat := cycTo L (p + 1) (cycMany L p)
def cycB (L : List Int) (p : Nat) : List Cyc × Nat := cutTo L (cycA L p).1 ((cycA L p).2 + 1) (cutMany L (cycA L p).2)
def cycListV (L : List Int) (p : Nat) : List Cyc × Nat := spoilCyc L (cycB L p).1 (cycB L p).2
theorem cycMany_le (L : List Int) (p : Nat) : cycMany L p ≤ 5 := by
  have := rangeV_bd L p (lo := 0) (hi := 5) (by decide)
  unfold cycMany; omega
theorem cutMany_le (L : List Int) (p : Nat) : cutMany L p ≤ 2 := by
  have := pickV_bd L p (l := [0, 0, 1, 2]) (lo := 0) (hi := 2) (by simp) (by decide)
  unfold cutMany; omega
theorem cycListV_bd (L : List Int) (p : Nat) : (cycListV L p).1.length ≤ 30 ∧ (cycListV L p).2 ≤ p + 40 := by
  have h1 := cycTo_bd L (p + 1) (cycMany L p)
  have h2 := cutTo_bd L (cycA L p).1 ((cycA L p).2 + 1) (cutMany L (cycA L p).2)
  have h3 := spoilCyc_bd L (cycB L p).1 (cycB L p).2
  have h4 := cycMany_le L p
  have h5 := cutMany_le L (cycA L p).2
  unfold cycListV
  unfold cycB at h3 ⊢
  unfold cycA at h2 h3 h5 ⊢
  omega
end Go.Proofs.Ytmnhlfkphibhfaa
/-
  Plans as a plain function. No program stands in this text.
-/
namespace Go.Proofs.Ytmnhlfkphibhfaa

/-- a word that lacks a bit -/
def lackI (n w : Int) : Bool := !(andI n w == w)
def lackTo (now want : List Int) (a m : Nat) : Bool := (List.range m).any fun j => lackI (now.getD (a + j) 0) (want.getD (a + j) 0)
theorem lackTo_zero (now want : List Int) (a : Nat) : lackTo now want a 0 = false := rfl
theorem lackTo_succ (now want : List Int) (a m : Nat) : lackTo now want a (m + 1) = (lackTo now want a m || lackI (now.getD (a + m) 0) (want.getD (a + m) 0)) := by
  simp [lackTo, List.range_succ]
theorem lackTo_hit {now want : List Int} {a m n : Nat} (h : m < n) (hl : lackI (now.getD (a + m) 0) (want.getD (a + m) 0) = true) : lackTo now want a n = true := by
  simp only [lackTo, List.any_eq_true, List.mem_range]
  exact ⟨m, h, hl⟩
def progTo (now want : List Int) (a : Nat) : Nat → List FOp
  | 0 => []
  | m + 1 => progTo now want a m ++ (if now.getD (a + m) 0 = want.getD (a + m) 0 then [] else [⟨2, ((a + m : Nat) : Int), want.getD (a + m) 0⟩])
theorem progTo_same {now want : List Int} {a m : Nat} (h : now.getD (a + m) 0 = want.getD (a + m) 0) : progTo now want a (m + 1) = progTo now want a m := by
  simp only [progTo]; rw [if_pos h, List.append_nil]
theorem progTo_diff {now want : List Int} {a m : Nat} (h : now.getD (a + m) 0 ≠ want.getD (a + m) 0) : progTo now want a (m + 1) = progTo now want a m ++ [⟨2, ((a + m : Nat) : Int), want.getD (a + m) 0⟩] := by
  simp only [progTo]; rw [if_neg h]
theorem progTo_len (now want : List Int) (a m : Nat) : (progTo now want a m).length ≤ m := by
  induction m with
  | zero => simp [progTo]
  | succ m ih => simp only [progTo, List.length_append]; split <;> simp <;> omega
/-- what is done to sector s: the words then, and the operations -/
def planNow (l now want : List Int) (s : Nat) : List Int := if lackTo now want (pre l s).toNat ((pre l (s + 1)).toNat - (pre l s).toNat) = true then eraseV l now s else now
def planOps (l now want : List Int) (s : Nat) : List FOp :=
  (if lackTo now want (pre l s).toNat ((pre l (s + 1)).toNat - (pre l s).toNat) = true then [⟨1, (s : Int), 0⟩] else []) ++ progTo (planNow l now want s) want (pre l s).toNat ((pre l (s + 1)).toNat - (pre l s).toNat)
def planTo (l now want : List Int) : Nat → List FOp × List Int
  | 0 => ([], now)
  | s + 1 => ((planTo l now want s).1 ++ planOps l (planTo l now want s).2 want s, planNow l (planTo l now want s).2 want s)
theorem planNow_len (l now want : List Int) (s : Nat) : (planNow l now want s).length = now.length := by unfold planNow; split <;> simp [eraseV_len]
theorem planTo_len (l now want : List Int) (s : Nat) : (planTo l now want s).2.length = now.length := by
  induction s with
  | zero => rfl
  | succ s ih => simp only [planTo]; rw [planNow_len, ih]
theorem planNow_within {l now want : List Int} (h : Within 0 65535 now) (s : Nat) : Within 0 65535 (planNow l now want s) := by
  unfold planNow; split
  · exact eraseV_within h
  · exact h
theorem planTo_within {l now want : List Int} (h : Within 0 65535 now) (s : Nat) : Within 0 65535 (planTo l now want s).2 := by
  induction s with
  | zero => exact h
  | succ s ih => exact planNow_within ih s
theorem planOps_len {l : List Int} (hv : Within 1 4096 l) (now want : List Int) (s : Nat) : ((planOps l now want s).length : Int) ≤ 1 + (pre l (s + 1) - pre l s) := by
  have h1 := progTo_len (planNow l now want s) want (pre l s).toNat ((pre l (s + 1)).toNat - (pre l s).toNat)
  have h2 := pre_mono hv (show s ≤ s + 1 by omega)
  have h3 := pre_mono hv (show 0 ≤ s by omega)
  rw [pre_zero] at h3
  unfold planOps
  rw [List.length_append]
  split <;> simp only [List.length_singleton, List.length_nil] <;> omega
theorem planTo_ops_len {l : List Int} (hv : Within 1 4096 l) (now want : List Int) (s : Nat) : ((planTo l now want s).1.length : Int) ≤ s + pre l s := by
  induction s with
  | zero => simp [planTo, pre_zero]
  | succ s ih =>
    have := planOps_len hv (planTo l now want s).2 want s
    simp only [planTo, List.length_append]
    omega
def planFault (l now want : List Int) : Int := firstBad (fun x => x) [checkImage l now, checkImage l want]
def planR (l now want : List Int) : List FOp := if planFault l now want = 0 then (planTo l now want l.length).1 else []
theorem planFault_ok {l now want : List Int} (h : planFault l now want = 0) : FlashOk l ∧ ((now.length : Int) = sumI l ∧ Within 0 65535 now) ∧ (want.length : Int) = sumI l ∧ Within 0 65535 want := by
  have h1 := firstBad_all h (checkImage l now) (by simp)
  have h2 := firstBad_all h (checkImage l want) (by simp)
  unfold checkImage at h1 h2
  split at h1
  · rename_i h0
    rw [if_pos h0] at h2
    exact ⟨flashFault_ok h0, within_of_imageFault h1, within_of_imageFault h2⟩
  · contradiction
end Go.Proofs.Ytmnhlfkphibhfaa
/-
  Bits of ints that are not negative: 'and not' against the words of a plan.
-/
namespace Go.Proofs.Ytmnhlfkphibhfaa
theorem bv_andNot (A B : BitVec 64) : A &&& ~~~B = 0#64 ↔ B &&& A = A := by
  constructor
  · intro h
    ext i hi
    have := congrArg (fun x => x.getLsbD i) h
    simp [hi] at this ⊢
    intro ha
    cases hb : B[i] <;> simp_all
  · intro h
    ext i hi
    have := congrArg (fun x => x.getLsbD i) h
    simp [hi] at this ⊢
    intro ha
    exact this ha
theorem ofInt_nat64' (a : Nat) (ha : a < 9223372036854775808) : (BitVec.ofInt 64 (a : Int)).toNat = a := by
  rw [BitVec.ofInt_natCast, BitVec.toNat_ofNat]; exact Nat.mod_eq_of_lt (by omega)
theorem andNot_lack {n w : Int} (hn0 : 0 ≤ n) (hn : n ≤ 65535) (hw0 : 0 ≤ w) (hw : w ≤ 65535) : (bits .andNot .i64 w n != 0) = lackI n w := by
  obtain ⟨N, rfl⟩ := Int.eq_ofNat_of_zero_le hn0
  obtain ⟨W, rfl⟩ := Int.eq_ofNat_of_zero_le hw0
  have e : bits .andNot .i64 (W : Int) (N : Int) = IntKind.i64.wrap ((BitVec.ofInt 64 (W : Int) &&& ~~~BitVec.ofInt 64 (N : Int)).toNat : Int) := rfl
  have hb := bv_andNot (BitVec.ofInt 64 (W : Int)) (BitVec.ofInt 64 (N : Int))
  have hle : (BitVec.ofInt 64 (W : Int) &&& ~~~BitVec.ofInt 64 (N : Int)).toNat ≤ W := by
    rw [BitVec.toNat_and, ofInt_nat64' W (by omega)]; exact Nat.and_le_left
  rw [e, IntKind.wrap_i64]
  have h2 : (BitVec.ofInt 64 (N : Int) &&& BitVec.ofInt 64 (W : Int) = BitVec.ofInt 64 (W : Int)) ↔ N &&& W = W := by
    rw [← BitVec.toNat_inj, BitVec.toNat_and, ofInt_nat64' W (by omega), ofInt_nat64' N (by omega)]
  rw [h2] at hb
  have h3 : (BitVec.ofInt 64 (W : Int) &&& ~~~BitVec.ofInt 64 (N : Int) = 0#64) ↔ (BitVec.ofInt 64 (W : Int) &&& ~~~BitVec.ofInt 64 (N : Int)).toNat = 0 := by
    rw [← BitVec.toNat_inj]; simp
  rw [h3] at hb
  generalize (BitVec.ofInt 64 (W : Int) &&& ~~~BitVec.ofInt 64 (N : Int)).toNat = r at *
  unfold lackI andI
  simp only [Int.toNat_natCast]
  rw [Bool.eq_iff_iff]
  simp only [bne_iff_ne, ne_eq, Bool.not_eq_true', beq_eq_false_iff_ne]
  constructor
  · intro h h4
    have h5 : N &&& W = W := by exact_mod_cast h4
    have := hb.2 h5
    omega
  · intro h h4
    apply h
    have h5 : r = 0 := by omega
    rw [hb.1 h5]
end Go.Proofs.Ytmnhlfkphibhfaa
