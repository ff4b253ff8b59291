/- A run of the evaluator is a contract. -/
import Derived.Test.YthcfhmdoelpbdaaGreatDoorEvZk
namespace Go.Ev
set_option linter.unusedVariables false
set_option linter.unusedSimpArgs false
open Go Go.RowKit

/-- A package-level variable as it is given: its number, its block's type, its cells. -/
abbrev Gv := Nat × TypeId × List Value

def heapOf (NG : Nat) : List Gv → Heap
  | [] => { next := NG, wmin := NG, tab := .nil, grp := .nil, hide := [] }
  | (g, t, cs) :: r => { heapOf NG r with tab := (heapOf NG r).tab.set g (.cells cs t true 1 g false), grp := (heapOf NG r).grp.set g [g] }

def rhoOf (w : World) (NG : Nat) : Rho where
  dom b := b < NG
  blk b := b
  off _ := 0
  tot b := match w.heap[b]? with
    | some (.cells cs _ _) => cs.size
    | _ => 0
  esz _ := 1
  rig _ := true

def GvOk (w : World) (x : Gv) : Prop := ∃ fr, w.heap[x.1]? = some (.cells x.2.2.toArray x.2.1 fr)

def Kof (l : List Gv) (X : Nat → World → Prop) (base : Nat) (w : World) : Prop := (∀ x ∈ l, x.1 < base ∧ GvOk w x) ∧ X base w

theorem Kof.keep {l : List Gv} {X : Nat → World → Prop} {base : Nat} (hX : ∀ base w w', X base w → Below base w w' → X base w') (w w' : World) (h : Kof l X base w) (hb : Below base w w') : Kof l X base w' := by
  refine ⟨fun x hx => ?_, hX base w w' h.2 hb⟩
  obtain ⟨h1, fr, h2⟩ := h.1 x hx
  exact ⟨h1, fr, by rw [hb.block x.1 h1]; exact h2⟩

theorem heapOf_plain (NG : Nat) : ∀ l : List Gv, (heapOf NG l).next = NG ∧ (heapOf NG l).wmin = NG ∧ (heapOf NG l).hide = []
  | [] => ⟨rfl, rfl, rfl⟩
  | (_, _, _) :: r => heapOf_plain NG r

theorem heapOf_look (NG : Nat) : ∀ {l : List Gv} {b : Nat} {o : AObj}, (heapOf NG l).tab.get b = some o → ∃ t cs, (b, t, cs) ∈ l ∧ o = .cells cs t true 1 b false := by
  intro l
  induction l with
  | nil => intro b o h; cases b <;> cases h
  | cons x r ih =>
    obtain ⟨g, t, cs⟩ := x
    intro b o h
    have h' : ((heapOf NG r).tab.set g (.cells cs t true 1 g false)).get b = some o := h
    rw [HT.get_set] at h'
    by_cases hb : b = g
    · subst hb
      rw [if_pos rfl] at h'
      cases h'
      exact ⟨t, cs, List.mem_cons_self, rfl⟩
    · rw [if_neg hb] at h'
      obtain ⟨t', cs', h1, h2⟩ := ih h'
      exact ⟨t', cs', List.mem_cons_of_mem _ h1, h2⟩

theorem rel_start {NG base : Nat} {l : List Gv} {w : World} (hl : ∀ x ∈ l, x.1 < NG ∧ x.2.2.all (flat 40) = true) (hw : ∀ x ∈ l, GvOk w x) (hb : base ≤ w.heap.size) : Rel NG base (rhoOf w NG) (heapOf NG l) w := by
  obtain ⟨hn, hm, hh⟩ := heapOf_plain NG l
  have key : ∀ b o, look (heapOf NG l) b = some o → ∃ t cs, (b, t, cs) ∈ l ∧ o = .cells cs t true 1 b false := fun b o h => heapOf_look NG (look_some h).2.1
  refine ⟨⟨fun _ h => h, fun _ _ => rfl, fun _ _ => rfl⟩, by rw [hh]; simp, ?_, ?_, ?_, ?_, ?_, hb⟩
  · intro b o h
    obtain ⟨t, cs, h1, _⟩ := key b o h
    rw [hn]; exact (hl _ h1).1
  · intro b o h
    obtain ⟨t, cs, h1, _⟩ := key b o h
    exact (hl _ h1).1
  · intro b o h
    obtain ⟨t, cs, h1, rfl⟩ := key b o h
    obtain ⟨fr, h2⟩ := hw _ h1
    simp only at h2
    refine ⟨cs.toArray, fr, h2, ?_, rfl, rfl, by simp [rhoOf], fun _ => ⟨rfl, by simp⟩, fun i v hi => ⟨v, by simpa [rhoOf] using hi, ?_⟩, fun h => by cases h⟩
    · simp only [rhoOf, h2]
    · exact flat_refl _ 40 v (List.all_eq_true.1 (hl _ h1).2 v (List.mem_of_getElem? hi))
  · intro b o h hwr
    obtain ⟨t, cs, _, rfl⟩ := key b o h
    cases hwr
  · intro b b' o o' h _ _ hwr
    obtain ⟨t, cs, _, rfl⟩ := key b o h
    cases hwr

/-- What is asked of a configuration. -/
structure Good (C : Cfg) (l : List Gv) (X : Nat → World → Prop) : Prop where
  keepX : ∀ base w w', X base w → Below base w w' → X base w'
  mixed : C.P.follows .mixedOrders = true
  vars : ∀ x ∈ l, x.1 < C.NG ∧ x.2.2.all (flat 40) = true
  orc : ∀ f args v, C.orc f args = some v → args.all (flat 40) = true ∧ flat 40 v = true ∧ ∀ w base, (∀ x ∈ l, GvOk w x) → X base w → base ≤ w.heap.size → Calls C.P f args.toArray w fun e w' => e = .returned v ∧ Below w.heap.size w w'
  ext : ∀ f args v, C.ext f args = some v → args.all (flat 40) = true ∧ flat 40 v = true ∧ ∀ w, (callFunc f args.toArray).run C.P w = .ok (.value v) w

theorem Good.ok {C : Cfg} {l : List Gv} {X : Nat → World → Prop} (h : Good C l X) (base : Nat) : Ok C (Kof l X base) base :=
  ⟨h.mixed, fun w w' => Kof.keep h.keepX w w', fun f args v hv => let ⟨h1, h2, h3⟩ := h.orc f args v hv; ⟨h1, h2, fun w hw hb => h3 w base (fun x hx => (hw.1 x hx).2) hw.2 hb⟩,
   fun f args v hv => let ⟨h1, h2, h3⟩ := h.ext f args v hv; ⟨h1, h2, fun w _ => h3 w⟩⟩

def arun (C : Cfg) (n : Nat) (f : FuncId) (args : List Value) (H : Heap) : Option (Value × Heap) :=
  match C.P.funcs[f]? with
  | some fn => match fn.body with
    | some c => abody C (ev C n) fn c args H
    | none => none
  | none => none

/-- What a run comes to, the heap behind it told. -/
theorem run_calls {C : Cfg} {l : List Gv} {X : Nat → World → Prop} (hg : Good C l X) {n : Nat} {f : FuncId} {args : List Value} {v : Value} {H' : Heap} (h : arun C n f args (heapOf C.NG l) = some (v, H')) (ha : args.all (flat 40) = true) {w : World} (hw : ∀ x ∈ l, GvOk w x) (hX : X w.heap.size w) :
    Calls C.P f args.toArray w fun e w' => ∃ v', e = .returned v' ∧ ∃ ρ', VR ρ' v v' ∧ Post C.NG w.heap.size (rhoOf w C.NG) (heapOf C.NG l) H' w w' ρ' := by
  unfold arun at h
  split at h
  · rename_i fn hfn
    split at h
    · rename_i c hb
      have hK : Kof l X w.heap.size w := ⟨fun x hx => ⟨by obtain ⟨fr, h1⟩ := hw x hx; exact (Array.getElem?_eq_some_iff.1 h1).1, hw x hx⟩, hX⟩
      have hrel := rel_start (base := w.heap.size) hg.vars hw (Nat.le_refl _)
      obtain ⟨hn, hm, _⟩ := heapOf_plain C.NG l
      have hvr : VRs (rhoOf w C.NG) args args.toArray.toList := by
        refine ⟨by simp, fun i x y hx hy => ?_⟩
        have hxy : x = y := Option.some.inj (hx.symm.trans (by simpa using hy))
        subst hxy
        exact flat_refl _ 40 x (List.all_eq_true.1 ha x (List.mem_of_getElem? hx))
      have := abody_ok (ev_ok (hg.ok w.heap.size) n) hfn hb h (rhoOf w C.NG) w (H'.next + 1) 0 args.toArray hrel hK hvr ⟨fun b h1 _ h2 => by
        rw [hn] at h1
        have h2' : b < C.NG := h2
        omega, by rw [hn, hm]; exact Nat.le_refl _⟩ (Nat.lt_succ_self _)
      exact callsIn_wide.1 this
    · cases h
  · cases h

theorem run_flat {C : Cfg} {l : List Gv} {X : Nat → World → Prop} (hg : Good C l X) {n : Nat} {f : FuncId} {args : List Value} {v : Value} {H' : Heap} (h : arun C n f args (heapOf C.NG l) = some (v, H')) (ha : args.all (flat 40) = true) (hv : flat 40 v = true) {w : World} (hw : ∀ x ∈ l, GvOk w x) (hX : X w.heap.size w) :
    Calls C.P f args.toArray w fun e w' => e = .returned v ∧ Below w.heap.size w w' :=
  (run_calls hg h ha hw hX).mono fun e w' ⟨v', he, ρ', h1, h2⟩ => ⟨by rw [he, flat_eq h1 40 hv], h2.below⟩

def okT : Option (Value × Heap) → Bool
  | some (.bool true, _) => true
  | _ => false

theorem okT_spec {r : Option (Value × Heap)} (h : okT r = true) : ∃ H', r = some (.bool true, H') := by
  unfold okT at h
  split at h
  · exact ⟨_, rfl⟩
  · cases h

theorem run_true {C : Cfg} {l : List Gv} {X : Nat → World → Prop} (hg : Good C l X) {n : Nat} {f : FuncId} {args : List Value} (h : okT (arun C n f args (heapOf C.NG l)) = true) (ha : args.all (flat 40) = true) {w : World} (hw : ∀ x ∈ l, GvOk w x) (hX : X w.heap.size w) :
    Calls C.P f args.toArray w fun e w' => e = .returned (.bool true) ∧ Below w.heap.size w w' := by
  obtain ⟨H', h'⟩ := okT_spec h
  exact run_flat hg h' ha rfl hw hX

end Go.Ev
