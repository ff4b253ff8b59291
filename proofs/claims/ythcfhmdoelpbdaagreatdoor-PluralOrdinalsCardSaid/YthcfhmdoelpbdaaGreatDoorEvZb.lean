/- What the evaluator says of a call holds of the machine. -/
import Derived.Test.YthcfhmdoelpbdaaGreatDoorEvZa
namespace Go.Ev
set_option linter.unusedVariables false
set_option linter.unusedSimpArgs false
open Go Go.RowKit

theorem flats_eq {ρ : Rho} : ∀ {l l' : List Value}, l.all (flat 40) = true → VRs ρ l l' → l' = l := by
  intro l
  induction l with
  | nil => intro l' _ h; exact h.nil_inv
  | cons x r ih =>
    intro l' hf h
    obtain ⟨y, s, rfl, h1, h2⟩ := h.cons_inv
    simp only [List.all_cons, Bool.and_eq_true] at hf
    rw [flat_eq h1 40 hf.1, ih hf.2 h2]

/-- A call that leaves all that was there as it was. -/
theorem Post.quiet {NG base : Nat} {ρ : Rho} {H : Heap} {w w' : World} (h : Rel NG base ρ H w) (hb : Below w.heap.size w w') : Post NG base ρ H H w w' ρ :=
  ⟨Ext.refl ρ, ⟨h.glob, h.hide, h.lt, h.dom, fun b o ho => (h.obj b o ho).congr (hb.block _ (h.obj b o ho).lt), h.own, h.sep, Nat.le_trans h.hb hb.size⟩, fun _ h => .inl h, Nat.le_refl _, rfl, hb.mono h.hb,
   fun k hk _ => hb.block k hk, fun b o ho hd => absurd (h.dom b o ho) hd, fun b o ho _ => ⟨o, ho, id⟩⟩

theorem amarks_next : ∀ {l : List Nat} {H H' : Heap}, amarks H l = some H' → H'.next = H.next := by
  intro l
  induction l with
  | nil => intro H H' h; simp only [amarks, Option.some.injEq] at h; subst h; rfl
  | cons r l ih =>
    intro H H' h
    simp only [amarks] at h
    split at h
    · cases hm : Nat.ble H.wmin r with
      | false => rw [hm] at h; cases h
      | true => rw [hm] at h; exact (ih (H := H.put r .deferred .dead) h)
    · cases h

theorem leaves_ok {C : Cfg} {base n : Nat} {ρ0 : Rho} {H0 H2 : Heap} {w0 : World} {fn : Func} {fr : AFr} {a : Act} {l : List Value} (hares : ares C fr H2 fn.results.toList = some l) :
    ∀ {marks : List Nat} {H1 : Heap} {w1 : World} {ρ1 : Rho}, Post C.NG base ρ0 H0 H1 w0 w1 ρ1 → FrRel ρ1 fr a → (∀ r ∈ marks, ρ1.dom r) → amarks H1 marks = some H2 →
      LeavesInM Fence.wide n C.P fn a.tmps (fun e w' => ∃ v', e = .returned v' ∧ ∃ ρ', VR ρ' (aone l) v' ∧ Post C.NG base ρ0 H0 H2 w0 w' ρ') (marks.map fun r => { target := .collected (ρ1.blk r), args := #[] }) .returning w1 := by
  intro marks
  induction marks with
  | nil =>
    intro H1 w1 ρ1 hp hf _ hm
    simp only [amarks, Option.some.injEq] at hm
    subst hm
    obtain ⟨v', h1, h2⟩ := results_ok hp.rel hf hares
    exact ⟨v', h2, v', rfl, ρ1, h1, hp⟩
  | cons r rest ih =>
    intro H1 w1 ρ1 hp hf hd hm
    simp only [amarks] at hm
    split at hm
    · rename_i hl
      cases hw : Nat.ble H1.wmin r with
      | false => rw [hw] at hm; cases hm
      | true =>
        rw [hw] at hm
        simp only [cond_true] at hm
        have h0 : w1.heap[ρ1.blk r]? = some (.deferred (some [])) := hp.rel.obj r _ hl
        have hlt := (hp.rel.obj r _ hl).lt
        have hpost : Post C.NG base ρ1 H1 (H1.put r .deferred .dead) w1 { w1 with heap := w1.heap.setIfInBounds (ρ1.blk r) (.deferred none) } ρ1 :=
          Post.write hp.rel hl rfl (Nat.le_of_ble_eq_true hw) (fun k hk => by simp [Array.getElem?_setIfInBounds_ne (fun h => hk h.symm)]) (by simp) rfl rfl rfl (by simp [ObjRel, hlt]) rfl
        refine ⟨by simp, .inl ⟨ρ1.blk r, _, rfl, ?_, ih (hp.trans hpost) hf (fun x hx => hd x (List.mem_cons_of_mem _ hx)) hm⟩⟩
        simp only [Instr.takeDeferred, Sem.run_bind]
        have hg : (getObj (ρ1.blk r)).run C.P w1 = .ok (.deferred (some [])) w1 := by simp [getObj, Sem.run, h0]
        have hs : (setObj (ρ1.blk r) (.deferred none)).run C.P w1 = .ok () { w1 with heap := w1.heap.setIfInBounds (ρ1.blk r) (.deferred none) } := by simp [setObj, Sem.run, h0]
        simp only [hg, Result.andThen_ok, Sem.run_bind, hs, Sem.run_pure]
    · cases hm

def SndCall (C : Cfg) (K : World → Prop) (base : Nat) (args : List Value) (H : Heap) (r : Value × Heap) (run : Array Value → Sem Next) : Prop :=
  ∀ (ρ : Rho) (w : World) (lim n : Nat) (args' : Array Value), Rel C.NG base ρ H w → K w → VRs ρ args args'.toList → Room H lim ρ → r.2.next < lim →
    InvOk n C.P (fun v' w' => ∃ ρ', VR ρ' r.1 v' ∧ Post C.NG base ρ H r.2 w w' ρ') ((run args').run C.P w)

theorem abody_ok {C : Cfg} {K : World → Prop} {base : Nat} {self : Self} (hs : SndSelf C K base self) {f : FuncId} {fn : Func} {c : Code} {args : List Value} {H : Heap} {r : Value × Heap}
    (hfn : C.P.funcs[f]? = some fn) (hb : fn.body = some c) (h : abody C self fn c args H = some r)
    (ρ : Rho) (w : World) (lim n : Nat) (args' : Array Value) (hr : Rel C.NG base ρ H w) (hK : K w) (hv : VRs ρ args args'.toList) (hf : Room H lim ρ) (hlim : r.2.next < lim) :
    CallsIn Fence.wide n C.P f args' w fun e w' => ∃ v', e = .returned v' ∧ ∃ ρ', VR ρ' r.1 v' ∧ Post C.NG base ρ H r.2 w w' ρ' := by
  unfold abody at h
  cases hc : (Nat.ble fn.ntmps 100000 && Nat.ble args.length 1000) with
  | false => rw [hc] at h; cases h
  | true =>
    rw [hc] at h
    simp only [cond_true] at h
    simp only [Bool.and_eq_true] at hc
    have hfr := frame_start (n := fn.ntmps) hv (Nat.le_of_ble_eq_true hc.1) (Nat.le_of_ble_eq_true hc.2)
    split at h
    · cases h
    · rename_i ex fr1 H1 hne he
      split at h
      · rename_i H2 hm
        split at h
        · rename_i l hl
          simp only [Option.some.injEq] at h
          subst h
          have hnext := amarks_next hm
          refine callsIn_of_wp_marks hfn hb trivial ?_
          refine wpIn_mono (hs none c _ H _ he ρ _ w lim n hr hK hfr hf (by simp only; simp only at hlim; omega) (by intro l hl; cases hl)) ?_
          intro e a' w' ⟨he', ρ', hf', hp⟩
          have hgo := leaves_ok (n := n) (fn := fn) (a := a') hl hp hf' hf'.marks hm
          rw [← hf'.defers] at hgo
          cases ex with
          | normal => subst he'; exact hgo
          | ret => subst he'; exact hgo
          | exit id => exact absurd he (by intro _; exact hne id (by rfl))
        · cases h
      · cases h
    · cases h

theorem acallF_ok {C : Cfg} {K : World → Prop} {base : Nat} {self : Self} (ho : Ok C K base) (hs : SndSelf C K base self) {f : FuncId} {args : List Value} {H : Heap} {r : Value × Heap}
    (h : acallF C self f args H = some r) : SndCall C K base args H r (callFunc f) := by
  intro ρ w lim n args' hr hK hv hf hlim
  unfold acallF at h
  split at h
  · cases h
  · rename_i fn hfn
    split at h
    · rename_i hb
      split at h
      · rename_i v hv2
        simp only [Option.some.injEq] at h
        subst h
        obtain ⟨h1, h2, h3⟩ := ho.ext f args v hv2
        have := flats_eq h1 hv
        have ea : args' = args.toArray := by apply Array.ext'; simpa using this
        subst ea
        rw [h3 w hK]
        exact ⟨ρ, flat_refl ρ 40 v h2, Post.refl hr⟩
      · cases h
    · rename_i c hb
      cases hn : (fn.name == "runtime.NumGoroutine") with
      | true => rw [hn] at h; cases h
      | false =>
        rw [hn] at h
        simp only [cond_false] at h
        have hcf : ∀ a, (callFunc f a).run C.P w = .ok (.enter f a) w := by
          intro a
          unfold callFunc
          simp only [program, Sem.run_bind, Sem.run, Result.andThen_ok, hfn, hn, Bool.false_eq_true, if_false, hb, Option.isNone_some]
          rfl
        rw [hcf]
        split at h
        · rename_i v hv2
          simp only [Option.some.injEq] at h
          subst h
          obtain ⟨h1, h2, h3⟩ := ho.orc f args v hv2
          have := flats_eq h1 hv
          have ea : args' = args.toArray := by apply Array.ext'; simpa using this
          subst ea
          refine CallsIn.mono (callsIn_wide.2 (h3 w hK hr.hb)) fun e w' ⟨he, hb⟩ => ?_
          exact ⟨v, he, ρ, flat_refl ρ 40 v h2, Post.quiet hr hb⟩
        · exact abody_ok hs hfn hb h ρ w lim n args' hr hK hv hf hlim

end Go.Ev
