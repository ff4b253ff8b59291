/- The evaluator's operations that look into memory, all of them together. -/
import Derived.Test.YthcfhmdoelpbdaaGreatDoorEvX
namespace Go.Ev
set_option linter.unusedVariables false
set_option linter.unusedSimpArgs false
open Go

def abuiltinH (P : Program) (H : Heap) (b : Builtin) (ts : List TypeId) (vs : List Value) : Option (Value × Heap) :=
  match b with
  | .append => aappend P H ts vs
  | .copy => acopy P H ts vs
  | .delete => adelete P H ts vs
  | .cap => match acap P H ts vs with
    | some v => some (v, H)
    | none => none
  | .len => match alenMap P H ts vs with
    | some v => some (v, H)
    | none => none
  | _ => none

def aheap (P : Program) (ev : Operand → Option Value) (H : Heap) (op : Op) : Option (Value × Heap) :=
  match op with
  | .load t x => match ev x with
    | some a => match aload P t H a with
      | some v => some (v, H)
      | none => none
    | none => none
  | .store t x y => match ev x, ev y with
    | some a, some v => match astore P t H a v with
      | some H' => some (undef, H')
      | none => none
    | _, _ => none
  | .alloc t => match zeroOf P t with
    | some z => some (abox H t z)
    | none => none
  | .box t x => match ev x with
    | some v => some (abox H t v)
    | none => none
  | .buildSlice t n parts => match evParts ev parts.toList with
    | some ps => abuildSlice P H t n ps
    | none => none
  | .makeMap t r => match evO ev r with
    | some v => amakeMap P H t v
    | none => none
  | .makeSlice t l c => match ev l, ev c with
    | some a, some b => amakeSlice P H t a b
    | _, _ => none
  | .slice t x lo hi none => match ev x, evO ev lo, evO ev hi with
    | some a, some l, some h => match asliceAt P H t a l h with
      | some v => some (v, H)
      | none => none
    | _, _, _ => none
  | .lookup t m k ok => match ev m, ev k with
    | some a, some b => match alookup P H t a b ok with
      | some v => some (v, H)
      | none => none
    | _, _ => none
  | .mapUpdate t m k x => match ev m, ev k, ev x with
    | some a, some b, some c => match amapUpdate P H t a b c with
      | some H' => some (undef, H')
      | none => none
    | _, _, _ => none
  | .insert t m k x => match ev m, ev k, ev x with
    | some a, some b, some c => match amapUpdate P H t a b c with
      | some H' => some (undef, H')
      | none => none
    | _, _, _ => none
  | .mapEntry t m k => match ev m, ev k with
    | some a, some b => amapEntry P H t a b
    | _, _ => none
  | .entryStore _ m s x => match ev m, ev s, ev x with
    | some a, some b, some c => match aentryStore H a b c with
      | some H' => some (undef, H')
      | none => none
    | _, _, _ => none
  | .range t x => match ev x with
    | some a => arange P H t a
    | none => none
  | .next x isS => match ev x with
    | some a => anext H a isS
    | none => none
  | .convert s d x => match ev x with
    | some a => aconv P H s d a
    | none => none
  | .call c => match c.callee with
    | .builtin b => match evL ev c.args.toList with
      | some vs => abuiltinH P H b c.argTypes.toList vs
      | none => none
    | _ => none
  | _ => none

theorem aheap_ok {P : Program} {NG base : Nat} {ρ : Rho} {ev : Operand → Option Value} {a : Act} {o : Oper} {v : Value} {H H' : Heap} {w : World} (hr : Rel NG base ρ H w) (hev : EvR ρ ev a) (hfree : ¬ ρ.dom H.next) (h : aheap P ev H o.op = some (v, H')) :
    (∀ c, o.op ≠ .defer c) ∧ ∃ n v' w' ρ', (execOp a.eval o).run P w = .ok n w' ∧ (n = .value v' ∨ (n = .skip ∧ v' = undef)) ∧ VR ρ' v v' ∧ Post NG base ρ H H' w w' ρ' := by
  obtain ⟨dst, op, type, pos, after, guard⟩ := o
  simp only at h
  cases op <;> simp only [aheap] at h <;> try (cases h; done)
  case load t x =>
    refine ⟨by simp, ?_⟩
    split at h
    · rename_i u hu
      split at h
      · rename_i r hl
        simp only [Option.some.injEq, Prod.mk.injEq] at h
        obtain ⟨rfl, rfl⟩ := h
        obtain ⟨v', h1, h2⟩ := aload_ok hr hl (hev _ _ hu)
        exact ⟨.value v', v', w, ρ, by simp only [execOp, Sem.run_bind, h2, Result.andThen_ok, Sem.run_pure], .inl rfl, h1, Post.refl hr⟩
      · cases h
    · cases h
  case store t x y =>
    refine ⟨by simp, ?_⟩
    split at h
    · rename_i u z hu hz
      split at h
      · rename_i r hl
        simp only [Option.some.injEq, Prod.mk.injEq] at h
        obtain ⟨rfl, rfl⟩ := h
        obtain ⟨w', h1, h2⟩ := astore_ok hr hl (hev _ _ hu) (hev _ _ hz)
        exact ⟨.skip, undef, w', ρ, by simp only [execOp, Sem.run_bind, h1, Result.andThen_ok, Sem.run_pure], .inr ⟨rfl, rfl⟩, VR.undef ρ, h2⟩
      · cases h
    · cases h
  case alloc t =>
    refine ⟨by simp, ?_⟩
    split at h
    · rename_i z hz
      simp only [Option.some.injEq] at h
      obtain ⟨w', ρ', u, h1, h2, h3⟩ := abox_ok (P := P) hr hfree t (flat_refl ρ 40 z (zeroOf_spec hz).2)
      have h1' : (abox H t z) = (v, H') := h
      rw [h1'] at h2 h3
      refine ⟨_, _, w', ρ', ?_, .inl rfl, h2, h3⟩
      simp only [execOp, Instr.alloc, Sem.run_bind, run_zeroOf hz, Result.andThen_ok, h1, Sem.run_pure]
    · cases h
  case box t x =>
    refine ⟨by simp, ?_⟩
    split at h
    · rename_i z hz
      simp only [Option.some.injEq] at h
      obtain ⟨w', ρ', u, h1, h2, h3⟩ := abox_ok (P := P) hr hfree t (hev _ _ hz)
      have h1' : (abox H t z) = (v, H') := h
      rw [h1'] at h2 h3
      refine ⟨_, _, w', ρ', ?_, .inl rfl, h2, h3⟩
      simp only [execOp, Instr.box, Sem.run_bind, h1, Result.andThen_ok, Sem.run_pure]
    · cases h
  case buildSlice t n parts =>
    refine ⟨by simp, ?_⟩
    split at h
    · rename_i ps hps
      have hp := evParts_ok hev hps
      obtain ⟨v', w', ρ', h1, h2, h3⟩ := abuildSlice_ok (ps' := parts.map fun (i, x) => (i, a.eval x)) hr hfree h (by simpa using hp)
      exact ⟨_, v', w', ρ', by simp only [execOp, Sem.run_bind, h1, Result.andThen_ok, Sem.run_pure], .inl rfl, h2, h3⟩
    · cases h
  case makeMap t r =>
    refine ⟨by simp, ?_⟩
    split at h
    · rename_i u hu
      obtain ⟨v', w', ρ', h1, h2, h3⟩ := amakeMap_ok (P := P) hr hfree h (evO_ok hev hu)
      exact ⟨_, v', w', ρ', by simp only [execOp, Sem.run_bind, h1, Result.andThen_ok, Sem.run_pure], .inl rfl, h2, h3⟩
    · cases h
  case makeSlice t l c =>
    refine ⟨by simp, ?_⟩
    split at h
    · rename_i u z hu hz
      obtain ⟨v', w', ρ', h1, h2, h3⟩ := amakeSlice_ok hr hfree h (hev _ _ hu) (hev _ _ hz)
      exact ⟨_, v', w', ρ', by simp only [execOp, Sem.run_bind, h1, Result.andThen_ok, Sem.run_pure], .inl rfl, h2, h3⟩
    · cases h
  case slice t x lo hi mx =>
    refine ⟨by simp, ?_⟩
    cases mx with
    | some => cases h
    | none =>
      simp only at h
      split at h
      · rename_i u l hh hu hl hhi
        split at h
        · rename_i r hs
          simp only [Option.some.injEq, Prod.mk.injEq] at h
          obtain ⟨rfl, rfl⟩ := h
          obtain ⟨v', h1, h2⟩ := asliceAt_ok hr hs (hev _ _ hu) (evO_ok hev hl) (evO_ok hev hhi)
          exact ⟨_, v', w, ρ, by simp only [execOp, Option.map_none, Sem.run_bind, h2, Result.andThen_ok, Sem.run_pure], .inl rfl, h1, Post.refl hr⟩
        · cases h
      · cases h
  case lookup t m k ok =>
    refine ⟨by simp, ?_⟩
    split at h
    · rename_i u z hu hz
      split at h
      · rename_i r hs
        simp only [Option.some.injEq, Prod.mk.injEq] at h
        obtain ⟨rfl, rfl⟩ := h
        obtain ⟨v', h1, h2⟩ := alookup_ok hr hs (hev _ _ hu) (hev _ _ hz)
        exact ⟨_, v', w, ρ, by simp only [execOp, Sem.run_bind, h2, Result.andThen_ok, Sem.run_pure], .inl rfl, h1, Post.refl hr⟩
      · cases h
    · cases h
  case mapUpdate t m k x =>
    refine ⟨by simp, ?_⟩
    split at h
    · rename_i u z y hu hz hy
      split at h
      · rename_i r hl
        simp only [Option.some.injEq, Prod.mk.injEq] at h
        obtain ⟨rfl, rfl⟩ := h
        obtain ⟨w', h1, h2⟩ := amapUpdate_ok hr hl (hev _ _ hu) (hev _ _ hz) (hev _ _ hy)
        exact ⟨.skip, undef, w', ρ, by simp only [execOp, Sem.run_bind, h1, Result.andThen_ok, Sem.run_pure], .inr ⟨rfl, rfl⟩, VR.undef ρ, h2⟩
      · cases h
    · cases h
  case insert t m k x =>
    refine ⟨by simp, ?_⟩
    split at h
    · rename_i u z y hu hz hy
      split at h
      · rename_i r hl
        simp only [Option.some.injEq, Prod.mk.injEq] at h
        obtain ⟨rfl, rfl⟩ := h
        obtain ⟨w', h1, h2⟩ := amapUpdate_ok hr hl (hev _ _ hu) (hev _ _ hz) (hev _ _ hy)
        exact ⟨.skip, undef, w', ρ, by simp only [execOp, Sem.run_bind, h1, Result.andThen_ok, Sem.run_pure], .inr ⟨rfl, rfl⟩, VR.undef ρ, h2⟩
      · cases h
    · cases h
  case mapEntry t m k =>
    refine ⟨by simp, ?_⟩
    split at h
    · rename_i u z hu hz
      obtain ⟨v', w', h1, h2, h3⟩ := amapEntry_ok hr h (hev _ _ hu) (hev _ _ hz)
      exact ⟨_, v', w', ρ, by simp only [execOp, Sem.run_bind, h1, Result.andThen_ok, Sem.run_pure], .inl rfl, h2, h3⟩
    · cases h
  case entryStore t m s x =>
    refine ⟨by simp, ?_⟩
    split at h
    · rename_i u z y hu hz hy
      split at h
      · rename_i r hl
        simp only [Option.some.injEq, Prod.mk.injEq] at h
        obtain ⟨rfl, rfl⟩ := h
        obtain ⟨w', h1, h2⟩ := aentryStore_ok (P := P) (t := t) hr hl (hev _ _ hu) (hev _ _ hz) (hev _ _ hy)
        exact ⟨.skip, undef, w', ρ, by simp only [execOp, Sem.run_bind, h1, Result.andThen_ok, Sem.run_pure], .inr ⟨rfl, rfl⟩, VR.undef ρ, h2⟩
      · cases h
    · cases h
  case range t x =>
    refine ⟨by simp, ?_⟩
    split at h
    · rename_i u hu
      obtain ⟨v', w', ρ', h1, h2, h3⟩ := arange_ok hr hfree h (hev _ _ hu)
      exact ⟨_, v', w', ρ', by simp only [execOp, Sem.run_bind, h1, Result.andThen_ok, Sem.run_pure], .inl rfl, h2, h3⟩
    · cases h
  case next x isS =>
    refine ⟨by simp, ?_⟩
    split at h
    · rename_i u hu
      obtain ⟨v', w', h1, h2, h3⟩ := anext_ok (P := P) (ty := type) hr h (hev _ _ hu)
      exact ⟨_, v', w', ρ, by simp only [execOp, Sem.run_bind, h1, Result.andThen_ok, Sem.run_pure], .inl rfl, h2, h3⟩
    · cases h
  case convert s d x =>
    refine ⟨by simp, ?_⟩
    split at h
    · rename_i u hu
      obtain ⟨v', w', ρ', h1, h2, h3⟩ := aconv_ok hr hfree h (hev _ _ hu)
      exact ⟨_, v', w', ρ', by simp only [execOp, Sem.run_bind, h1, Result.andThen_ok, Sem.run_pure], .inl rfl, h2, h3⟩
    · cases h
  case call c =>
    refine ⟨by simp, ?_⟩
    obtain ⟨callee, args, argTypes⟩ := c
    cases callee with
    | value f => simp at h
    | invoke r m => simp at h
    | builtin b =>
      simp only at h
      split at h
      · rename_i vs hvs
        have hv := evL_ok hev hvs
        have hv' : VRs ρ vs (args.map a.eval).toList := by simpa using hv
        cases b <;> simp only [abuiltinH] at h <;> try (cases h; done)
        case append =>
          obtain ⟨v', w', ρ', h1, h2, h3⟩ := aappend_ok (ty := type) hr hfree h hv'
          exact ⟨_, v', w', ρ', by simp only [execOp, resolve, Sem.run_bind, Sem.run_pure, Result.andThen_ok, invoke, builtin, h1], .inl rfl, h2, h3⟩
        case copy =>
          obtain ⟨v', w', h1, h2, h3⟩ := acopy_ok (ty := type) hr h hv'
          exact ⟨_, v', w', ρ, by simp only [execOp, resolve, Sem.run_bind, Sem.run_pure, Result.andThen_ok, invoke, builtin, h1], .inl rfl, h2, h3⟩
        case delete =>
          obtain ⟨v', w', h1, h2, h3⟩ := adelete_ok (ty := type) hr h hv'
          exact ⟨_, v', w', ρ, by simp only [execOp, resolve, Sem.run_bind, Sem.run_pure, Result.andThen_ok, invoke, builtin, h1], .inl rfl, h2, h3⟩
        case cap =>
          split at h
          · rename_i r hs
            simp only [Option.some.injEq, Prod.mk.injEq] at h
            obtain ⟨rfl, rfl⟩ := h
            obtain ⟨h1, h2⟩ := acap_ok (P := P) (ty := type) hr hs hv'
            exact ⟨_, _, w, ρ, by simp only [execOp, resolve, Sem.run_bind, Sem.run_pure, Result.andThen_ok, invoke, builtin, h2], .inl rfl, h1, Post.refl hr⟩
          · cases h
        case len =>
          split at h
          · rename_i r hs
            simp only [Option.some.injEq, Prod.mk.injEq] at h
            obtain ⟨rfl, rfl⟩ := h
            obtain ⟨h1, h2⟩ := alenMap_ok (P := P) (ty := type) hr hs hv'
            exact ⟨_, _, w, ρ, by simp only [execOp, resolve, Sem.run_bind, Sem.run_pure, Result.andThen_ok, invoke, builtin, h2], .inl rfl, h1, Post.refl hr⟩
          · cases h
      · cases h

end Go.Ev
