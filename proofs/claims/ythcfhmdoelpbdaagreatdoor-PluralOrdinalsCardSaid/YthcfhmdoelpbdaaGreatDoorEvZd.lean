/- What the evaluator says of an operation, of a region in the text's order, holds of the machine. -/
import Derived.Test.YthcfhmdoelpbdaaGreatDoorEvZc
namespace Go.Ev
set_option linter.unusedVariables false
set_option linter.unusedSimpArgs false
open Go Go.RowKit

theorem about_ok {ρ0 : Rho} {rd : Option Nat} {P : Program} {w : World} {a : Act} {o : Oper} : ∀ f, o.about P w a.eval = some f → (fenceOf ρ0 rd).fn f := fun f _ => fenceOf_fn _ _ f

theorem apure_wp {C : Cfg} {n : Nat} {ρ ρ0 : Rho} {rd : Option Nat} {ev : Operand → Option Value} {a : Act} {o : Oper} {v : Value} {w : World} {Kn : Act → World → Prop} {Q : Exit → Act → World → Prop} (hev : EvR ρ ev a) (h : apure C.P ev o.op = some v)
    (hk : ∀ v', VR ρ v v' → Kn (a.put o.dst v') w) : o.wpIn (fenceOf ρ0 rd) n C.P a w Kn Q := by
  obtain ⟨hd, v', h1, h2⟩ := apure_ok hev h
  refine ⟨about_ok, ?_⟩
  rw [Oper.semAt_eq _ _ _ hd, h2 w]
  exact hk v' h1

theorem aoper_wp {C : Cfg} {K : World → Prop} {base n lim : Nat} {self : Self} (ho : Ok C K base) (hs : SndSelf C K base self) (hsk : SelfKeep self) {ρ ρ0 : Rho} {rd : Option Nat} {ev : Operand → Option Value} {a : Act} {o : Oper} {H : Heap} {r : Value × Heap} {w : World}
    {Kn : Act → World → Prop} {Q : Exit → Act → World → Prop} (hr : Rel C.NG base ρ H w) (hK : K w) (hev : EvR ρ ev a) (hf : Room H lim ρ) (h : aoper C self ev H o.op = some r) (hlim : r.2.next < lim)
    (hk : ∀ v' w' ρ', VR ρ' r.1 v' → Post C.NG base ρ H r.2 w w' ρ' → Kn (a.put o.dst v') w') : o.wpIn (fenceOf ρ0 rd) n C.P a w Kn Q := by
  unfold aoper at h
  split at h
  · rename_i r2 hh
    simp only [Option.some.injEq] at h
    subst h
    obtain ⟨v, H'⟩ := r2
    have k := (keep_heap hh).next
    simp only at k hlim
    obtain ⟨hd, x, v', w', ρ', h1, h2, h3, h4⟩ := aheap_ok hr hev (hf.free H.next (Nat.le_refl _) (by omega)) hh
    refine ⟨about_ok, ?_⟩
    rw [Oper.semAt_eq _ _ _ hd, h1]
    rcases h2 with rfl | ⟨rfl, rfl⟩
    · exact hk v' w' ρ' h3 h4
    · exact hk undef w' ρ' h3 h4
  · rename_i hnone
    split at h
    · rename_i c hop
      split at h
      · rename_i f hcal
        split at h
        · rename_i fv vs hfv hvs
          refine ⟨about_ok, ?_⟩
          rw [Oper.semAt_eq _ _ _ (by rw [hop]; intro c; simp)]
          have hexec : execOp a.eval o = (do let d ← Deferred.ofValue (a.eval f) (c.args.map a.eval); invoke d.target d.args : Sem Next) := by
            unfold execOp
            rw [hop]
            simp only [resolve, hcal]
          rw [hexec]
          refine upon_of_inv (acall_ok ho hs hsk h ρ w lim (n - 1) _ _ hr hK (hev _ _ hfv) (by simpa using evL_ok hev hvs) hf hlim) ?_
          intro v' w' ⟨ρ', h1, h2⟩
          exact hk v' w' ρ' h1 h2
        · cases h
      · cases h
    · cases h

/-- A guard's word is the model's. -/
theorem awanted_ok {ops : Array Oper} {ρ : Rho} {fr : AFr} {a : Act} {o : Oper} {b : Bool} (h : awanted ops.toList fr o = some b)
    (hv : ∀ g want og t, o.guard = some (g, want) → ops[g]? = some og → og.dst = some t → VR ρ (fr.tr.get t) (a.tmps.getD t undef)) : Region.wanted o (yielded ops a.tmps) = b := by
  unfold awanted at h
  unfold Region.wanted yielded
  split at h
  · rename_i hg
    simp only [hg]
    exact Option.some.inj h
  · rename_i g want hg
    simp only [hg]
    rw [Array.getElem?_toList] at h
    split at h
    · rename_i ho
      simp only [ho, Option.bind_none]
      have := Option.some.inj h
      rw [← this]; rfl
    · rename_i og ho
      split at h
      · rename_i hd
        simp only [ho, Option.bind_some, hd, Option.bind_none]
        have := Option.some.inj h
        rw [← this]; rfl
      · rename_i t hd
        have hvr := hv g want og t hg ho hd
        simp only [ho, Option.bind_some, hd]
        split at h
        · rename_i c hc
          rw [hc] at hvr
          have hvb : a.tmps.getD t undef = .bool c := by
            generalize a.tmps.getD t undef = z at hvr
            cases hvr
            rfl
          have hq : a.tmps[t]? = some (.bool c) := by
            cases hq : a.tmps[t]? with
            | none =>
              rw [Array.getD_eq_getD_getElem?, hq] at hvb
              cases hvb
            | some y =>
              rw [Array.getD_eq_getD_getElem?, hq] at hvb
              simpa using hvb
          have := Option.some.inj h
          rw [← this]
          simp only [hq]
          cases c <;> cases want <;> rfl
        · rename_i cs hc
          rw [hc] at hvr
          have := Option.some.inj h
          rw [← this]
          have hq : ∀ c, a.tmps[t]? ≠ some (.bool c) := by
            intro c hq
            rw [Array.getD_eq_getD_getElem?, hq] at hvr
            cases hvr
          cases hq2 : a.tmps[t]? with
          | none => rfl
          | some y => cases y <;> first | rfl | exact absurd hq2 (hq _)
        · cases h

/-- The temporaries a region's operation may look at. -/
theorem aops_ok {C : Cfg} {K : World → Prop} {base n lim : Nat} {self : Self} (ho : Ok C K base) (hs : SndSelf C K base self) (hsk : SelfKeep self) {ρ0 : Rho} {rd : Option Nat} {ops : Array Oper} {r : AFr × Heap} {Q : Exit → Act → World → Prop} :
    ∀ {l : List Oper} {fr : AFr} {H : Heap} {ρ : Rho} {a : Act} {w : World}, aops C self ops.toList l fr H = some r → Rel C.NG base ρ H w → K w → FrRel ρ fr a → Room H lim ρ → r.2.next < lim →
      (∀ ρ' a' w', FrRel ρ' r.1 a' → Post C.NG base ρ H r.2 w w' ρ' → Q .normal a' w') → wpListIn (fenceOf ρ0 rd) n C.P ops Q l a w := by
  intro l
  induction l with
  | nil =>
    intro fr H ρ a w h hr hK hf hroom hlim hq
    simp only [aops, Option.some.injEq] at h
    subst h
    exact hq ρ a w hf (Post.refl hr)
  | cons o rest ih =>
    intro fr H ρ a w h hr hK hf hroom hlim hq
    simp only [aops] at h
    have hev : EvR ρ (fr.eval C.NG) a := fun x v hx => hf.eval hr.glob hx
    unfold wpListIn
    split at h
    · rename_i hw
      have hw' := awanted_ok (ρ := ρ) (a := a) hw (fun _ _ _ t _ _ _ => hf.get t)
      rw [if_pos hw']
      split at h
      · rename_i v hp
        refine apure_wp hev hp fun v' hv => ?_
        exact ih h hr hK (hf.put hv _) hroom hlim hq
      · split at h
        · rename_i v H' hh
          have k1 := keep_oper hsk hroom.le hh
          have k2 := keep_ops hsk (k1.le hroom.le) h
          refine aoper_wp ho hs hsk hr hK hev hroom hh (Nat.lt_of_le_of_lt k2.next hlim) fun v' w' ρ' hv hp => ?_
          exact ih h hp.rel (ho.keep _ _ hK hp.below) ((hf.mono hp.ext).put hv _) (hp.room hroom) hlim fun ρ2 a2 w2 h1 h2 => hq ρ2 a2 w2 h1 (hp.trans h2)
        · cases h
    · rename_i hw
      have hw' := awanted_ok (ρ := ρ) (a := a) hw (fun _ _ _ t _ _ _ => hf.get t)
      rw [if_neg (by rw [hw']; simp)]
      exact ⟨about_ok, ih h hr hK (hf.put (VR.undef ρ) _) hroom hlim hq⟩
    · cases h

end Go.Ev
