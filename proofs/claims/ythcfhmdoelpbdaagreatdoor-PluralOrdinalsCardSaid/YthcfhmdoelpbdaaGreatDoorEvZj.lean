/- What the evaluator says of code holds of the machine. -/
import Derived.Test.YthcfhmdoelpbdaaGreatDoorEvZi
import Derived.LoopNIn
namespace Go.Ev
set_option linter.unusedVariables false
set_option linter.unusedSimpArgs false
open Go Go.RowKit

/-- What is to be shown of code, told of where it leads. -/
def Goal (C : Cfg) (base : Nat) (ρ : Rho) (H : Heap) (w : World) (r : AEx × AFr × Heap) : Exit → Act → World → Prop :=
  fun e a' w' => e = r.1.toExit ∧ ∃ ρ', FrRel ρ' r.2.1 a' ∧ Post C.NG base ρ H r.2.2 w w' ρ'

theorem Goal.after {C : Cfg} {base : Nat} {ρ ρ1 : Rho} {H H1 : Heap} {w w1 : World} {r : AEx × AFr × Heap} {e : Exit} {a' : Act} {w' : World} (p : Post C.NG base ρ H H1 w w1 ρ1) (h : Goal C base ρ1 H1 w1 r e a' w') : Goal C base ρ H w r e a' w' := by
  obtain ⟨h1, ρ', h2, h3⟩ := h
  exact ⟨h1, ρ', h2, p.trans h3⟩

section
variable {C : Cfg} {K : World → Prop} {base bound : Nat} {self : Self} {rd : Option Nat} {fr : AFr} {H : Heap} {r : AEx × AFr × Heap}

/-- What code has in hand. -/
structure Hand (C : Cfg) (K : World → Prop) (base : Nat) (rd : Option Nat) (fr : AFr) (H : Heap) (lim : Nat) (ρ : Rho) (a : Act) (w : World) : Prop where
  rel : Rel C.NG base ρ H w
  k : K w
  fr : FrRel ρ fr a
  room : Room H lim ρ
  rd : ∀ l, rd = some l → ρ.dom l

theorem Hand.post {lim : Nat} {ρ ρ' : Rho} {a a' : Act} {w w' : World} {fr' : AFr} {H' : Heap} (ho : Ok C K base) (h : Hand C K base rd fr H lim ρ a w) (p : Post C.NG base ρ H H' w w' ρ') (hf : FrRel ρ' fr' a') : Hand C K base rd fr' H' lim ρ' a' w' :=
  ⟨p.rel, ho.keep _ _ h.k p.below, hf, p.room h.room, fun l hl => p.ext.dom l (h.rd l hl)⟩

theorem Hand.fence {lim : Nat} {ρ ρ' : Rho} {a a' : Act} {w w' : World} {H' : Heap} (h : Hand C K base rd fr H lim ρ a w) (p : Post C.NG base ρ H H' w w' ρ') : fenceOf ρ' rd = fenceOf ρ rd := fenceOf_ext p.ext h.rd

theorem SndSelf.go (hs : SndSelf C K base self) {c : Code} (h : self rd c fr H = some r) {lim n : Nat} {ρ : Rho} {a : Act} {w : World} (hd : Hand C K base rd fr H lim ρ a w) (hlim : r.2.2.next < lim) :
    c.wpIn (fenceOf ρ rd) n C.P (Goal C base ρ H w r) a w := hs rd c fr H r h ρ a w lim n hd.rel hd.k hd.fr hd.room hlim hd.rd

theorem rounds_ok (ho : Ok C K base) (hs : SndSelf C K base self) (hsk : SelfKeep self) {c : Code} {lim n : Nat} : ∀ (m : Nat) {fr : AFr} {H : Heap} {ρ : Rho} {a : Act} {w : World}, loopN (self rd c) m fr H = some r → Hand C K base rd fr H lim ρ a w → r.2.2.next < lim →
    Code.roundsIn (fenceOf ρ rd) n C.P c (Goal C base ρ H w r) m a w := by
  intro m
  induction m with
  | zero => intro fr H ρ a w h; cases h
  | succ m ih =>
    intro fr H ρ a w h hd hlim
    simp only [loopN] at h
    rw [roundsIn_succ]
    split at h
    · rename_i fr' H' h1
      have hk2 := keep_loopN (fun fr H r hw h => hsk _ _ _ _ _ hw h) m ((hsk _ _ _ _ _ hd.room.le h1).le hd.room.le) h
      refine wpIn_mono (hs.go h1 hd (Nat.lt_of_le_of_lt hk2.next hlim)) fun e a' w' g => ?_
      obtain ⟨he, ρ', hf, p⟩ := g
      subst he
      show Code.roundsIn (fenceOf ρ rd) n C.P c (Goal C base ρ H w r) m a' w'
      have := ih h (hd.post ho p hf) hlim
      rw [fenceOf_ext p.ext hd.rd] at this
      have mono : ∀ (m : Nat) (a : Act) (w0 : World) (Q Q' : Exit → Act → World → Prop), (∀ e a w, Q e a w → Q' e a w) → Code.roundsIn (fenceOf ρ rd) n C.P c Q m a w0 → Code.roundsIn (fenceOf ρ rd) n C.P c Q' m a w0 := by
        intro m
        induction m with
        | zero => intro _ _ _ _ _ h; exact h
        | succ m ih =>
          intro a w0 Q Q' hq h
          refine wpIn_mono h fun e a w hh => ?_
          cases e <;> first | exact ih _ _ _ _ hq hh | exact hq _ _ _ hh
      exact mono m _ _ _ _ (fun e a w g => g.after p) this
    · rename_i r' hne
      refine wpIn_mono (hs.go h hd hlim) fun e a' w' g => ?_
      obtain ⟨he, hrest⟩ := g
      obtain ⟨ex, fr', H'⟩ := r
      cases ex with
      | normal => exact absurd h (by intro h; exact hne fr' H' (by rw [h]))
      | ret => subst he; exact ⟨rfl, hrest⟩
      | exit id => subst he; exact ⟨rfl, hrest⟩

end

end Go.Ev
