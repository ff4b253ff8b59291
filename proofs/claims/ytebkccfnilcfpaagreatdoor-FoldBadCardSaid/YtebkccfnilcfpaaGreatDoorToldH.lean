/- A law that is itself told, with memory. -/
import Derived.Test.YtebkccfnilcfpaaGreatDoorSyCtrH
namespace Go.Sy
set_option linter.unusedVariables false
set_option linter.unusedSimpArgs false
set_option linter.unusedVariables false
open Go Go.RowKit

/-- A contract that speaks of memory, at a plain world. -/
theorem run_told {C : Cfg} {l : List Gv} {X : Nat → World → Prop} (hg : Good C l X) {E : Env} (hE : FactsOk E C.NG.facts) (hF : E.fns = C.NG.fns) (hR : E.rows = C.NG.rows) {f : FuncId} {args : List Value} (h : okT (C.orcG f args (heapOf C.NG.n l)) = true) {args' : Array Value}
    (ha : ∀ ρ : Rho, ρ.env = E → VRs ρ args args'.toList) {w : World} (hw : ∀ x ∈ l, GvOk w x) (hX : X w.heap.size w) :
    Calls C.P f args' w fun e w' => e = .returned (.bool true) ∧ Below w.heap.size w w' := by
  unfold okT at h
  split at h
  · rename_i H' hr
    have hK : Kof l X w.heap.size w := ⟨fun x hx => ⟨by obtain ⟨fr, h1⟩ := hw x hx; exact (Array.getElem?_eq_some_iff.1 h1).1, hw x hx⟩, hX⟩
    have hrel := rel_start (base := w.heap.size) hE hF hR hg.rowv hg.vars hw (hg.pos _ w hX) (Nat.le_refl _)
    obtain ⟨hn, hm, _⟩ := heapOf_plain C.NG.n l
    have := hg.orcG f args _ _ hr w.heap.size (rhoOf w C.NG.n E) w (H'.next + 1) 0 args' hrel hK (ha _ rfl) ⟨fun b h1 _ h2 => by
      rw [hn] at h1
      have h2' : b < C.NG.n := h2
      omega, by rw [hn, hm]; exact Nat.le_refl _⟩ (Nat.lt_succ_self _)
    exact (callsIn_wide.1 this).mono fun e w' ⟨v', he, ρ', h1, h2⟩ => ⟨by cases h1; exact he, h2.below⟩
  · cases h
end Go.Sy

namespace Go.Proofs.YtebkccfnilcfpaaGreatDoor
open Go Go.Sy Go.RowKit
theorem told_h {FN : Fns} {K : RowsK} {T : Tolds} (hT : TOk FN T) {f : FuncId} {args : List Value} {F0 : List (Value × Bool)}
    (h : ∀ t1 t2 t3 t4, okT ((cfgH FN K T F0).orcG f args (heapOf 20 (vars t1 t2 t3 t4))) = true) {E : Env} (hE : FactsOk E F0) (hF : E.fns = FN) (hR : E.rows = K.r) {args' : Array Value}
    (ha : ∀ ρ : Rho, ρ.env = E → VRs ρ args args'.toList) {w : World} (hs : Wld w) (hrow : ∀ r ∈ K.s, RowIn K.r w.heap.size w r) :
    Calls Tryz.prog f args' w fun e w' => e = .returned (.bool true) ∧ Below w.heap.size w w' := by
  obtain ⟨t1, t2, t3, t4, hw⟩ := hs.gv
  exact run_told (C := cfgH FN K T F0) (goodH hT (fun r hr => rowIn_v (hrow r hr)) t1 t2 t3 t4 F0) hE hF hR (h t1 t2 t3 t4) ha hw ⟨hs.x, hrow⟩
end Go.Proofs.YtebkccfnilcfpaaGreatDoor
