/- A slice of texts that came in, as one that is only read. -/
import Derived.Test.YtebkccfnilcfpaaGreatDoorOpenG
import Derived.Deep.Strs
namespace Go.Proofs.YtebkccfnilcfpaaGreatDoor
open Go Go.Sy Go.ChangeShapes Go.WideShapes Go.RowKit Go.Deep

section
variable {H : Type} {enc : TypeId × Value → H} {P : Program} {w : World} {base : Nat} {spare : Nat → Bool} {held : Bool}

theorem open_rowS {n0 : Nat} {t e : TypeId} {v : Value} {x : DataW H × List MemPlace} (ht : P.underlying t = some (.slice e)) (he : P.underlying e = some .string) (hc : P.cellsOf e = 1)
    (h : DataW.trod enc P w base spare held n0 t [v] = some x) : ∃ xs : List ByteArray, RowW w v [.str] (xs.map Value.string) ∧
      ((xs = [] ∧ x.1 = .nil) ∨ ∃ sp, x.1 = .slice (xs.map fun s => .lit (.string s.data.toList)) sp) := by
  rcases open_strs ht he hc h with ⟨hv, hx⟩ | ⟨a, len, cap, m, Sx, hv, _, hl, hmx, hm, hx, hcell⟩
  · injection hv with hv
    exact ⟨[], ⟨none, 0, 0, hv, rfl, by simp, fun h => by omega, Nat.le_refl _⟩, .inl ⟨rfl, by rw [hx]⟩⟩
  · injection hv with hv
    have hlm : len ≤ m := by rw [hm]; split <;> omega
    refine ⟨(List.range len).map Sx, ⟨some a, len, cap, hv, by simp, fun j v s h1 h2 => ?_, fun hn => ?_, hl⟩, .inr ⟨_, by rw [hx]; simp only [List.map_map]; rfl⟩⟩
    · have e1 : j % [Srt.str].length = 0 := by simp [Nat.mod_one]
      rw [e1] at h2
      simp only [List.getElem?_cons_zero, Option.some.injEq] at h2
      subst h2
      rw [List.getElem?_map] at h1
      cases hq : ((List.range len).map Sx)[j]? with
      | none => rw [hq] at h1; cases h1
      | some z => rw [hq] at h1; cases h1; exact ⟨_, rfl⟩
    · simp only [List.length_cons, List.length_nil, Nat.zero_add, Nat.mul_one]
      refine row_cells (w := w) hn (by simp) fun j hj => ?_
      rw [(hcell j (by omega)).1]
      simp [hj]
end

theorem rowW_lenS {w : World} {v : Value} {l : List ByteArray} (h : RowW w v [.str] (l.map Value.string)) : ∃ a c, v = .slice a l.length c := by
  obtain ⟨a, n, c, rfl, h2, _⟩ := h
  exact ⟨a, c, by simp at h2; rw [h2]⟩
end Go.Proofs.YtebkccfnilcfpaaGreatDoor
