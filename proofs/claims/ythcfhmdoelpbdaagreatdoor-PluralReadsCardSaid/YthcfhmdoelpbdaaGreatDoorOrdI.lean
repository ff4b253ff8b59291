/- Unlike numbers have unlike ordinals. -/
import Derived.Test.YthcfhmdoelpbdaaGreatDoorReadO
namespace Go.Proofs.YthcfhmdoelpbdaaGreatDoor
set_option linter.unusedVariables false
set_option linter.unusedSimpArgs false
open Go.RowKit Go.Proofs

theorem Lead.unique {T : ByteArray} {p q : Nat} (h : Lead T p) (g : Lead T q) : p = q := by
  have hp := h.le
  have gp := g.le
  rcases Nat.lt_trichotomy p q with hlt | e | hlt
  · have hl : p < T.size := by omega
    have := g.dig p hl hlt
    have := h.stop hl
    omega
  · exact e
  · have hl : q < T.size := by omega
    have := h.dig q hl hlt
    have := g.stop hl
    omega

theorem ordT_inj {k l x y : Int} (hx : 0 ≤ x) (hy : 0 ≤ y) (h : ordT k x = ordT l y) : x = y := by
  have h1 := lead_ord k x hx
  have h2 := lead_ord l y hy
  rw [h] at h1
  have e := h1.unique h2
  have e2 : digT x = digT y := by rw [← extract_ord k x, ← extract_ord l y, h, e]
  obtain ⟨u, rfl⟩ := Int.eq_ofNat_of_zero_le hx
  obtain ⟨v, rfl⟩ := Int.eq_ofNat_of_zero_le hy
  have e3 : Lib.decDigits u = Lib.decDigits v := by
    have := congrArg (·.data.toList) e2
    simpa [digT, Lib.itoa_nonneg] using this
  have a1 := atoi_digits u
  rw [e3, atoi_digits v] at a1
  exact (Option.some.inj a1).symm
end Go.Proofs.YthcfhmdoelpbdaaGreatDoor
