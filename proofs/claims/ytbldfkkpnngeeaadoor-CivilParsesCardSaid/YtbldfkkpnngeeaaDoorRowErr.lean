/- The listed errors of strconv give what Atoi's contract asks. -/
import Derived.Test.YtbldfkkpnngeeaaDoorRowKit
import Derived.Test.YtbldfkkpnngeeaaDoorCivP
namespace Go.Proofs.YtbldfkkpnngeeaaDoor
open Go.ChangeShapes Go.WideShapes Go.ChangeAt Go.RowKit

theorem errStd_of_laid {W : World} {l : List (String × DataW Unit)} (h : laidMet Tryd.prog l W) (h1 : ("strconv.ErrSyntax", Rows.laid_strconv_ErrSyntax) ∈ l) : ErrStd W := by
  obtain ⟨ps, hv, _⟩ := h
  obtain ⟨g, t, cs, fuel, p, hg, ht, hvar, hd⟩ := laidVars_mem hv h1
  have hg' : Tryd.prog.globalNamed "strconv.ErrSyntax" = some 1 := by kernel_rfl
  have ht' : (Tryd.prog.globals[1]?).map (·.type) = some 79 := by kernel_rfl
  obtain rfl := Option.some.inj (hg'.symm.trans hg)
  obtain rfl := Option.some.inj (ht'.symm.trans ht)
  obtain ⟨_, u, v, hcs, _, _⟩ := iface_of_trod Tryd.underlying79 hd
  have hc := World.var?_cell hg' hvar 0
  rw [Array.eq_one_of_toList hcs] at hc
  exact ⟨_, by simpa using hc, .inr ⟨u, v, rfl⟩⟩
end Go.Proofs.YtbldfkkpnngeeaaDoor
