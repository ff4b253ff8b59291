/- From a row's conditions to what the chapters' walks up to 9 ask of a world. -/
import Derived.Test.YthcfhmdoelpbdaaGreatDoorRowSh
import Derived.Test.YthcfhmdoelpbdaaGreatDoorSyCtr8
namespace Go.Proofs.YthcfhmdoelpbdaaGreatDoor
set_option linter.unusedVariables false
set_option linter.unusedSimpArgs false
open Go.ChangeShapes Go.WideShapes Go.ChangeAt Go.RowKit

theorem many_global : Tryz.prog.globalNamed "kalends/table.many" = some 0 := by kernel_rfl

theorem wld8_of_laid {W : World} {l : List (String × DataW Unit)} (h : laidMet Tryz.prog l W) (hsh : W.ShapedOpen Tryz.prog) (h1 : ("kalends/civil.months", Rows.laid_kalends_civil_months) ∈ l)
    (h2 : ("internal/strconv.uint64pow10", Rows.laid_internal_strconv_uint64pow10) ∈ l) (h3 : ("kalends/rfc.freqs", Rows.laid_kalends_rfc_freqs) ∈ l) (h4 : ("kalends/rfc.weekdays", Rows.laid_kalends_rfc_weekdays) ∈ l)
    (h5 : ("strconv.ErrSyntax", Rows.laid_strconv_ErrSyntax) ∈ l) (h6 : ("strconv.ErrRange", Rows.laid_strconv_ErrRange) ∈ l) (h7 : ("kalends/table.many", Rows.laid_kalends_table_many) ∈ l) : Wld8 W := by
  have m := tab_of_laid (k := .i64) (zs := [1, 1, 4, 4, 4, 1, 1, 1, 1, 1, 1, 1, 1, 12, 7, 0, 0, 0, 0]) (g := 0) (t := 79) (e := 3) (n := 19) h h7 (by kernel_rfl) (by kernel_rfl) (by kernel_rfl) (by kernel_rfl) (by kernel_rfl) (by kernel_rfl)
  have v := var_of many_global m
  exact ⟨wld_of_laid h hsh h1 h2 h3 h4 h5 h6, by simpa [vMany] using v⟩
end Go.Proofs.YthcfhmdoelpbdaaGreatDoor
