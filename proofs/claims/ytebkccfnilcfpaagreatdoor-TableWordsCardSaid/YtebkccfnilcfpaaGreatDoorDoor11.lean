/- The heap that the laid variables leave meets the rows' condition on them. -/
import Derived.Test.YtebkccfnilcfpaaGreatDoorRows
import Derived.ProofKit
import Derived.Lay
import Derived.Stop.Joined
import Derived.LaidMore
import Derived.LaidLaws
namespace Go.Proofs.YtebkccfnilcfpaaGreatDoor
theorem door_met11 (os : Os) (args : Array Value) : laidMet Tryz.prog [("math/bits.deBruijn32tab", Rows.laid_math_bits_deBruijn32tab), ("math/bits.deBruijn64tab", Rows.laid_math_bits_deBruijn64tab), ("internal/strconv.uint64pow10", Rows.laid_internal_strconv_uint64pow10), ("unicode/utf8.acceptRanges", Rows.laid_unicode_utf8_acceptRanges), ("strconv.ErrRange", Rows.laid_strconv_ErrRange), ("strconv.ErrSyntax", Rows.laid_strconv_ErrSyntax), ("kalends/civil.months", Rows.laid_kalends_civil_months), ("kalends/rfc.freqs", Rows.laid_kalends_rfc_freqs), ("kalends/rfc.weekdays", Rows.laid_kalends_rfc_weekdays), ("kalends/table.many", Rows.laid_kalends_table_many), ("unicode/utf8.first", Rows.laid_unicode_utf8_first)] ((World.laidAll Tryz.prog os [("math/bits.deBruijn32tab", Rows.laid_math_bits_deBruijn32tab), ("math/bits.deBruijn64tab", Rows.laid_math_bits_deBruijn64tab), ("internal/strconv.uint64pow10", Rows.laid_internal_strconv_uint64pow10), ("unicode/utf8.acceptRanges", Rows.laid_unicode_utf8_acceptRanges), ("strconv.ErrRange", Rows.laid_strconv_ErrRange), ("strconv.ErrSyntax", Rows.laid_strconv_ErrSyntax), ("kalends/civil.months", Rows.laid_kalends_civil_months), ("kalends/rfc.freqs", Rows.laid_kalends_rfc_freqs), ("kalends/rfc.weekdays", Rows.laid_kalends_rfc_weekdays), ("kalends/table.many", Rows.laid_kalends_table_many), ("unicode/utf8.first", Rows.laid_unicode_utf8_first)]).forCall (fun _ _ => 0) ⟨#[], args, []⟩).memory :=
  laidMet_laidAll _ (by kernel_rfl) (by kernel_rfl)
end Go.Proofs.YtebkccfnilcfpaaGreatDoor
