/- The heap that the laid variables leave meets the rows' condition on them. -/
import Derived.Test.YthpapjdjnnkdbaaGreatDoorRows
import Derived.ProofKit
import Derived.Lay
import Derived.Stop.Joined
import Derived.LaidMore
import Derived.LaidLaws
namespace Go.Proofs.YthpapjdjnnkdbaaGreatDoor
theorem door_met4 (os : Os) (args : Array Value) : laidMet Tryz.prog [("math/bits.deBruijn32tab", Rows.laid_math_bits_deBruijn32tab), ("math/bits.deBruijn64tab", Rows.laid_math_bits_deBruijn64tab), ("internal/strconv.uint64pow10", Rows.laid_internal_strconv_uint64pow10), ("kalends/civil.months", Rows.laid_kalends_civil_months)] ((World.laidAll Tryz.prog os [("math/bits.deBruijn32tab", Rows.laid_math_bits_deBruijn32tab), ("math/bits.deBruijn64tab", Rows.laid_math_bits_deBruijn64tab), ("internal/strconv.uint64pow10", Rows.laid_internal_strconv_uint64pow10), ("kalends/civil.months", Rows.laid_kalends_civil_months)]).forCall (fun _ _ => 0) ⟨#[], args, []⟩).memory :=
  laidMet_laidAll _ (by kernel_rfl) (by kernel_rfl)
end Go.Proofs.YthpapjdjnnkdbaaGreatDoor
