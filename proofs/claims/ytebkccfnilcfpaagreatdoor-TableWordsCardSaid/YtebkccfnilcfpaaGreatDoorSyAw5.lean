/- Chapter 5's fixed fact. -/
import Derived.Test.YtebkccfnilcfpaaGreatDoorSyAw
namespace Go.Proofs.YtebkccfnilcfpaaGreatDoor
set_option linter.unusedVariables false
set_option linter.unusedSimpArgs false
open Go Go.Sy Go.RowKit
theorem aw5 : AwIs 47 := aw_any (aw_one aw4) fun _ _ _ _ => by kernel_rfl
end Go.Proofs.YtebkccfnilcfpaaGreatDoor
