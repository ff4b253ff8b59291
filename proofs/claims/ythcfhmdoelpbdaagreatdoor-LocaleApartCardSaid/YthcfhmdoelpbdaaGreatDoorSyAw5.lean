/- Chapter 5's fixed fact. -/
import Derived.Test.YthcfhmdoelpbdaaGreatDoorSyAw
namespace Go.Proofs.YthcfhmdoelpbdaaGreatDoor
set_option linter.unusedVariables false
set_option linter.unusedSimpArgs false
open Go Go.Sy Go.RowKit
theorem aw5 : AwIs 52 := aw_any (aw_one aw4) fun _ _ _ _ => by kernel_rfl
end Go.Proofs.YthcfhmdoelpbdaaGreatDoor
