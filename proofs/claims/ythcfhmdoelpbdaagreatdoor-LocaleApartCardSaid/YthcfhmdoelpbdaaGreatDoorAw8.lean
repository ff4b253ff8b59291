/- Chapter 8's fixed fact. -/
import Derived.Test.YthcfhmdoelpbdaaGreatDoorSyCtr8
namespace Go.Proofs.YthcfhmdoelpbdaaGreatDoor
set_option linter.unusedVariables false
set_option linter.unusedSimpArgs false
open Go Go.Sy Go.RowKit
theorem aw8 : AwIs8 22 := aw_any8 (hs := []) (aw_one8 aw7') (by intro c h; cases h) fun _ _ _ _ _ => by kernel_rfl
end Go.Proofs.YthcfhmdoelpbdaaGreatDoor
