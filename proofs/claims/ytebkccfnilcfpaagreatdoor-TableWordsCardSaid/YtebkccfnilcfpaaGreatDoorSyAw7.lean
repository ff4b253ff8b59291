/- Chapters 6's and 7's fixed facts. -/
import Derived.Test.YtebkccfnilcfpaaGreatDoorSyAw5
namespace Go.Proofs.YtebkccfnilcfpaaGreatDoor
set_option linter.unusedVariables false
set_option linter.unusedSimpArgs false
open Go Go.Sy Go.RowKit
theorem aw6 : AwIs 31 := aw_any (aw_one aw5) fun _ _ _ _ => by kernel_rfl
theorem aw7 : AwIs 11 := aw_any (aw_one aw6) fun _ _ _ _ => by kernel_rfl
theorem awake7_any (w : World) (h : Wld w) : Calls Tryz.prog 11 #[] w fun e w' => e = .returned (.bool true) ∧ Below w.heap.size w w' := aw7 w h
end Go.Proofs.YtebkccfnilcfpaaGreatDoor
