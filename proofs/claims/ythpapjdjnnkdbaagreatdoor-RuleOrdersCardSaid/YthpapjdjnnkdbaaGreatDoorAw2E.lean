/- Chapter 2's Awake by the evaluator. -/
import Derived.Test.YthpapjdjnnkdbaaGreatDoorSyAw
namespace Go.Proofs.YthpapjdjnnkdbaaGreatDoor
set_option linter.unusedVariables false
set_option linter.unusedSimpArgs false
open Go Go.Sy
theorem aw2 : AwIs 4 := aw_any (cs := []) (by simp) fun _ _ _ _ => by kernel_rfl
end Go.Proofs.YthpapjdjnnkdbaaGreatDoor
