/- What chapter 5's walks import. -/
import Derived.Test.YtnbkknlljbhpgaaGreatDoorCivC
import Derived.Test.YtnbkknlljbhpgaaGreatDoorSyAw5
namespace Go.Proofs.YtnbkknlljbhpgaaGreatDoor
set_option linter.unusedVariables false
set_option linter.unusedSimpArgs false
end Go.Proofs.YtnbkknlljbhpgaaGreatDoor
