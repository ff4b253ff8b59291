/- Chapter 5's fixed fact. -/
import Derived.Test.YthcfhmdoelpbdaaGreatDoorEvAw6
namespace Go.Proofs.YthcfhmdoelpbdaaGreatDoor
set_option linter.unusedVariables false
set_option linter.unusedSimpArgs false
open Go Go.Ev Go.RowKit
theorem awk5_run (t1 t2 t3 t4 : TypeId) : okT (arun (cfgA 73) 1000 52 [] (heapOf 20 (vars t1 t2 t3 t4))) = true := by kernel_rfl
theorem awk5 (t1 t2 t3 t4 : TypeId) : Awake 52 (vars t1 t2 t3 t4) := fun w hw hX => run_true (goodA (vars_ok t1 t2 t3 t4) (awk4 t1 t2 t3 t4)) (awk5_run t1 t2 t3 t4) rfl hw hX
end Go.Proofs.YthcfhmdoelpbdaaGreatDoor
