/- Chapters' fixed facts, by the evaluator. -/
import Derived.Test.YthcfhmdoelpbdaaGreatDoorEvCfg
namespace Go.Proofs.YthcfhmdoelpbdaaGreatDoor
set_option linter.unusedVariables false
set_option linter.unusedSimpArgs false
open Go Go.Ev Go.RowKit

def bstr (l : List UInt8) : Value := .string ⟨l.toArray⟩
def vMonths : List Value := monthsTab.map fun z => Value.int .i64 z
def vPow : List Value := Lib.pow10Tab.map fun z => Value.int .u64 z
def vFreqs : List Value := [bstr [68,65,73,76,89], bstr [87,69,69,75,76,89], bstr [77,79,78,84,72,76,89], bstr [89,69,65,82,76,89]]
def vDays : List Value := [bstr [77,79], bstr [84,85], bstr [87,69], bstr [84,72], bstr [70,82], bstr [83,65], bstr [83,85]]

def vars (t1 t2 t3 t4 : TypeId) : List Gv := [(6, t1, vMonths), (7, t2, vPow), (8, t3, vFreqs), (9, t4, vDays)]

theorem awk1_run (t1 t2 t3 t4 : TypeId) : okT (arun cfg 1000 136 [] (heapOf 20 (vars t1 t2 t3 t4))) = true := by kernel_rfl
theorem awk3_run (t1 t2 t3 t4 : TypeId) : okT (arun cfg 1000 89 [] (heapOf 20 (vars t1 t2 t3 t4))) = true := by kernel_rfl
end Go.Proofs.YthcfhmdoelpbdaaGreatDoor
