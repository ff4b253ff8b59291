/- TableWords: the law's runs: a key that is there, each; keys that are not. -/
import Derived.Test.YtebkccfnilcfpaaGreatDoorTblK
namespace Go.Proofs.YtebkccfnilcfpaaGreatDoor
set_option linter.unusedVariables false
set_option linter.unusedSimpArgs false
open Go Go.Sy Go.RowKit

def eC : Value := sv 14 [.int .i64 0, sv 0 [.int .i8 2]]
def eV : Value := sv 14 [.int .i64 0, sv 0 [.int .i8 3]]
def eN : Value := sv 14 [.int .i64 0, sv 0 [.int .u16 4]]
def eF : Value := sv 4 [.int .i64 3, sv 14 [.int .i64 0, sv 24 [.int .u8 0, sv 0 [.int .u8 0], .int .u8 3]], eN]
def keysA : List (Int × Int) := [(0, 0), (1, 0), (5, 0), (6, 0), (7, 0), (8, 0), (9, 0), (10, 0), (11, 0)]
def keysB : List (Int × Int) := [(3, 0), (3, 1), (3, 2), (3, 3), (4, 0), (4, 1), (4, 2), (4, 3), (14, 0), (14, 1), (14, 2), (14, 3), (14, 4), (14, 5), (14, 6)]
def keysC : List (Int × Int) := [(13, 0), (13, 1), (13, 2), (13, 3), (13, 4), (13, 5), (13, 6), (13, 7), (13, 8), (13, 9), (13, 10), (13, 11)]
def keysU : List (Int × Int) := [(2, 0), (2, 1), (2, 2), (2, 3), (12, 0)]
def keysL : List (Int × Int) := keysA ++ keysB ++ keysC
def keysW : List (Int × Int) := keysL ++ keysU

def nF : List (Value × Bool) := [(sv 31 [eN, .int .i64 0], false), (sv 31 [.int .i64 1000000000000, eN], false), (sv 31 [eF, .int .i64 0], false)]
def hitF (k : Int × Int) : List (Value × Bool) := (sv 32 [eC, .int .i64 k.1], true) :: (sv 32 [eV, .int .i64 k.2], true) :: nF
def hitU (k : Int × Int) (j : Int) : List (Value × Bool) := (sv 32 [eF, .int .i64 j], true) :: hitF k
def missF (a : Int) : List (Value × Bool) := (sv 32 [eC, .int .i64 a], true) :: (keysW.map fun k => (sv 33 [.int .i64 a, .int .i64 k.1, eV, .int .i64 k.2], false)) ++ nF
def outF (p q : Bool) : List (Value × Bool) := (keysW.map fun k => (sv 33 [eC, .int .i64 k.1, eV, .int .i64 k.2], false)) ++ ([0, 1, 2, 3, 4, 5, 6, 7, 8, 9, 10, 11, 12, 13, 14].map fun a => (sv 30 [eC, .int .i64 a], false)) ++ (sv 31 [eC, .int .i64 0], p) :: (sv 31 [eC, .int .i64 19], q) :: nF

def csW : List Ctr := [awC 14, frmC 24, frmC 18]
noncomputable def runW (t1 t2 t3 t4 t5 : TypeId) (F : List (Value × Bool)) : Bool :=
  (Tree.leaf (.bool true)).ok (fun F => (arun (cfg8 fnK csW [whoK] F) 1000 5 [sv 0 [.int .u8 0], sv 0 [.int .u8 1], sv 0 [.int .i8 2], sv 0 [.int .i8 3], sv 0 [.int .u16 4]] (heapOf 20 (vars8 t1 t2 t3 t4 t5))).map (·.1)) F

theorem runA (t1 t2 t3 t4 t5 : TypeId) : (keysA.all fun k => runW t1 t2 t3 t4 t5 (hitF k)) = true := by kernel_rfl
theorem runB (t1 t2 t3 t4 t5 : TypeId) : (keysB.all fun k => runW t1 t2 t3 t4 t5 (hitF k)) = true := by kernel_rfl
theorem runC (t1 t2 t3 t4 t5 : TypeId) : (keysC.all fun k => runW t1 t2 t3 t4 t5 (hitF k)) = true := by kernel_rfl
theorem runU (t1 t2 t3 t4 t5 : TypeId) : (keysU.all fun k => [0, 1, 2].all fun j => runW t1 t2 t3 t4 t5 (hitU k j)) = true := by kernel_rfl
theorem runM (t1 t2 t3 t4 t5 : TypeId) : ([0, 1, 2, 3, 4, 5, 6, 7, 8, 9].all fun a => runW t1 t2 t3 t4 t5 (missF a)) = true := by kernel_rfl
theorem runN (t1 t2 t3 t4 t5 : TypeId) : ([10, 11, 12, 13, 14, 15, 16, 17, 18].all fun a => runW t1 t2 t3 t4 t5 (missF a)) = true := by kernel_rfl
theorem runO (t1 t2 t3 t4 t5 : TypeId) : (runW t1 t2 t3 t4 t5 (outF true true) && runW t1 t2 t3 t4 t5 (outF false false)) = true := by kernel_rfl
end Go.Proofs.YtebkccfnilcfpaaGreatDoor
