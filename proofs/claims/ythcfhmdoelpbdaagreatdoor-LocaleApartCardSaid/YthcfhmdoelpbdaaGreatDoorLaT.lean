/- LocaleApart: its decisions. -/
import Derived.Test.YthcfhmdoelpbdaaGreatDoorAw9
namespace Go.Proofs.YthcfhmdoelpbdaaGreatDoor
set_option linter.unusedVariables false
set_option linter.unusedSimpArgs false
open Go Go.Sy Go.RowKit

def laN (i : Int) : Value := sv 32 [sv 24 [.int .u8 0, sv 0 [.int .u8 0], .int .u8 4], .int .u8 i]
def laC (i : Int) : Value := sv 32 [sv 14 [.int .i64 0, sv 24 [.int .u8 0, sv 0 [.int .u8 1], .int .u8 15]], .int .i64 i]
def laL : Tree := .leaf (.bool true)
def laT1 : Tree := (.node (laC 0) laL (.node (laC 1) laL (.node (laC 2) laL (.node (laC 3) laL (.node (laC 4) laL (.node (laC 5) laL (.node (laC 6) laL (.node (laC 7) laL (.node (laC 8) laL (.node (laC 9) laL (.node (laC 10) laL (.node (laC 11) laL (.node (laC 12) laL (.node (laC 13) laL (.need (laC 14) true laL)))))))))))))))
def laT : Tree := .node (laN 0) laT1 (.node (laN 1) laT1 (.node (laN 2) laT1 (.need (laN 3) true laT1)))
noncomputable def laRun (t1 t2 t3 t4 t5 : TypeId) (F : List (Value × Bool)) : Option Value := (arun (cfg8 fns0 [awC 28] langs F) 1000 11 [sv 0 [.int .u8 0], sv 0 [.int .u8 1]] (heapOf 20 (vars8 t1 t2 t3 t4 t5))).map (·.1)
theorem okT_node {run : List (Value × Bool) → Option Value} {e : Value} {t f : Tree} {F : List (Value × Bool)} (h1 : t.ok run ((e, true) :: F) = true) (h2 : f.ok run ((e, false) :: F) = true) : (Tree.node e t f).ok run F = true := by
  simp only [Tree.ok, h1, h2, Bool.and_self]
theorem okT_need {run : List (Value × Bool) → Option Value} {e : Value} {b : Bool} {t : Tree} {F : List (Value × Bool)} (h1 : t.ok run ((e, b) :: F) = true) : (Tree.need e b t).ok run F = true := h1
def laFN : Nat → List (Value × Bool)
  | 0 => [(laN 0, true)] | 1 => [(laN 1, true), (laN 0, false)] | 2 => [(laN 2, true), (laN 1, false), (laN 0, false)] | _ => [(laN 3, true), (laN 2, false), (laN 1, false), (laN 0, false)]
def laFC : Nat → List (Value × Bool) → List (Value × Bool)
  | 0, F => F
  | k + 1, F => (laC k, false) :: laFC k F
end Go.Proofs.YthcfhmdoelpbdaaGreatDoor
