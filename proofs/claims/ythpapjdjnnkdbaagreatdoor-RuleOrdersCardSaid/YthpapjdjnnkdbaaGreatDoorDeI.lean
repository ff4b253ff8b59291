/- Values of lists read back as lists; a rule out of its eight fields. -/
import Derived.Test.YthpapjdjnnkdbaaGreatDoorSyRow
import Derived.Test.YthpapjdjnnkdbaaGreatDoorRuleM
namespace Go.Proofs.YthpapjdjnnkdbaaGreatDoor
set_option linter.unusedVariables false
set_option linter.unusedSimpArgs false
open Go Go.Sy Go.RowKit

def deI : Value → List Int
  | .agg cs => cs.toList.filterMap fun v => match v with | .int _ n => some n | _ => none
  | _ => []
def pairUp : List Int → List (Int × Int)
  | a :: b :: r => (a, b) :: pairUp r
  | _ => []
def deP (v : Value) : List (Int × Int) := pairUp (deI v)

theorem deI_ints (k : IntKind) (l : List Int) : deI (ints k l) = l := by
  simp [deI, ints, List.filterMap_map, Function.comp_def]
theorem deP_prs (k k' : IntKind) (l : List (Int × Int)) : deP (prs k k' l) = l := by
  unfold deP
  have : deI (prs k k' l) = l.flatMap fun p => [p.1, p.2] := by
    simp only [deI, prs]
    induction l with
    | nil => rfl
    | cons x r ih => simp at ih ⊢; simp [ih]
  rw [this]
  clear this
  induction l with
  | nil => rfl
  | cons x r ih => simp [pairUp, ih]

def ruleOf : List Value → RuleD
  | [.int _ f, .int _ i, .int _ c, .int _ u, m, d, w, p] => ⟨f, i, c, u, deI m, deI d, deP w, deI p⟩
  | _ => ⟨0, 0, 0, 0, [], [], [], []⟩
def rule2 : List Value → RuleD × RuleD
  | [.int _ a0, .int _ a1, .int _ a2, .int _ a3, .int _ b0, .int _ b1, .int _ b2, .int _ b3, m, d, w, p, m', d', w', p'] => (⟨a0, a1, a2, a3, deI m, deI d, deP w, deI p⟩, ⟨b0, b1, b2, b3, deI m', deI d', deP w', deI p'⟩)
  | _ => (⟨0, 0, 0, 0, [], [], [], []⟩, ⟨0, 0, 0, 0, [], [], [], []⟩)
def n1 : List Value → Int
  | .int _ a :: _ => a
  | _ => 0
def n2 : List Value → Int
  | _ :: .int _ a :: _ => a
  | _ => 0
def n3 : List Value → Int
  | _ :: _ :: .int _ a :: _ => a
  | _ => 0
def n4 : List Value → Int
  | _ :: _ :: _ :: .int _ a :: _ => a
  | _ => 0
def v1 : List Value → Value
  | a :: _ => a
  | _ => undef
def v2 : List Value → Value
  | _ :: a :: _ => a
  | _ => undef
def v3 : List Value → Value
  | _ :: _ :: a :: _ => a
  | _ => undef
def v4 : List Value → Value
  | _ :: _ :: _ :: a :: _ => a
  | _ => undef
def v5 : List Value → Value
  | _ :: _ :: _ :: _ :: a :: _ => a
  | _ => undef
end Go.Proofs.YthpapjdjnnkdbaaGreatDoor
