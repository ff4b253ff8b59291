/- Chapter 2's functions by numbers: one table that has them all. -/
import Derived.Test.YthpapjdjnnkdbaaGreatDoorMkC
import Derived.Test.YthpapjdjnnkdbaaGreatDoorDeI
namespace Go.Proofs.YthpapjdjnnkdbaaGreatDoor
set_option linter.unusedVariables false
set_option linter.unusedSimpArgs false
open Go Go.Sy

def fn2 : Fns where
  int i l := match i with
    | 121 => mkIv (n1 l)
    | 122 => mkCo (n1 l) (n2 l)
    | 123 => mkTo (n1 l) (n2 l)
    | 130 => chkOf (ruleOf l)
    | 133 => chkOf (ruleOf l)
    | 134 => lstOf (ruleOf l)
    | 143 => cmpN (n1 l, n2 l) (n3 l, n4 l)
    | 150 => chkList mayMonth cmpI (deI (v1 l))
    | 151 => chkList (mayNear 31) cmpI (deI (v1 l))
    | 152 => chkList (mayNth (mostOf (n1 l))) cmpN (deP (v2 l))
    | 153 => chkList (mayNear 366) cmpI (deI (v1 l))
    | _ => 0
  bool i l := match i with
    | 100 => (fewU (n2 l) (deI (v1 l))).isEmpty
    | 104 => decide (n2 l ∈ deI (v1 l))
    | 106 => decide ((n2 l, n3 l) ∈ deP (v1 l))
    | 108 => (deP (v1 l)).all fun x => decide (-100 ≤ x.1 ∧ x.1 ≤ 100 ∧ 0 ≤ x.2 ∧ x.2 ≤ 6)
    | 127 => (deP (v1 l)).all fun x => decide (0 ≤ x.2)
    | 131 => decide (0 < (ruleOf l).months.length + (ruleOf l).days.length + (ruleOf l).wds.length)
    | 140 => decide (deI (v1 l) = deI (v2 l))
    | 141 => decide (deP (v1 l) = deP (v2 l))
    | 142 => decide ((rule2 l).1 = (rule2 l).2)
    | _ => false
  str _ _ := ⟨#[]⟩
  val _ _ := .bool false
  lst i l := match i with
    | 101 => (fewU (n2 l) (deI (v1 l))).map (Value.int .i64)
    | 102 => (fewL (n2 l) (deI (v1 l))).map (Value.int .i64)
    | 103 => ((deI (v1 l)).mergeSort fun x y => decide (x ≤ y)).map (Value.int .i64)
    | 105 => (Lib.compact (deI (v1 l))).map (Value.int .i64)
    | 107 => cellsP ((deP (v1 l)).mergeSort fun a b => decide (¬ wdCmp b a < 0))
    | 110 => ((deI (v1 l)).map mkAF).map (Value.int .i64)
    | 111 => ((deI (v1 l)).map mkBF).map (Value.int .i64)
    | 112 => ((deI (v1 l)).map mkDF).map (Value.int .i64)
    | 113 => cellsP (wdsX (n2 l) (deP (v1 l)))
    | 120 => (mkMs (deI (v1 l))).map (Value.int .i64)
    | 124 => (mkDsL ((n1 l).tmod 4) (deI (v2 l))).map (Value.int .i64)
    | 125 => cellsP (mkWs (mkMost ((n1 l).tmod 4)) (deP (v2 l)))
    | 126 => (mkPs ((n1 l).tmod 4) (deI (v2 l)) (deI (v3 l)) (deP (v4 l)) (deI (v5 l))).map (Value.int .i64)
    | _ => []

theorem fn2_M : FnM fn2 where
  cont l x := by simp only [fn2, n2, v1, deI_ints]
  sort l := by simp only [fn2, v1, deI_ints]
  comp l := by simp only [fn2, v1, deI_ints]
  emp l m := by simp only [fn2, n2, v1, deI_ints]
  fewu l m := by simp only [fn2, n2, v1, deI_ints]
  few l m := by simp only [fn2, n2, v1, deI_ints]
  nn := ⟨fun l a b => by simp only [fn2, n2, n3, v1, deP_prs], fun l => by simp only [fn2, v1, deP_prs], fun l => by simp only [fn2, v1, deP_prs]⟩
  f110 l := by simp only [fn2, v1, deI_ints]
  f111 l := by simp only [fn2, v1, deI_ints]
  f112 l := by simp only [fn2, v1, deI_ints]
  f113 l m := by simp only [fn2, n2, v1, deP_prs]
  f121 n := rfl
  f122 a b := rfl
  f123 a b := rfl
  f120 l := by simp only [fn2, v1, deI_ints]
  f124 f l := by simp only [fn2, n1, v2, deI_ints]
  f125 f l := by simp only [fn2, n1, v2, deP_prs]
  f126 f ms ds ws ps := by simp only [fn2, n1, v2, v3, v4, v5, deI_ints, deP_prs]
  f127 l := by simp only [fn2, v1, deP_prs]

end Go.Proofs.YthpapjdjnnkdbaaGreatDoor
