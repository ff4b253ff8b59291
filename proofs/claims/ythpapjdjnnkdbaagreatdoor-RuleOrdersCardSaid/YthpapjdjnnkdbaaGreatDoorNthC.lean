/- Contracts of slices.Contains, SortFunc at weekdays (told; proved in NthP). -/
import Derived.Test.YthpapjdjnnkdbaaGreatDoorFewF
namespace Go.Proofs.YthpapjdjnnkdbaaGreatDoor
set_option linter.unusedVariables false
set_option linter.unusedSimpArgs false
open Go Go.Sy Go.RowKit

def containsN : GCtr where
  f := 18
  open_ a := match a with
    | [r, .agg ⟨[x, y]⟩] => some [r, x, y]
    | _ => none
  sorts := [.row [.int .i64, .int .i64], .sc (.int .i64), .sc (.int .i64)]
  wants l := match l with
    | [s, _, _] => [(sv 31 [hlen [.int .i64, .int .i64] s, .int .i64 16777216], true)]
    | _ => [(.bool false, true)]
  dec _ := none
  val _ l _ := sv 5 (.int .i64 106 :: l)
  rows _ _ := []

def sortN : FCtr where
  f := 19
  nb := 1
  nl := 1
  args := [nmR 0, .func (.func 20) #[] #[]]
  objs := [.own [.int .i64, .int .i64] 23 0]
  srts := [none]
  wants := [(sv 31 [sv 74 [specL 0 0, .int .i64 2], .int .i64 1000001], true), (sv 5 [.int .i64 108, specL 0 0], true)]
  dec := none
  out _ := ⟨[.tuple #[]], [.own [.int .i64, .int .i64] 23 0], [sv 81 [.int .i64 107, specL 0 0]]⟩

def sortN0 : FCtr where
  f := 19
  nb := 0
  nl := 0
  args := [.slice none 0 0, .func (.func 20) #[] #[]]
  objs := []
  srts := []
  wants := []
  dec := none
  out _ := ⟨[.tuple #[]], [], []⟩

end Go.Proofs.YthpapjdjnnkdbaaGreatDoor
