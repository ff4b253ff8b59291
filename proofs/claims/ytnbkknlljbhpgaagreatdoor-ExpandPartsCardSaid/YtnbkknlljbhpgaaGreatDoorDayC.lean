/- Contracts of functions of whole numbers, as the evaluator is told them (printed by gen_ctr.py). -/
import Derived.Test.YtnbkknlljbhpgaaGreatDoorDay5
namespace Go.Proofs.YtnbkknlljbhpgaaGreatDoor
set_option linter.unusedVariables false
set_option linter.unusedSimpArgs false
open Go Go.Sy Go.RowKit

def dayC : Ctr where
  f := 18
  sorts := [some (.int .u32), some (.int .u8)]
  wants l := match l with
    | [n, e] => [(sv 31 [n, .int .u32 (0)], false), (sv 31 [.int .u32 (4294967295), n], false), (sv 31 [e, .int .u8 (0)], false), (sv 31 [.int .u8 (255), e], false)]
    | _ => []
  dec _ := none
  res _ l := sv 4 (.int .i64 47 :: l)

theorem dayC_ok {FN : Fns} (f0 : ∀ n e : Int, FN.int 47 [.int .u32 n, .int .u8 e] = dayI n e) : CtrOk FN dayC := by
  intro S args q hF hs hw _ ρ args' w g hv hd _
  obtain ⟨x0, x1, rfl⟩ := sorts2' hs
  simp only [dayC, sortsOk, Bool.and_true, Bool.and_eq_true, decide_eq_true_eq] at hs
  obtain ⟨y0, y1, rfl, v0, v1⟩ := vrs2_inv hv
  obtain ⟨n, rfl⟩ := HasS.of hs.1 v0
  obtain ⟨e, rfl⟩ := HasS.of hs.2 v1
  simp only [dayC, List.mem_cons, List.not_mem_nil, or_false, forall_eq_or_imp, forall_eq] at hw
  have b0 := holds_lt g hw.1 v0 (.int _ _)
  have b1 := holds_lt g hw.2.1 (.int _ _) v0
  have b2 := holds_lt g hw.2.2.1 v1 (.int _ _)
  have b3 := holds_lt g hw.2.2.2 (.int _ _) v1
  simp only [decide_eq_false_iff_not] at b0 b1 b2 b3
  exact (day_any n e w hd (by omega) (by omega) (by omega) (by omega)).mono fun e w' ⟨he, hb⟩ => ⟨_, he, (sv_vr (VRs.cons (.int _ _) (vr2 v0 v1)) (by simp only [interp, g.fns, hF, Int.reduceToNat, f0])), hb⟩

end Go.Proofs.YtnbkknlljbhpgaaGreatDoor
