/- Contracts of functions of whole numbers, as the evaluator is told them (printed by gen_ctr.py). -/
import Derived.Test.YtnbkknlljbhpgaaGreatDoorPer5
namespace Go.Proofs.YtnbkknlljbhpgaaGreatDoor
set_option linter.unusedVariables false
set_option linter.unusedSimpArgs false
open Go Go.Sy Go.RowKit

def perC : Ctr where
  f := 20
  sorts := [some (.int .i64), some (.int .i64)]
  wants l := match l with
    | [_, n] => [(sv 31 [n, .int .i64 (1)], false), (sv 31 [.int .i64 (3652059), n], false)]
    | _ => []
  dec _ := none
  res _ l := .agg #[sv 4 (.int .i64 48 :: l), sv 4 (.int .i64 49 :: l)]

theorem perC_ok {FN : Fns} (f0 : ∀ f n : Int, FN.int 48 [.int .i64 f, .int .i64 n] = pFrom f n) (f1 : ∀ f n : Int, FN.int 49 [.int .i64 f, .int .i64 n] = pTo f n) : CtrOk FN perC := by
  intro S args q hF hs hw _ ρ args' w g hv hd _
  obtain ⟨x0, x1, rfl⟩ := sorts2' hs
  simp only [perC, sortsOk, Bool.and_true, Bool.and_eq_true, decide_eq_true_eq] at hs
  obtain ⟨y0, y1, rfl, v0, v1⟩ := vrs2_inv hv
  obtain ⟨f, rfl⟩ := HasS.of hs.1 v0
  obtain ⟨n, rfl⟩ := HasS.of hs.2 v1
  simp only [perC, List.mem_cons, List.not_mem_nil, or_false, forall_eq_or_imp, forall_eq] at hw
  have b0 := holds_lt g hw.1 v1 (.int _ _)
  have b1 := holds_lt g hw.2 (.int _ _) v1
  simp only [decide_eq_false_iff_not] at b0 b1
  exact (period_any f n w hd (by omega) (by omega)).mono fun e w' ⟨he, hb⟩ => ⟨_, he, VR.agg' (vr2 (sv_vr (VRs.cons (.int _ _) (vr2 v0 v1)) (by simp only [interp, g.fns, hF, Int.reduceToNat, f0])) (sv_vr (VRs.cons (.int _ _) (vr2 v0 v1)) (by simp only [interp, g.fns, hF, Int.reduceToNat, f1]))), hb⟩

def fromC : Ctr where
  f := 19
  sorts := [some (.int .i64), some (.int .i64)]
  wants l := match l with
    | [_, n] => [(sv 31 [n, .int .i64 (1)], false), (sv 31 [.int .i64 (3652059), n], false)]
    | _ => []
  dec _ := none
  res _ l := .tuple #[sv 4 (.int .i64 48 :: l), sv 4 (.int .i64 49 :: l)]

theorem fromC_ok {FN : Fns} (f0 : ∀ f n : Int, FN.int 48 [.int .i64 f, .int .i64 n] = pFrom f n) (f1 : ∀ f n : Int, FN.int 49 [.int .i64 f, .int .i64 n] = pTo f n) : CtrOk FN fromC := by
  intro S args q hF hs hw _ ρ args' w g hv hd _
  obtain ⟨x0, x1, rfl⟩ := sorts2' hs
  simp only [fromC, sortsOk, Bool.and_true, Bool.and_eq_true, decide_eq_true_eq] at hs
  obtain ⟨y0, y1, rfl, v0, v1⟩ := vrs2_inv hv
  obtain ⟨f, rfl⟩ := HasS.of hs.1 v0
  obtain ⟨n, rfl⟩ := HasS.of hs.2 v1
  simp only [fromC, List.mem_cons, List.not_mem_nil, or_false, forall_eq_or_imp, forall_eq] at hw
  have b0 := holds_lt g hw.1 v1 (.int _ _)
  have b1 := holds_lt g hw.2 (.int _ _) v1
  simp only [decide_eq_false_iff_not] at b0 b1
  exact (from_any f n w hd (by omega) (by omega)).mono fun e w' ⟨he, hb⟩ => ⟨_, he, VR.tuple' (vr2 (sv_vr (VRs.cons (.int _ _) (vr2 v0 v1)) (by simp only [interp, g.fns, hF, Int.reduceToNat, f0])) (sv_vr (VRs.cons (.int _ _) (vr2 v0 v1)) (by simp only [interp, g.fns, hF, Int.reduceToNat, f1]))), hb⟩

end Go.Proofs.YtnbkknlljbhpgaaGreatDoor
