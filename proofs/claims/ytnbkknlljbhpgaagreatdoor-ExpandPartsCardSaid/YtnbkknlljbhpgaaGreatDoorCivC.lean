/- Contracts of functions of whole numbers, as the evaluator is told them (printed by gen_ctr.py). -/
import Derived.Test.YtnbkknlljbhpgaaGreatDoorStdC
import Derived.Test.YtnbkknlljbhpgaaGreatDoorCivL
namespace Go.Proofs.YtnbkknlljbhpgaaGreatDoor
set_option linter.unusedVariables false
set_option linter.unusedSimpArgs false
open Go Go.Sy Go.RowKit

def longC : Ctr where
  f := 55
  sorts := [some (.int .i64), some (.int .i64)]
  wants l := match l with
    | [y, m] => [(sv 31 [y, .int .i64 (0)], false), (sv 31 [.int .i64 (1000000), y], false), (sv 31 [m, .int .i64 (-1000000)], false), (sv 31 [.int .i64 (1000000), m], false)]
    | _ => []
  dec _ := none
  res _ l := sv 4 (.int .i64 40 :: l)

theorem longC_ok {FN : Fns} (f0 : ∀ y m : Int, FN.int 40 [.int .i64 y, .int .i64 m] = longI y m) : CtrOk FN longC := by
  intro S args q hF hs hw _ ρ args' w g hv hd _
  obtain ⟨x0, x1, rfl⟩ := sorts2' hs
  simp only [longC, sortsOk, Bool.and_true, Bool.and_eq_true, decide_eq_true_eq] at hs
  obtain ⟨y0, y1, rfl, v0, v1⟩ := vrs2_inv hv
  obtain ⟨y, rfl⟩ := HasS.of hs.1 v0
  obtain ⟨m, rfl⟩ := HasS.of hs.2 v1
  simp only [longC, List.mem_cons, List.not_mem_nil, or_false, forall_eq_or_imp, forall_eq] at hw
  have b0 := holds_lt g hw.1 v0 (.int _ _)
  have b1 := holds_lt g hw.2.1 (.int _ _) v0
  have b2 := holds_lt g hw.2.2.1 v1 (.int _ _)
  have b3 := holds_lt g hw.2.2.2 (.int _ _) v1
  simp only [decide_eq_false_iff_not] at b0 b1 b2 b3
  exact (long_any y m w hd.std (by omega) (by omega) (by omega) (by omega)).mono fun e w' ⟨he, hb⟩ => ⟨_, he, (sv_vr (VRs.cons (.int _ _) (vr2 v0 v1)) (by simp only [interp, g.fns, hF, Int.reduceToNat, f0])), hb ▸ Below.refl _ _⟩

def longLC : Ctr where
  f := 51
  sorts := [some (.int .i64), some (.int .i64)]
  wants l := match l with
    | [y, _] => [(sv 31 [y, .int .i64 (0)], false), (sv 31 [.int .i64 (1000000), y], false)]
    | _ => []
  dec _ := none
  res _ l := sv 4 (.int .i64 40 :: l)

theorem longLC_ok {FN : Fns} (f0 : ∀ y m : Int, FN.int 40 [.int .i64 y, .int .i64 m] = longI y m) : CtrOk FN longLC := by
  intro S args q hF hs hw _ ρ args' w g hv hd _
  obtain ⟨x0, x1, rfl⟩ := sorts2' hs
  simp only [longLC, sortsOk, Bool.and_true, Bool.and_eq_true, decide_eq_true_eq] at hs
  obtain ⟨y0, y1, rfl, v0, v1⟩ := vrs2_inv hv
  obtain ⟨y, rfl⟩ := HasS.of hs.1 v0
  obtain ⟨m, rfl⟩ := HasS.of hs.2 v1
  simp only [longLC, List.mem_cons, List.not_mem_nil, or_false, forall_eq_or_imp, forall_eq] at hw
  have b0 := holds_lt g hw.1 v0 (.int _ _)
  have b1 := holds_lt g hw.2 (.int _ _) v0
  simp only [decide_eq_false_iff_not] at b0 b1
  exact (longL_any y m w (by omega) (by omega)).mono fun e w' ⟨he, hb⟩ => ⟨_, he, (sv_vr (VRs.cons (.int _ _) (vr2 v0 v1)) (by simp only [interp, g.fns, hF, Int.reduceToNat, f0])), hb ▸ Below.refl _ _⟩

def aheadC : Ctr where
  f := 86
  sorts := [some (.int .i64)]
  wants l := match l with
    | [y] => [(sv 31 [y, .int .i64 (1)], false), (sv 31 [.int .i64 (1000000), y], false)]
    | _ => []
  dec _ := none
  res _ l := sv 4 (.int .i64 41 :: l)

theorem aheadC_ok {FN : Fns} (f0 : ∀ y : Int, FN.int 41 [.int .i64 y] = aheadI y) : CtrOk FN aheadC := by
  intro S args q hF hs hw _ ρ args' w g hv hd _
  obtain ⟨x0, rfl⟩ := sorts1 hs
  simp only [aheadC, sortsOk, Bool.and_true, Bool.and_eq_true, decide_eq_true_eq] at hs
  obtain ⟨y0, rfl, v0⟩ := vrs1_inv hv
  obtain ⟨y, rfl⟩ := HasS.of hs v0
  simp only [aheadC, List.mem_cons, List.not_mem_nil, or_false, forall_eq_or_imp, forall_eq] at hw
  have b0 := holds_lt g hw.1 v0 (.int _ _)
  have b1 := holds_lt g hw.2 (.int _ _) v0
  simp only [decide_eq_false_iff_not] at b0 b1
  exact (ahead_any y w (by omega) (by omega) (by omega)).mono fun e w' ⟨he, hb⟩ => ⟨_, he, (sv_vr (VRs.cons (.int _ _) (vr1 v0)) (by simp only [interp, g.fns, hF, Int.reduceToNat, f0])), hb ▸ Below.refl _ _⟩

def aheadLC : Ctr where
  f := 52
  sorts := [some (.int .i64)]
  wants l := match l with
    | [y] => [(sv 31 [y, .int .i64 (1)], false), (sv 31 [.int .i64 (1000000), y], false)]
    | _ => []
  dec _ := none
  res _ l := sv 4 (.int .i64 41 :: l)

theorem aheadLC_ok {FN : Fns} (f0 : ∀ y : Int, FN.int 41 [.int .i64 y] = aheadI y) : CtrOk FN aheadLC := by
  intro S args q hF hs hw _ ρ args' w g hv hd _
  obtain ⟨x0, rfl⟩ := sorts1 hs
  simp only [aheadLC, sortsOk, Bool.and_true, Bool.and_eq_true, decide_eq_true_eq] at hs
  obtain ⟨y0, rfl, v0⟩ := vrs1_inv hv
  obtain ⟨y, rfl⟩ := HasS.of hs v0
  simp only [aheadLC, List.mem_cons, List.not_mem_nil, or_false, forall_eq_or_imp, forall_eq] at hw
  have b0 := holds_lt g hw.1 v0 (.int _ _)
  have b1 := holds_lt g hw.2 (.int _ _) v0
  simp only [decide_eq_false_iff_not] at b0 b1
  exact (aheadL_any y w (by omega) (by omega)).mono fun e w' ⟨he, hb⟩ => ⟨_, he, (sv_vr (VRs.cons (.int _ _) (vr1 v0)) (by simp only [interp, g.fns, hF, Int.reduceToNat, f0])), hb⟩

def dateC : Ctr where
  f := 53
  sorts := [some (.int .i64)]
  wants l := match l with
    | [n] => [(sv 31 [n, .int .i64 (1)], false), (sv 31 [.int .i64 (3652059), n], false)]
    | _ => []
  dec _ := none
  res _ l := .tuple #[sv 4 (.int .i64 42 :: l), sv 4 (.int .i64 43 :: l), sv 4 (.int .i64 44 :: l)]

theorem dateC_ok {FN : Fns} (f0 : ∀ n : Int, FN.int 42 [.int .i64 n] = yearI n) (f1 : ∀ n : Int, FN.int 43 [.int .i64 n] = monthI n) (f2 : ∀ n : Int, FN.int 44 [.int .i64 n] = mdayI n) : CtrOk FN dateC := by
  intro S args q hF hs hw _ ρ args' w g hv hd _
  obtain ⟨x0, rfl⟩ := sorts1 hs
  simp only [dateC, sortsOk, Bool.and_true, Bool.and_eq_true, decide_eq_true_eq] at hs
  obtain ⟨y0, rfl, v0⟩ := vrs1_inv hv
  obtain ⟨n, rfl⟩ := HasS.of hs v0
  simp only [dateC, List.mem_cons, List.not_mem_nil, or_false, forall_eq_or_imp, forall_eq] at hw
  have b0 := holds_lt g hw.1 v0 (.int _ _)
  have b1 := holds_lt g hw.2 (.int _ _) v0
  simp only [decide_eq_false_iff_not] at b0 b1
  exact (date_yes n w hd.std (decide_eq_true ⟨by omega, by omega⟩)).mono fun e w' ⟨he, hb⟩ => ⟨_, he, VR.tuple' (vr3 (sv_vr (VRs.cons (.int _ _) (vr1 v0)) (by simp only [interp, g.fns, hF, Int.reduceToNat, f0])) (sv_vr (VRs.cons (.int _ _) (vr1 v0)) (by simp only [interp, g.fns, hF, Int.reduceToNat, f1])) (sv_vr (VRs.cons (.int _ _) (vr1 v0)) (by simp only [interp, g.fns, hF, Int.reduceToNat, f2]))), hb ▸ Below.refl _ _⟩

def dateLC : Ctr where
  f := 50
  sorts := [some (.int .i64)]
  wants l := match l with
    | [n] => [(sv 31 [n, .int .i64 (1)], false), (sv 31 [.int .i64 (3652059), n], false)]
    | _ => []
  dec _ := none
  res _ l := .tuple #[sv 4 (.int .i64 42 :: l), sv 4 (.int .i64 43 :: l), sv 4 (.int .i64 44 :: l)]

theorem dateLC_ok {FN : Fns} (f0 : ∀ n : Int, FN.int 42 [.int .i64 n] = yearI n) (f1 : ∀ n : Int, FN.int 43 [.int .i64 n] = monthI n) (f2 : ∀ n : Int, FN.int 44 [.int .i64 n] = mdayI n) : CtrOk FN dateLC := by
  intro S args q hF hs hw _ ρ args' w g hv hd _
  obtain ⟨x0, rfl⟩ := sorts1 hs
  simp only [dateLC, sortsOk, Bool.and_true, Bool.and_eq_true, decide_eq_true_eq] at hs
  obtain ⟨y0, rfl, v0⟩ := vrs1_inv hv
  obtain ⟨n, rfl⟩ := HasS.of hs v0
  simp only [dateLC, List.mem_cons, List.not_mem_nil, or_false, forall_eq_or_imp, forall_eq] at hw
  have b0 := holds_lt g hw.1 v0 (.int _ _)
  have b1 := holds_lt g hw.2 (.int _ _) v0
  simp only [decide_eq_false_iff_not] at b0 b1
  exact (dateL_yes n w (decide_eq_true ⟨by omega, by omega⟩)).mono fun e w' ⟨he, hb⟩ => ⟨_, he, VR.tuple' (vr3 (sv_vr (VRs.cons (.int _ _) (vr1 v0)) (by simp only [interp, g.fns, hF, Int.reduceToNat, f0])) (sv_vr (VRs.cons (.int _ _) (vr1 v0)) (by simp only [interp, g.fns, hF, Int.reduceToNat, f1])) (sv_vr (VRs.cons (.int _ _) (vr1 v0)) (by simp only [interp, g.fns, hF, Int.reduceToNat, f2]))), hb⟩

def weekdayC : Ctr where
  f := 54
  sorts := [some (.int .i64)]
  wants l := match l with
    | [_] => []
    | _ => []
  dec _ := none
  res _ l := sv 4 (.int .i64 45 :: l)

theorem weekdayC_ok {FN : Fns} (f0 : ∀ n : Int, FN.int 45 [.int .i64 n] = wdI n) : CtrOk FN weekdayC := by
  intro S args q hF hs hw _ ρ args' w g hv hd _
  obtain ⟨x0, rfl⟩ := sorts1 hs
  simp only [weekdayC, sortsOk, Bool.and_true, Bool.and_eq_true, decide_eq_true_eq] at hs
  obtain ⟨y0, rfl, v0⟩ := vrs1_inv hv
  obtain ⟨n, rfl⟩ := HasS.of hs v0
  exact (weekday_any n w).mono fun e w' ⟨he, hb⟩ => ⟨_, he, (sv_vr (VRs.cons (.int _ _) (vr1 v0)) (by simp only [interp, g.fns, hF, Int.reduceToNat, f0])), hb ▸ Below.refl _ _⟩

def ofC : Ctr where
  f := 46
  sorts := [some (.int .i64), some (.int .i64), some (.int .i64)]
  wants l := match l with
    | [_, m, _] => [(sv 31 [m, .int .i64 (-1000000)], false), (sv 31 [.int .i64 (1000000), m], false)]
    | _ => []
  dec _ := none
  res _ l := .tuple #[sv 4 (.int .i64 46 :: l), sv 5 (.int .i64 46 :: l)]

theorem ofC_ok {FN : Fns} (f0 : ∀ y m d : Int, FN.int 46 [.int .i64 y, .int .i64 m, .int .i64 d] = ofI y m d) (f1 : ∀ y m d : Int, FN.bool 46 [.int .i64 y, .int .i64 m, .int .i64 d] = isDate y m d) : CtrOk FN ofC := by
  intro S args q hF hs hw _ ρ args' w g hv hd _
  obtain ⟨x0, x1, x2, rfl⟩ := sorts3 hs
  simp only [ofC, sortsOk, Bool.and_true, Bool.and_eq_true, decide_eq_true_eq] at hs
  obtain ⟨y0, y1, y2, rfl, v0, v1, v2⟩ := vrs3_inv hv
  obtain ⟨y, rfl⟩ := HasS.of hs.1 v0
  obtain ⟨m, rfl⟩ := HasS.of hs.2.1 v1
  obtain ⟨d, rfl⟩ := HasS.of hs.2.2 v2
  simp only [ofC, List.mem_cons, List.not_mem_nil, or_false, forall_eq_or_imp, forall_eq] at hw
  have b0 := holds_lt g hw.1 v1 (.int _ _)
  have b1 := holds_lt g hw.2 (.int _ _) v1
  simp only [decide_eq_false_iff_not] at b0 b1
  exact (of_any y m d w hd.std (by omega) (by omega)).mono fun e w' ⟨he, hb⟩ => ⟨_, he, VR.tuple' (vr2 (sv_vr (VRs.cons (.int _ _) (vr3 v0 v1 v2)) (by simp only [interp, g.fns, hF, Int.reduceToNat, f0])) (sv_vr (VRs.cons (.int _ _) (vr3 v0 v1 v2)) (by simp only [interp, g.fns, hF, Int.reduceToNat, f1]))), hb ▸ Below.refl _ _⟩

end Go.Proofs.YtnbkknlljbhpgaaGreatDoor
