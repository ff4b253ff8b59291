/- The walk of (kalendslaw02.R).Light. -/
import Derived.Test.YtbmdlcagaikdaaaDoorRuleC
namespace Go.Proofs.YtbmdlcagaikdaaaDoor
set_option linter.unusedVariables false
set_option linter.unusedSimpArgs false
open Go.RowKit Go.Proofs

def lightB (n1 n2 n3 n4 : Nat) : Bool := decide (n1 ≤ 20 ∧ n2 ≤ 20 ∧ n3 ≤ 20 ∧ n4 ≤ 20)

theorem light_any (f i e c u : Int) (A1 : Option Addr) (n1 c1 : Nat) (A2 : Option Addr) (n2 c2 : Nat) (A3 : Option Addr) (n3 c3 : Nat) (A4 : Option Addr) (n4 c4 : Nat) (w : World) :
    Calls Tryd.prog 11 #[.agg #[.int .u8 f, .int .u8 i, .int .u8 e, .int .u16 c, .int .u32 u, .slice A1 n1 c1, .slice A2 n2 c2, .slice A3 n3 c3, .slice A4 n4 c4]] w
      fun e w' => e = .returned (.bool (lightB n1 n2 n3 n4)) ∧ Below w.heap.size w w' := by
  by_cases h : n1 ≤ 20 ∧ n2 ≤ 20 ∧ n3 ≤ 20 ∧ n4 ≤ 20
  · have HR : Hid (lightB n1 n2 n3 n4 = true) := by show _ = _; rw [lightB, decide_eq_true_iff]; exact h
    obtain ⟨h1, h2, h3, h4⟩ := h
    go_enter Tryd.func11, Tryd.ntmps11
    go_wp2
    go_ret
    exact ⟨ret_bool (by first | (rw [HR.out]; done) | (rw [HR.out, decide_eq_true_iff]; omega) | (rw [HR.out, decide_eq_false_iff_not]; omega)), (by (repeat (first | exact Below.refl _ _ | assumption | refine Below.drew ?_ | refine below_drewN ?_ _ | refine Below.alloc ?_ (by first | exact Nat.le_refl _ | omega | (simp <;> omega)) _ | refine Below.setCell ?_ (by first | exact Nat.le_refl _ | omega | (simp <;> omega)) _)))⟩
  · have HR : Hid (lightB n1 n2 n3 n4 = false) := by show _ = _; rw [lightB, decide_eq_false_iff_not]; exact h
    have h' : 20 < n1 ∨ (n1 ≤ 20 ∧ 20 < n2) ∨ (n1 ≤ 20 ∧ n2 ≤ 20 ∧ 20 < n3) ∨ (n1 ≤ 20 ∧ n2 ≤ 20 ∧ n3 ≤ 20 ∧ 20 < n4) := by omega
    clear h
    rcases h' with h | ⟨h, h2⟩ | ⟨h, h2, h3⟩ | ⟨h, h2, h3, h4⟩
    all_goals
      go_enter Tryd.func11, Tryd.ntmps11
      go_wp2
      go_ret
      exact ⟨ret_bool (by first | (rw [HR.out]; done) | (rw [HR.out, decide_eq_true_iff]; omega) | (rw [HR.out, decide_eq_false_iff_not]; omega)), (by (repeat (first | exact Below.refl _ _ | assumption | refine Below.drew ?_ | refine below_drewN ?_ _ | refine Below.alloc ?_ (by first | exact Nat.le_refl _ | omega | (simp <;> omega)) _ | refine Below.setCell ?_ (by first | exact Nat.le_refl _ | omega | (simp <;> omega)) _)))⟩
end Go.Proofs.YtbmdlcagaikdaaaDoor
