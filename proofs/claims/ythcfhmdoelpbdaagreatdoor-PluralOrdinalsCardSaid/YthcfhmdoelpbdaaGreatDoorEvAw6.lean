/- Chapters' fixed facts, each behind the one before. -/
import Derived.Test.YthcfhmdoelpbdaaGreatDoorEvAw3
namespace Go.Proofs.YthcfhmdoelpbdaaGreatDoor
set_option linter.unusedVariables false
set_option linter.unusedSimpArgs false
open Go Go.Ev Go.RowKit

def factC : List Value → Option Value
  | [] => some (.bool true)
  | _ => none

/-- The evaluator, told that one function returns true. -/
noncomputable def cfgA (aw : FuncId) : Cfg := { P := Tryz.prog, NG := 20, orc := fun f l => cond (Nat.beq f aw) (factC l) (orcC f l), ext := extC }

/-- A fixed fact. -/
def Awake (aw : FuncId) (l : List Gv) : Prop := ∀ w, (∀ x ∈ l, GvOk w x) → HasMax w.heap.size w → Calls Tryz.prog aw #[] w fun e w' => e = .returned (.bool true) ∧ Below w.heap.size w w'

theorem goodA {l : List Gv} {aw : FuncId} (hl : ∀ x ∈ l, x.1 < 20 ∧ x.2.2.all (flat 40) = true) (h : Awake aw l) : Go.Ev.Good (cfgA aw) l HasMax := by
  have g := good hl
  refine ⟨g.keepX, g.mixed, hl, fun f args v hv => ?_, g.ext⟩
  have hv' : cond (Nat.beq f aw) (factC args) (orcC f args) = some v := hv
  cases hq : Nat.beq f aw with
  | false => rw [hq] at hv'; exact g.orc f args v hv'
  | true =>
    rw [hq] at hv'
    have := Nat.eq_of_beq_eq_true hq
    subst this
    simp only [cond_true] at hv'
    unfold factC at hv'
    split at hv'
    · cases hv'
      exact ⟨rfl, rfl, fun w base hw hX hb => h w hw ⟨Nat.lt_of_lt_of_le hX.1 hb, hX.2⟩⟩
    · cases hv'

theorem vars_ok (t1 t2 t3 t4 : TypeId) : ∀ x ∈ vars t1 t2 t3 t4, x.1 < 20 ∧ x.2.2.all (flat 40) = true := by
  intro x hx
  simp only [vars, List.mem_cons, List.not_mem_nil, or_false] at hx
  rcases hx with rfl | rfl | rfl | rfl
  · exact ⟨by simp, by kernel_rfl⟩
  · exact ⟨by simp, by kernel_rfl⟩
  · exact ⟨by simp, by kernel_rfl⟩
  · exact ⟨by simp, by kernel_rfl⟩

theorem awk3 (t1 t2 t3 t4 : TypeId) : Awake 89 (vars t1 t2 t3 t4) := fun w hw hX => run_true (good (vars_ok t1 t2 t3 t4)) (awk3_run t1 t2 t3 t4) rfl hw hX

theorem awk4_run (t1 t2 t3 t4 : TypeId) : okT (arun (cfgA 89) 1000 73 [] (heapOf 20 (vars t1 t2 t3 t4))) = true := by kernel_rfl
theorem awk4 (t1 t2 t3 t4 : TypeId) : Awake 73 (vars t1 t2 t3 t4) := fun w hw hX => run_true (goodA (vars_ok t1 t2 t3 t4) (awk3 t1 t2 t3 t4)) (awk4_run t1 t2 t3 t4) rfl hw hX
end Go.Proofs.YthcfhmdoelpbdaaGreatDoor
