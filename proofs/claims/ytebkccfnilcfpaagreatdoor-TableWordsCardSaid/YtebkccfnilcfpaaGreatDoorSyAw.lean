/- Chapters' fixed facts: what is asked of them; that of chapter 3. -/
import Derived.Test.YtebkccfnilcfpaaGreatDoorSyCtr
namespace Go.Proofs.YtebkccfnilcfpaaGreatDoor
set_option linter.unusedVariables false
set_option linter.unusedSimpArgs false
open Go Go.Sy Go.RowKit

/-- A function without arguments that returns true. -/
def awC (f : FuncId) : Ctr := ⟨f, [], fun _ => [], fun _ => none, fun _ _ => .bool true⟩

def AwIs (f : FuncId) : Prop := ∀ w, Wld w → Calls Tryz.prog f #[] w fun e w' => e = .returned (.bool true) ∧ Below w.heap.size w w'

theorem awC_ok {f : FuncId} (h : AwIs f) (FN : Fns) : CtrOk FN (awC f) := by
  intro S args q _ hs _ _ ρ args' w g hvs hw _
  have : args = [] := by
    cases args with
    | nil => rfl
    | cons => simp [awC, sortsOk] at hs
  subst this
  have : args' = #[] := by
    have := hvs.nil_inv
    cases args'; simp_all
  subst this
  exact (h w hw).mono fun e w' ⟨he, hb⟩ => ⟨_, he, .bool true, hb⟩

theorem aw_any {cs : List Ctr} (hc : ∀ c ∈ cs, CtrOk fns0 c) {f : FuncId} (h : ∀ t1 t2 t3 t4, okT (arun (cfgS fns0 noRows cs [] []) 1000 f [] (heapOf 20 (vars t1 t2 t3 t4))) = true) : AwIs f := by
  intro w hs
  obtain ⟨t1, t2, t3, t4, hw⟩ := hs.gv
  exact run_true (C := cfgS fns0 noRows cs [] []) (goodS hc (by intro c h; cases h) (fun r hr => by cases hr) t1 t2 t3 t4 []) rfl (h t1 t2 t3 t4) rfl hw ⟨hs.x, fun r hr => by cases hr⟩

theorem aw_one {f : FuncId} (h : AwIs f) : ∀ c ∈ [awC f], CtrOk fns0 c := fun c hc => by
  simp only [List.mem_cons, List.not_mem_nil, or_false] at hc
  subst hc
  exact awC_ok h fns0

theorem aw3 : AwIs 75 := aw_any (cs := []) (by simp) fun _ _ _ _ => by kernel_rfl
theorem aw4 : AwIs 62 := aw_any (aw_one aw3) fun _ _ _ _ => by kernel_rfl
end Go.Proofs.YtebkccfnilcfpaaGreatDoor
