/- The walk of PluralForms (printed by gen_law7a.py). -/
import Derived.Test.YthcfhmdoelpbdaaGreatDoorPluL
import Derived.Test.YthcfhmdoelpbdaaGreatDoorSyAw7
import Derived.OpenShut
import Derived.LoopN
namespace Go.Proofs.YthcfhmdoelpbdaaGreatDoor
set_option linter.unusedVariables false
set_option linter.unusedSimpArgs false
open Go.RowKit Go.Proofs

theorem cell_step {w w' : World} {b o : Nat} {x : Value} (h : w.cell? ⟨b, o, none⟩ = some x ∧ b < w.heap.size) (hb : Below w.heap.size w w') : w'.cell? ⟨b, o, none⟩ = some x ∧ b < w'.heap.size :=
  ⟨by rw [hb.cell (p := ⟨b, o, none⟩) h.2]; exact h.1, Nat.lt_of_lt_of_le h.2 hb.size⟩

theorem walk_PluralForms (a0 a1 : Int) (w0 : (Lit.int .u32 a0).wf = true) (w1 : (Lit.int .u8 a1).wf = true) (w : World) (hs : Wld w) :
    Calls Tryz.prog 3 #[.int .u32 a0, .int .u8 a1] w fun e w' => e = .returned (.bool true) ∧ Below w.heap.size w w' := by
  have b0 := bounds_u32 w0
  have b1 := bounds_u8 w1
  clear w0 w1
  go_enter Tryz.func3, Tryz.ntmps3
  go_wp2_with (go_at_call 13; refine (awake7_any _ hs).mono ?_; rintro e w1 ⟨rfl, hb⟩)
  have hs1 := hs.below hb
  have hA : Below w1.heap.size w1 (w1.alloc (.cells #[.int .i64 a0, .int .i64 a1] 3)) := Below.alloc (Below.refl _ _) (Nat.le_refl _) _
  have hs2 := hs1.below hA
  have hB2 : Below w.heap.size w (w1.alloc (.cells #[.int .i64 a0, .int .i64 a1] 3)) := hb.trans (hA.mono hb.size)
  have hc2 : (w1.alloc (.cells #[.int .i64 a0, .int .i64 a1] 3)).cell? ⟨w1.heap.size, 1, none⟩ = some (.int .i64 a1) ∧ w1.heap.size < (w1.alloc (.cells #[.int .i64 a0, .int .i64 a1] 3)).heap.size :=
    ⟨by unfold World.cell?; rw [show (w1.alloc (.cells #[.int .i64 a0, .int .i64 a1] 3)).heap[w1.heap.size]? = _ from heap_alloc_new w1 _]; rfl, by simp⟩
  refine wp_loop_rounds 3 ?_
  rw [rounds_succ]
  go_wp2_with fail
  refine wp_loop_rounds 4 ?_
  rw [rounds_succ]
  go_wp2_with fail
  refine (form_any _ _ _ (by omega) (by omega)).mono ?_
  rintro e wx ⟨rfl, rfl⟩
  go_wp2_with fail
  refine (lawform_any _ _ _ hs2.std (by omega) (by omega)).mono ?_
  rintro e w3 ⟨rfl, hb3⟩
  have hs3 := hs2.below hb3
  have hB3 := hB2.trans (hb3.mono hB2.size)
  have hc3 := cell_step hc2 hb3
  go_wp2_with fail
  rw [rounds_succ]
  go_wp2_with fail
  refine (form_any _ _ _ (by omega) (by omega)).mono ?_
  rintro e wx ⟨rfl, rfl⟩
  go_wp2_with fail
  refine (lawform_any _ _ _ hs3.std (by omega) (by omega)).mono ?_
  rintro e w4 ⟨rfl, hb4⟩
  have hs4 := hs3.below hb4
  have hB4 := hB3.trans (hb4.mono hB3.size)
  have hc4 := cell_step hc3 hb4
  go_wp2_with fail
  rw [rounds_succ]
  go_wp2_with fail
  refine (form_any _ _ _ (by omega) (by omega)).mono ?_
  rintro e wx ⟨rfl, rfl⟩
  go_wp2_with fail
  refine (lawform_any _ _ _ hs4.std (by omega) (by omega)).mono ?_
  rintro e w5 ⟨rfl, hb5⟩
  have hs5 := hs4.below hb5
  have hB5 := hB4.trans (hb5.mono hB4.size)
  have hc5 := cell_step hc4 hb5
  go_wp2_with fail
  rw [rounds_succ]
  have ce := hc5.1
  go_wp2_with fail
  clear ce
  rw [rounds_succ]
  go_wp2_with fail
  refine wp_loop_rounds 4 ?_
  rw [rounds_succ]
  go_wp2_with fail
  refine (form_any _ _ _ (by omega) (by omega)).mono ?_
  rintro e wx ⟨rfl, rfl⟩
  go_wp2_with fail
  refine (lawform_any _ _ _ hs5.std (by omega) (by omega)).mono ?_
  rintro e w6 ⟨rfl, hb6⟩
  have hs6 := hs5.below hb6
  have hB6 := hB5.trans (hb6.mono hB5.size)
  have hc6 := cell_step hc5 hb6
  go_wp2_with fail
  rw [rounds_succ]
  go_wp2_with fail
  refine (form_any _ _ _ (by omega) (by omega)).mono ?_
  rintro e wx ⟨rfl, rfl⟩
  go_wp2_with fail
  refine (lawform_any _ _ _ hs6.std (by omega) (by omega)).mono ?_
  rintro e w7 ⟨rfl, hb7⟩
  have hs7 := hs6.below hb7
  have hB7 := hB6.trans (hb7.mono hB6.size)
  have hc7 := cell_step hc6 hb7
  go_wp2_with fail
  rw [rounds_succ]
  go_wp2_with fail
  refine (form_any _ _ _ (by omega) (by omega)).mono ?_
  rintro e wx ⟨rfl, rfl⟩
  go_wp2_with fail
  refine (lawform_any _ _ _ hs7.std (by omega) (by omega)).mono ?_
  rintro e w8 ⟨rfl, hb8⟩
  have hs8 := hs7.below hb8
  have hB8 := hB7.trans (hb8.mono hB7.size)
  have hc8 := cell_step hc7 hb8
  go_wp2_with fail
  rw [rounds_succ]
  have ce := hc8.1
  go_wp2_with fail
  rw [rounds_succ]
  go_wp2
  go_ret
  exact ⟨rfl, hB8⟩
end Go.Proofs.YthcfhmdoelpbdaaGreatDoor
