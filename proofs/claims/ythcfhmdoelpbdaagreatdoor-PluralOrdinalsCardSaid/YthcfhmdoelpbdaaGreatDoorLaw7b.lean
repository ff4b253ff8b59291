/- The walk of PluralOrdinals (printed by gen_law7b.py). -/
import Derived.Test.YthcfhmdoelpbdaaGreatDoorReadO
import Derived.Test.YthcfhmdoelpbdaaGreatDoorEvAw7
import Derived.OpenShut
import Derived.LoopN
namespace Go.Proofs.YthcfhmdoelpbdaaGreatDoor
set_option linter.unusedVariables false
set_option linter.unusedSimpArgs false
open Go.RowKit Go.Proofs

set_option maxHeartbeats 4000000 in
theorem ords_yy (a0 a1 a2 : Int) (b0 : 0 ≤ a0 ∧ a0 ≤ 4294967295) (b1 : 0 ≤ a1 ∧ a1 ≤ 4294967295) (b2 : 0 ≤ a2 ∧ a2 ≤ 255) (w : World) (hs : Wld w) (m0 : 1 + a0 ≤ a1) (m1 : 1 + a2 ≤ a1) :
    Calls Tryz.prog 6 #[.int .u32 a0, .int .u32 a1, .int .u8 a2] w fun e w' => e = .returned (.bool true) ∧ Below w.heap.size w w' := by
  go_enter Tryz.func6, Tryz.ntmps6
  go_wp2_with (go_at_call 13; refine (awake7_any _ hs).mono ?_; rintro e w1 ⟨rfl, hb⟩)
  have hs1 := hs.below hb
  have hA : Below w1.heap.size w1 (w1.alloc (.cells #[.int .i64 (1 + a0), .int .i64 (1 + a2)] 3)) := Below.alloc (Below.refl _ _) (Nat.le_refl _) _
  have hs2 := hs1.below hA
  have hB2 : Below w.heap.size w (w1.alloc (.cells #[.int .i64 (1 + a0), .int .i64 (1 + a2)] 3)) := hb.trans (hA.mono hb.size)
  have hc2 : (w1.alloc (.cells #[.int .i64 (1 + a0), .int .i64 (1 + a2)] 3)).cell? ⟨w1.heap.size, 1, none⟩ = some (.int .i64 (1 + a2)) ∧ w1.heap.size < (w1.alloc (.cells #[.int .i64 (1 + a0), .int .i64 (1 + a2)] 3)).heap.size :=
    ⟨by unfold World.cell?; rw [show (w1.alloc (.cells #[.int .i64 (1 + a0), .int .i64 (1 + a2)] 3)).heap[w1.heap.size]? = _ from heap_alloc_new w1 _]; rfl, by simp⟩
  refine wp_loop_rounds 3 ?_
  rw [rounds_succ]
  go_wp2_with fail
  refine wp_loop_rounds 4 ?_
  rw [rounds_succ]
  go_wp2_with fail
  refine (ordP_any _ _ _ hs2.std (by omega) (by omega)).mono ?_
  rintro e w3 ⟨rfl, hb3⟩
  have hs3 := hs2.below hb3
  have hB3 := hB2.trans (hb3.mono hB2.size)
  have hc3 := cell_step hc2 hb3
  go_wp2_with fail
  refine (readS_yes _ _ _ _ hs3.std (by omega) (by omega) (by omega)).mono ?_
  rintro e w4 ⟨rfl, hb4⟩
  have hs4 := hs3.below hb4
  have hB4 := hB3.trans (hb4.mono hB3.size)
  have hc4 := cell_step hc3 hb4
  go_wp2_with fail
  refine (ordL_any _ _ _ hs4.std (by omega) (by omega)).mono ?_
  rintro e w5 ⟨rfl, hb5⟩
  have hs5 := hs4.below hb5
  have hB5 := hB4.trans (hb5.mono hB4.size)
  have hc5 := cell_step hc4 hb5
  go_wp2_with fail
  rw [rounds_succ]
  go_wp2_with fail
  refine (ordP_any _ _ _ hs5.std (by omega) (by omega)).mono ?_
  rintro e w6 ⟨rfl, hb6⟩
  have hs6 := hs5.below hb6
  have hB6 := hB5.trans (hb6.mono hB5.size)
  have hc6 := cell_step hc5 hb6
  go_wp2_with fail
  refine (readS_yes _ _ _ _ hs6.std (by omega) (by omega) (by omega)).mono ?_
  rintro e w7 ⟨rfl, hb7⟩
  have hs7 := hs6.below hb7
  have hB7 := hB6.trans (hb7.mono hB6.size)
  have hc7 := cell_step hc6 hb7
  go_wp2_with fail
  refine (ordL_any _ _ _ hs7.std (by omega) (by omega)).mono ?_
  rintro e w8 ⟨rfl, hb8⟩
  have hs8 := hs7.below hb8
  have hB8 := hB7.trans (hb8.mono hB7.size)
  have hc8 := cell_step hc7 hb8
  go_wp2_with fail
  rw [rounds_succ]
  go_wp2_with fail
  refine (ordP_any _ _ _ hs8.std (by omega) (by omega)).mono ?_
  rintro e w9 ⟨rfl, hb9⟩
  have hs9 := hs8.below hb9
  have hB9 := hB8.trans (hb9.mono hB8.size)
  have hc9 := cell_step hc8 hb9
  go_wp2_with fail
  refine (readS_yes _ _ _ _ hs9.std (by omega) (by omega) (by omega)).mono ?_
  rintro e w10 ⟨rfl, hb10⟩
  have hs10 := hs9.below hb10
  have hB10 := hB9.trans (hb10.mono hB9.size)
  have hc10 := cell_step hc9 hb10
  go_wp2_with fail
  refine (ordL_any _ _ _ hs10.std (by omega) (by omega)).mono ?_
  rintro e w11 ⟨rfl, hb11⟩
  have hs11 := hs10.below hb11
  have hB11 := hB10.trans (hb11.mono hB10.size)
  have hc11 := cell_step hc10 hb11
  go_wp2_with fail
  rw [rounds_succ]
  have ce := hc11.1
  go_wp2_with fail
  rw [rounds_succ]
  go_wp2_with fail
  refine wp_loop_rounds 4 ?_
  clear ce
  rw [rounds_succ]
  go_wp2_with fail
  refine (ordP_any _ _ _ hs11.std (by omega) (by omega)).mono ?_
  rintro e w12 ⟨rfl, hb12⟩
  have hs12 := hs11.below hb12
  have hB12 := hB11.trans (hb12.mono hB11.size)
  have hc12 := cell_step hc11 hb12
  go_wp2_with fail
  refine (readS_yes _ _ _ _ hs12.std (by omega) (by omega) (by omega)).mono ?_
  rintro e w13 ⟨rfl, hb13⟩
  have hs13 := hs12.below hb13
  have hB13 := hB12.trans (hb13.mono hB12.size)
  have hc13 := cell_step hc12 hb13
  go_wp2_with fail
  refine (ordL_any _ _ _ hs13.std (by omega) (by omega)).mono ?_
  rintro e w14 ⟨rfl, hb14⟩
  have hs14 := hs13.below hb14
  have hB14 := hB13.trans (hb14.mono hB13.size)
  have hc14 := cell_step hc13 hb14
  go_wp2_with fail
  rw [rounds_succ]
  go_wp2_with fail
  refine (ordP_any _ _ _ hs14.std (by omega) (by omega)).mono ?_
  rintro e w15 ⟨rfl, hb15⟩
  have hs15 := hs14.below hb15
  have hB15 := hB14.trans (hb15.mono hB14.size)
  have hc15 := cell_step hc14 hb15
  go_wp2_with fail
  refine (readS_yes _ _ _ _ hs15.std (by omega) (by omega) (by omega)).mono ?_
  rintro e w16 ⟨rfl, hb16⟩
  have hs16 := hs15.below hb16
  have hB16 := hB15.trans (hb16.mono hB15.size)
  have hc16 := cell_step hc15 hb16
  go_wp2_with fail
  refine (ordL_any _ _ _ hs16.std (by omega) (by omega)).mono ?_
  rintro e w17 ⟨rfl, hb17⟩
  have hs17 := hs16.below hb17
  have hB17 := hB16.trans (hb17.mono hB16.size)
  have hc17 := cell_step hc16 hb17
  go_wp2_with fail
  rw [rounds_succ]
  go_wp2_with fail
  refine (ordP_any _ _ _ hs17.std (by omega) (by omega)).mono ?_
  rintro e w18 ⟨rfl, hb18⟩
  have hs18 := hs17.below hb18
  have hB18 := hB17.trans (hb18.mono hB17.size)
  have hc18 := cell_step hc17 hb18
  go_wp2_with fail
  refine (readS_yes _ _ _ _ hs18.std (by omega) (by omega) (by omega)).mono ?_
  rintro e w19 ⟨rfl, hb19⟩
  have hs19 := hs18.below hb19
  have hB19 := hB18.trans (hb19.mono hB18.size)
  have hc19 := cell_step hc18 hb19
  go_wp2_with fail
  refine (ordL_any _ _ _ hs19.std (by omega) (by omega)).mono ?_
  rintro e w20 ⟨rfl, hb20⟩
  have hs20 := hs19.below hb20
  have hB20 := hB19.trans (hb20.mono hB19.size)
  have hc20 := cell_step hc19 hb20
  go_wp2_with fail
  rw [rounds_succ]
  have ce := hc20.1
  go_wp2_with fail
  rw [rounds_succ]
  go_wp2
  go_ret
  exact ⟨rfl, hB20⟩

set_option maxHeartbeats 4000000 in
theorem ords_yn (a0 a1 a2 : Int) (b0 : 0 ≤ a0 ∧ a0 ≤ 4294967295) (b1 : 0 ≤ a1 ∧ a1 ≤ 4294967295) (b2 : 0 ≤ a2 ∧ a2 ≤ 255) (w : World) (hs : Wld w) (m0 : 1 + a0 ≤ a1) (m1 : ¬ 1 + a2 ≤ a1) :
    Calls Tryz.prog 6 #[.int .u32 a0, .int .u32 a1, .int .u8 a2] w fun e w' => e = .returned (.bool true) ∧ Below w.heap.size w w' := by
  go_enter Tryz.func6, Tryz.ntmps6
  go_wp2_with (go_at_call 13; refine (awake7_any _ hs).mono ?_; rintro e w1 ⟨rfl, hb⟩)
  have hs1 := hs.below hb
  have hA : Below w1.heap.size w1 (w1.alloc (.cells #[.int .i64 (1 + a0), .int .i64 (1 + a2)] 3)) := Below.alloc (Below.refl _ _) (Nat.le_refl _) _
  have hs2 := hs1.below hA
  have hB2 : Below w.heap.size w (w1.alloc (.cells #[.int .i64 (1 + a0), .int .i64 (1 + a2)] 3)) := hb.trans (hA.mono hb.size)
  have hc2 : (w1.alloc (.cells #[.int .i64 (1 + a0), .int .i64 (1 + a2)] 3)).cell? ⟨w1.heap.size, 1, none⟩ = some (.int .i64 (1 + a2)) ∧ w1.heap.size < (w1.alloc (.cells #[.int .i64 (1 + a0), .int .i64 (1 + a2)] 3)).heap.size :=
    ⟨by unfold World.cell?; rw [show (w1.alloc (.cells #[.int .i64 (1 + a0), .int .i64 (1 + a2)] 3)).heap[w1.heap.size]? = _ from heap_alloc_new w1 _]; rfl, by simp⟩
  refine wp_loop_rounds 3 ?_
  rw [rounds_succ]
  go_wp2_with fail
  refine wp_loop_rounds 4 ?_
  rw [rounds_succ]
  go_wp2_with fail
  refine (ordP_any _ _ _ hs2.std (by omega) (by omega)).mono ?_
  rintro e w3 ⟨rfl, hb3⟩
  have hs3 := hs2.below hb3
  have hB3 := hB2.trans (hb3.mono hB2.size)
  have hc3 := cell_step hc2 hb3
  go_wp2_with fail
  refine (readS_yes _ _ _ _ hs3.std (by omega) (by omega) (by omega)).mono ?_
  rintro e w4 ⟨rfl, hb4⟩
  have hs4 := hs3.below hb4
  have hB4 := hB3.trans (hb4.mono hB3.size)
  have hc4 := cell_step hc3 hb4
  go_wp2_with fail
  refine (ordL_any _ _ _ hs4.std (by omega) (by omega)).mono ?_
  rintro e w5 ⟨rfl, hb5⟩
  have hs5 := hs4.below hb5
  have hB5 := hB4.trans (hb5.mono hB4.size)
  have hc5 := cell_step hc4 hb5
  go_wp2_with fail
  rw [rounds_succ]
  go_wp2_with fail
  refine (ordP_any _ _ _ hs5.std (by omega) (by omega)).mono ?_
  rintro e w6 ⟨rfl, hb6⟩
  have hs6 := hs5.below hb6
  have hB6 := hB5.trans (hb6.mono hB5.size)
  have hc6 := cell_step hc5 hb6
  go_wp2_with fail
  refine (readS_yes _ _ _ _ hs6.std (by omega) (by omega) (by omega)).mono ?_
  rintro e w7 ⟨rfl, hb7⟩
  have hs7 := hs6.below hb7
  have hB7 := hB6.trans (hb7.mono hB6.size)
  have hc7 := cell_step hc6 hb7
  go_wp2_with fail
  refine (ordL_any _ _ _ hs7.std (by omega) (by omega)).mono ?_
  rintro e w8 ⟨rfl, hb8⟩
  have hs8 := hs7.below hb8
  have hB8 := hB7.trans (hb8.mono hB7.size)
  have hc8 := cell_step hc7 hb8
  go_wp2_with fail
  rw [rounds_succ]
  go_wp2_with fail
  refine (ordP_any _ _ _ hs8.std (by omega) (by omega)).mono ?_
  rintro e w9 ⟨rfl, hb9⟩
  have hs9 := hs8.below hb9
  have hB9 := hB8.trans (hb9.mono hB8.size)
  have hc9 := cell_step hc8 hb9
  go_wp2_with fail
  refine (readS_yes _ _ _ _ hs9.std (by omega) (by omega) (by omega)).mono ?_
  rintro e w10 ⟨rfl, hb10⟩
  have hs10 := hs9.below hb10
  have hB10 := hB9.trans (hb10.mono hB9.size)
  have hc10 := cell_step hc9 hb10
  go_wp2_with fail
  refine (ordL_any _ _ _ hs10.std (by omega) (by omega)).mono ?_
  rintro e w11 ⟨rfl, hb11⟩
  have hs11 := hs10.below hb11
  have hB11 := hB10.trans (hb11.mono hB10.size)
  have hc11 := cell_step hc10 hb11
  go_wp2_with fail
  rw [rounds_succ]
  have ce := hc11.1
  go_wp2_with fail
  rw [rounds_succ]
  go_wp2_with fail
  refine wp_loop_rounds 4 ?_
  clear ce
  rw [rounds_succ]
  go_wp2_with fail
  refine (ordP_any _ _ _ hs11.std (by omega) (by omega)).mono ?_
  rintro e w12 ⟨rfl, hb12⟩
  have hs12 := hs11.below hb12
  have hB12 := hB11.trans (hb12.mono hB11.size)
  have hc12 := cell_step hc11 hb12
  go_wp2_with fail
  refine (readS_no _ _ _ _ hs12.std (by omega) (by omega) (by omega)).mono ?_
  rintro e w13 ⟨rfl, hb13⟩
  have hs13 := hs12.below hb13
  have hB13 := hB12.trans (hb13.mono hB12.size)
  have hc13 := cell_step hc12 hb13
  go_wp2_with fail
  refine (ordL_any _ _ _ hs13.std (by omega) (by omega)).mono ?_
  rintro e w14 ⟨rfl, hb14⟩
  have hs14 := hs13.below hb14
  have hB14 := hB13.trans (hb14.mono hB13.size)
  have hc14 := cell_step hc13 hb14
  go_wp2_with fail
  rw [rounds_succ]
  go_wp2_with fail
  refine (ordP_any _ _ _ hs14.std (by omega) (by omega)).mono ?_
  rintro e w15 ⟨rfl, hb15⟩
  have hs15 := hs14.below hb15
  have hB15 := hB14.trans (hb15.mono hB14.size)
  have hc15 := cell_step hc14 hb15
  go_wp2_with fail
  refine (readS_no _ _ _ _ hs15.std (by omega) (by omega) (by omega)).mono ?_
  rintro e w16 ⟨rfl, hb16⟩
  have hs16 := hs15.below hb16
  have hB16 := hB15.trans (hb16.mono hB15.size)
  have hc16 := cell_step hc15 hb16
  go_wp2_with fail
  refine (ordL_any _ _ _ hs16.std (by omega) (by omega)).mono ?_
  rintro e w17 ⟨rfl, hb17⟩
  have hs17 := hs16.below hb17
  have hB17 := hB16.trans (hb17.mono hB16.size)
  have hc17 := cell_step hc16 hb17
  go_wp2_with fail
  rw [rounds_succ]
  go_wp2_with fail
  refine (ordP_any _ _ _ hs17.std (by omega) (by omega)).mono ?_
  rintro e w18 ⟨rfl, hb18⟩
  have hs18 := hs17.below hb18
  have hB18 := hB17.trans (hb18.mono hB17.size)
  have hc18 := cell_step hc17 hb18
  go_wp2_with fail
  refine (readS_no _ _ _ _ hs18.std (by omega) (by omega) (by omega)).mono ?_
  rintro e w19 ⟨rfl, hb19⟩
  have hs19 := hs18.below hb19
  have hB19 := hB18.trans (hb19.mono hB18.size)
  have hc19 := cell_step hc18 hb19
  go_wp2_with fail
  refine (ordL_any _ _ _ hs19.std (by omega) (by omega)).mono ?_
  rintro e w20 ⟨rfl, hb20⟩
  have hs20 := hs19.below hb20
  have hB20 := hB19.trans (hb20.mono hB19.size)
  have hc20 := cell_step hc19 hb20
  go_wp2_with fail
  rw [rounds_succ]
  have ce := hc20.1
  go_wp2_with fail
  rw [rounds_succ]
  go_wp2
  go_ret
  exact ⟨rfl, hB20⟩

set_option maxHeartbeats 4000000 in
theorem ords_ny (a0 a1 a2 : Int) (b0 : 0 ≤ a0 ∧ a0 ≤ 4294967295) (b1 : 0 ≤ a1 ∧ a1 ≤ 4294967295) (b2 : 0 ≤ a2 ∧ a2 ≤ 255) (w : World) (hs : Wld w) (m0 : ¬ 1 + a0 ≤ a1) (m1 : 1 + a2 ≤ a1) :
    Calls Tryz.prog 6 #[.int .u32 a0, .int .u32 a1, .int .u8 a2] w fun e w' => e = .returned (.bool true) ∧ Below w.heap.size w w' := by
  go_enter Tryz.func6, Tryz.ntmps6
  go_wp2_with (go_at_call 13; refine (awake7_any _ hs).mono ?_; rintro e w1 ⟨rfl, hb⟩)
  have hs1 := hs.below hb
  have hA : Below w1.heap.size w1 (w1.alloc (.cells #[.int .i64 (1 + a0), .int .i64 (1 + a2)] 3)) := Below.alloc (Below.refl _ _) (Nat.le_refl _) _
  have hs2 := hs1.below hA
  have hB2 : Below w.heap.size w (w1.alloc (.cells #[.int .i64 (1 + a0), .int .i64 (1 + a2)] 3)) := hb.trans (hA.mono hb.size)
  have hc2 : (w1.alloc (.cells #[.int .i64 (1 + a0), .int .i64 (1 + a2)] 3)).cell? ⟨w1.heap.size, 1, none⟩ = some (.int .i64 (1 + a2)) ∧ w1.heap.size < (w1.alloc (.cells #[.int .i64 (1 + a0), .int .i64 (1 + a2)] 3)).heap.size :=
    ⟨by unfold World.cell?; rw [show (w1.alloc (.cells #[.int .i64 (1 + a0), .int .i64 (1 + a2)] 3)).heap[w1.heap.size]? = _ from heap_alloc_new w1 _]; rfl, by simp⟩
  refine wp_loop_rounds 3 ?_
  rw [rounds_succ]
  go_wp2_with fail
  refine wp_loop_rounds 4 ?_
  rw [rounds_succ]
  go_wp2_with fail
  refine (ordP_any _ _ _ hs2.std (by omega) (by omega)).mono ?_
  rintro e w3 ⟨rfl, hb3⟩
  have hs3 := hs2.below hb3
  have hB3 := hB2.trans (hb3.mono hB2.size)
  have hc3 := cell_step hc2 hb3
  go_wp2_with fail
  refine (readS_no _ _ _ _ hs3.std (by omega) (by omega) (by omega)).mono ?_
  rintro e w4 ⟨rfl, hb4⟩
  have hs4 := hs3.below hb4
  have hB4 := hB3.trans (hb4.mono hB3.size)
  have hc4 := cell_step hc3 hb4
  go_wp2_with fail
  refine (ordL_any _ _ _ hs4.std (by omega) (by omega)).mono ?_
  rintro e w5 ⟨rfl, hb5⟩
  have hs5 := hs4.below hb5
  have hB5 := hB4.trans (hb5.mono hB4.size)
  have hc5 := cell_step hc4 hb5
  go_wp2_with fail
  rw [rounds_succ]
  go_wp2_with fail
  refine (ordP_any _ _ _ hs5.std (by omega) (by omega)).mono ?_
  rintro e w6 ⟨rfl, hb6⟩
  have hs6 := hs5.below hb6
  have hB6 := hB5.trans (hb6.mono hB5.size)
  have hc6 := cell_step hc5 hb6
  go_wp2_with fail
  refine (readS_no _ _ _ _ hs6.std (by omega) (by omega) (by omega)).mono ?_
  rintro e w7 ⟨rfl, hb7⟩
  have hs7 := hs6.below hb7
  have hB7 := hB6.trans (hb7.mono hB6.size)
  have hc7 := cell_step hc6 hb7
  go_wp2_with fail
  refine (ordL_any _ _ _ hs7.std (by omega) (by omega)).mono ?_
  rintro e w8 ⟨rfl, hb8⟩
  have hs8 := hs7.below hb8
  have hB8 := hB7.trans (hb8.mono hB7.size)
  have hc8 := cell_step hc7 hb8
  go_wp2_with fail
  rw [rounds_succ]
  go_wp2_with fail
  refine (ordP_any _ _ _ hs8.std (by omega) (by omega)).mono ?_
  rintro e w9 ⟨rfl, hb9⟩
  have hs9 := hs8.below hb9
  have hB9 := hB8.trans (hb9.mono hB8.size)
  have hc9 := cell_step hc8 hb9
  go_wp2_with fail
  refine (readS_no _ _ _ _ hs9.std (by omega) (by omega) (by omega)).mono ?_
  rintro e w10 ⟨rfl, hb10⟩
  have hs10 := hs9.below hb10
  have hB10 := hB9.trans (hb10.mono hB9.size)
  have hc10 := cell_step hc9 hb10
  go_wp2_with fail
  refine (ordL_any _ _ _ hs10.std (by omega) (by omega)).mono ?_
  rintro e w11 ⟨rfl, hb11⟩
  have hs11 := hs10.below hb11
  have hB11 := hB10.trans (hb11.mono hB10.size)
  have hc11 := cell_step hc10 hb11
  go_wp2_with fail
  rw [rounds_succ]
  have ce := hc11.1
  go_wp2_with fail
  rw [rounds_succ]
  go_wp2_with fail
  refine wp_loop_rounds 4 ?_
  clear ce
  rw [rounds_succ]
  go_wp2_with fail
  refine (ordP_any _ _ _ hs11.std (by omega) (by omega)).mono ?_
  rintro e w12 ⟨rfl, hb12⟩
  have hs12 := hs11.below hb12
  have hB12 := hB11.trans (hb12.mono hB11.size)
  have hc12 := cell_step hc11 hb12
  go_wp2_with fail
  refine (readS_yes _ _ _ _ hs12.std (by omega) (by omega) (by omega)).mono ?_
  rintro e w13 ⟨rfl, hb13⟩
  have hs13 := hs12.below hb13
  have hB13 := hB12.trans (hb13.mono hB12.size)
  have hc13 := cell_step hc12 hb13
  go_wp2_with fail
  refine (ordL_any _ _ _ hs13.std (by omega) (by omega)).mono ?_
  rintro e w14 ⟨rfl, hb14⟩
  have hs14 := hs13.below hb14
  have hB14 := hB13.trans (hb14.mono hB13.size)
  have hc14 := cell_step hc13 hb14
  go_wp2_with fail
  rw [rounds_succ]
  go_wp2_with fail
  refine (ordP_any _ _ _ hs14.std (by omega) (by omega)).mono ?_
  rintro e w15 ⟨rfl, hb15⟩
  have hs15 := hs14.below hb15
  have hB15 := hB14.trans (hb15.mono hB14.size)
  have hc15 := cell_step hc14 hb15
  go_wp2_with fail
  refine (readS_yes _ _ _ _ hs15.std (by omega) (by omega) (by omega)).mono ?_
  rintro e w16 ⟨rfl, hb16⟩
  have hs16 := hs15.below hb16
  have hB16 := hB15.trans (hb16.mono hB15.size)
  have hc16 := cell_step hc15 hb16
  go_wp2_with fail
  refine (ordL_any _ _ _ hs16.std (by omega) (by omega)).mono ?_
  rintro e w17 ⟨rfl, hb17⟩
  have hs17 := hs16.below hb17
  have hB17 := hB16.trans (hb17.mono hB16.size)
  have hc17 := cell_step hc16 hb17
  go_wp2_with fail
  rw [rounds_succ]
  go_wp2_with fail
  refine (ordP_any _ _ _ hs17.std (by omega) (by omega)).mono ?_
  rintro e w18 ⟨rfl, hb18⟩
  have hs18 := hs17.below hb18
  have hB18 := hB17.trans (hb18.mono hB17.size)
  have hc18 := cell_step hc17 hb18
  go_wp2_with fail
  refine (readS_yes _ _ _ _ hs18.std (by omega) (by omega) (by omega)).mono ?_
  rintro e w19 ⟨rfl, hb19⟩
  have hs19 := hs18.below hb19
  have hB19 := hB18.trans (hb19.mono hB18.size)
  have hc19 := cell_step hc18 hb19
  go_wp2_with fail
  refine (ordL_any _ _ _ hs19.std (by omega) (by omega)).mono ?_
  rintro e w20 ⟨rfl, hb20⟩
  have hs20 := hs19.below hb20
  have hB20 := hB19.trans (hb20.mono hB19.size)
  have hc20 := cell_step hc19 hb20
  go_wp2_with fail
  rw [rounds_succ]
  have ce := hc20.1
  go_wp2_with fail
  rw [rounds_succ]
  go_wp2
  go_ret
  exact ⟨rfl, hB20⟩

set_option maxHeartbeats 4000000 in
theorem ords_nn (a0 a1 a2 : Int) (b0 : 0 ≤ a0 ∧ a0 ≤ 4294967295) (b1 : 0 ≤ a1 ∧ a1 ≤ 4294967295) (b2 : 0 ≤ a2 ∧ a2 ≤ 255) (w : World) (hs : Wld w) (m0 : ¬ 1 + a0 ≤ a1) (m1 : ¬ 1 + a2 ≤ a1) :
    Calls Tryz.prog 6 #[.int .u32 a0, .int .u32 a1, .int .u8 a2] w fun e w' => e = .returned (.bool true) ∧ Below w.heap.size w w' := by
  go_enter Tryz.func6, Tryz.ntmps6
  go_wp2_with (go_at_call 13; refine (awake7_any _ hs).mono ?_; rintro e w1 ⟨rfl, hb⟩)
  have hs1 := hs.below hb
  have hA : Below w1.heap.size w1 (w1.alloc (.cells #[.int .i64 (1 + a0), .int .i64 (1 + a2)] 3)) := Below.alloc (Below.refl _ _) (Nat.le_refl _) _
  have hs2 := hs1.below hA
  have hB2 : Below w.heap.size w (w1.alloc (.cells #[.int .i64 (1 + a0), .int .i64 (1 + a2)] 3)) := hb.trans (hA.mono hb.size)
  have hc2 : (w1.alloc (.cells #[.int .i64 (1 + a0), .int .i64 (1 + a2)] 3)).cell? ⟨w1.heap.size, 1, none⟩ = some (.int .i64 (1 + a2)) ∧ w1.heap.size < (w1.alloc (.cells #[.int .i64 (1 + a0), .int .i64 (1 + a2)] 3)).heap.size :=
    ⟨by unfold World.cell?; rw [show (w1.alloc (.cells #[.int .i64 (1 + a0), .int .i64 (1 + a2)] 3)).heap[w1.heap.size]? = _ from heap_alloc_new w1 _]; rfl, by simp⟩
  refine wp_loop_rounds 3 ?_
  rw [rounds_succ]
  go_wp2_with fail
  refine wp_loop_rounds 4 ?_
  rw [rounds_succ]
  go_wp2_with fail
  refine (ordP_any _ _ _ hs2.std (by omega) (by omega)).mono ?_
  rintro e w3 ⟨rfl, hb3⟩
  have hs3 := hs2.below hb3
  have hB3 := hB2.trans (hb3.mono hB2.size)
  have hc3 := cell_step hc2 hb3
  go_wp2_with fail
  refine (readS_no _ _ _ _ hs3.std (by omega) (by omega) (by omega)).mono ?_
  rintro e w4 ⟨rfl, hb4⟩
  have hs4 := hs3.below hb4
  have hB4 := hB3.trans (hb4.mono hB3.size)
  have hc4 := cell_step hc3 hb4
  go_wp2_with fail
  refine (ordL_any _ _ _ hs4.std (by omega) (by omega)).mono ?_
  rintro e w5 ⟨rfl, hb5⟩
  have hs5 := hs4.below hb5
  have hB5 := hB4.trans (hb5.mono hB4.size)
  have hc5 := cell_step hc4 hb5
  go_wp2_with fail
  rw [rounds_succ]
  go_wp2_with fail
  refine (ordP_any _ _ _ hs5.std (by omega) (by omega)).mono ?_
  rintro e w6 ⟨rfl, hb6⟩
  have hs6 := hs5.below hb6
  have hB6 := hB5.trans (hb6.mono hB5.size)
  have hc6 := cell_step hc5 hb6
  go_wp2_with fail
  refine (readS_no _ _ _ _ hs6.std (by omega) (by omega) (by omega)).mono ?_
  rintro e w7 ⟨rfl, hb7⟩
  have hs7 := hs6.below hb7
  have hB7 := hB6.trans (hb7.mono hB6.size)
  have hc7 := cell_step hc6 hb7
  go_wp2_with fail
  refine (ordL_any _ _ _ hs7.std (by omega) (by omega)).mono ?_
  rintro e w8 ⟨rfl, hb8⟩
  have hs8 := hs7.below hb8
  have hB8 := hB7.trans (hb8.mono hB7.size)
  have hc8 := cell_step hc7 hb8
  go_wp2_with fail
  rw [rounds_succ]
  go_wp2_with fail
  refine (ordP_any _ _ _ hs8.std (by omega) (by omega)).mono ?_
  rintro e w9 ⟨rfl, hb9⟩
  have hs9 := hs8.below hb9
  have hB9 := hB8.trans (hb9.mono hB8.size)
  have hc9 := cell_step hc8 hb9
  go_wp2_with fail
  refine (readS_no _ _ _ _ hs9.std (by omega) (by omega) (by omega)).mono ?_
  rintro e w10 ⟨rfl, hb10⟩
  have hs10 := hs9.below hb10
  have hB10 := hB9.trans (hb10.mono hB9.size)
  have hc10 := cell_step hc9 hb10
  go_wp2_with fail
  refine (ordL_any _ _ _ hs10.std (by omega) (by omega)).mono ?_
  rintro e w11 ⟨rfl, hb11⟩
  have hs11 := hs10.below hb11
  have hB11 := hB10.trans (hb11.mono hB10.size)
  have hc11 := cell_step hc10 hb11
  go_wp2_with fail
  rw [rounds_succ]
  have ce := hc11.1
  go_wp2_with fail
  rw [rounds_succ]
  go_wp2_with fail
  refine wp_loop_rounds 4 ?_
  clear ce
  rw [rounds_succ]
  go_wp2_with fail
  refine (ordP_any _ _ _ hs11.std (by omega) (by omega)).mono ?_
  rintro e w12 ⟨rfl, hb12⟩
  have hs12 := hs11.below hb12
  have hB12 := hB11.trans (hb12.mono hB11.size)
  have hc12 := cell_step hc11 hb12
  go_wp2_with fail
  refine (readS_no _ _ _ _ hs12.std (by omega) (by omega) (by omega)).mono ?_
  rintro e w13 ⟨rfl, hb13⟩
  have hs13 := hs12.below hb13
  have hB13 := hB12.trans (hb13.mono hB12.size)
  have hc13 := cell_step hc12 hb13
  go_wp2_with fail
  refine (ordL_any _ _ _ hs13.std (by omega) (by omega)).mono ?_
  rintro e w14 ⟨rfl, hb14⟩
  have hs14 := hs13.below hb14
  have hB14 := hB13.trans (hb14.mono hB13.size)
  have hc14 := cell_step hc13 hb14
  go_wp2_with fail
  rw [rounds_succ]
  go_wp2_with fail
  refine (ordP_any _ _ _ hs14.std (by omega) (by omega)).mono ?_
  rintro e w15 ⟨rfl, hb15⟩
  have hs15 := hs14.below hb15
  have hB15 := hB14.trans (hb15.mono hB14.size)
  have hc15 := cell_step hc14 hb15
  go_wp2_with fail
  refine (readS_no _ _ _ _ hs15.std (by omega) (by omega) (by omega)).mono ?_
  rintro e w16 ⟨rfl, hb16⟩
  have hs16 := hs15.below hb16
  have hB16 := hB15.trans (hb16.mono hB15.size)
  have hc16 := cell_step hc15 hb16
  go_wp2_with fail
  refine (ordL_any _ _ _ hs16.std (by omega) (by omega)).mono ?_
  rintro e w17 ⟨rfl, hb17⟩
  have hs17 := hs16.below hb17
  have hB17 := hB16.trans (hb17.mono hB16.size)
  have hc17 := cell_step hc16 hb17
  go_wp2_with fail
  rw [rounds_succ]
  go_wp2_with fail
  refine (ordP_any _ _ _ hs17.std (by omega) (by omega)).mono ?_
  rintro e w18 ⟨rfl, hb18⟩
  have hs18 := hs17.below hb18
  have hB18 := hB17.trans (hb18.mono hB17.size)
  have hc18 := cell_step hc17 hb18
  go_wp2_with fail
  refine (readS_no _ _ _ _ hs18.std (by omega) (by omega) (by omega)).mono ?_
  rintro e w19 ⟨rfl, hb19⟩
  have hs19 := hs18.below hb19
  have hB19 := hB18.trans (hb19.mono hB18.size)
  have hc19 := cell_step hc18 hb19
  go_wp2_with fail
  refine (ordL_any _ _ _ hs19.std (by omega) (by omega)).mono ?_
  rintro e w20 ⟨rfl, hb20⟩
  have hs20 := hs19.below hb20
  have hB20 := hB19.trans (hb20.mono hB19.size)
  have hc20 := cell_step hc19 hb20
  go_wp2_with fail
  rw [rounds_succ]
  have ce := hc20.1
  go_wp2_with fail
  rw [rounds_succ]
  go_wp2
  go_ret
  exact ⟨rfl, hB20⟩

theorem walk_PluralOrdinals (a0 a1 a2 : Int) (w0 : (Lit.int .u32 a0).wf = true) (w1 : (Lit.int .u32 a1).wf = true) (w2 : (Lit.int .u8 a2).wf = true) (w : World) (hs : Wld w) :
    Calls Tryz.prog 6 #[.int .u32 a0, .int .u32 a1, .int .u8 a2] w fun e w' => e = .returned (.bool true) ∧ Below w.heap.size w w' := by
  by_cases m0 : 1 + a0 ≤ a1 <;> by_cases m1 : 1 + a2 ≤ a1
  · exact ords_yy a0 a1 a2 (bounds_u32 w0) (bounds_u32 w1) (bounds_u8 w2) w hs m0 m1
  · exact ords_yn a0 a1 a2 (bounds_u32 w0) (bounds_u32 w1) (bounds_u8 w2) w hs m0 m1
  · exact ords_ny a0 a1 a2 (bounds_u32 w0) (bounds_u32 w1) (bounds_u8 w2) w hs m0 m1
  · exact ords_nn a0 a1 a2 (bounds_u32 w0) (bounds_u32 w1) (bounds_u8 w2) w hs m0 m1
end Go.Proofs.YthcfhmdoelpbdaaGreatDoor
