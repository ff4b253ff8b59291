/- The walk of chapter 7's own Ordinal: by the digits (printed by gen_lawo.py). -/
import Derived.Test.YthcfhmdoelpbdaaGreatDoorPluO
import Derived.Test.YthcfhmdoelpbdaaGreatDoorLaw7a
import Derived.LoopN
namespace Go.Proofs.YthcfhmdoelpbdaaGreatDoor
set_option linter.unusedVariables false
set_option linter.unusedSimpArgs false
open Go.RowKit Go.Proofs

theorem itoa_lit {i : Nat} (h : i < 10) : Lib.itoa (i : Int) = [UInt8.ofNat (48 + i)] := by rw [Lib.itoa_nonneg, Lib.decDigits_one h]

theorem dig_1 (w : World) (hs : Std w) : Dig 1 ⟨#[49]⟩ w := by
  have := dig_any 1 w hs (by omega) (by omega)
  rwa [show (Lib.itoa 1) = [49] from itoa_lit (i := 1) (by omega)] at this
theorem dig_2 (w : World) (hs : Std w) : Dig 2 ⟨#[50]⟩ w := by
  have := dig_any 2 w hs (by omega) (by omega)
  rwa [show (Lib.itoa 2) = [50] from itoa_lit (i := 2) (by omega)] at this
theorem dig_3 (w : World) (hs : Std w) : Dig 3 ⟨#[51]⟩ w := by
  have := dig_any 3 w hs (by omega) (by omega)
  rwa [show (Lib.itoa 3) = [51] from itoa_lit (i := 3) (by omega)] at this

theorem lawo_st (k n : Int) (S : ByteArray) (w : World) (hs : Std w) (HI : Dig n S w) (hS : S.size ≤ 30) (h0 : Suf S ⟨#[49]⟩ true) (h1 : Suf S ⟨#[49, 49]⟩ false) (k1 : ¬ k = 1) (k2 : ¬ k = 2) :
    Calls Tryz.prog 20 #[.int .i64 k, .int .i64 n] w fun e w' => e = .returned (.string (S ++ ⟨#[115, 116]⟩)) ∧ Below w.heap.size w w' := by
  have e1 : (k == 1) = false := beq_eq_false_iff_ne.2 k1
  have e2 : (k == 2) = false := beq_eq_false_iff_ne.2 k2
  go_enter Tryz.func20, Tryz.ntmps20
  go_wp2_with (go_at_call 38; refine HI.mono ?_; rintro e w1 ⟨rfl, hb⟩)
  have hs1 := hs.below hb
  have hA : Below w1.heap.size w1 (w1.alloc (.cells #[.string ⟨#[115, 116]⟩, .string ⟨#[110, 100]⟩, .string ⟨#[114, 100]⟩] 9)) := Below.alloc (Below.refl _ _) (Nat.le_refl _) _
  have hs2 := hs1.below hA
  have hB2 : Below w.heap.size w (w1.alloc (.cells #[.string ⟨#[115, 116]⟩, .string ⟨#[110, 100]⟩, .string ⟨#[114, 100]⟩] 9)) := hb.trans (hA.mono hb.size)
  have hc2_1 : (w1.alloc (.cells #[.string ⟨#[115, 116]⟩, .string ⟨#[110, 100]⟩, .string ⟨#[114, 100]⟩] 9)).cell? ⟨w1.heap.size, 1, none⟩ = some (.string ⟨#[110, 100]⟩) ∧ w1.heap.size < (w1.alloc (.cells #[.string ⟨#[115, 116]⟩, .string ⟨#[110, 100]⟩, .string ⟨#[114, 100]⟩] 9)).heap.size :=
    ⟨by unfold World.cell?; rw [show (w1.alloc (.cells #[.string ⟨#[115, 116]⟩, .string ⟨#[110, 100]⟩, .string ⟨#[114, 100]⟩] 9)).heap[w1.heap.size]? = _ from heap_alloc_new w1 _]; rfl, by simp⟩
  have hc2_2 : (w1.alloc (.cells #[.string ⟨#[115, 116]⟩, .string ⟨#[110, 100]⟩, .string ⟨#[114, 100]⟩] 9)).cell? ⟨w1.heap.size, 2, none⟩ = some (.string ⟨#[114, 100]⟩) ∧ w1.heap.size < (w1.alloc (.cells #[.string ⟨#[115, 116]⟩, .string ⟨#[110, 100]⟩, .string ⟨#[114, 100]⟩] 9)).heap.size :=
    ⟨by unfold World.cell?; rw [show (w1.alloc (.cells #[.string ⟨#[115, 116]⟩, .string ⟨#[110, 100]⟩, .string ⟨#[114, 100]⟩] 9)).heap[w1.heap.size]? = _ from heap_alloc_new w1 _]; rfl, by simp⟩
  refine wp_loop_rounds 4 ?_
  rw [rounds_succ]
  go_wp2_with fail
  refine (dig_1 _ hs2).mono ?_
  rintro e w3 ⟨rfl, hb3⟩
  have hs3 := hs2.below hb3
  have hB3 := hB2.trans (hb3.mono hB2.size)
  have hc3_1 := cell_step hc2_1 hb3
  have hc3_2 := cell_step hc2_2 hb3
  go_wp2_with fail
  refine (h0 _).mono ?_
  rintro e wx ⟨rfl, rfl⟩
  go_wp2_with fail
  refine (h1 _).mono ?_
  rintro e wx ⟨rfl, rfl⟩
  go_wp2_with fail
  go_ret
  exact ⟨rfl, hB3⟩

theorem lawo_e11 (k n : Int) (S : ByteArray) (w : World) (hs : Std w) (HI : Dig n S w) (hS : S.size ≤ 30) (h0 : Suf S ⟨#[49]⟩ true) (h1 : Suf S ⟨#[49, 49]⟩ true) (h2 : Suf S ⟨#[50]⟩ false) (h3 : Suf S ⟨#[51]⟩ false) (k1 : ¬ k = 1) (k2 : ¬ k = 2) :
    Calls Tryz.prog 20 #[.int .i64 k, .int .i64 n] w fun e w' => e = .returned (.string (S ++ ⟨#[116, 104]⟩)) ∧ Below w.heap.size w w' := by
  have e1 : (k == 1) = false := beq_eq_false_iff_ne.2 k1
  have e2 : (k == 2) = false := beq_eq_false_iff_ne.2 k2
  go_enter Tryz.func20, Tryz.ntmps20
  go_wp2_with (go_at_call 38; refine HI.mono ?_; rintro e w1 ⟨rfl, hb⟩)
  have hs1 := hs.below hb
  have hA : Below w1.heap.size w1 (w1.alloc (.cells #[.string ⟨#[115, 116]⟩, .string ⟨#[110, 100]⟩, .string ⟨#[114, 100]⟩] 9)) := Below.alloc (Below.refl _ _) (Nat.le_refl _) _
  have hs2 := hs1.below hA
  have hB2 : Below w.heap.size w (w1.alloc (.cells #[.string ⟨#[115, 116]⟩, .string ⟨#[110, 100]⟩, .string ⟨#[114, 100]⟩] 9)) := hb.trans (hA.mono hb.size)
  have hc2_1 : (w1.alloc (.cells #[.string ⟨#[115, 116]⟩, .string ⟨#[110, 100]⟩, .string ⟨#[114, 100]⟩] 9)).cell? ⟨w1.heap.size, 1, none⟩ = some (.string ⟨#[110, 100]⟩) ∧ w1.heap.size < (w1.alloc (.cells #[.string ⟨#[115, 116]⟩, .string ⟨#[110, 100]⟩, .string ⟨#[114, 100]⟩] 9)).heap.size :=
    ⟨by unfold World.cell?; rw [show (w1.alloc (.cells #[.string ⟨#[115, 116]⟩, .string ⟨#[110, 100]⟩, .string ⟨#[114, 100]⟩] 9)).heap[w1.heap.size]? = _ from heap_alloc_new w1 _]; rfl, by simp⟩
  have hc2_2 : (w1.alloc (.cells #[.string ⟨#[115, 116]⟩, .string ⟨#[110, 100]⟩, .string ⟨#[114, 100]⟩] 9)).cell? ⟨w1.heap.size, 2, none⟩ = some (.string ⟨#[114, 100]⟩) ∧ w1.heap.size < (w1.alloc (.cells #[.string ⟨#[115, 116]⟩, .string ⟨#[110, 100]⟩, .string ⟨#[114, 100]⟩] 9)).heap.size :=
    ⟨by unfold World.cell?; rw [show (w1.alloc (.cells #[.string ⟨#[115, 116]⟩, .string ⟨#[110, 100]⟩, .string ⟨#[114, 100]⟩] 9)).heap[w1.heap.size]? = _ from heap_alloc_new w1 _]; rfl, by simp⟩
  refine wp_loop_rounds 4 ?_
  rw [rounds_succ]
  go_wp2_with fail
  refine (dig_1 _ hs2).mono ?_
  rintro e w3 ⟨rfl, hb3⟩
  have hs3 := hs2.below hb3
  have hB3 := hB2.trans (hb3.mono hB2.size)
  have hc3_1 := cell_step hc2_1 hb3
  have hc3_2 := cell_step hc2_2 hb3
  go_wp2_with fail
  refine (h0 _).mono ?_
  rintro e wx ⟨rfl, rfl⟩
  go_wp2_with fail
  refine (h1 _).mono ?_
  rintro e wx ⟨rfl, rfl⟩
  go_wp2_with fail
  rw [rounds_succ]
  have ce := hc3_1.1
  go_wp2_with fail
  refine (dig_2 _ hs3).mono ?_
  rintro e w4 ⟨rfl, hb4⟩
  clear ce
  have hs4 := hs3.below hb4
  have hB4 := hB3.trans (hb4.mono hB3.size)
  have hc4_1 := cell_step hc3_1 hb4
  have hc4_2 := cell_step hc3_2 hb4
  go_wp2_with fail
  refine (h2 _).mono ?_
  rintro e wx ⟨rfl, rfl⟩
  go_wp2_with fail
  rw [rounds_succ]
  have ce := hc4_2.1
  go_wp2_with fail
  refine (dig_3 _ hs4).mono ?_
  rintro e w5 ⟨rfl, hb5⟩
  clear ce
  have hs5 := hs4.below hb5
  have hB5 := hB4.trans (hb5.mono hB4.size)
  have hc5_1 := cell_step hc4_1 hb5
  have hc5_2 := cell_step hc4_2 hb5
  go_wp2_with fail
  refine (h3 _).mono ?_
  rintro e wx ⟨rfl, rfl⟩
  go_wp2_with fail
  rw [rounds_succ]
  go_wp2
  go_ret
  exact ⟨rfl, hB5⟩

theorem lawo_nd (k n : Int) (S : ByteArray) (w : World) (hs : Std w) (HI : Dig n S w) (hS : S.size ≤ 30) (h0 : Suf S ⟨#[49]⟩ false) (h1 : Suf S ⟨#[50]⟩ true) (h2 : Suf S ⟨#[49, 50]⟩ false) (k1 : ¬ k = 1) (k2 : ¬ k = 2) :
    Calls Tryz.prog 20 #[.int .i64 k, .int .i64 n] w fun e w' => e = .returned (.string (S ++ ⟨#[110, 100]⟩)) ∧ Below w.heap.size w w' := by
  have e1 : (k == 1) = false := beq_eq_false_iff_ne.2 k1
  have e2 : (k == 2) = false := beq_eq_false_iff_ne.2 k2
  go_enter Tryz.func20, Tryz.ntmps20
  go_wp2_with (go_at_call 38; refine HI.mono ?_; rintro e w1 ⟨rfl, hb⟩)
  have hs1 := hs.below hb
  have hA : Below w1.heap.size w1 (w1.alloc (.cells #[.string ⟨#[115, 116]⟩, .string ⟨#[110, 100]⟩, .string ⟨#[114, 100]⟩] 9)) := Below.alloc (Below.refl _ _) (Nat.le_refl _) _
  have hs2 := hs1.below hA
  have hB2 : Below w.heap.size w (w1.alloc (.cells #[.string ⟨#[115, 116]⟩, .string ⟨#[110, 100]⟩, .string ⟨#[114, 100]⟩] 9)) := hb.trans (hA.mono hb.size)
  have hc2_1 : (w1.alloc (.cells #[.string ⟨#[115, 116]⟩, .string ⟨#[110, 100]⟩, .string ⟨#[114, 100]⟩] 9)).cell? ⟨w1.heap.size, 1, none⟩ = some (.string ⟨#[110, 100]⟩) ∧ w1.heap.size < (w1.alloc (.cells #[.string ⟨#[115, 116]⟩, .string ⟨#[110, 100]⟩, .string ⟨#[114, 100]⟩] 9)).heap.size :=
    ⟨by unfold World.cell?; rw [show (w1.alloc (.cells #[.string ⟨#[115, 116]⟩, .string ⟨#[110, 100]⟩, .string ⟨#[114, 100]⟩] 9)).heap[w1.heap.size]? = _ from heap_alloc_new w1 _]; rfl, by simp⟩
  have hc2_2 : (w1.alloc (.cells #[.string ⟨#[115, 116]⟩, .string ⟨#[110, 100]⟩, .string ⟨#[114, 100]⟩] 9)).cell? ⟨w1.heap.size, 2, none⟩ = some (.string ⟨#[114, 100]⟩) ∧ w1.heap.size < (w1.alloc (.cells #[.string ⟨#[115, 116]⟩, .string ⟨#[110, 100]⟩, .string ⟨#[114, 100]⟩] 9)).heap.size :=
    ⟨by unfold World.cell?; rw [show (w1.alloc (.cells #[.string ⟨#[115, 116]⟩, .string ⟨#[110, 100]⟩, .string ⟨#[114, 100]⟩] 9)).heap[w1.heap.size]? = _ from heap_alloc_new w1 _]; rfl, by simp⟩
  refine wp_loop_rounds 4 ?_
  rw [rounds_succ]
  go_wp2_with fail
  refine (dig_1 _ hs2).mono ?_
  rintro e w3 ⟨rfl, hb3⟩
  have hs3 := hs2.below hb3
  have hB3 := hB2.trans (hb3.mono hB2.size)
  have hc3_1 := cell_step hc2_1 hb3
  have hc3_2 := cell_step hc2_2 hb3
  go_wp2_with fail
  refine (h0 _).mono ?_
  rintro e wx ⟨rfl, rfl⟩
  go_wp2_with fail
  rw [rounds_succ]
  have ce := hc3_1.1
  go_wp2_with fail
  refine (dig_2 _ hs3).mono ?_
  rintro e w4 ⟨rfl, hb4⟩
  clear ce
  have hs4 := hs3.below hb4
  have hB4 := hB3.trans (hb4.mono hB3.size)
  have hc4_1 := cell_step hc3_1 hb4
  have hc4_2 := cell_step hc3_2 hb4
  go_wp2_with fail
  refine (h1 _).mono ?_
  rintro e wx ⟨rfl, rfl⟩
  go_wp2_with fail
  refine (h2 _).mono ?_
  rintro e wx ⟨rfl, rfl⟩
  go_wp2_with fail
  go_ret
  exact ⟨rfl, hB4⟩

theorem lawo_e12 (k n : Int) (S : ByteArray) (w : World) (hs : Std w) (HI : Dig n S w) (hS : S.size ≤ 30) (h0 : Suf S ⟨#[49]⟩ false) (h1 : Suf S ⟨#[50]⟩ true) (h2 : Suf S ⟨#[49, 50]⟩ true) (h3 : Suf S ⟨#[51]⟩ false) (k1 : ¬ k = 1) (k2 : ¬ k = 2) :
    Calls Tryz.prog 20 #[.int .i64 k, .int .i64 n] w fun e w' => e = .returned (.string (S ++ ⟨#[116, 104]⟩)) ∧ Below w.heap.size w w' := by
  have e1 : (k == 1) = false := beq_eq_false_iff_ne.2 k1
  have e2 : (k == 2) = false := beq_eq_false_iff_ne.2 k2
  go_enter Tryz.func20, Tryz.ntmps20
  go_wp2_with (go_at_call 38; refine HI.mono ?_; rintro e w1 ⟨rfl, hb⟩)
  have hs1 := hs.below hb
  have hA : Below w1.heap.size w1 (w1.alloc (.cells #[.string ⟨#[115, 116]⟩, .string ⟨#[110, 100]⟩, .string ⟨#[114, 100]⟩] 9)) := Below.alloc (Below.refl _ _) (Nat.le_refl _) _
  have hs2 := hs1.below hA
  have hB2 : Below w.heap.size w (w1.alloc (.cells #[.string ⟨#[115, 116]⟩, .string ⟨#[110, 100]⟩, .string ⟨#[114, 100]⟩] 9)) := hb.trans (hA.mono hb.size)
  have hc2_1 : (w1.alloc (.cells #[.string ⟨#[115, 116]⟩, .string ⟨#[110, 100]⟩, .string ⟨#[114, 100]⟩] 9)).cell? ⟨w1.heap.size, 1, none⟩ = some (.string ⟨#[110, 100]⟩) ∧ w1.heap.size < (w1.alloc (.cells #[.string ⟨#[115, 116]⟩, .string ⟨#[110, 100]⟩, .string ⟨#[114, 100]⟩] 9)).heap.size :=
    ⟨by unfold World.cell?; rw [show (w1.alloc (.cells #[.string ⟨#[115, 116]⟩, .string ⟨#[110, 100]⟩, .string ⟨#[114, 100]⟩] 9)).heap[w1.heap.size]? = _ from heap_alloc_new w1 _]; rfl, by simp⟩
  have hc2_2 : (w1.alloc (.cells #[.string ⟨#[115, 116]⟩, .string ⟨#[110, 100]⟩, .string ⟨#[114, 100]⟩] 9)).cell? ⟨w1.heap.size, 2, none⟩ = some (.string ⟨#[114, 100]⟩) ∧ w1.heap.size < (w1.alloc (.cells #[.string ⟨#[115, 116]⟩, .string ⟨#[110, 100]⟩, .string ⟨#[114, 100]⟩] 9)).heap.size :=
    ⟨by unfold World.cell?; rw [show (w1.alloc (.cells #[.string ⟨#[115, 116]⟩, .string ⟨#[110, 100]⟩, .string ⟨#[114, 100]⟩] 9)).heap[w1.heap.size]? = _ from heap_alloc_new w1 _]; rfl, by simp⟩
  refine wp_loop_rounds 4 ?_
  rw [rounds_succ]
  go_wp2_with fail
  refine (dig_1 _ hs2).mono ?_
  rintro e w3 ⟨rfl, hb3⟩
  have hs3 := hs2.below hb3
  have hB3 := hB2.trans (hb3.mono hB2.size)
  have hc3_1 := cell_step hc2_1 hb3
  have hc3_2 := cell_step hc2_2 hb3
  go_wp2_with fail
  refine (h0 _).mono ?_
  rintro e wx ⟨rfl, rfl⟩
  go_wp2_with fail
  rw [rounds_succ]
  have ce := hc3_1.1
  go_wp2_with fail
  refine (dig_2 _ hs3).mono ?_
  rintro e w4 ⟨rfl, hb4⟩
  clear ce
  have hs4 := hs3.below hb4
  have hB4 := hB3.trans (hb4.mono hB3.size)
  have hc4_1 := cell_step hc3_1 hb4
  have hc4_2 := cell_step hc3_2 hb4
  go_wp2_with fail
  refine (h1 _).mono ?_
  rintro e wx ⟨rfl, rfl⟩
  go_wp2_with fail
  refine (h2 _).mono ?_
  rintro e wx ⟨rfl, rfl⟩
  go_wp2_with fail
  rw [rounds_succ]
  have ce := hc4_2.1
  go_wp2_with fail
  refine (dig_3 _ hs4).mono ?_
  rintro e w5 ⟨rfl, hb5⟩
  clear ce
  have hs5 := hs4.below hb5
  have hB5 := hB4.trans (hb5.mono hB4.size)
  have hc5_1 := cell_step hc4_1 hb5
  have hc5_2 := cell_step hc4_2 hb5
  go_wp2_with fail
  refine (h3 _).mono ?_
  rintro e wx ⟨rfl, rfl⟩
  go_wp2_with fail
  rw [rounds_succ]
  go_wp2
  go_ret
  exact ⟨rfl, hB5⟩

theorem lawo_rd (k n : Int) (S : ByteArray) (w : World) (hs : Std w) (HI : Dig n S w) (hS : S.size ≤ 30) (h0 : Suf S ⟨#[49]⟩ false) (h1 : Suf S ⟨#[50]⟩ false) (h2 : Suf S ⟨#[51]⟩ true) (h3 : Suf S ⟨#[49, 51]⟩ false) (k1 : ¬ k = 1) (k2 : ¬ k = 2) :
    Calls Tryz.prog 20 #[.int .i64 k, .int .i64 n] w fun e w' => e = .returned (.string (S ++ ⟨#[114, 100]⟩)) ∧ Below w.heap.size w w' := by
  have e1 : (k == 1) = false := beq_eq_false_iff_ne.2 k1
  have e2 : (k == 2) = false := beq_eq_false_iff_ne.2 k2
  go_enter Tryz.func20, Tryz.ntmps20
  go_wp2_with (go_at_call 38; refine HI.mono ?_; rintro e w1 ⟨rfl, hb⟩)
  have hs1 := hs.below hb
  have hA : Below w1.heap.size w1 (w1.alloc (.cells #[.string ⟨#[115, 116]⟩, .string ⟨#[110, 100]⟩, .string ⟨#[114, 100]⟩] 9)) := Below.alloc (Below.refl _ _) (Nat.le_refl _) _
  have hs2 := hs1.below hA
  have hB2 : Below w.heap.size w (w1.alloc (.cells #[.string ⟨#[115, 116]⟩, .string ⟨#[110, 100]⟩, .string ⟨#[114, 100]⟩] 9)) := hb.trans (hA.mono hb.size)
  have hc2_1 : (w1.alloc (.cells #[.string ⟨#[115, 116]⟩, .string ⟨#[110, 100]⟩, .string ⟨#[114, 100]⟩] 9)).cell? ⟨w1.heap.size, 1, none⟩ = some (.string ⟨#[110, 100]⟩) ∧ w1.heap.size < (w1.alloc (.cells #[.string ⟨#[115, 116]⟩, .string ⟨#[110, 100]⟩, .string ⟨#[114, 100]⟩] 9)).heap.size :=
    ⟨by unfold World.cell?; rw [show (w1.alloc (.cells #[.string ⟨#[115, 116]⟩, .string ⟨#[110, 100]⟩, .string ⟨#[114, 100]⟩] 9)).heap[w1.heap.size]? = _ from heap_alloc_new w1 _]; rfl, by simp⟩
  have hc2_2 : (w1.alloc (.cells #[.string ⟨#[115, 116]⟩, .string ⟨#[110, 100]⟩, .string ⟨#[114, 100]⟩] 9)).cell? ⟨w1.heap.size, 2, none⟩ = some (.string ⟨#[114, 100]⟩) ∧ w1.heap.size < (w1.alloc (.cells #[.string ⟨#[115, 116]⟩, .string ⟨#[110, 100]⟩, .string ⟨#[114, 100]⟩] 9)).heap.size :=
    ⟨by unfold World.cell?; rw [show (w1.alloc (.cells #[.string ⟨#[115, 116]⟩, .string ⟨#[110, 100]⟩, .string ⟨#[114, 100]⟩] 9)).heap[w1.heap.size]? = _ from heap_alloc_new w1 _]; rfl, by simp⟩
  refine wp_loop_rounds 4 ?_
  rw [rounds_succ]
  go_wp2_with fail
  refine (dig_1 _ hs2).mono ?_
  rintro e w3 ⟨rfl, hb3⟩
  have hs3 := hs2.below hb3
  have hB3 := hB2.trans (hb3.mono hB2.size)
  have hc3_1 := cell_step hc2_1 hb3
  have hc3_2 := cell_step hc2_2 hb3
  go_wp2_with fail
  refine (h0 _).mono ?_
  rintro e wx ⟨rfl, rfl⟩
  go_wp2_with fail
  rw [rounds_succ]
  have ce := hc3_1.1
  go_wp2_with fail
  refine (dig_2 _ hs3).mono ?_
  rintro e w4 ⟨rfl, hb4⟩
  clear ce
  have hs4 := hs3.below hb4
  have hB4 := hB3.trans (hb4.mono hB3.size)
  have hc4_1 := cell_step hc3_1 hb4
  have hc4_2 := cell_step hc3_2 hb4
  go_wp2_with fail
  refine (h1 _).mono ?_
  rintro e wx ⟨rfl, rfl⟩
  go_wp2_with fail
  rw [rounds_succ]
  have ce := hc4_2.1
  go_wp2_with fail
  refine (dig_3 _ hs4).mono ?_
  rintro e w5 ⟨rfl, hb5⟩
  clear ce
  have hs5 := hs4.below hb5
  have hB5 := hB4.trans (hb5.mono hB4.size)
  have hc5_1 := cell_step hc4_1 hb5
  have hc5_2 := cell_step hc4_2 hb5
  go_wp2_with fail
  refine (h2 _).mono ?_
  rintro e wx ⟨rfl, rfl⟩
  go_wp2_with fail
  refine (h3 _).mono ?_
  rintro e wx ⟨rfl, rfl⟩
  go_wp2_with fail
  go_ret
  exact ⟨rfl, hB5⟩

theorem lawo_e13 (k n : Int) (S : ByteArray) (w : World) (hs : Std w) (HI : Dig n S w) (hS : S.size ≤ 30) (h0 : Suf S ⟨#[49]⟩ false) (h1 : Suf S ⟨#[50]⟩ false) (h2 : Suf S ⟨#[51]⟩ true) (h3 : Suf S ⟨#[49, 51]⟩ true) (k1 : ¬ k = 1) (k2 : ¬ k = 2) :
    Calls Tryz.prog 20 #[.int .i64 k, .int .i64 n] w fun e w' => e = .returned (.string (S ++ ⟨#[116, 104]⟩)) ∧ Below w.heap.size w w' := by
  have e1 : (k == 1) = false := beq_eq_false_iff_ne.2 k1
  have e2 : (k == 2) = false := beq_eq_false_iff_ne.2 k2
  go_enter Tryz.func20, Tryz.ntmps20
  go_wp2_with (go_at_call 38; refine HI.mono ?_; rintro e w1 ⟨rfl, hb⟩)
  have hs1 := hs.below hb
  have hA : Below w1.heap.size w1 (w1.alloc (.cells #[.string ⟨#[115, 116]⟩, .string ⟨#[110, 100]⟩, .string ⟨#[114, 100]⟩] 9)) := Below.alloc (Below.refl _ _) (Nat.le_refl _) _
  have hs2 := hs1.below hA
  have hB2 : Below w.heap.size w (w1.alloc (.cells #[.string ⟨#[115, 116]⟩, .string ⟨#[110, 100]⟩, .string ⟨#[114, 100]⟩] 9)) := hb.trans (hA.mono hb.size)
  have hc2_1 : (w1.alloc (.cells #[.string ⟨#[115, 116]⟩, .string ⟨#[110, 100]⟩, .string ⟨#[114, 100]⟩] 9)).cell? ⟨w1.heap.size, 1, none⟩ = some (.string ⟨#[110, 100]⟩) ∧ w1.heap.size < (w1.alloc (.cells #[.string ⟨#[115, 116]⟩, .string ⟨#[110, 100]⟩, .string ⟨#[114, 100]⟩] 9)).heap.size :=
    ⟨by unfold World.cell?; rw [show (w1.alloc (.cells #[.string ⟨#[115, 116]⟩, .string ⟨#[110, 100]⟩, .string ⟨#[114, 100]⟩] 9)).heap[w1.heap.size]? = _ from heap_alloc_new w1 _]; rfl, by simp⟩
  have hc2_2 : (w1.alloc (.cells #[.string ⟨#[115, 116]⟩, .string ⟨#[110, 100]⟩, .string ⟨#[114, 100]⟩] 9)).cell? ⟨w1.heap.size, 2, none⟩ = some (.string ⟨#[114, 100]⟩) ∧ w1.heap.size < (w1.alloc (.cells #[.string ⟨#[115, 116]⟩, .string ⟨#[110, 100]⟩, .string ⟨#[114, 100]⟩] 9)).heap.size :=
    ⟨by unfold World.cell?; rw [show (w1.alloc (.cells #[.string ⟨#[115, 116]⟩, .string ⟨#[110, 100]⟩, .string ⟨#[114, 100]⟩] 9)).heap[w1.heap.size]? = _ from heap_alloc_new w1 _]; rfl, by simp⟩
  refine wp_loop_rounds 4 ?_
  rw [rounds_succ]
  go_wp2_with fail
  refine (dig_1 _ hs2).mono ?_
  rintro e w3 ⟨rfl, hb3⟩
  have hs3 := hs2.below hb3
  have hB3 := hB2.trans (hb3.mono hB2.size)
  have hc3_1 := cell_step hc2_1 hb3
  have hc3_2 := cell_step hc2_2 hb3
  go_wp2_with fail
  refine (h0 _).mono ?_
  rintro e wx ⟨rfl, rfl⟩
  go_wp2_with fail
  rw [rounds_succ]
  have ce := hc3_1.1
  go_wp2_with fail
  refine (dig_2 _ hs3).mono ?_
  rintro e w4 ⟨rfl, hb4⟩
  clear ce
  have hs4 := hs3.below hb4
  have hB4 := hB3.trans (hb4.mono hB3.size)
  have hc4_1 := cell_step hc3_1 hb4
  have hc4_2 := cell_step hc3_2 hb4
  go_wp2_with fail
  refine (h1 _).mono ?_
  rintro e wx ⟨rfl, rfl⟩
  go_wp2_with fail
  rw [rounds_succ]
  have ce := hc4_2.1
  go_wp2_with fail
  refine (dig_3 _ hs4).mono ?_
  rintro e w5 ⟨rfl, hb5⟩
  clear ce
  have hs5 := hs4.below hb5
  have hB5 := hB4.trans (hb5.mono hB4.size)
  have hc5_1 := cell_step hc4_1 hb5
  have hc5_2 := cell_step hc4_2 hb5
  go_wp2_with fail
  refine (h2 _).mono ?_
  rintro e wx ⟨rfl, rfl⟩
  go_wp2_with fail
  refine (h3 _).mono ?_
  rintro e wx ⟨rfl, rfl⟩
  go_wp2_with fail
  rw [rounds_succ]
  go_wp2
  go_ret
  exact ⟨rfl, hB5⟩

theorem lawo_g (k n : Int) (S : ByteArray) (w : World) (hs : Std w) (HI : Dig n S w) (hS : S.size ≤ 30) (h0 : Suf S ⟨#[49]⟩ false) (h1 : Suf S ⟨#[50]⟩ false) (h2 : Suf S ⟨#[51]⟩ false) (k1 : ¬ k = 1) (k2 : ¬ k = 2) :
    Calls Tryz.prog 20 #[.int .i64 k, .int .i64 n] w fun e w' => e = .returned (.string (S ++ ⟨#[116, 104]⟩)) ∧ Below w.heap.size w w' := by
  have e1 : (k == 1) = false := beq_eq_false_iff_ne.2 k1
  have e2 : (k == 2) = false := beq_eq_false_iff_ne.2 k2
  go_enter Tryz.func20, Tryz.ntmps20
  go_wp2_with (go_at_call 38; refine HI.mono ?_; rintro e w1 ⟨rfl, hb⟩)
  have hs1 := hs.below hb
  have hA : Below w1.heap.size w1 (w1.alloc (.cells #[.string ⟨#[115, 116]⟩, .string ⟨#[110, 100]⟩, .string ⟨#[114, 100]⟩] 9)) := Below.alloc (Below.refl _ _) (Nat.le_refl _) _
  have hs2 := hs1.below hA
  have hB2 : Below w.heap.size w (w1.alloc (.cells #[.string ⟨#[115, 116]⟩, .string ⟨#[110, 100]⟩, .string ⟨#[114, 100]⟩] 9)) := hb.trans (hA.mono hb.size)
  have hc2_1 : (w1.alloc (.cells #[.string ⟨#[115, 116]⟩, .string ⟨#[110, 100]⟩, .string ⟨#[114, 100]⟩] 9)).cell? ⟨w1.heap.size, 1, none⟩ = some (.string ⟨#[110, 100]⟩) ∧ w1.heap.size < (w1.alloc (.cells #[.string ⟨#[115, 116]⟩, .string ⟨#[110, 100]⟩, .string ⟨#[114, 100]⟩] 9)).heap.size :=
    ⟨by unfold World.cell?; rw [show (w1.alloc (.cells #[.string ⟨#[115, 116]⟩, .string ⟨#[110, 100]⟩, .string ⟨#[114, 100]⟩] 9)).heap[w1.heap.size]? = _ from heap_alloc_new w1 _]; rfl, by simp⟩
  have hc2_2 : (w1.alloc (.cells #[.string ⟨#[115, 116]⟩, .string ⟨#[110, 100]⟩, .string ⟨#[114, 100]⟩] 9)).cell? ⟨w1.heap.size, 2, none⟩ = some (.string ⟨#[114, 100]⟩) ∧ w1.heap.size < (w1.alloc (.cells #[.string ⟨#[115, 116]⟩, .string ⟨#[110, 100]⟩, .string ⟨#[114, 100]⟩] 9)).heap.size :=
    ⟨by unfold World.cell?; rw [show (w1.alloc (.cells #[.string ⟨#[115, 116]⟩, .string ⟨#[110, 100]⟩, .string ⟨#[114, 100]⟩] 9)).heap[w1.heap.size]? = _ from heap_alloc_new w1 _]; rfl, by simp⟩
  refine wp_loop_rounds 4 ?_
  rw [rounds_succ]
  go_wp2_with fail
  refine (dig_1 _ hs2).mono ?_
  rintro e w3 ⟨rfl, hb3⟩
  have hs3 := hs2.below hb3
  have hB3 := hB2.trans (hb3.mono hB2.size)
  have hc3_1 := cell_step hc2_1 hb3
  have hc3_2 := cell_step hc2_2 hb3
  go_wp2_with fail
  refine (h0 _).mono ?_
  rintro e wx ⟨rfl, rfl⟩
  go_wp2_with fail
  rw [rounds_succ]
  have ce := hc3_1.1
  go_wp2_with fail
  refine (dig_2 _ hs3).mono ?_
  rintro e w4 ⟨rfl, hb4⟩
  clear ce
  have hs4 := hs3.below hb4
  have hB4 := hB3.trans (hb4.mono hB3.size)
  have hc4_1 := cell_step hc3_1 hb4
  have hc4_2 := cell_step hc3_2 hb4
  go_wp2_with fail
  refine (h1 _).mono ?_
  rintro e wx ⟨rfl, rfl⟩
  go_wp2_with fail
  rw [rounds_succ]
  have ce := hc4_2.1
  go_wp2_with fail
  refine (dig_3 _ hs4).mono ?_
  rintro e w5 ⟨rfl, hb5⟩
  clear ce
  have hs5 := hs4.below hb5
  have hB5 := hB4.trans (hb5.mono hB4.size)
  have hc5_1 := cell_step hc4_1 hb5
  have hc5_2 := cell_step hc4_2 hb5
  go_wp2_with fail
  refine (h2 _).mono ?_
  rintro e wx ⟨rfl, rfl⟩
  go_wp2_with fail
  rw [rounds_succ]
  go_wp2
  go_ret
  exact ⟨rfl, hB5⟩

theorem lawo_point (n : Int) (S : ByteArray) (w : World) (HI : Dig n S w) (hS : S.size ≤ 30) :
    Calls Tryz.prog 20 #[.int .i64 2, .int .i64 n] w fun e w' => e = .returned (.string (S ++ ⟨#[46]⟩)) ∧ Below w.heap.size w w' := by
  go_enter Tryz.func20, Tryz.ntmps20
  go_wp2_with (go_at_call 38; refine HI.mono ?_; rintro e w1 ⟨rfl, hb⟩)
  go_ret
  exact ⟨rfl, hb⟩

theorem lawo_er1 (n : Int) (S : ByteArray) (w : World) (HI : Dig n S w) (hS : S.size ≤ 30) (c1 : S = ⟨#[49]⟩) :
    Calls Tryz.prog 20 #[.int .i64 1, .int .i64 n] w fun e w' => e = .returned (.string (S ++ ⟨#[101, 114]⟩)) ∧ Below w.heap.size w w' := by
  subst c1
  go_enter Tryz.func20, Tryz.ntmps20
  go_wp2_with (go_at_call 38; refine HI.mono ?_; rintro e w1 ⟨rfl, hb⟩)
  go_ret
  exact ⟨rfl, hb⟩

theorem lawo_er (n : Int) (S : ByteArray) (w : World) (HI : Dig n S w) (hS : S.size ≤ 30) (c1 : ¬ S.toList = [49]) :
    Calls Tryz.prog 20 #[.int .i64 1, .int .i64 n] w fun e w' => e = .returned (.string (S ++ ⟨#[101]⟩)) ∧ Below w.heap.size w w' := by
  have d1 : (S.toList == [49]) = false := beq_eq_false_iff_ne.2 c1
  go_enter Tryz.func20, Tryz.ntmps20
  go_wp2_with (go_at_call 38; refine HI.mono ?_; rintro e w1 ⟨rfl, hb⟩)
  go_ret
  exact ⟨rfl, hb⟩

end Go.Proofs.YthcfhmdoelpbdaaGreatDoor
