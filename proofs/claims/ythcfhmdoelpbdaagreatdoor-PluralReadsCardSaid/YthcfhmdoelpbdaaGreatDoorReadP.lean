/- The walk of package plural's Read: a text that begins with digits which are a number (printed by gen_readp.py). -/
import Derived.Test.YthcfhmdoelpbdaaGreatDoorOrdL
namespace Go.Proofs.YthcfhmdoelpbdaaGreatDoor
set_option linter.unusedVariables false
set_option linter.unusedSimpArgs false
open Go.RowKit Go.Proofs

/-- A text whose first p bytes are digits, and no more. -/
structure Lead (T : ByteArray) (p : Nat) : Prop where
  le : p ≤ T.size
  dig : ∀ j (h : j < T.size), j < p → 48 ≤ (T[j].toNat : Int) ∧ (T[j].toNat : Int) ≤ 57
  stop : ∀ (h : p < T.size), (T[p].toNat : Int) < 48 ∨ 57 < (T[p].toNat : Int)

def AtoiIs (D : ByteArray) (x : Int) : Prop := ∀ w, Calls Tryz.prog 21 #[.string D] w fun e w' => e = .returned (.tuple #[.int .i64 x, .nilIface]) ∧ Below w.heap.size w w'

theorem read_yes (k m x : Int) (T : ByteArray) (p : Nat) (w : World) (hs : Std w) (hT : T.size ≤ 1000) (hl : Lead T p) (HA : AtoiIs (T.extract 0 p) x) (x1 : 1 ≤ x) (x2 : x ≤ 1000000000000) (hm : x ≤ m) (he : ordT k x = T) :
    Calls Tryz.prog 18 #[.int .i64 k, .string T, .int .i64 m] w fun e w' => e = .returned (.tuple #[.int .i64 x, .bool true]) ∧ Below w.heap.size w w' := by
  have hple := hl.le
  go_enter Tryz.func18, Tryz.ntmps18
  go_wp2_with fail
  go_loop [8] (fun i => ∃ j : Nat, j ≤ p ∧ i = .int .i64 j) (fun i => p - (intOf i).toNat)
  case atStart => exact ⟨0, by omega, rfl⟩
  case round =>
    obtain ⟨j, hj, rfl⟩ := hrel
    by_cases hlt : j < p
    · have hjl : j < T.size := by omega
      obtain ⟨d1, d2⟩ := hl.dig j hjl hlt
      go_wp2_with fail
      exact ⟨⟨j + 1, by omega, by go_num⟩, by simp [intOf]; omega⟩
    · obtain rfl : j = p := by omega
      have hat : ∀ (K : Ending → World → Prop), (∀ e w', e = .returned (.tuple #[.int .i64 x, .nilIface]) ∧ Below w.heap.size w w' → K e w') → Calls Tryz.prog 21 #[.string (T.extract 0 j)] w K := fun K hK => (HA w).mono fun e w' h => hK e w' h
      by_cases hjl : j < T.size
      · rcases hl.stop hjl with d1 | d1
        · go_wp2_with fail
          refine hat _ ?_
          rintro e w1 ⟨rfl, hb⟩
          have hs1 := hs.below hb
          go_wp2_with fail
          refine (ordP_any _ _ _ hs1 (by omega) (by omega)).mono ?_
          rintro e w2 ⟨rfl, hb2⟩
          have hB := hb.trans (hb2.mono hb.size)
          rw [he]
          go_wp2
          go_ret2
          exact ⟨rfl, hB⟩
        · have d0 : 48 ≤ (T[j].toNat : Int) := by omega
          go_wp2_with fail
          refine hat _ ?_
          rintro e w1 ⟨rfl, hb⟩
          have hs1 := hs.below hb
          go_wp2_with fail
          refine (ordP_any _ _ _ hs1 (by omega) (by omega)).mono ?_
          rintro e w2 ⟨rfl, hb2⟩
          have hB := hb.trans (hb2.mono hb.size)
          rw [he]
          go_wp2
          go_ret2
          exact ⟨rfl, hB⟩
      · go_wp2_with fail
        refine hat _ ?_
        rintro e w1 ⟨rfl, hb⟩
        have hs1 := hs.below hb
        go_wp2_with fail
        refine (ordP_any _ _ _ hs1 (by omega) (by omega)).mono ?_
        rintro e w2 ⟨rfl, hb2⟩
        have hB := hb.trans (hb2.mono hb.size)
        rw [he]
        go_wp2
        go_ret2
        exact ⟨rfl, hB⟩

theorem read_more (k m x : Int) (T : ByteArray) (p : Nat) (w : World) (hs : Std w) (hT : T.size ≤ 1000) (hl : Lead T p) (HA : AtoiIs (T.extract 0 p) x) (x1 : 1 ≤ x) (x2 : x ≤ 1000000000000) (hm : m < x) :
    Calls Tryz.prog 18 #[.int .i64 k, .string T, .int .i64 m] w fun e w' => e = .returned (.tuple #[.int .i64 0, .bool false]) ∧ Below w.heap.size w w' := by
  have hple := hl.le
  go_enter Tryz.func18, Tryz.ntmps18
  go_wp2_with fail
  go_loop [8] (fun i => ∃ j : Nat, j ≤ p ∧ i = .int .i64 j) (fun i => p - (intOf i).toNat)
  case atStart => exact ⟨0, by omega, rfl⟩
  case round =>
    obtain ⟨j, hj, rfl⟩ := hrel
    by_cases hlt : j < p
    · have hjl : j < T.size := by omega
      obtain ⟨d1, d2⟩ := hl.dig j hjl hlt
      go_wp2_with fail
      exact ⟨⟨j + 1, by omega, by go_num⟩, by simp [intOf]; omega⟩
    · obtain rfl : j = p := by omega
      have hat : ∀ (K : Ending → World → Prop), (∀ e w', e = .returned (.tuple #[.int .i64 x, .nilIface]) ∧ Below w.heap.size w w' → K e w') → Calls Tryz.prog 21 #[.string (T.extract 0 j)] w K := fun K hK => (HA w).mono fun e w' h => hK e w' h
      by_cases hjl : j < T.size
      · rcases hl.stop hjl with d1 | d1
        · go_wp2_with fail
          refine hat _ ?_
          rintro e w1 ⟨rfl, hb⟩
          go_wp2
          go_ret2
          exact ⟨rfl, hb⟩
        · have d0 : 48 ≤ (T[j].toNat : Int) := by omega
          go_wp2_with fail
          refine hat _ ?_
          rintro e w1 ⟨rfl, hb⟩
          go_wp2
          go_ret2
          exact ⟨rfl, hb⟩
      · go_wp2_with fail
        refine hat _ ?_
        rintro e w1 ⟨rfl, hb⟩
        go_wp2
        go_ret2
        exact ⟨rfl, hb⟩

theorem read_other (k m x : Int) (T : ByteArray) (p : Nat) (w : World) (hs : Std w) (hT : T.size ≤ 1000) (hl : Lead T p) (HA : AtoiIs (T.extract 0 p) x) (x1 : 1 ≤ x) (x2 : x ≤ 1000000000000) (hm : x ≤ m) (he : ¬ (ordT k x).toList = T.toList) :
    Calls Tryz.prog 18 #[.int .i64 k, .string T, .int .i64 m] w fun e w' => e = .returned (.tuple #[.int .i64 0, .bool false]) ∧ Below w.heap.size w w' := by
  have hple := hl.le
  go_enter Tryz.func18, Tryz.ntmps18
  go_wp2_with fail
  go_loop [8] (fun i => ∃ j : Nat, j ≤ p ∧ i = .int .i64 j) (fun i => p - (intOf i).toNat)
  case atStart => exact ⟨0, by omega, rfl⟩
  case round =>
    obtain ⟨j, hj, rfl⟩ := hrel
    by_cases hlt : j < p
    · have hjl : j < T.size := by omega
      obtain ⟨d1, d2⟩ := hl.dig j hjl hlt
      go_wp2_with fail
      exact ⟨⟨j + 1, by omega, by go_num⟩, by simp [intOf]; omega⟩
    · obtain rfl : j = p := by omega
      have hat : ∀ (K : Ending → World → Prop), (∀ e w', e = .returned (.tuple #[.int .i64 x, .nilIface]) ∧ Below w.heap.size w w' → K e w') → Calls Tryz.prog 21 #[.string (T.extract 0 j)] w K := fun K hK => (HA w).mono fun e w' h => hK e w' h
      by_cases hjl : j < T.size
      · rcases hl.stop hjl with d1 | d1
        · go_wp2_with fail
          refine hat _ ?_
          rintro e w1 ⟨rfl, hb⟩
          have hs1 := hs.below hb
          go_wp2_with fail
          refine (ordP_any _ _ _ hs1 (by omega) (by omega)).mono ?_
          rintro e w2 ⟨rfl, hb2⟩
          have hB := hb.trans (hb2.mono hb.size)
          generalize ordT k x = O at *
          have he2 : (O.toList == T.toList) = false := beq_eq_false_iff_ne.2 he
          go_wp2
          go_ret2
          exact ⟨rfl, hB⟩
        · have d0 : 48 ≤ (T[j].toNat : Int) := by omega
          go_wp2_with fail
          refine hat _ ?_
          rintro e w1 ⟨rfl, hb⟩
          have hs1 := hs.below hb
          go_wp2_with fail
          refine (ordP_any _ _ _ hs1 (by omega) (by omega)).mono ?_
          rintro e w2 ⟨rfl, hb2⟩
          have hB := hb.trans (hb2.mono hb.size)
          generalize ordT k x = O at *
          have he2 : (O.toList == T.toList) = false := beq_eq_false_iff_ne.2 he
          go_wp2
          go_ret2
          exact ⟨rfl, hB⟩
      · go_wp2_with fail
        refine hat _ ?_
        rintro e w1 ⟨rfl, hb⟩
        have hs1 := hs.below hb
        go_wp2_with fail
        refine (ordP_any _ _ _ hs1 (by omega) (by omega)).mono ?_
        rintro e w2 ⟨rfl, hb2⟩
        have hB := hb.trans (hb2.mono hb.size)
        generalize ordT k x = O at *
        have he2 : (O.toList == T.toList) = false := beq_eq_false_iff_ne.2 he
        go_wp2
        go_ret2
        exact ⟨rfl, hB⟩

end Go.Proofs.YthcfhmdoelpbdaaGreatDoor
