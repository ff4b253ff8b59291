/- The walks of the plain functions of the statements of chapter 1. -/
import Derived.Test.YtnbkknlljbhpgaaGreatDoorCivT
namespace Go.Proofs.YtnbkknlljbhpgaaGreatDoor
open Go.RowKit Go.Proofs

theorem leapL_any (y : Int) (w : World) (h : 0 ≤ y) (h' : y ≤ 1000000) :
    Calls Tryz.prog 91 #[.int .i64 y] w fun e w' => e = .returned (.bool (leapB y)) ∧ w = w' := by
  by_cases h4 : y % 4 = 0 <;> by_cases h1 : y % 100 = 0 <;> by_cases h2 : y % 400 = 0
  all_goals first | (exfalso; omega) | skip
  all_goals
    go_enter Tryz.func91, Tryz.ntmps91
    go_wp2
    go_ret
    exact ⟨ret_bool (by simp [leapB, h4, h1, h2]), rfl⟩

theorem longL_any (y m : Int) (w : World) (h : 0 ≤ y) (h' : y ≤ 1000000) :
    Calls Tryz.prog 51 #[.int .i64 y, .int .i64 m] w fun e w' => e = .returned (.int .i64 (longI y m)) ∧ w = w' := by
  by_cases hr : 1 ≤ m ∧ m ≤ 12
  · have : m = 1 ∨ m = 2 ∨ m = 3 ∨ m = 4 ∨ m = 5 ∨ m = 6 ∨ m = 7 ∨ m = 8 ∨ m = 9 ∨ m = 10 ∨ m = 11 ∨ m = 12 := by omega
    clear hr
    have HB := leapL_any y
    cases hb : leapB y <;> rw [hb] at HB
    all_goals
      rcases this with rfl | rfl | rfl | rfl | rfl | rfl | rfl | rfl | rfl | rfl | rfl | rfl
      all_goals
        go_enter Tryz.func51, Tryz.ntmps51
        go_wp2_with (go_at_call 91; refine (HB _ h h').mono ?_; rintro e w' ⟨rfl, rfl⟩)
        go_ret
        exact ⟨ret_int (by simp [longI, mdays, hb]), rfl⟩
  · have hl : longI y m = 0 := by unfold longI; rw [if_pos (by omega)]
    have HL := Lib.hid hl
    clear hl
    by_cases h1 : m < 1
    all_goals
      go_enter Tryz.func51, Tryz.ntmps51
      go_wp2
      go_ret
      rw [HL.out]
      exact ⟨rfl, rfl⟩

theorem aheadL_any (y : Int) (w : World) (h : 1 ≤ y) (h' : y ≤ 1000000) :
    Calls Tryz.prog 52 #[.int .i64 y] w fun e w' => e = .returned (.int .i64 (aheadI y)) ∧ Below w.heap.size w w' := by
  go_enter Tryz.func52, Tryz.ntmps52
  go_wp2
  go_loopw [3, 14] (fun n i wr => ∃ k : Nat, k ≤ 3 ∧ i = .int .i64 k ∧ n = .int .i64 (365 * (y - 1) + (if 0 < k then (y - 1) / 4 else 0) - (if 1 < k then (y - 1) / 100 else 0) + (if 2 < k then (y - 1) / 400 else 0))
      ∧ (wr.cell? ⟨w.heap.size, 0, none⟩ = some (.int .i64 4) ∧ wr.cell? ⟨w.heap.size, 1, none⟩ = some (.int .i64 1) ∧ wr.cell? ⟨w.heap.size, 2, none⟩ = some (.int .i64 100) ∧ wr.cell? ⟨w.heap.size, 3, none⟩ = some (.int .i64 (-1)) ∧ wr.cell? ⟨w.heap.size, 4, none⟩ = some (.int .i64 400) ∧ wr.cell? ⟨w.heap.size, 5, none⟩ = some (.int .i64 1))
      ∧ Below w.heap.size w wr ∧ w.heap.size < wr.heap.size) (fun _ i _ => 3 - (intOf i).toNat)
  case atStart => exact ⟨0, by omega, rfl, by simp, ⟨by go_simp, by go_simp, by go_simp, by go_simp, by go_simp, by go_simp⟩, (Below.refl _ _).alloc (Nat.le_refl _) _, by simp⟩
  case round =>
    obtain ⟨k, hk, rfl, rfl, ⟨c0, c1, c2, c3, c4, c5⟩, hb, hz⟩ := hrel
    have : k = 0 ∨ k = 1 ∨ k = 2 ∨ k = 3 := by omega
    rcases this with rfl | rfl | rfl | rfl
    · go_wp2
      go_quiet (fail)
      go_wp2
      go_roundw
      case rel =>
        exact ⟨1, by omega, rfl, by simp, ⟨by go_simp, by go_simp, by go_simp, by go_simp, by go_simp, by go_simp⟩, below_drewN (hb.alloc (by omega) _) _, by simp; omega⟩
      case measure => simp [intOf]
    · go_wp2
      go_quiet (fail)
      go_wp2
      go_roundw
      case rel =>
        exact ⟨2, by omega, rfl, by simp; omega, ⟨by go_simp, by go_simp, by go_simp, by go_simp, by go_simp, by go_simp⟩, below_drewN (hb.alloc (by omega) _) _, by simp; omega⟩
      case measure => simp [intOf]
    · go_wp2
      go_quiet (fail)
      go_wp2
      go_roundw
      case rel =>
        exact ⟨3, by omega, rfl, by simp, ⟨by go_simp, by go_simp, by go_simp, by go_simp, by go_simp, by go_simp⟩, below_drewN (hb.alloc (by omega) _) _, by simp; omega⟩
      case measure => simp [intOf]
    · go_wp2
      go_ret
      exact ⟨ret_int (by unfold aheadI; simp), hb⟩

/-- the date of a day, by the statements' own search -/
theorem dateL_yes (n : Int) (w : World) (h : isDay n = true) :
    Calls Tryz.prog 50 #[.int .i64 n] w fun e w' => e = .returned (.tuple #[.int .i64 (yearI n), .int .i64 (monthI n), .int .i64 (mdayI n)]) ∧ Below w.heap.size w w' := by
  have yb := year_bd h
  have HD := Lib.hid (date_is h)
  have hday := h
  simp only [isDay, decide_eq_true_eq] at hday
  have HM : Hid (mdayI n = n - aheadI (yearI n) - cumI (yearI n) (monthI n)) := rfl
  have ab := ahead_bd (yearI n) (by omega) (by omega)
  generalize yearI n = Y at *
  generalize monthI n = M at *
  generalize mdayI n = D at *
  clear h
  go_enter Tryz.func50, Tryz.ntmps50
  go_wp2
  go_loopw [5, 6] (fun l r wr => ∃ a b : Int, 1 ≤ a ∧ a ≤ Y ∧ Y ≤ b ∧ b ≤ 9999 ∧ l = .int .i64 a ∧ r = .int .i64 b ∧ Below w.heap.size w wr) (fun l r _ => (intOf r - intOf l).toNat)
  case atStart => exact ⟨1, 9999, by omega, by omega, by omega, by omega, rfl, rfl, Below.refl _ _⟩
  case round =>
    obtain ⟨a, b, ha, haY, hYb, hb9, rfl, rfl, hb⟩ := hrel
    have hsz := hb.size
    by_cases hlt : a < b
    · by_cases hm : (a + b + 1) / 2 ≤ Y
      · have hk : aheadI ((a + b + 1) / 2) < n := by
          have := ahead_mono hm
          omega
        go_wp2_with (go_at_call 52; refine (aheadL_any _ _ (by omega) (by omega)).mono ?_; rintro e w1 ⟨rfl, hb1⟩)
        go_roundw
        case rel => exact ⟨(a + b + 1) / 2, b, by omega, by omega, by omega, by omega, rfl, rfl, hb.trans (hb1.mono hsz)⟩
        case measure => simp [intOf]; omega
      · have hk : ¬ aheadI ((a + b + 1) / 2) < n := by
          have := ahead_mono (a := Y + 1) (b := (a + b + 1) / 2) (by omega)
          omega
        go_wp2_with (go_at_call 52; refine (aheadL_any _ _ (by omega) (by omega)).mono ?_; rintro e w1 ⟨rfl, hb1⟩)
        go_roundw
        case rel => exact ⟨a, (a + b + 1) / 2 - 1, by omega, by omega, by omega, by omega, rfl, rfl, hb.trans (hb1.mono hsz)⟩
        case measure => simp [intOf]; omega
    · obtain rfl : Y = a := by omega
      have hd := HD.out.1
      simp only [isDate, decide_eq_true_eq] at hd
      go_wp2_with (go_at_call 52; refine (aheadL_any _ _ (by omega) (by omega)).mono ?_; rintro e w1 ⟨rfl, hb1⟩)
      have hbb := hb.trans (hb1.mono hsz)
      clear hb hb1
      go_loop [3, 4] (fun i t => ∃ m : Int, 1 ≤ m ∧ m ≤ M ∧ i = .int .i64 m ∧ t = .int .i64 (n - aheadI Y - cumI Y m)) (fun i _ => (M - intOf i).toNat)
      case atStart => exact ⟨1, by omega, by omega, rfl, by rw [cum_one, Int.sub_zero]⟩
      case round =>
        obtain ⟨m, m1, m2, rfl, rfl⟩ := hrel
        have cb := cum_bd Y m
        have lp := leapI_bd Y
        have lk := long_bd Y m
        by_cases hmm : m < M
        · have HC := Lib.hid (cum_succ Y m m1 (by omega))
          have hlt2 : longI Y m < n - aheadI Y - cumI Y m := by
            have h1 := HC.out
            have h2 := cum_mono Y (a := m + 1) (b := M) (by omega)
            have h3 := HM.out
            omega
          go_wp2_with (go_at_call 51; refine (longL_any _ _ _ (by omega) (by omega)).mono ?_; rintro e w' ⟨rfl, rfl⟩)
          go_round
          case rel => exact ⟨m + 1, by omega, by omega, rfl, by rw [HC.out]; go_num⟩
          case measure => simp [intOf]; omega
        · obtain rfl : M = m := by omega
          have hlt2 : ¬ longI Y M < n - aheadI Y - cumI Y M := by
            have h3 := HM.out
            omega
          go_wp2_with (go_at_call 51; refine (longL_any _ _ _ (by omega) (by omega)).mono ?_; rintro e w' ⟨rfl, rfl⟩)
          go_ret3
          rw [HM.out]
          exact ⟨rfl, hbb⟩

theorem dateL_no (n : Int) (w : World) (h : isDay n = false) :
    Calls Tryz.prog 50 #[.int .i64 n] w fun e w' => e = .returned (.tuple #[.int .i64 0, .int .i64 0, .int .i64 0]) ∧ w = w' := by
  simp only [isDay, decide_eq_false_iff_not] at h
  by_cases h1 : n < 1
  all_goals
    go_enter Tryz.func50, Tryz.ntmps50
    go_wp2
    go_ret3
    exact ⟨rfl, rfl⟩
end Go.Proofs.YtnbkknlljbhpgaaGreatDoor
