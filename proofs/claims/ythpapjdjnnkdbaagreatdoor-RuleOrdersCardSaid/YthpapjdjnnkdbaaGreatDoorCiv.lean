/- The walks of package civil: what each of its functions computes. -/
import Derived.Test.YthpapjdjnnkdbaaGreatDoorBase
import Derived.Test.YthpapjdjnnkdbaaGreatDoorCal
namespace Go.Proofs.YthpapjdjnnkdbaaGreatDoor
open Go.RowKit Go.Proofs

theorem leap_any (y : Int) (w : World) (h : 0 ≤ y) (h' : y ≤ 1000000) :
    Calls Tryz.prog 63 #[.int .i64 y] w fun e w' => e = .returned (.bool (leapB y)) ∧ w = w' := by
  by_cases h4 : y % 4 = 0 <;> by_cases h1 : y % 100 = 0 <;> by_cases h2 : y % 400 = 0
  all_goals
    go_enter Tryz.func63, Tryz.ntmps63
    go_wp2
    go_ret
    exact ⟨ret_bool (by simp [leapB, h4, h1, h2]), rfl⟩

theorem long_any (y m : Int) (w : World) (hs : Std w) (h : 0 ≤ y) (h' : y ≤ 1000000) (hm : -9223372036854775808 ≤ m) (hm' : m ≤ 9223372036854775807) :
    Calls Tryz.prog 33 #[.int .i64 y, .int .i64 m] w fun e w' => e = .returned (.int .i64 (longI y m)) ∧ w = w' := by
  by_cases hlo : m < 1
  · go_enter Tryz.func33, Tryz.ntmps33
    go_wp2
    go_ret
    exact ⟨ret_int (by simp [longI, hlo]), rfl⟩
  by_cases hhi : 12 < m
  · go_enter Tryz.func33, Tryz.ntmps33
    go_wp2
    go_ret
    exact ⟨ret_int (by simp [longI, hhi]), rfl⟩
  have hl : longI y m = if m = 2 ∧ leapB y = true then 29 else monthsTab.getD (m.toNat - 1) 0 := by
    obtain ⟨k, rfl⟩ : ∃ k : Nat, m = k := ⟨m.toNat, by omega⟩
    have : k = 1 ∨ k = 2 ∨ k = 3 ∨ k = 4 ∨ k = 5 ∨ k = 6 ∨ k = 7 ∨ k = 8 ∨ k = 9 ∨ k = 10 ∨ k = 11 ∨ k = 12 := by omega
    rcases this with rfl | rfl | rfl | rfl | rfl | rfl | rfl | rfl | rfl | rfl | rfl | rfl <;> simp [longI, mdays, monthsTab]
  have hc := hs.month (m.toNat - 1) (by omega)
  have HL := Lib.hid hl
  clear hl
  generalize monthsTab.getD (m.toNat - 1) 0 = v at *
  by_cases h2 : m = 2
  · subst h2
    have HB := leap_any y
    have hc' : w.cell? ⟨0, 1, none⟩ = some (.int .i64 v) := hc
    cases hb : leapB y <;> rw [hb] at HB
    all_goals
      go_enter Tryz.func33, Tryz.ntmps33
      go_wp2_with (go_at_call 63; refine (HB _ h h').mono ?_; rintro e w' ⟨rfl, rfl⟩)
      go_ret
      exact ⟨ret_int (by rw [HL.out]; simp [hb]), rfl⟩
  · go_enter Tryz.func33, Tryz.ntmps33
    go_wp2
    go_ret
    exact ⟨ret_int (by rw [HL.out]; simp [h2]), rfl⟩

theorem ahead_any (y : Int) (w : World) (h : 0 ≤ y) (h' : y ≤ 1000000) (h1 : 1 ≤ y) :
    Calls Tryz.prog 34 #[.int .i64 y] w fun e w' => e = .returned (.int .i64 (aheadI y)) ∧ w = w' := by
  go_enter Tryz.func34, Tryz.ntmps34
  go_wp2
  go_ret
  exact ⟨ret_int (by unfold aheadI; omega), rfl⟩

theorem valid_yes (n : Int) (w : World) (h : isDay n = true) :
    Calls Tryz.prog 24 #[.int .i64 n] w fun e w' => e = .returned (.bool true) ∧ w = w' := by
  simp only [isDay, decide_eq_true_eq] at h
  obtain ⟨h1, h2⟩ := h
  go_enter Tryz.func24, Tryz.ntmps24
  go_wp2
  go_ret
  exact ⟨rfl, rfl⟩
theorem valid_no (n : Int) (w : World) (h : isDay n = false) :
    Calls Tryz.prog 24 #[.int .i64 n] w fun e w' => e = .returned (.bool false) ∧ w = w' := by
  simp only [isDay, decide_eq_false_iff_not, Classical.not_and_iff_not_or_not] at h
  by_cases h1 : 1 ≤ n
  all_goals
    go_enter Tryz.func24, Tryz.ntmps24
    go_wp2
    go_ret
    exact ⟨ret_bool (by first | rfl | simp; omega), rfl⟩

/-- a weekday; 0 of no day -/
def wdI (n : Int) : Int := if isDay n = true then (n - 1) % 7 else 0
theorem weekday_any (n : Int) (w : World) :
    Calls Tryz.prog 23 #[.int .i64 n] w fun e w' => e = .returned (.int .i64 (wdI n)) ∧ w = w' := by
  cases h : isDay n
  · have HV := valid_no n
    go_enter Tryz.func23, Tryz.ntmps23
    go_wp2_with (go_at_call 24; refine (HV _ h).mono ?_; rintro e w' ⟨rfl, rfl⟩)
    go_ret
    exact ⟨ret_int (by simp [wdI, h]), rfl⟩
  · have HV := valid_yes n
    have hh := h
    simp only [isDay, decide_eq_true_eq] at hh
    obtain ⟨h1, h2⟩ := hh
    have H := Lib.hid h
    clear h
    go_enter Tryz.func23, Tryz.ntmps23
    go_wp2_with (go_at_call 24; refine (HV _ H.out).mono ?_; rintro e w' ⟨rfl, rfl⟩)
    go_ret
    exact ⟨ret_int (by simp [wdI, H.out]), rfl⟩

/-- a date's number, as civil.Of answers it -/
def ofI (y m d : Int) : Int := if isDate y m d = true then numI y m d else 0

theorem of_yes (y m d : Int) (w : World) (hs : Std w) (h : isDate y m d = true) :
    Calls Tryz.prog 21 #[.int .i64 y, .int .i64 m, .int .i64 d] w fun e w' => e = .returned (.tuple #[.int .i64 (numI y m d), .bool true]) ∧ w = w' := by
  have hh := h
  simp only [isDate, decide_eq_true_eq] at hh
  obtain ⟨h1, h2, h3, h4, h5, h6⟩ := hh
  clear h
  have lb := long_bd y m
  have ab := ahead_bd y (by omega) (by omega)
  have hl : ¬ longI y m < d := by omega
  go_enter Tryz.func21, Tryz.ntmps21
  go_wp2_with (first | (go_at_call 33; refine (long_any _ _ _ hs (by omega) (by omega) (by omega) (by omega)).mono ?_; rintro e w' ⟨rfl, rfl⟩) | (go_at_call 34; refine (ahead_any _ _ (by omega) (by omega) (by omega)).mono ?_; rintro e w' ⟨rfl, rfl⟩))
  go_loop [8, 9] (fun n i => ∃ k : Int, 1 ≤ k ∧ k ≤ m ∧ i = .int .i64 k ∧ n = .int .i64 (aheadI y + d + cumI y k)) (fun _ i => (m - intOf i).toNat)
  case atStart => exact ⟨1, by omega, by omega, rfl, by rw [cum_one, Int.add_zero]⟩
  case round =>
    obtain ⟨k, k1, k2, rfl, rfl⟩ := hrel
    have cb := cum_bd y k
    have lp := leapI_bd y
    have lk := long_bd y k
    by_cases hlt : k < m
    · have HC := Lib.hid (cum_succ y k k1 (by omega))
      go_wp2_with (go_at_call 33; refine (long_any _ _ _ hs (by omega) (by omega) (by omega) (by omega)).mono ?_; rintro e w' ⟨rfl, rfl⟩)
      go_round
      case rel => exact ⟨k + 1, by omega, by omega, rfl, by rw [HC.out]; go_num⟩
      case measure => simp [intOf]; omega
    · obtain rfl : m = k := by omega
      go_wp2
      go_ret2
      rw [show numI y m d = aheadI y + d + cumI y m from by unfold numI; omega]
      exact ⟨rfl, rfl⟩
end Go.Proofs.YthpapjdjnnkdbaaGreatDoor
