/- The walks of CivilYears, CivilOf, CivilAges. -/
import Derived.Test.YtbldfkkpnngeeaaDoorLaw1a
namespace Go.Proofs.YtbldfkkpnngeeaaDoor
open Go.RowKit Go.Proofs

theorem cum_succ' (y m : Int) (h : 0 ≤ m) (h' : m ≤ 13) : cumI y (m + 1) = cumI y m + longI y m := by
  by_cases h1 : 1 ≤ m ∧ m ≤ 12
  · exact cum_succ y m h1.1 h1.2
  · have : m = 0 ∨ m = 13 := by omega
    rcases this with rfl | rfl <;> simp [cumI, longI]

theorem walk_CivilYears (a0 : Int) (w0 : (Lit.int .u16 a0).wf = true) (w : World) (hs : Std w) :
    Calls Tryd.prog 6 #[.int .u16 a0] w fun e w' => e = .returned (.bool true) ∧ Below w.heap.size w w' := by
  have b0 := bounds_u16 w0
  clear w0
  obtain ⟨Y, HY, y1, y2⟩ : ∃ Y, Hid (1 + a0 % 9998 = Y) ∧ 1 ≤ Y ∧ Y ≤ 9998 := ⟨_, rfl, by omega, by omega⟩
  go_enter Tryd.func6, Tryd.ntmps6
  go_wp2_with (go_at_call 15; refine (awake1_any _ hs).mono ?_; rintro e w1 ⟨rfl, hb⟩)
  rw [HY.out]
  have hs1 := hs.below hb
  go_loop [4, 19] (fun n i => ∃ k : Nat, k ≤ 14 ∧ i = .int .i64 k ∧ n = .int .i64 (cumI Y k)) (fun _ i => 14 - (intOf i).toNat)
  case atStart => exact ⟨0, by omega, rfl, rfl⟩
  case round =>
    obtain ⟨k, hk, rfl, rfl⟩ := hrel
    have cb := cum_bd Y k
    have lp := leapI_bd Y
    have lk := long_bd Y k
    by_cases hlt : k < 14
    · have HC := Lib.hid (cum_succ' Y k (by omega) (by omega))
      go_wp2_with (go_at_call 18; refine (long_any _ _ _ hs1 (by omega) (by omega) (by omega) (by omega)).mono ?_; rintro e w' ⟨rfl, rfl⟩)
      go_round
      case rel => exact ⟨k + 1, by omega, by go_num, by rw [show ((k + 1 : Nat) : Int) = (k : Int) + 1 by omega, HC.out]⟩
      case measure => simp [intOf]; omega
    · obtain rfl : k = 14 := by omega
      have hd1 : isDate Y 1 1 = true := by simp only [isDate, decide_eq_true_eq]; have := long_pos Y 1 (by omega) (by omega); omega
      have hd2 : isDate Y 12 31 = true := by simp only [isDate, decide_eq_true_eq]; simp [longI, mdays]; omega
      have hd3 : isDate (Y + 1) 1 1 = true := by simp only [isDate, decide_eq_true_eq]; have := long_pos (Y + 1) 1 (by omega) (by omega); omega
      have O1 := of_yes Y 1 1
      have O2 := of_yes Y 12 31
      have O3 := of_yes (Y + 1) 1 1
      have e1 : numI Y 1 1 = aheadI Y + 1 := by unfold numI; rw [cum_one]; omega
      have e2 : numI Y 12 31 = aheadI Y + 365 + leapI Y := by unfold numI; simp [cumI]; omega
      have e3 : numI (Y + 1) 1 1 = aheadI Y + 366 + leapI Y := by unfold numI; rw [cum_one, ahead_succ]; omega
      rw [e1] at O1
      rw [e2] at O2
      rw [e3] at O3
      have hc14 : cumI Y (14 : Nat) = 365 + leapI Y := rfl
      have ab := ahead_bd Y (by omega) (by omega)
      have HD1 := Lib.hid hd1
      have HD2 := Lib.hid hd2
      have HD3 := Lib.hid hd3
      have HL := leap_any Y
      have hlp : leapI Y = if leapB Y = true then 1 else 0 := rfl
      clear hd1 hd2 hd3 e1 e2 e3 cb lk hk hlt lp
      rw [hc14]
      clear hc14
      generalize aheadI Y = P at *
      cases hb2 : leapB Y <;> rw [hb2] at HL hlp
      all_goals
        simp only [if_true, if_false, Bool.false_eq_true] at hlp
        rw [hlp] at O2 O3 ⊢
        clear hlp hb2
        go_wp2_with (go_at_call 16; refine (HL _ (by omega) (by omega)).mono ?_; rintro e w' ⟨rfl, rfl⟩)
        refine (O1 _ hs1 HD1.out).mono ?_
        rintro e w2 ⟨rfl, rfl⟩
        go_wp2_with fail
        refine (O2 _ hs1 HD2.out).mono ?_
        rintro e w2 ⟨rfl, rfl⟩
        go_wp2_with fail
        refine (O3 _ hs1 HD3.out).mono ?_
        rintro e w2 ⟨rfl, rfl⟩
        go_wp2
        go_ret
        exact ⟨by first | rfl | (simp; omega), hb⟩
theorem CivilOf_no (a0 a1 a2 : Int) (b0 : -32768 ≤ a0 ∧ a0 ≤ 32767) (b1 : -32768 ≤ a1 ∧ a1 ≤ 32767) (b2 : -32768 ≤ a2 ∧ a2 ≤ 32767) (hd : isDate a0 a1 a2 = false) (w : World) (hs : Std w) :
    Calls Tryd.prog 4 #[.int .i16 a0, .int .i16 a1, .int .i16 a2] w fun e w' => e = .returned (.bool true) ∧ Below w.heap.size w w' := by
  have lb := long_bd a0 a1
  have HD := Lib.hid hd
  simp only [isDate, decide_eq_false_iff_not] at hd
  have : a0 < 1 ∨ (1 ≤ a0 ∧ 9999 < a0) ∨ (1 ≤ a0 ∧ a0 ≤ 9999 ∧ a1 < 1) ∨ (1 ≤ a0 ∧ a0 ≤ 9999 ∧ 1 ≤ a1 ∧ 12 < a1) ∨ (1 ≤ a0 ∧ a0 ≤ 9999 ∧ 1 ≤ a1 ∧ a1 ≤ 12 ∧ a2 < 1) ∨ (1 ≤ a0 ∧ a0 ≤ 9999 ∧ 1 ≤ a1 ∧ a1 ≤ 12 ∧ 1 ≤ a2 ∧ longI a0 a1 < a2) := by omega
  clear hd
  rcases this with h | ⟨h, h1⟩ | ⟨h, h1, h2⟩ | ⟨h, h1, h2, h3⟩ | ⟨h, h1, h2, h3, h4⟩ | ⟨h, h1, h2, h3, h4, h5⟩
  all_goals
    go_enter Tryd.func4, Tryd.ntmps4
    go_wp2_with (go_at_call 15; refine (awake1_any _ hs).mono ?_; rintro e w1 ⟨rfl, hb⟩)
    refine (of_no _ _ _ _ (hs.below hb) (by omega) (by omega) HD.out).mono ?_
    rintro e w2 ⟨rfl, rfl⟩
    go_wp2_with (go_at_call 19; refine (longL_any _ _ _ (by omega) (by omega)).mono ?_; rintro e w' ⟨rfl, rfl⟩)
    go_ret
    exact ⟨rfl, hb⟩

set_option maxHeartbeats 400000 in
theorem CivilOf_yes (a0 a1 a2 : Int) (hd : isDate a0 a1 a2 = true) (w : World) (hs : Std w) :
    Calls Tryd.prog 4 #[.int .i16 a0, .int .i16 a1, .int .i16 a2] w fun e w' => e = .returned (.bool true) ∧ Below w.heap.size w w' := by
  have lb := long_bd a0 a1
  have HD := Lib.hid hd
  have HN := Lib.hid (date_of_num hd)
  have HV := Lib.hid (num_day hd)
  have HE : Hid (numI a0 a1 a2 = aheadI a0 + cumI a0 a1 + a2) := rfl
  simp only [isDate, decide_eq_true_eq] at hd
  obtain ⟨h1, h2, h3, h4, h5, h6⟩ := hd
  have h6' : ¬ longI a0 a1 < a2 := by omega
  have ab := ahead_bd a0 (by omega) (by omega)
  have HQ := date_yes (numI a0 a1 a2)
  rw [HN.out.1, HN.out.2.1, HN.out.2.2] at HQ
  have HW := valid_yes (numI a0 a1 a2)
  have HO := of_yes a0 a1 a2
  clear HN
  generalize numI a0 a1 a2 = n at *
  go_enter Tryd.func4, Tryd.ntmps4
  go_wp2_with (go_at_call 15; refine (awake1_any _ hs).mono ?_; rintro e w1 ⟨rfl, hb⟩)
  have hs1 := hs.below hb
  refine (HO _ hs1 HD.out).mono ?_
  rintro e w2 ⟨rfl, rfl⟩
  go_wp2_with (first | (go_at_call 19; refine (longL_any _ _ _ (by omega) (by omega)).mono ?_; rintro e w' ⟨rfl, rfl⟩) | (go_at_call 21; refine (aheadL_any _ _ (by omega) (by omega)).mono ?_; rintro e w2 ⟨rfl, hb2⟩))
  have hb12 := hb.trans (hb2.mono hb.size)
  have hs2 := hs.below hb12
  clear hb hb2 hs1
  go_loop [12, 13] (fun n i => ∃ k : Int, 1 ≤ k ∧ k ≤ a1 ∧ i = .int .i64 k ∧ n = .int .i64 (aheadI a0 + a2 + cumI a0 k)) (fun _ i => (a1 - intOf i).toNat)
  case atStart => exact ⟨1, by omega, by omega, rfl, by rw [cum_one, Int.add_zero]⟩
  case round =>
    obtain ⟨k, k1, k2, rfl, rfl⟩ := hrel
    have cb := cum_bd a0 k
    have lp := leapI_bd a0
    have lk := long_bd a0 k
    by_cases hlt : k < a1
    · have HC := Lib.hid (cum_succ a0 k k1 (by omega))
      go_wp2_with (go_at_call 19; refine (longL_any _ _ _ (by omega) (by omega)).mono ?_; rintro e w' ⟨rfl, rfl⟩)
      go_round
      case rel => exact ⟨k + 1, by omega, by omega, rfl, by rw [HC.out]; go_num⟩
      case measure => simp [intOf]; omega
    · obtain rfl : a1 = k := by omega
      have e1 : n ≤ aheadI a0 + a2 + cumI a0 a1 := by have := HE.out; omega
      have e2 : aheadI a0 + a2 + cumI a0 a1 ≤ n := by have := HE.out; omega
      have HV' : Hid (isDay (aheadI a0 + a2 + cumI a0 a1) = true) := by
        rw [show aheadI a0 + a2 + cumI a0 a1 = n by omega]
        exact HV.out
      clear k2 hlt
      go_wp2_with (go_at_call 22; refine (HQ _ hs2 HV.out).mono ?_; rintro e w' ⟨rfl, rfl⟩)
      refine (valid_yes _ _ HV'.out).mono ?_
      rintro e w' ⟨rfl, rfl⟩
      go_wp2
      go_ret
      exact ⟨rfl, hb12⟩

theorem walk_CivilOf (a0 a1 a2 : Int) (w0 : (Lit.int .i16 a0).wf = true) (w1 : (Lit.int .i16 a1).wf = true) (w2 : (Lit.int .i16 a2).wf = true) (w : World) (hs : Std w) :
    Calls Tryd.prog 4 #[.int .i16 a0, .int .i16 a1, .int .i16 a2] w fun e w' => e = .returned (.bool true) ∧ Below w.heap.size w w' := by
  cases hd : isDate a0 a1 a2
  · exact CivilOf_no a0 a1 a2 (bounds_i16 w0) (bounds_i16 w1) (bounds_i16 w2) hd w hs
  · exact CivilOf_yes a0 a1 a2 hd w hs
theorem leap_400 (y : Int) : leapB (y + 400) = leapB y := by unfold leapB; congr 1; apply propext; omega
theorem long_400 (y m : Int) : longI (y + 400) m = longI y m := by unfold longI; rw [leap_400]
theorem cum_400 (y m : Int) : cumI (y + 400) m = cumI y m := by unfold cumI leapI; rw [leap_400]
theorem num_400 (y m d : Int) : numI (y + 400) m d = numI y m d + 146097 := by unfold numI; rw [cum_400]; unfold aheadI; omega

set_option maxHeartbeats 400000 in
theorem walk_CivilAges (a0 a1 a2 : Int) (w0 : (Lit.int .u16 a0).wf = true) (w1 : (Lit.int .u8 a1).wf = true) (w2 : (Lit.int .u8 a2).wf = true) (w : World) (hs : Std w) :
    Calls Tryd.prog 7 #[.int .u16 a0, .int .u8 a1, .int .u8 a2] w fun e w' => e = .returned (.bool true) ∧ Below w.heap.size w w' := by
  have b0 := bounds_u16 w0
  have b1 := bounds_u8 w1
  have b2 := bounds_u8 w2
  clear w0 w1 w2
  obtain ⟨Y, HY, y1, y2⟩ : ∃ Y, Hid (1 + a0 % 9599 = Y) ∧ 1 ≤ Y ∧ Y ≤ 9599 := ⟨_, rfl, by omega, by omega⟩
  obtain ⟨M, HM, m1, m2⟩ : ∃ Y, Hid (1 + a1 % 12 = Y) ∧ 1 ≤ Y ∧ Y ≤ 12 := ⟨_, rfl, by omega, by omega⟩
  obtain ⟨D, HD, d1, d2⟩ : ∃ Y, Hid (1 + a2 % 31 = Y) ∧ 1 ≤ Y ∧ Y ≤ 31 := ⟨_, rfl, by omega, by omega⟩
  have h4 := num_400 Y M D
  have hl := long_400 Y M
  have hi : isDate (Y + 400) M D = isDate Y M D := by
    unfold isDate
    rw [hl]
    congr 1
    apply propext
    omega
  cases hd : isDate Y M D
  · have K1 := Lib.hid hd
    have K2 := Lib.hid (hi.trans hd)
    clear hi hd h4 hl
    go_enter Tryd.func7, Tryd.ntmps7
    go_wp2_with (go_at_call 15; refine (awake1_any _ hs).mono ?_; rintro e w1 ⟨rfl, hb⟩)
    rw [HY.out, HM.out, HD.out]
    have hs1 := hs.below hb
    refine (of_no _ _ _ _ hs1 (by omega) (by omega) K1.out).mono ?_
    rintro e w2 ⟨rfl, rfl⟩
    go_wp2_with fail
    rw [HM.out, HD.out]
    refine (of_no _ _ _ _ hs1 (by omega) (by omega) K2.out).mono ?_
    rintro e w2 ⟨rfl, rfl⟩
    go_wp2
    go_ret
    exact ⟨rfl, hb⟩
  · have K1 := Lib.hid hd
    have K2 := Lib.hid (hi.trans hd)
    have O1 := of_yes Y M D
    have O2 := of_yes (Y + 400) M D
    rw [h4] at O2
    have n1 := num_day hd
    have n2 := num_day (hi.trans hd)
    rw [h4] at n2
    have W1 := weekday_any (numI Y M D)
    have W2 := weekday_any (numI Y M D + 146097)
    have e1 : wdI (numI Y M D) = (numI Y M D - 1) % 7 := by unfold wdI; rw [if_pos n1]
    have e2 : wdI (numI Y M D + 146097) = (numI Y M D - 1) % 7 := by unfold wdI; rw [if_pos n2]; omega
    rw [e1] at W1
    rw [e2] at W2
    have nb := n2
    simp only [isDay, decide_eq_true_eq] at nb n1
    clear hi hd h4 hl e1 e2 n2
    generalize numI Y M D = n at *
    generalize (n - 1) % 7 = q at *
    go_enter Tryd.func7, Tryd.ntmps7
    go_wp2_with (go_at_call 15; refine (awake1_any _ hs).mono ?_; rintro e w1 ⟨rfl, hb⟩)
    rw [HY.out, HM.out, HD.out]
    have hs1 := hs.below hb
    refine (O1 _ hs1 K1.out).mono ?_
    rintro e w2 ⟨rfl, rfl⟩
    go_wp2_with fail
    rw [HM.out, HD.out]
    refine (O2 _ hs1 K2.out).mono ?_
    rintro e w2 ⟨rfl, rfl⟩
    go_wp2_with fail
    refine (W1 _).mono ?_
    rintro e w2 ⟨rfl, rfl⟩
    go_wp2_with fail
    refine (W2 _).mono ?_
    rintro e w2 ⟨rfl, rfl⟩
    go_wp2
    go_ret
    exact ⟨by first | rfl | simp, hb⟩
end Go.Proofs.YtbldfkkpnngeeaaDoor
