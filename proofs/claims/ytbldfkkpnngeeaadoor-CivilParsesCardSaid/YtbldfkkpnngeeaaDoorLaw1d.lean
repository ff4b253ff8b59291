/- The walks of CivilDates, CivilParses. -/
import Derived.Test.YtbldfkkpnngeeaaDoorLaw1a
import Derived.Test.YtbldfkkpnngeeaaDoorCivP
namespace Go.Proofs.YtbldfkkpnngeeaaDoor
set_option linter.unusedVariables false
open Go.RowKit Go.Proofs

theorem bounds_i32' {n : Int} (h : (Lit.int .i32 n).wf = true) : -2147483648 ≤ n ∧ n ≤ 2147483647 := bounds_i32 h

theorem textD_digits {n : Int} (h : isDay n = true) : dgs (yearI n).toNat 4 ++ 45 :: (dgs (monthI n).toNat 2 ++ 45 :: dgs (mdayI n).toNat 2) = textL n := by
  rw [textL_eq h]; simp [textD]

theorem dgs_len_le (n k : Nat) (h : k ≤ 10) : (dgs n k).length ≤ 10 := by rw [dgs_length]; exact h

set_option maxHeartbeats 1000000 in
theorem walk_CivilDates (a0 : Int) (a1 : Bool) (w0 : (Lit.int .i32 a0).wf = true) (w : World) (hs : Std w) (hE : ErrStd w) :
    Calls Tryd.prog 10 #[.int .i32 a0, .bool a1] w fun e w' => e = .returned (.bool true) ∧ Below w.heap.size w w' := by
  have b0 := bounds_i32 w0
  clear w0
  cases a1
  · cases hd : isDay a0
    · have H := Lib.hid hd
      have W := weekday_any a0
      rw [show wdI a0 = 0 by simp [wdI, hd]] at W
      have hr : a0 < 1 ∨ (1 ≤ a0 ∧ 3652059 < a0) := by simp only [isDay, decide_eq_false_iff_not] at hd; omega
      clear hd
      have hq : a0 < 1 ∨ decide (a0 ≤ 3652059) = false := by
        rcases hr with h | h
        · exact .inl h
        · exact .inr (by simp; omega)
      rcases hr with hr | hr <;> rcases hq with hq | hq
      all_goals first | (exfalso; omega) | skip
      all_goals
        go_enter Tryd.func10, Tryd.ntmps10
        go_wp2_with (go_at_call 15; refine (awake1_any _ hs).mono ?_; rintro e w1 ⟨rfl, hb⟩)
        refine (date_no _ _ H.out).mono ?_
        rintro e w2 ⟨rfl, rfl⟩
        go_wp2_with fail
        refine (dateL_no _ _ H.out).mono ?_
        rintro e w2 ⟨rfl, rfl⟩
        go_wp2_with fail
        refine (valid_no _ _ H.out).mono ?_
        rintro e w2 ⟨rfl, rfl⟩
        go_wp2_with fail
        refine (W _).mono ?_
        rintro e w2 ⟨rfl, rfl⟩
        go_wp2_with fail
        refine (text_no _ _ H.out).mono ?_
        rintro e w2 ⟨rfl, rfl⟩
        go_wp2
        go_ret
        exact ⟨by first | rfl | simp, hb⟩
    · obtain ⟨d, Hd, hd⟩ : ∃ d, Hid (a0 = d) ∧ isDay d = true := ⟨_, rfl, hd⟩
      have H := Lib.hid hd
      have hw : wdI d = (d + 6) % 7 := by unfold wdI; rw [if_pos hd]; omega
      have W := weekday_any d
      rw [hw] at W
      have Q := date_yes d
      have QL := dateL_yes d
      have T := text_yes d
      have PY := parse_yes d
      have HS := Lib.hid (textD_digits hd)
      have hdd := (date_is hd).1
      have lb := long_bd (yearI d) (monthI d)
      simp only [isDay, decide_eq_true_eq] at hd
      simp only [isDate, decide_eq_true_eq] at hdd
      generalize yearI d = Y at *
      generalize monthI d = M at *
      generalize mdayI d = K at *
      have G1 := digits_any Y 4
      have G2 := digits_any M 2
      have G3 := digits_any K 2
      rw [show (4 : Int).toNat = 4 from rfl] at G1
      rw [show (2 : Int).toNat = 2 from rfl] at G2 G3
      have l1 := dgs_len_le Y.toNat 4 (by omega)
      have l2 := dgs_len_le M.toNat 2 (by omega)
      have l3 := dgs_len_le K.toNat 2 (by omega)
      generalize dgs Y.toNat 4 = q1 at *
      generalize dgs M.toNat 2 = q2 at *
      generalize dgs K.toNat 2 = q3 at *
      have hba := ba_append
      clear hw
      go_enter Tryd.func10, Tryd.ntmps10
      go_wp2_with (go_at_call 15; refine (awake1_any _ hs).mono ?_; rintro e w1 ⟨rfl, hb⟩)
      rw [Hd.out]
      have hs1 := hs.below hb
      refine (Q _ hs1 H.out).mono ?_
      rintro e w2 ⟨rfl, rfl⟩
      go_wp2_with fail
      refine (QL _ H.out).mono ?_
      rintro e w2 ⟨rfl, hb2⟩
      have hb12 := hb.trans (hb2.mono hb.size)
      clear hb hb2 hs1
      go_wp2_with fail
      refine (valid_yes _ _ H.out).mono ?_
      rintro e w3 ⟨rfl, rfl⟩
      go_wp2_with fail
      refine (G1 _ (by omega) (by omega) (by omega) (by omega)).mono ?_
      rintro e w3 ⟨rfl, hb3⟩
      have hb13 := hb12.trans (hb3.mono hb12.size)
      go_wp2_with fail
      refine (G2 _ (by omega) (by omega) (by omega) (by omega)).mono ?_
      rintro e w4 ⟨rfl, hb4⟩
      have hb14 := hb13.trans (hb4.mono hb13.size)
      go_wp2_with fail
      refine (G3 _ (by omega) (by omega) (by omega) (by omega)).mono ?_
      rintro e w5 ⟨rfl, hb5⟩
      have hb15 := hb14.trans (hb5.mono hb14.size)
      clear hb12 hb3 hb13 hb4 hb14 hb5
      go_wp2_with fail
      rw [HS.out]
      refine (PY H.out _ (hs.below hb15) (hE.below hb15)).mono ?_
      rintro e w6 ⟨rfl, hb6⟩
      have hb16 := hb15.trans (hb6.mono hb15.size)
      go_wp2_with fail
      refine (W _).mono ?_
      rintro e w7 ⟨rfl, rfl⟩
      go_wp2_with fail
      refine (T _ (hs.below hb16) H.out).mono ?_
      rintro e w7 ⟨p, rfl, HP, hl, hb7⟩
      obtain rfl : p = _ := HP.out
      go_wp2
      go_ret
      exact ⟨by first | rfl | simp, hb16.trans (hb7.mono hb16.size)⟩
  · obtain ⟨d, Hd, hd⟩ : ∃ d, Hid (1 + a0 % 4294967296 % 3652059 = d) ∧ isDay d = true := ⟨_, rfl, by simp only [isDay, decide_eq_true_eq]; omega⟩
    have H := Lib.hid hd
    have hw : wdI d = (d + 6) % 7 := by unfold wdI; rw [if_pos hd]; omega
    have W := weekday_any d
    rw [hw] at W
    have Q := date_yes d
    have QL := dateL_yes d
    have T := text_yes d
    have PY := parse_yes d
    have HS := Lib.hid (textD_digits hd)
    have hdd := (date_is hd).1
    have lb := long_bd (yearI d) (monthI d)
    simp only [isDay, decide_eq_true_eq] at hd
    simp only [isDate, decide_eq_true_eq] at hdd
    generalize yearI d = Y at *
    generalize monthI d = M at *
    generalize mdayI d = K at *
    have G1 := digits_any Y 4
    have G2 := digits_any M 2
    have G3 := digits_any K 2
    rw [show (4 : Int).toNat = 4 from rfl] at G1
    rw [show (2 : Int).toNat = 2 from rfl] at G2 G3
    have l1 := dgs_len_le Y.toNat 4 (by omega)
    have l2 := dgs_len_le M.toNat 2 (by omega)
    have l3 := dgs_len_le K.toNat 2 (by omega)
    generalize dgs Y.toNat 4 = q1 at *
    generalize dgs M.toNat 2 = q2 at *
    generalize dgs K.toNat 2 = q3 at *
    have hba := ba_append
    clear hw
    go_enter Tryd.func10, Tryd.ntmps10
    go_wp2_with (go_at_call 15; refine (awake1_any _ hs).mono ?_; rintro e w1 ⟨rfl, hb⟩)
    rw [Hd.out]
    have hs1 := hs.below hb
    refine (Q _ hs1 H.out).mono ?_
    rintro e w2 ⟨rfl, rfl⟩
    go_wp2_with fail
    refine (QL _ H.out).mono ?_
    rintro e w2 ⟨rfl, hb2⟩
    have hb12 := hb.trans (hb2.mono hb.size)
    clear hb hb2 hs1
    go_wp2_with fail
    refine (valid_yes _ _ H.out).mono ?_
    rintro e w3 ⟨rfl, rfl⟩
    go_wp2_with fail
    refine (G1 _ (by omega) (by omega) (by omega) (by omega)).mono ?_
    rintro e w3 ⟨rfl, hb3⟩
    have hb13 := hb12.trans (hb3.mono hb12.size)
    go_wp2_with fail
    refine (G2 _ (by omega) (by omega) (by omega) (by omega)).mono ?_
    rintro e w4 ⟨rfl, hb4⟩
    have hb14 := hb13.trans (hb4.mono hb13.size)
    go_wp2_with fail
    refine (G3 _ (by omega) (by omega) (by omega) (by omega)).mono ?_
    rintro e w5 ⟨rfl, hb5⟩
    have hb15 := hb14.trans (hb5.mono hb14.size)
    clear hb12 hb3 hb13 hb4 hb14 hb5
    go_wp2_with fail
    rw [HS.out]
    refine (PY H.out _ (hs.below hb15) (hE.below hb15)).mono ?_
    rintro e w6 ⟨rfl, hb6⟩
    have hb16 := hb15.trans (hb6.mono hb15.size)
    go_wp2_with fail
    refine (W _).mono ?_
    rintro e w7 ⟨rfl, rfl⟩
    go_wp2_with fail
    refine (T _ (hs.below hb16) H.out).mono ?_
    rintro e w7 ⟨p, rfl, HP, hl, hb7⟩
    obtain rfl : p = _ := HP.out
    go_wp2
    go_ret
    exact ⟨by first | rfl | simp, hb16.trans (hb7.mono hb16.size)⟩
end Go.Proofs.YtbldfkkpnngeeaaDoor
