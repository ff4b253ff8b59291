/- The walk of CivilNext. -/
import Derived.Test.YtbldfkkpnngeeaaDoorLaw1a
import Derived.Test.YtbldfkkpnngeeaaDoorTxtOrd
namespace Go.Proofs.YtbldfkkpnngeeaaDoor
open Go.RowKit Go.Proofs

/-- the date of the next day -/
theorem next_date {n : Int} (h : isDay n = true) (h' : isDay (n + 1) = true) :
    (mdayI n < longI (yearI n) (monthI n) ∧ yearI (n + 1) = yearI n ∧ monthI (n + 1) = monthI n ∧ mdayI (n + 1) = mdayI n + 1)
    ∨ (mdayI n = longI (yearI n) (monthI n) ∧ monthI n < 12 ∧ yearI (n + 1) = yearI n ∧ monthI (n + 1) = monthI n + 1 ∧ mdayI (n + 1) = 1)
    ∨ (mdayI n = 31 ∧ monthI n = 12 ∧ yearI (n + 1) = yearI n + 1 ∧ monthI (n + 1) = 1 ∧ mdayI (n + 1) = 1) := by
  obtain ⟨d1, d2⟩ := date_is h
  obtain ⟨e1, e2⟩ := date_is h'
  generalize yearI n = Y at *
  generalize monthI n = M at *
  generalize mdayI n = K at *
  have hd := d1
  simp only [isDate, decide_eq_true_eq] at hd
  obtain ⟨h1, h2, h3, h4, h5, h6⟩ := hd
  have cs := cum_succ Y M h3 h4
  have hc : ∀ y m d, isDate y m d = true → numI y m d = n + 1 → yearI (n + 1) = y ∧ monthI (n + 1) = m ∧ mdayI (n + 1) = d :=
    fun y m d k1 k2 => num_inj e1 k1 (e2.trans k2.symm)
  by_cases hA : K < longI Y M
  · refine .inl ⟨hA, hc Y M (K + 1) ?_ ?_⟩
    · simp only [isDate, decide_eq_true_eq]; omega
    · unfold numI at *; omega
  by_cases hM : M < 12
  · refine .inr (.inl ⟨by omega, hM, hc Y (M + 1) 1 ?_ ?_⟩)
    · have := long_pos Y (M + 1) (by omega) (by omega)
      simp only [isDate, decide_eq_true_eq]; omega
    · unfold numI at *; omega
  · have hM : M = 12 := by omega
    subst hM
    have hl : longI Y 12 = 31 := by simp [longI, mdays]
    have h13 : cumI Y (12 + 1) = 365 + leapI Y := rfl
    have hs := ahead_succ Y
    have hn : n + 1 = aheadI (Y + 1) + 1 := by unfold numI at d2; omega
    have hY : Y + 1 ≤ 9999 := by
      simp only [isDay, decide_eq_true_eq] at h'
      by_cases q : Y + 1 ≤ 9999
      · exact q
      · have : Y = 9999 := by omega
        subst this
        have : aheadI (9999 + 1) = 3652059 := rfl
        omega
    refine .inr (.inr ⟨by omega, rfl, hc (Y + 1) 1 1 ?_ ?_⟩)
    · have := long_pos (Y + 1) 1 (by omega) (by omega)
      simp only [isDate, decide_eq_true_eq]; omega
    · unfold numI; rw [cum_one]; omega

set_option maxHeartbeats 800000 in
theorem walk_CivilNext (a0 a1 : Int) (w0 : (Lit.int .u32 a0).wf = true) (w1 : (Lit.int .u16 a1).wf = true) (w : World) (hs : Std w) :
    Calls Tryd.prog 5 #[.int .u32 a0, .int .u16 a1] w fun e w' => e = .returned (.bool true) ∧ Below w.heap.size w w' := by
  have b0 := bounds_u32 w0
  have b1 := bounds_u16 w1
  clear w0 w1
  obtain ⟨d, Hd, d1, d2⟩ : ∃ d, Hid (1 + a0 % 3586523 = d) ∧ 1 ≤ d ∧ d ≤ 3586523 := ⟨_, rfl, by omega, by omega⟩
  have k1 : isDay d = true := by simp only [isDay, decide_eq_true_eq]; omega
  have k2 : isDay (d + 1) = true := by simp only [isDay, decide_eq_true_eq]; omega
  have k3 : isDay (d + 7) = true := by simp only [isDay, decide_eq_true_eq]; omega
  have k4 : isDay (d + a1) = true := by simp only [isDay, decide_eq_true_eq]; omega
  have W0 := weekday_any d
  have W1 := weekday_any (d + 7)
  have W2 := weekday_any (d + a1)
  have e0 : wdI d = (d - 1) % 7 := by unfold wdI; rw [if_pos k1]
  have e1 : wdI (d + 7) = (d - 1) % 7 := by unfold wdI; rw [if_pos k3]; omega
  have e2 : wdI (d + a1) = (d + a1 - 1) % 7 := by unfold wdI; rw [if_pos k4]
  rw [e0] at W0
  rw [e1] at W1
  rw [e2] at W2
  have HQ1 := date_yes d
  have HQ2 := date_yes (d + 1)
  have hn := next_date k1 k2
  have T1 := text_yes d
  have T2 := text_yes (d + a1)
  have K1 := Lib.hid k1
  have K2 := Lib.hid k2
  have K4 := Lib.hid k4
  have hdd := (date_is k1).1
  simp only [isDate, decide_eq_true_eq] at hdd
  clear k1 k2 k3 k4 e0 e1 e2
  generalize yearI d = Y at *
  generalize monthI d = M at *
  generalize mdayI d = K at *
  have lb := long_bd Y M
  have HT : Hid (Op.bytesLess (textL d) (textL (d + a1)) = decide (0 < a1)) := by
    rw [text_less K1.out K4.out]
    show decide (d < d + a1) = decide (0 < a1)
    congr 1
    apply propext
    omega
  rcases hn with ⟨n1, n2, n3, n4⟩ | ⟨n1, n0, n2, n3, n4⟩ | ⟨n1, n0, n2, n3, n4⟩
  all_goals
    rw [n2, n3, n4] at HQ2
    have q1 : K ≤ longI Y M ∨ M = 12 := by omega
    have q2 : longI Y M ≤ K ∨ M = 12 ∨ K < longI Y M := by omega
    have HN1 := Lib.hid n1
    try have HN0 := Lib.hid n0
  · have n1' : K < longI Y M := n1
    clear n1 n2 n3 n4 q1 q2 HN1
    go_enter Tryd.func5, Tryd.ntmps5
    go_wp2_with (go_at_call 15; refine (awake1_any _ hs).mono ?_; rintro e w1 ⟨rfl, hb⟩)
    rw [Hd.out]
    have hs1 := hs.below hb
    refine (HQ1 _ hs1 K1.out).mono ?_
    rintro e w2 ⟨rfl, rfl⟩
    go_wp2_with fail
    refine (HQ2 _ hs1 K2.out).mono ?_
    rintro e w2 ⟨rfl, rfl⟩
    go_wp2_with (go_at_call 19; refine (longL_any _ _ _ (by omega) (by omega)).mono ?_; rintro e w2 ⟨rfl, rfl⟩)
    refine (W1 _).mono ?_
    rintro e w2 ⟨rfl, rfl⟩
    go_wp2_with fail
    refine (W0 _).mono ?_
    rintro e w2 ⟨rfl, rfl⟩
    go_wp2_with fail
    refine (W0 _).mono ?_
    rintro e w2 ⟨rfl, rfl⟩
    go_wp2_with fail
    refine (W2 _).mono ?_
    rintro e w2 ⟨rfl, rfl⟩
    go_wp2_with fail
    refine (T1 _ hs1 K1.out).mono ?_
    rintro e w2 ⟨p1, rfl, HP, l1, hb2⟩
    go_wp2_with fail
    refine (T2 _ (hs1.below hb2) K4.out).mono ?_
    rintro e w3 ⟨p2, rfl, HP2, l2, hb3⟩
    go_wp2
    go_ret
    have HF : Op.bytesLess p1 p2 = decide (0 < a1) := by rw [HP.out, HP2.out, HT.out]
    exact ⟨ret_bool (by rw [HF]; simp), hb.trans ((hb2.trans (hb3.mono hb2.size)).mono hb.size)⟩
  · have n2' : K ≤ longI Y M := by omega
    have n3' : longI Y M ≤ K := by omega
    clear n1 n2 n3 n4 q1 q2 HN1 HN0
    go_enter Tryd.func5, Tryd.ntmps5
    go_wp2_with (go_at_call 15; refine (awake1_any _ hs).mono ?_; rintro e w1 ⟨rfl, hb⟩)
    rw [Hd.out]
    have hs1 := hs.below hb
    refine (HQ1 _ hs1 K1.out).mono ?_
    rintro e w2 ⟨rfl, rfl⟩
    go_wp2_with fail
    refine (HQ2 _ hs1 K2.out).mono ?_
    rintro e w2 ⟨rfl, rfl⟩
    go_wp2_with (go_at_call 19; refine (longL_any _ _ _ (by omega) (by omega)).mono ?_; rintro e w2 ⟨rfl, rfl⟩)
    refine (W1 _).mono ?_
    rintro e w2 ⟨rfl, rfl⟩
    go_wp2_with fail
    refine (W0 _).mono ?_
    rintro e w2 ⟨rfl, rfl⟩
    go_wp2_with fail
    refine (W0 _).mono ?_
    rintro e w2 ⟨rfl, rfl⟩
    go_wp2_with fail
    refine (W2 _).mono ?_
    rintro e w2 ⟨rfl, rfl⟩
    go_wp2_with fail
    refine (T1 _ hs1 K1.out).mono ?_
    rintro e w2 ⟨p1, rfl, HP, l1, hb2⟩
    go_wp2_with fail
    refine (T2 _ (hs1.below hb2) K4.out).mono ?_
    rintro e w3 ⟨p2, rfl, HP2, l2, hb3⟩
    go_wp2
    go_ret
    have HF : Op.bytesLess p1 p2 = decide (0 < a1) := by rw [HP.out, HP2.out, HT.out]
    exact ⟨ret_bool (by rw [HF]; simp), hb.trans ((hb2.trans (hb3.mono hb2.size)).mono hb.size)⟩
  · subst n0 n1
    clear n2 n3 n4 q1 q2 HN1 HN0
    go_enter Tryd.func5, Tryd.ntmps5
    go_wp2_with (go_at_call 15; refine (awake1_any _ hs).mono ?_; rintro e w1 ⟨rfl, hb⟩)
    rw [Hd.out]
    have hs1 := hs.below hb
    refine (HQ1 _ hs1 K1.out).mono ?_
    rintro e w2 ⟨rfl, rfl⟩
    go_wp2_with fail
    refine (HQ2 _ hs1 K2.out).mono ?_
    rintro e w2 ⟨rfl, rfl⟩
    go_wp2_with (go_at_call 19; refine (longL_any _ _ _ (by omega) (by omega)).mono ?_; rintro e w2 ⟨rfl, rfl⟩)
    refine (W1 _).mono ?_
    rintro e w2 ⟨rfl, rfl⟩
    go_wp2_with fail
    refine (W0 _).mono ?_
    rintro e w2 ⟨rfl, rfl⟩
    go_wp2_with fail
    refine (W0 _).mono ?_
    rintro e w2 ⟨rfl, rfl⟩
    go_wp2_with fail
    refine (W2 _).mono ?_
    rintro e w2 ⟨rfl, rfl⟩
    go_wp2_with fail
    refine (T1 _ hs1 K1.out).mono ?_
    rintro e w2 ⟨p1, rfl, HP, l1, hb2⟩
    go_wp2_with fail
    refine (T2 _ (hs1.below hb2) K4.out).mono ?_
    rintro e w3 ⟨p2, rfl, HP2, l2, hb3⟩
    go_wp2
    go_ret
    have HF : Op.bytesLess p1 p2 = decide (0 < a1) := by rw [HP.out, HP2.out, HT.out]
    exact ⟨ret_bool (by rw [HF]; simp), hb.trans ((hb2.trans (hb3.mono hb2.size)).mono hb.size)⟩
end Go.Proofs.YtbldfkkpnngeeaaDoor
