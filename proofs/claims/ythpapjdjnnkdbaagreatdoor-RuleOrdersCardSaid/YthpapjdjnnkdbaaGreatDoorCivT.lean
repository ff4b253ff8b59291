/- The walks of package civil, on: dates, texts. -/
import Derived.Test.YthpapjdjnnkdbaaGreatDoorCiv
import Derived.Test.YthpapjdjnnkdbaaGreatDoorTxt
namespace Go.Proofs.YthpapjdjnnkdbaaGreatDoor
open Go.RowKit Go.Proofs

theorem of_no (y m d : Int) (w : World) (hs : Std w) (hm : -9223372036854775808 ≤ m) (hm' : m ≤ 9223372036854775807) (h : isDate y m d = false) :
    Calls Tryz.prog 21 #[.int .i64 y, .int .i64 m, .int .i64 d] w fun e w' => e = .returned (.tuple #[.int .i64 0, .bool false]) ∧ w = w' := by
  simp only [isDate, decide_eq_false_iff_not] at h
  by_cases h1 : y < 1
  · go_enter Tryz.func21, Tryz.ntmps21
    go_wp2
    go_ret2
    exact ⟨rfl, rfl⟩
  by_cases h2 : 9999 < y
  · go_enter Tryz.func21, Tryz.ntmps21
    go_wp2
    go_ret2
    exact ⟨rfl, rfl⟩
  by_cases h3 : d < 1
  · go_enter Tryz.func21, Tryz.ntmps21
    go_wp2
    go_ret2
    exact ⟨rfl, rfl⟩
  have hl : longI y m < d := by
    by_cases hmm : 1 ≤ m ∧ m ≤ 12
    · omega
    · have : longI y m = 0 := by unfold longI; rw [if_pos (by omega)]
      omega
  have hb := long_bd y m
  clear h
  go_enter Tryz.func21, Tryz.ntmps21
  go_wp2_with (go_at_call 33; refine (long_any _ _ _ hs (by omega) (by omega) (by omega) (by omega)).mono ?_; rintro e w' ⟨rfl, rfl⟩)
  go_ret2
  exact ⟨rfl, rfl⟩

/-- civil.Of at any numbers: a date's day and whether it is one. -/
theorem of_any (y m d : Int) (w : World) (hs : Std w) (hm : -9223372036854775808 ≤ m) (hm' : m ≤ 9223372036854775807) :
    Calls Tryz.prog 21 #[.int .i64 y, .int .i64 m, .int .i64 d] w fun e w' => e = .returned (.tuple #[.int .i64 (ofI y m d), .bool (isDate y m d)]) ∧ w = w' := by
  cases h : isDate y m d with
  | true => exact (of_yes y m d w hs h).mono fun e w' ⟨he, hb⟩ => ⟨by rw [he, ofI, if_pos h], hb⟩
  | false => exact (of_no y m d w hs hm hm' h).mono fun e w' ⟨he, hb⟩ => ⟨by rw [he, ofI, if_neg (by rw [h]; decide)], hb⟩

theorem year_ge {n : Int} (h : isDay n = true) : (n - 1) / 366 + 1 ≤ yearI n := by
  obtain ⟨h1, h2, h3, h4⟩ := year_bd h
  generalize yearI n = Y at *
  unfold aheadI at h4
  omega

theorem date_yes (n : Int) (w : World) (hs : Std w) (h : isDay n = true) :
    Calls Tryz.prog 35 #[.int .i64 n] w fun e w' => e = .returned (.tuple #[.int .i64 (yearI n), .int .i64 (monthI n), .int .i64 (mdayI n)]) ∧ w = w' := by
  have yb := year_bd h
  have yg := year_ge h
  have HD := Lib.hid (date_is h)
  have hday := h
  simp only [isDay, decide_eq_true_eq] at hday
  have HM : Hid (mdayI n = n - aheadI (yearI n) - cumI (yearI n) (monthI n)) := rfl
  have H := Lib.hid h
  have ab := ahead_bd (yearI n) (by omega) (by omega)
  generalize yearI n = Y at *
  generalize monthI n = M at *
  generalize mdayI n = D at *
  clear h
  go_enter Tryz.func35, Tryz.ntmps35
  go_wp2_with (go_at_call 24; refine (valid_yes _ _ H.out).mono ?_; rintro e w' ⟨rfl, rfl⟩)
  go_loop [2] (fun t => ∃ y : Int, 1 ≤ y ∧ y ≤ Y ∧ t = .int .i64 y) (fun t => (Y - intOf t).toNat)
  case atStart => exact ⟨_, by omega, by omega, rfl⟩
  case round =>
    obtain ⟨y, y1, y2, rfl⟩ := hrel
    by_cases hlt : y < Y
    · have hm := ahead_mono (a := y + 1) (b := Y) (by omega)
      have hk : aheadI (y + 1) < n := by omega
      go_wp2_with (go_at_call 34; refine (ahead_any _ _ (by omega) (by omega) (by omega)).mono ?_; rintro e w' ⟨rfl, rfl⟩)
      go_round
      case rel => exact ⟨y + 1, by omega, by omega, rfl⟩
      case measure => simp [intOf]; omega
    · obtain rfl : Y = y := by omega
      have hk : ¬ aheadI (Y + 1) < n := by omega
      have hd := HD.out.1
      simp only [isDate, decide_eq_true_eq] at hd
      go_wp2_with (go_at_call 34; refine (ahead_any _ _ (by omega) (by omega) (by omega)).mono ?_; rintro e w' ⟨rfl, rfl⟩)
      go_loop [3, 4] (fun i t => ∃ m : Int, 1 ≤ m ∧ m ≤ M ∧ i = .int .i64 m ∧ t = .int .i64 (n - aheadI Y - cumI Y m)) (fun i _ => (M - intOf i).toNat)
      case atStart => exact ⟨1, by omega, by omega, rfl, by rw [cum_one, Int.sub_zero]⟩
      case round =>
        obtain ⟨m, m1, m2, rfl, rfl⟩ := hrel
        have cb := cum_bd Y m
        have lp := leapI_bd Y
        have lk := long_bd Y m
        by_cases hmm : m < M
        · have HC := Lib.hid (cum_succ Y m m1 (by omega))
          have hlt2 : longI Y m < n - aheadI Y - cumI Y m := by
            have h1 := HC.out
            have h2 := cum_mono Y (a := m + 1) (b := M) (by omega)
            have h3 := HM.out
            omega
          go_wp2_with (go_at_call 33; refine (long_any _ _ _ hs (by omega) (by omega) (by omega) (by omega)).mono ?_; rintro e w' ⟨rfl, rfl⟩)
          go_round
          case rel => exact ⟨m + 1, by omega, by omega, rfl, by rw [HC.out]; go_num⟩
          case measure => simp [intOf]; omega
        · obtain rfl : M = m := by omega
          have hlt2 : ¬ longI Y M < n - aheadI Y - cumI Y M := by
            have h3 := HM.out
            omega
          go_wp2_with (go_at_call 33; refine (long_any _ _ _ hs (by omega) (by omega) (by omega) (by omega)).mono ?_; rintro e w' ⟨rfl, rfl⟩)
          go_ret3
          rw [HM.out]
          exact ⟨rfl, rfl⟩

theorem date_no (n : Int) (w : World) (h : isDay n = false) :
    Calls Tryz.prog 35 #[.int .i64 n] w fun e w' => e = .returned (.tuple #[.int .i64 0, .int .i64 0, .int .i64 0]) ∧ w = w' := by
  have H := Lib.hid h
  clear h
  go_enter Tryz.func35, Tryz.ntmps35
  go_wp2_with (go_at_call 24; refine (valid_no _ _ H.out).mono ?_; rintro e w' ⟨rfl, rfl⟩)
  go_ret3
  exact ⟨rfl, rfl⟩

theorem itoa_any (n : Int) (w : World) (hs : Std w) (h0 : -9223372036854775808 ≤ n) (h1 : n ≤ 9223372036854775807) :
    Calls Tryz.prog 64 #[.int .i64 n] w fun e w' => e = .returned (.string ⟨(Lib.itoa n).toArray⟩) ∧ Below w.heap.size w w' :=
  (Tryz.strconv_Itoa n h0 h1 w hs.pow).mono fun e w' ⟨he, k, os, hw⟩ => ⟨he, by rw [hw]; exact Lib.below_grow _ _ (Nat.le_refl _) _ _⟩

theorem repeat_any (s : List UInt8) (c : Int) (w : World) (h0 : 0 ≤ c) (h1 : c ≤ 1000000) (h2 : s.length ≤ 10000) :
    Calls Tryz.prog 65 #[.string ⟨s.toArray⟩, .int .i64 c] w fun e w' => ∃ p, e = .returned (.string ⟨p.toArray⟩) ∧ Hid (p = Lib.repeatL s c.toNat) ∧ p.length ≤ 10000000000 ∧ Below w.heap.size w w' := by
  obtain ⟨k, rfl⟩ := Int.eq_ofNat_of_zero_le h0
  have hk : k ≤ 1000000 := by omega
  have hm := Nat.mul_le_mul h2 hk
  refine (Tryz.strings_Repeat ⟨s.toArray⟩ k w (by omega) ?_).mono fun e w' ⟨he, hw⟩ => ⟨_, he, rfl, ?_, hw⟩
  · show s.toArray.size * k ≤ _
    simp only [List.size_toArray]
    omega
  · rw [Lib.repeatL_length, Nat.mul_comm]; omega

theorem padded_any (n k : Int) (w : World) (hs : Std w) (h0 : 0 ≤ n) (h1 : n ≤ 9223372036854775807) (h2 : 0 ≤ k) (h3 : k ≤ 1000) :
    Calls Tryz.prog 36 #[.int .i64 n, .int .i64 k] w fun e w' => ∃ p, e = .returned (.string ⟨p.toArray⟩) ∧ Hid (p = padL n k.toNat) ∧ p.length ≤ 2000 ∧ Below w.heap.size w w' := by
  have hl := itoa_len n (by omega) h1
  have hpl := padL_len_le n k.toNat (by omega) h1
  have HP : Hid (padL n k.toNat = Lib.repeatL [48] (k.toNat - (Lib.itoa n).length) ++ Lib.itoa n) := rfl
  have hba := ba_append
  generalize padL n k.toNat = r at *
  go_enter Tryz.func36, Tryz.ntmps36
  go_wp2_with (first | (go_at_call 64; refine (itoa_any _ _ hs (by omega) (by omega)).mono ?_; rintro e w1 ⟨rfl, hb1⟩))
  refine (repeat_any [48] _ _ (by omega) (by omega) (by simp)).mono ?_
  rintro e w2 ⟨q, rfl, HQ, hq, hb2⟩
  go_wp2
  go_ret
  refine ⟨_, rfl, ?_, ?_, hb1.trans (hb2.mono hb1.size)⟩
  · rw [HP.out, HQ.out, show (max (k - ((Lib.itoa n).length : Int)) 0).toNat = k.toNat - (Lib.itoa n).length by omega]; rfl
  · have : q ++ Lib.itoa n = r := by rw [HP.out, HQ.out, show (max (k - ((Lib.itoa n).length : Int)) 0).toNat = k.toNat - (Lib.itoa n).length by omega]
    rw [this]; omega

theorem text_no (n : Int) (w : World) (h : isDay n = false) :
    Calls Tryz.prog 22 #[.int .i64 n] w fun e w' => e = .returned (.string ⟨([] : List UInt8).toArray⟩) ∧ w = w' := by
  go_enter Tryz.func22, Tryz.ntmps22
  go_wp2_with (go_at_call 35; refine (date_no _ _ h).mono ?_; rintro e w' ⟨rfl, rfl⟩)
  go_ret
  exact ⟨rfl, rfl⟩

theorem text_yes (n : Int) (w : World) (hs : Std w) (h : isDay n = true) :
    Calls Tryz.prog 22 #[.int .i64 n] w fun e w' => ∃ p, e = .returned (.string ⟨p.toArray⟩) ∧ Hid (p = textL n) ∧ p.length ≤ 10000 ∧ Below w.heap.size w w' := by
  have hd := date_is h
  simp only [isDate, decide_eq_true_eq] at hd
  have hm := long_bd (yearI n) (monthI n)
  obtain ⟨⟨y1, y2, m1, m2, d1, d2⟩, _⟩ := hd
  have HT : Hid (textL n = padL (yearI n) 4 ++ [45] ++ padL (monthI n) 2 ++ [45] ++ padL (mdayI n) 2) := by unfold textL; rw [if_pos h]; rfl
  have hba := ba_append
  have HD := date_yes n
  generalize textL n = r at *
  generalize yearI n = Y at *
  generalize monthI n = M at *
  generalize mdayI n = D at *
  go_enter Tryz.func22, Tryz.ntmps22
  go_wp2_with (go_at_call 35; refine (HD _ hs h).mono ?_; rintro e w' ⟨rfl, rfl⟩)
  refine (padded_any _ _ _ hs (by omega) (by omega) (by omega) (by omega)).mono ?_
  rintro e w1 ⟨p1, rfl, H1, l1, hb1⟩
  go_wp2_with fail
  refine (padded_any _ _ _ (hs.below hb1) (by omega) (by omega) (by omega) (by omega)).mono ?_
  rintro e w2 ⟨p2, rfl, H2, l2, hb2⟩
  have hb12 := hb1.trans (hb2.mono hb1.size)
  go_wp2_with fail
  refine (padded_any _ _ _ (hs.below hb12) (by omega) (by omega) (by omega) (by omega)).mono ?_
  rintro e w3 ⟨p3, rfl, H3, l3, hb3⟩
  go_wp2
  go_ret
  refine ⟨_, rfl, ?_, ?_, hb12.trans (hb3.mono hb12.size)⟩
  · rw [HT.out, H1.out, H2.out, H3.out]; simp [Hid]
  · simp; omega
end Go.Proofs.YthpapjdjnnkdbaaGreatDoor
