/- The walk of a rule's check: (rule.Rule).Check. -/
import Derived.Test.YtbmdlcagaikdaaaDoorRuleC
namespace Go.Proofs.YtbmdlcagaikdaaaDoor
set_option linter.unusedVariables false
set_option linter.unusedSimpArgs false
open Go.RowKit Go.Proofs

theorem chk_freq {r : RuleD} (h : r.freq < 0 ∨ 4 ≤ r.freq) : chkOf r = 6 := by rw [chkOf, if_pos h]
theorem chk_rng {r : RuleD} (h1 : 0 ≤ r.freq ∧ r.freq < 4) (h : r.itv < 1 ∨ 999 < r.itv ∨ r.cnt < 0 ∨ 9999 < r.cnt ∨ (r.untl ≠ 0 ∧ isDay r.untl = false)) : chkOf r = 3 := by
  rw [chkOf, if_neg (by omega), if_pos h]
theorem chk_both {r : RuleD} (h1 : 0 ≤ r.freq ∧ r.freq < 4) (h2 : 1 ≤ r.itv ∧ r.itv ≤ 999) (h3 : 0 < r.cnt ∧ r.cnt ≤ 9999) (h4 : isDay r.untl = true) (h5 : 0 < r.untl) : chkOf r = 7 := by
  have : ¬ (r.itv < 1 ∨ 999 < r.itv ∨ r.cnt < 0 ∨ 9999 < r.cnt ∨ (r.untl ≠ 0 ∧ isDay r.untl = false)) := by rw [h4]; simp; omega
  rw [chkOf, if_neg (by omega), if_neg this, if_pos ⟨by omega, h5⟩]
theorem chk_in {r : RuleD} (h1 : 0 ≤ r.freq ∧ r.freq < 4) (h2 : 1 ≤ r.itv ∧ r.itv ≤ 999) (h3 : 0 ≤ r.cnt ∧ r.cnt ≤ 9999) (h4 : r.untl = 0 ∨ isDay r.untl = true) (h5 : r.cnt ≤ 0 ∨ r.untl ≤ 0) :
    chkOf r = if lstOf r ≠ 0 then lstOf r else if (r.freq = 1 ∧ r.days ≠ []) ∨ (r.pos ≠ [] ∧ r.months = [] ∧ r.days = [] ∧ r.wds = []) then 6 else 0 := by
  have : ¬ (r.itv < 1 ∨ 999 < r.itv ∨ r.cnt < 0 ∨ 9999 < r.cnt ∨ (r.untl ≠ 0 ∧ isDay r.untl = false)) := by
    rcases h4 with h4 | h4 <;> rw [h4] <;> simp <;> omega
  rw [chkOf, if_neg (by omega), if_neg this, if_neg (by omega)]

theorem hasLists_iff (r : RuleD) : hasLists r = false ↔ (r.months = [] ∧ r.days = [] ∧ r.wds = []) := by
  rw [hasLists, decide_eq_false_iff_not]
  rw [← List.length_eq_zero_iff, ← List.length_eq_zero_iff, ← List.length_eq_zero_iff]
  omega
theorem len_pos {α : Type} {l : List α} {n : Nat} (h : l.length = n) : l ≠ [] ↔ 0 < n := by
  rw [← h, List.length_pos_iff]

variable (r : RuleD) (A1 : Option Addr) (n1 c1 : Nat) (A2 : Option Addr) (n2 c2 : Nat) (A3 : Option Addr) (n3 c3 : Nat) (A4 : Option Addr) (n4 c4 : Nat) (w : World)

theorem check_freq (h : r.freq < 0 ∨ 4 ≤ r.freq) :
    Calls Tryd.prog 9 #[.agg #[.int .i64 r.freq, .int .i64 r.itv, .int .i64 r.cnt, .int .i64 r.untl, .slice A1 n1 c1, .slice A2 n2 c2, .slice A3 n3 c3, .slice A4 n4 c4]] w
      fun e w' => e = .returned (.int .i64 6) ∧ Below w.heap.size w w' := by
  rcases h with h | h
  all_goals
    go_enter Tryd.func9, Tryd.ntmps9
    go_wp2
    go_ret
    exact ⟨rfl, (by (repeat (first | exact Below.refl _ _ | assumption | refine Below.drew ?_ | refine below_drewN ?_ _ | refine Below.alloc ?_ (by first | exact Nat.le_refl _ | omega | (simp <;> omega)) _ | refine Below.setCell ?_ (by first | exact Nat.le_refl _ | omega | (simp <;> omega)) _)))⟩

theorem check_rng (h1 : 0 ≤ r.freq ∧ r.freq < 4) (h : r.itv < 1 ∨ 999 < r.itv ∨ r.cnt < 0 ∨ 9999 < r.cnt ∨ (r.untl ≠ 0 ∧ isDay r.untl = false)) :
    Calls Tryd.prog 9 #[.agg #[.int .i64 r.freq, .int .i64 r.itv, .int .i64 r.cnt, .int .i64 r.untl, .slice A1 n1 c1, .slice A2 n2 c2, .slice A3 n3 c3, .slice A4 n4 c4]] w
      fun e w' => e = .returned (.int .i64 3) ∧ Below w.heap.size w w' := by
  have h' : r.itv < 1 ∨ 999 < r.itv ∨ (1 ≤ r.itv ∧ r.itv ≤ 999 ∧ r.cnt < 0) ∨ (1 ≤ r.itv ∧ r.itv ≤ 999 ∧ 9999 < r.cnt) ∨ (1 ≤ r.itv ∧ r.itv ≤ 999 ∧ 0 ≤ r.cnt ∧ r.cnt ≤ 9999 ∧ r.untl ≠ 0 ∧ isDay r.untl = false) := by
    by_cases a1 : r.itv < 1
    · exact .inl a1
    by_cases a2 : 999 < r.itv
    · exact .inr (.inl a2)
    by_cases a3 : r.cnt < 0
    · exact .inr (.inr (.inl ⟨by omega, by omega, a3⟩))
    by_cases a4 : 9999 < r.cnt
    · exact .inr (.inr (.inr (.inl ⟨by omega, by omega, a4⟩)))
    rcases h with h | h | h | h | h
    · exact absurd h a1
    · exact absurd h a2
    · exact absurd h a3
    · exact absurd h a4
    · exact .inr (.inr (.inr (.inr ⟨by omega, by omega, by omega, by omega, h.1, h.2⟩)))
  clear h
  rcases h' with h | h | ⟨h, h2, h3⟩ | ⟨h, h2, h3⟩ | ⟨h, h2, h3, h4, h5, h6⟩
  · go_enter Tryd.func9, Tryd.ntmps9
    go_wp2
    go_ret
    exact ⟨rfl, (by (repeat (first | exact Below.refl _ _ | assumption | refine Below.drew ?_ | refine below_drewN ?_ _ | refine Below.alloc ?_ (by first | exact Nat.le_refl _ | omega | (simp <;> omega)) _ | refine Below.setCell ?_ (by first | exact Nat.le_refl _ | omega | (simp <;> omega)) _)))⟩
  · go_enter Tryd.func9, Tryd.ntmps9
    go_wp2
    go_ret
    exact ⟨rfl, (by (repeat (first | exact Below.refl _ _ | assumption | refine Below.drew ?_ | refine below_drewN ?_ _ | refine Below.alloc ?_ (by first | exact Nat.le_refl _ | omega | (simp <;> omega)) _ | refine Below.setCell ?_ (by first | exact Nat.le_refl _ | omega | (simp <;> omega)) _)))⟩
  · go_enter Tryd.func9, Tryd.ntmps9
    go_wp2
    go_ret
    exact ⟨rfl, (by (repeat (first | exact Below.refl _ _ | assumption | refine Below.drew ?_ | refine below_drewN ?_ _ | refine Below.alloc ?_ (by first | exact Nat.le_refl _ | omega | (simp <;> omega)) _ | refine Below.setCell ?_ (by first | exact Nat.le_refl _ | omega | (simp <;> omega)) _)))⟩
  · go_enter Tryd.func9, Tryd.ntmps9
    go_wp2
    go_ret
    exact ⟨rfl, (by (repeat (first | exact Below.refl _ _ | assumption | refine Below.drew ?_ | refine below_drewN ?_ _ | refine Below.alloc ?_ (by first | exact Nat.le_refl _ | omega | (simp <;> omega)) _ | refine Below.setCell ?_ (by first | exact Nat.le_refl _ | omega | (simp <;> omega)) _)))⟩
  · have hne : (r.untl != 0) = true := by simpa using h5
    have V := valid_no r.untl
    have H6 := Lib.hid h6
    clear h5 h6
    go_enter Tryd.func9, Tryd.ntmps9
    go_wp2_with (go_at_call 15; refine (V _ H6.out).mono ?_; rintro e w' ⟨rfl, rfl⟩)
    go_ret
    exact ⟨rfl, (by (repeat (first | exact Below.refl _ _ | assumption | refine Below.drew ?_ | refine below_drewN ?_ _ | refine Below.alloc ?_ (by first | exact Nat.le_refl _ | omega | (simp <;> omega)) _ | refine Below.setCell ?_ (by first | exact Nat.le_refl _ | omega | (simp <;> omega)) _)))⟩

theorem check_both (h1 : 0 ≤ r.freq ∧ r.freq < 4) (h2 : 1 ≤ r.itv ∧ r.itv ≤ 999) (h3 : 0 < r.cnt ∧ r.cnt ≤ 9999) (h4 : isDay r.untl = true) (h5 : 0 < r.untl) :
    Calls Tryd.prog 9 #[.agg #[.int .i64 r.freq, .int .i64 r.itv, .int .i64 r.cnt, .int .i64 r.untl, .slice A1 n1 c1, .slice A2 n2 c2, .slice A3 n3 c3, .slice A4 n4 c4]] w
      fun e w' => e = .returned (.int .i64 7) ∧ Below w.heap.size w w' := by
  have hne : (r.untl != 0) = true := by simp; omega
  have V := valid_yes r.untl
  have H4 := Lib.hid h4
  clear h4
  go_enter Tryd.func9, Tryd.ntmps9
  go_wp2_with (go_at_call 15; refine (V _ H4.out).mono ?_; rintro e w' ⟨rfl, rfl⟩)
  go_ret
  exact ⟨rfl, (by (repeat (first | exact Below.refl _ _ | assumption | refine Below.drew ?_ | refine below_drewN ?_ _ | refine Below.alloc ?_ (by first | exact Nat.le_refl _ | omega | (simp <;> omega)) _ | refine Below.setCell ?_ (by first | exact Nat.le_refl _ | omega | (simp <;> omega)) _)))⟩

set_option maxHeartbeats 1000000 in
theorem check_in_no (h : RuleIn w r A1 n1 A2 n2 A3 n3 A4 n4) (h1 : 0 ≤ r.freq ∧ r.freq < 4) (h2 : 1 ≤ r.itv ∧ r.itv ≤ 999) (h3 : 0 ≤ r.cnt ∧ r.cnt ≤ 9999) (hu : r.untl = 0)
    (s1 : n1 ≤ 2000000000000000000) (s2 : n2 ≤ 2000000000000000000) (s3 : n3 ≤ 2000000000000000000) (s4 : n4 ≤ 2000000000000000000) :
    Calls Tryd.prog 9 #[.agg #[.int .i64 r.freq, .int .i64 r.itv, .int .i64 r.cnt, .int .i64 r.untl, .slice A1 n1 c1, .slice A2 n2 c2, .slice A3 n3 c3, .slice A4 n4 c4]] w
      fun e w' => e = .returned (.int .i64 (chkOf r)) ∧ Below w.heap.size w w' := by
  have HC := Lib.hid (chk_in h1 h2 h3 (.inl hu) (by omega))
  have HL := Lib.hid (hasLists_iff r)
  have L2 := Lib.hid (len_pos h.days.len)
  have L4 := Lib.hid (len_pos h.pos.len)
  have CL := lists_any r A1 n1 c1 A2 n2 c2 A3 n3 c3 A4 n4 c4
  have CH := fun W => hasLists_any r A1 n1 c1 A2 n2 c2 A3 n3 c3 (.slice A4 n4 c4) W h.months.len h.days.len h.wds.len s1 s2 s3 rfl
  have H := Lib.hid h
  clear h
  generalize hasLists r = hl at *
  generalize lstOf r = l at *
  generalize chkOf r = g at *
  have hne : (r.untl != 0) = false := by simp [hu]
  have hu2 : r.untl ≤ 0 := by omega
  clear hu
  by_cases hl0 : l = 0
  · have hle : (l != 0) = false := by simp [hl0]
    have HZ := Lib.hid hl0
    clear hl0
    by_cases hf : r.freq = 1
    · have hfe : (r.freq == 1) = true := by simpa using hf
      have HF := Lib.hid hf
      clear hf
      by_cases hn2 : 0 < n2
      · go_enter Tryd.func9, Tryd.ntmps9
        go_wp2_with (first | (go_at_call 16; refine (CL _ (H.out.below (by (repeat (first | exact Below.refl _ _ | assumption | refine Below.drew ?_ | refine below_drewN ?_ _ | refine Below.alloc ?_ (by first | exact Nat.le_refl _ | omega | (simp <;> omega)) _ | refine Below.setCell ?_ (by first | exact Nat.le_refl _ | omega | (simp <;> omega)) _))))).mono ?_; rintro e w1 ⟨rfl, hb1⟩; obtain ⟨hcc, hff⟩ := bcell hb1))
        all_goals
          go_ret
          exact ⟨ret_int (by rw [HC.out, HZ.out, if_neg (by simp), if_pos (.inl ⟨HF.out, L2.out.2 hn2⟩)]), (((Below.refl _ _).alloc (Nat.le_refl _) _).trans (hb1.mono (by simp)))⟩
      · by_cases hn4 : 0 < n4
        · cases hl
          · go_enter Tryd.func9, Tryd.ntmps9
            go_wp2_with (first | (go_at_call 16; refine (CL _ (H.out.below (by (repeat (first | exact Below.refl _ _ | assumption | refine Below.drew ?_ | refine below_drewN ?_ _ | refine Below.alloc ?_ (by first | exact Nat.le_refl _ | omega | (simp <;> omega)) _ | refine Below.setCell ?_ (by first | exact Nat.le_refl _ | omega | (simp <;> omega)) _))))).mono ?_; rintro e w1 ⟨rfl, hb1⟩; obtain ⟨hcc, hff⟩ := bcell hb1) | (go_at_call 13; refine (CH _).mono ?_; rintro e w2 ⟨rfl, hb2⟩))
            all_goals
              go_ret
              exact ⟨ret_int (by rw [HC.out, HZ.out, if_neg (by simp), if_pos (.inr ⟨L4.out.2 hn4, HL.out.1 (by first | rfl | trivial)⟩)]), (((Below.refl _ _).alloc (Nat.le_refl _) _).trans ((hb1.trans (hb2.mono hb1.size)).mono (by simp)))⟩
          · go_enter Tryd.func9, Tryd.ntmps9
            go_wp2_with (first | (go_at_call 16; refine (CL _ (H.out.below (by (repeat (first | exact Below.refl _ _ | assumption | refine Below.drew ?_ | refine below_drewN ?_ _ | refine Below.alloc ?_ (by first | exact Nat.le_refl _ | omega | (simp <;> omega)) _ | refine Below.setCell ?_ (by first | exact Nat.le_refl _ | omega | (simp <;> omega)) _))))).mono ?_; rintro e w1 ⟨rfl, hb1⟩; obtain ⟨hcc, hff⟩ := bcell hb1) | (go_at_call 13; refine (CH _).mono ?_; rintro e w2 ⟨rfl, hb2⟩))
            all_goals
              go_ret
              exact ⟨ret_int (by rw [HC.out, HZ.out, if_neg (by simp), if_neg (by rintro (⟨_, k⟩ | ⟨_, k⟩); exact hn2 (L2.out.1 k); exact absurd (HL.out.2 k) (by simp))]), (((Below.refl _ _).alloc (Nat.le_refl _) _).trans ((hb1.trans (hb2.mono hb1.size)).mono (by simp)))⟩
        · go_enter Tryd.func9, Tryd.ntmps9
          go_wp2_with (first | (go_at_call 16; refine (CL _ (H.out.below (by (repeat (first | exact Below.refl _ _ | assumption | refine Below.drew ?_ | refine below_drewN ?_ _ | refine Below.alloc ?_ (by first | exact Nat.le_refl _ | omega | (simp <;> omega)) _ | refine Below.setCell ?_ (by first | exact Nat.le_refl _ | omega | (simp <;> omega)) _))))).mono ?_; rintro e w1 ⟨rfl, hb1⟩; obtain ⟨hcc, hff⟩ := bcell hb1))
          all_goals
            go_ret
            exact ⟨ret_int (by rw [HC.out, HZ.out, if_neg (by simp), if_neg (by rintro (⟨_, k⟩ | ⟨k, _⟩); exact hn2 (L2.out.1 k); exact hn4 (L4.out.1 k))]), (((Below.refl _ _).alloc (Nat.le_refl _) _).trans (hb1.mono (by simp)))⟩
    · have hfe : (r.freq == 1) = false := by simpa using hf
      have HF := Lib.hid hf
      clear hf
      by_cases hn4 : 0 < n4
      · cases hl
        · go_enter Tryd.func9, Tryd.ntmps9
          go_wp2_with (first | (go_at_call 16; refine (CL _ (H.out.below (by (repeat (first | exact Below.refl _ _ | assumption | refine Below.drew ?_ | refine below_drewN ?_ _ | refine Below.alloc ?_ (by first | exact Nat.le_refl _ | omega | (simp <;> omega)) _ | refine Below.setCell ?_ (by first | exact Nat.le_refl _ | omega | (simp <;> omega)) _))))).mono ?_; rintro e w1 ⟨rfl, hb1⟩; obtain ⟨hcc, hff⟩ := bcell hb1) | (go_at_call 13; refine (CH _).mono ?_; rintro e w2 ⟨rfl, hb2⟩))
          all_goals
            go_ret
            exact ⟨ret_int (by rw [HC.out, HZ.out, if_neg (by simp), if_pos (.inr ⟨L4.out.2 hn4, HL.out.1 (by first | rfl | trivial)⟩)]), (((Below.refl _ _).alloc (Nat.le_refl _) _).trans ((hb1.trans (hb2.mono hb1.size)).mono (by simp)))⟩
        · go_enter Tryd.func9, Tryd.ntmps9
          go_wp2_with (first | (go_at_call 16; refine (CL _ (H.out.below (by (repeat (first | exact Below.refl _ _ | assumption | refine Below.drew ?_ | refine below_drewN ?_ _ | refine Below.alloc ?_ (by first | exact Nat.le_refl _ | omega | (simp <;> omega)) _ | refine Below.setCell ?_ (by first | exact Nat.le_refl _ | omega | (simp <;> omega)) _))))).mono ?_; rintro e w1 ⟨rfl, hb1⟩; obtain ⟨hcc, hff⟩ := bcell hb1) | (go_at_call 13; refine (CH _).mono ?_; rintro e w2 ⟨rfl, hb2⟩))
          all_goals
            go_ret
            exact ⟨ret_int (by rw [HC.out, HZ.out, if_neg (by simp), if_neg (by rintro (⟨k, _⟩ | ⟨_, k⟩); exact HF.out k; exact absurd (HL.out.2 k) (by simp))]), (((Below.refl _ _).alloc (Nat.le_refl _) _).trans ((hb1.trans (hb2.mono hb1.size)).mono (by simp)))⟩
      · go_enter Tryd.func9, Tryd.ntmps9
        go_wp2_with (first | (go_at_call 16; refine (CL _ (H.out.below (by (repeat (first | exact Below.refl _ _ | assumption | refine Below.drew ?_ | refine below_drewN ?_ _ | refine Below.alloc ?_ (by first | exact Nat.le_refl _ | omega | (simp <;> omega)) _ | refine Below.setCell ?_ (by first | exact Nat.le_refl _ | omega | (simp <;> omega)) _))))).mono ?_; rintro e w1 ⟨rfl, hb1⟩; obtain ⟨hcc, hff⟩ := bcell hb1))
        all_goals
          go_ret
          exact ⟨ret_int (by rw [HC.out, HZ.out, if_neg (by simp), if_neg (by rintro (⟨k, _⟩ | ⟨k, _⟩); exact HF.out k; exact hn4 (L4.out.1 k))]), (((Below.refl _ _).alloc (Nat.le_refl _) _).trans (hb1.mono (by simp)))⟩
  · have hle : (l != 0) = true := by simpa using hl0
    have HZ := Lib.hid hl0
    clear hl0
    go_enter Tryd.func9, Tryd.ntmps9
    go_wp2_with (first | (go_at_call 16; refine (CL _ (H.out.below (by (repeat (first | exact Below.refl _ _ | assumption | refine Below.drew ?_ | refine below_drewN ?_ _ | refine Below.alloc ?_ (by first | exact Nat.le_refl _ | omega | (simp <;> omega)) _ | refine Below.setCell ?_ (by first | exact Nat.le_refl _ | omega | (simp <;> omega)) _))))).mono ?_; rintro e w1 ⟨rfl, hb1⟩; obtain ⟨hcc, hff⟩ := bcell hb1))
    all_goals
      go_ret
      exact ⟨ret_int (by rw [HC.out, if_pos HZ.out]), (((Below.refl _ _).alloc (Nat.le_refl _) _).trans (hb1.mono (by simp)))⟩

set_option maxHeartbeats 1000000 in
theorem check_in_day (h : RuleIn w r A1 n1 A2 n2 A3 n3 A4 n4) (h1 : 0 ≤ r.freq ∧ r.freq < 4) (h2 : 1 ≤ r.itv ∧ r.itv ≤ 999) (h3 : 0 ≤ r.cnt ∧ r.cnt ≤ 9999) (hu : isDay r.untl = true) (hc0 : r.cnt ≤ 0)
    (s1 : n1 ≤ 2000000000000000000) (s2 : n2 ≤ 2000000000000000000) (s3 : n3 ≤ 2000000000000000000) (s4 : n4 ≤ 2000000000000000000) :
    Calls Tryd.prog 9 #[.agg #[.int .i64 r.freq, .int .i64 r.itv, .int .i64 r.cnt, .int .i64 r.untl, .slice A1 n1 c1, .slice A2 n2 c2, .slice A3 n3 c3, .slice A4 n4 c4]] w
      fun e w' => e = .returned (.int .i64 (chkOf r)) ∧ Below w.heap.size w w' := by
  have HC := Lib.hid (chk_in h1 h2 h3 (.inr hu) (by omega))
  have HL := Lib.hid (hasLists_iff r)
  have L2 := Lib.hid (len_pos h.days.len)
  have L4 := Lib.hid (len_pos h.pos.len)
  have CL := lists_any r A1 n1 c1 A2 n2 c2 A3 n3 c3 A4 n4 c4
  have CH := fun W => hasLists_any r A1 n1 c1 A2 n2 c2 A3 n3 c3 (.slice A4 n4 c4) W h.months.len h.days.len h.wds.len s1 s2 s3 rfl
  have H := Lib.hid h
  clear h
  generalize hasLists r = hl at *
  generalize lstOf r = l at *
  generalize chkOf r = g at *
  have hu2 : 1 ≤ r.untl := by simp only [isDay, decide_eq_true_eq] at hu; omega
  have hne : (r.untl != 0) = true := by simp; omega
  have V := valid_yes r.untl
  have HU := Lib.hid hu
  clear hu
  by_cases hl0 : l = 0
  · have hle : (l != 0) = false := by simp [hl0]
    have HZ := Lib.hid hl0
    clear hl0
    by_cases hf : r.freq = 1
    · have hfe : (r.freq == 1) = true := by simpa using hf
      have HF := Lib.hid hf
      clear hf
      by_cases hn2 : 0 < n2
      · go_enter Tryd.func9, Tryd.ntmps9
        go_wp2_with (first | (go_at_call 16; refine (CL _ (H.out.below (by (repeat (first | exact Below.refl _ _ | assumption | refine Below.drew ?_ | refine below_drewN ?_ _ | refine Below.alloc ?_ (by first | exact Nat.le_refl _ | omega | (simp <;> omega)) _ | refine Below.setCell ?_ (by first | exact Nat.le_refl _ | omega | (simp <;> omega)) _))))).mono ?_; rintro e w1 ⟨rfl, hb1⟩; obtain ⟨hcc, hff⟩ := bcell hb1) | (go_at_call 15; refine (V _ HU.out).mono ?_; rintro e w0 ⟨rfl, rfl⟩))
        go_ret
        exact ⟨ret_int (by rw [HC.out, HZ.out, if_neg (by simp), if_pos (.inl ⟨HF.out, L2.out.2 hn2⟩)]), (((Below.refl _ _).alloc (Nat.le_refl _) _).trans (hb1.mono (by simp)))⟩
      · by_cases hn4 : 0 < n4
        · cases hl
          · go_enter Tryd.func9, Tryd.ntmps9
            go_wp2_with (first | (go_at_call 16; refine (CL _ (H.out.below (by (repeat (first | exact Below.refl _ _ | assumption | refine Below.drew ?_ | refine below_drewN ?_ _ | refine Below.alloc ?_ (by first | exact Nat.le_refl _ | omega | (simp <;> omega)) _ | refine Below.setCell ?_ (by first | exact Nat.le_refl _ | omega | (simp <;> omega)) _))))).mono ?_; rintro e w1 ⟨rfl, hb1⟩; obtain ⟨hcc, hff⟩ := bcell hb1) | (go_at_call 15; refine (V _ HU.out).mono ?_; rintro e w0 ⟨rfl, rfl⟩) | (go_at_call 13; refine (CH _).mono ?_; rintro e w2 ⟨rfl, hb2⟩))
            go_ret
            exact ⟨ret_int (by rw [HC.out, HZ.out, if_neg (by simp), if_pos (.inr ⟨L4.out.2 hn4, HL.out.1 (by first | rfl | trivial)⟩)]), (((Below.refl _ _).alloc (Nat.le_refl _) _).trans ((hb1.trans (hb2.mono hb1.size)).mono (by simp)))⟩
          · go_enter Tryd.func9, Tryd.ntmps9
            go_wp2_with (first | (go_at_call 16; refine (CL _ (H.out.below (by (repeat (first | exact Below.refl _ _ | assumption | refine Below.drew ?_ | refine below_drewN ?_ _ | refine Below.alloc ?_ (by first | exact Nat.le_refl _ | omega | (simp <;> omega)) _ | refine Below.setCell ?_ (by first | exact Nat.le_refl _ | omega | (simp <;> omega)) _))))).mono ?_; rintro e w1 ⟨rfl, hb1⟩; obtain ⟨hcc, hff⟩ := bcell hb1) | (go_at_call 15; refine (V _ HU.out).mono ?_; rintro e w0 ⟨rfl, rfl⟩) | (go_at_call 13; refine (CH _).mono ?_; rintro e w2 ⟨rfl, hb2⟩))
            go_ret
            exact ⟨ret_int (by rw [HC.out, HZ.out, if_neg (by simp), if_neg (by rintro (⟨_, k⟩ | ⟨_, k⟩); exact hn2 (L2.out.1 k); exact absurd (HL.out.2 k) (by simp))]), (((Below.refl _ _).alloc (Nat.le_refl _) _).trans ((hb1.trans (hb2.mono hb1.size)).mono (by simp)))⟩
        · go_enter Tryd.func9, Tryd.ntmps9
          go_wp2_with (first | (go_at_call 16; refine (CL _ (H.out.below (by (repeat (first | exact Below.refl _ _ | assumption | refine Below.drew ?_ | refine below_drewN ?_ _ | refine Below.alloc ?_ (by first | exact Nat.le_refl _ | omega | (simp <;> omega)) _ | refine Below.setCell ?_ (by first | exact Nat.le_refl _ | omega | (simp <;> omega)) _))))).mono ?_; rintro e w1 ⟨rfl, hb1⟩; obtain ⟨hcc, hff⟩ := bcell hb1) | (go_at_call 15; refine (V _ HU.out).mono ?_; rintro e w0 ⟨rfl, rfl⟩))
          go_ret
          exact ⟨ret_int (by rw [HC.out, HZ.out, if_neg (by simp), if_neg (by rintro (⟨_, k⟩ | ⟨k, _⟩); exact hn2 (L2.out.1 k); exact hn4 (L4.out.1 k))]), (((Below.refl _ _).alloc (Nat.le_refl _) _).trans (hb1.mono (by simp)))⟩
    · have hfe : (r.freq == 1) = false := by simpa using hf
      have HF := Lib.hid hf
      clear hf
      by_cases hn4 : 0 < n4
      · cases hl
        · go_enter Tryd.func9, Tryd.ntmps9
          go_wp2_with (first | (go_at_call 16; refine (CL _ (H.out.below (by (repeat (first | exact Below.refl _ _ | assumption | refine Below.drew ?_ | refine below_drewN ?_ _ | refine Below.alloc ?_ (by first | exact Nat.le_refl _ | omega | (simp <;> omega)) _ | refine Below.setCell ?_ (by first | exact Nat.le_refl _ | omega | (simp <;> omega)) _))))).mono ?_; rintro e w1 ⟨rfl, hb1⟩; obtain ⟨hcc, hff⟩ := bcell hb1) | (go_at_call 15; refine (V _ HU.out).mono ?_; rintro e w0 ⟨rfl, rfl⟩) | (go_at_call 13; refine (CH _).mono ?_; rintro e w2 ⟨rfl, hb2⟩))
          go_ret
          exact ⟨ret_int (by rw [HC.out, HZ.out, if_neg (by simp), if_pos (.inr ⟨L4.out.2 hn4, HL.out.1 (by first | rfl | trivial)⟩)]), (((Below.refl _ _).alloc (Nat.le_refl _) _).trans ((hb1.trans (hb2.mono hb1.size)).mono (by simp)))⟩
        · go_enter Tryd.func9, Tryd.ntmps9
          go_wp2_with (first | (go_at_call 16; refine (CL _ (H.out.below (by (repeat (first | exact Below.refl _ _ | assumption | refine Below.drew ?_ | refine below_drewN ?_ _ | refine Below.alloc ?_ (by first | exact Nat.le_refl _ | omega | (simp <;> omega)) _ | refine Below.setCell ?_ (by first | exact Nat.le_refl _ | omega | (simp <;> omega)) _))))).mono ?_; rintro e w1 ⟨rfl, hb1⟩; obtain ⟨hcc, hff⟩ := bcell hb1) | (go_at_call 15; refine (V _ HU.out).mono ?_; rintro e w0 ⟨rfl, rfl⟩) | (go_at_call 13; refine (CH _).mono ?_; rintro e w2 ⟨rfl, hb2⟩))
          go_ret
          exact ⟨ret_int (by rw [HC.out, HZ.out, if_neg (by simp), if_neg (by rintro (⟨k, _⟩ | ⟨_, k⟩); exact HF.out k; exact absurd (HL.out.2 k) (by simp))]), (((Below.refl _ _).alloc (Nat.le_refl _) _).trans ((hb1.trans (hb2.mono hb1.size)).mono (by simp)))⟩
      · go_enter Tryd.func9, Tryd.ntmps9
        go_wp2_with (first | (go_at_call 16; refine (CL _ (H.out.below (by (repeat (first | exact Below.refl _ _ | assumption | refine Below.drew ?_ | refine below_drewN ?_ _ | refine Below.alloc ?_ (by first | exact Nat.le_refl _ | omega | (simp <;> omega)) _ | refine Below.setCell ?_ (by first | exact Nat.le_refl _ | omega | (simp <;> omega)) _))))).mono ?_; rintro e w1 ⟨rfl, hb1⟩; obtain ⟨hcc, hff⟩ := bcell hb1) | (go_at_call 15; refine (V _ HU.out).mono ?_; rintro e w0 ⟨rfl, rfl⟩))
        go_ret
        exact ⟨ret_int (by rw [HC.out, HZ.out, if_neg (by simp), if_neg (by rintro (⟨k, _⟩ | ⟨k, _⟩); exact HF.out k; exact hn4 (L4.out.1 k))]), (((Below.refl _ _).alloc (Nat.le_refl _) _).trans (hb1.mono (by simp)))⟩
  · have hle : (l != 0) = true := by simpa using hl0
    have HZ := Lib.hid hl0
    clear hl0
    go_enter Tryd.func9, Tryd.ntmps9
    go_wp2_with (first | (go_at_call 16; refine (CL _ (H.out.below (by (repeat (first | exact Below.refl _ _ | assumption | refine Below.drew ?_ | refine below_drewN ?_ _ | refine Below.alloc ?_ (by first | exact Nat.le_refl _ | omega | (simp <;> omega)) _ | refine Below.setCell ?_ (by first | exact Nat.le_refl _ | omega | (simp <;> omega)) _))))).mono ?_; rintro e w1 ⟨rfl, hb1⟩; obtain ⟨hcc, hff⟩ := bcell hb1) | (go_at_call 15; refine (V _ HU.out).mono ?_; rintro e w0 ⟨rfl, rfl⟩))
    go_ret
    exact ⟨ret_int (by rw [HC.out, if_pos HZ.out]), (((Below.refl _ _).alloc (Nat.le_refl _) _).trans (hb1.mono (by simp)))⟩

theorem check_any (h : RuleIn w r A1 n1 A2 n2 A3 n3 A4 n4)
    (s1 : n1 ≤ 2000000000000000000) (s2 : n2 ≤ 2000000000000000000) (s3 : n3 ≤ 2000000000000000000) (s4 : n4 ≤ 2000000000000000000) :
    Calls Tryd.prog 9 #[.agg #[.int .i64 r.freq, .int .i64 r.itv, .int .i64 r.cnt, .int .i64 r.untl, .slice A1 n1 c1, .slice A2 n2 c2, .slice A3 n3 c3, .slice A4 n4 c4]] w
      fun e w' => e = .returned (.int .i64 (chkOf r)) ∧ Below w.heap.size w w' := by
  by_cases h1 : r.freq < 0 ∨ 4 ≤ r.freq
  · rw [chk_freq h1]
    exact check_freq r A1 n1 c1 A2 n2 c2 A3 n3 c3 A4 n4 c4 w h1
  have h1' : 0 ≤ r.freq ∧ r.freq < 4 := by omega
  by_cases h2 : r.itv < 1 ∨ 999 < r.itv ∨ r.cnt < 0 ∨ 9999 < r.cnt ∨ (r.untl ≠ 0 ∧ isDay r.untl = false)
  · rw [chk_rng h1' h2]
    exact check_rng r A1 n1 c1 A2 n2 c2 A3 n3 c3 A4 n4 c4 w h1' h2
  have g1 : 1 ≤ r.itv ∧ r.itv ≤ 999 := ⟨Int.not_lt.1 fun k => h2 (.inl k), Int.not_lt.1 fun k => h2 (.inr (.inl k))⟩
  have g2 : 0 ≤ r.cnt ∧ r.cnt ≤ 9999 := ⟨Int.not_lt.1 fun k => h2 (.inr (.inr (.inl k))), Int.not_lt.1 fun k => h2 (.inr (.inr (.inr (.inl k))))⟩
  have hu : r.untl = 0 ∨ isDay r.untl = true := by
    by_cases hz : r.untl = 0
    · exact .inl hz
    · refine .inr ?_
      cases hd : isDay r.untl
      · exact absurd (.inr (.inr (.inr (.inr ⟨hz, hd⟩)))) h2
      · rfl
  by_cases h3 : 0 < r.cnt ∧ 0 < r.untl
  · have hd : isDay r.untl = true := by
      rcases hu with hu | hu
      · omega
      · exact hu
    rw [chk_both h1' (by omega) (by omega) hd h3.2]
    exact check_both r A1 n1 c1 A2 n2 c2 A3 n3 c3 A4 n4 c4 w h1' (by omega) (by omega) hd h3.2
  · rcases hu with hu | hu
    · exact check_in_no r A1 n1 c1 A2 n2 c2 A3 n3 c3 A4 n4 c4 w h h1' (by omega) (by omega) hu s1 s2 s3 s4
    · have : 1 ≤ r.untl := by have := hu; simp only [isDay, decide_eq_true_eq] at this; omega
      exact check_in_day r A1 n1 c1 A2 n2 c2 A3 n3 c3 A4 n4 c4 w h h1' (by omega) (by omega) hu (by omega) s1 s2 s3 s4
end Go.Proofs.YtbmdlcagaikdaaaDoor
