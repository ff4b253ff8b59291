/- Periods: the plain law. -/
import Derived.Test.YtnbkknlljbhpgaaGreatDoorPerC
namespace Go.Proofs.YtnbkknlljbhpgaaGreatDoor
set_option linter.unusedVariables false
set_option linter.unusedSimpArgs false
open Go Go.Sy Go.RowKit

theorem pFrom0 (n : Int) : pFrom 0 n = n := rfl
theorem pTo0 (n : Int) : pTo 0 n = n := rfl
theorem pFrom1 (n : Int) : pFrom 1 n = if n - (n - 1) % 7 < 1 then 1 else n - (n - 1) % 7 := rfl
theorem pTo1 (n : Int) : pTo 1 n = if 3652059 < n - (n - 1) % 7 + 6 then 3652059 else n - (n - 1) % 7 + 6 := rfl
theorem pFrom2 (n : Int) : pFrom 2 n = n - mdayI n + 1 := rfl
theorem pTo2 (n : Int) : pTo 2 n = n - mdayI n + longI (yearI n) (monthI n) := rfl
theorem pFrom3 (n : Int) : pFrom 3 n = aheadI (yearI n) + 1 := rfl
theorem pTo3 (n : Int) : pTo 3 n = aheadI (yearI n + 1) := rfl

theorem cum12 (y : Int) : cumI y 12 = 334 + leapI y := by simp [cumI]
theorem long12 (y : Int) : longI y 12 = 31 := by unfold longI mdays; simp
theorem numI_def (y m d : Int) : numI y m d = aheadI y + cumI y m + d := rfl

/-- A day, by its date. -/
theorem day_num {n : Int} (h : 1 ≤ n) (h' : n ≤ 3652059) : ∃ y m d, isDate y m d = true ∧ n = numI y m d ∧ yearI n = y ∧ monthI n = m ∧ mdayI n = d :=
  let ⟨d1, d2⟩ := date_is (decide_eq_true ⟨h, h'⟩ : isDay n = true)
  ⟨_, _, _, d1, d2.symm, rfl, rfl, rfl⟩

theorem period_law {f n : Int} (f0 : 0 ≤ f) (f3 : f ≤ 3) (h : 1 ≤ n) (h' : n ≤ 3652059) : 1 ≤ pFrom f n ∧ pFrom f n ≤ n ∧ n ≤ pTo f n ∧ pTo f n ≤ 3652059 ∧ pFrom f (pFrom f n) = pFrom f n ∧ pTo f (pFrom f n) = pTo f n ∧
    pFrom f (pTo f n) = pFrom f n ∧ pTo f (pTo f n) = pTo f n ∧ (pTo f n ≠ 3652059 → pFrom f (pTo f n + 1) = pTo f n + 1) := by
  have hf : f = 0 ∨ f = 1 ∨ f = 2 ∨ f = 3 := by omega
  rcases hf with rfl | rfl | rfl | rfl
  · exact ⟨h, Int.le_refl _, Int.le_refl _, h', rfl, rfl, rfl, rfl, fun _ => rfl⟩
  · simp only [pFrom1, pTo1]
    have e : ¬ n - (n - 1) % 7 < 1 := by omega
    rw [if_neg e]
    refine ⟨by omega, by omega, by split <;> omega, by split <;> omega, ?_, ?_, ?_, ?_, ?_⟩
    · split <;> omega
    · have : (n - (n - 1) % 7 - 1) % 7 = 0 := by omega
      rw [this, Int.sub_zero]
    · split
      · rw [if_neg (by omega)]; omega
      · rw [if_neg (by omega)]; omega
    · split
      · rw [if_pos (by omega)]
      · rw [if_neg (by omega)]; omega
    · intro hne
      split at hne
      · omega
      · rename_i h1
        rw [if_neg h1, if_neg (by omega)]
        omega
  · obtain ⟨y, m, d, hd, hn, hy, hm, hdd⟩ := day_num h h'
    simp only [pFrom2, pTo2, hy, hm, hdd]
    have hq := hd
    simp only [isDate, decide_eq_true_eq] at hq
    obtain ⟨q1, q2, q3, q4, q5, q6⟩ := hq
    have hl := long_pos y m q3 q4
    have hb := long_bd y m
    have i1 : isDate y m 1 = true := decide_eq_true ⟨q1, q2, q3, q4, by omega, by omega⟩
    have i2 : isDate y m (longI y m) = true := decide_eq_true ⟨q1, q2, q3, q4, by omega, by omega⟩
    obtain ⟨a1, a2, a3⟩ := date_of_num i1
    obtain ⟨b1, b2, b3⟩ := date_of_num i2
    have e1 : n - d + 1 = numI y m 1 := by rw [hn, numI_def, numI_def]; omega
    have e2 : n - d + longI y m = numI y m (longI y m) := by rw [hn, numI_def, numI_def]; omega
    have k1 := num_day i1
    have k2 := num_day i2
    simp only [isDay, decide_eq_true_eq] at k1 k2
    rw [e1, e2, a1, a2, a3, b1, b2, b3]
    refine ⟨by omega, by rw [← e1]; omega, by rw [← e2]; omega, by omega, by omega, by rw [numI_def, numI_def]; omega, by rw [numI_def, numI_def]; omega, by omega, fun hne => ?_⟩
    by_cases hm12 : m = 12
    · subst hm12
      have hl12 := long12 y
      have hc := cum12 y
      have hs := ahead_succ y
      by_cases hy9 : y = 9999
      · subst hy9
        have := ahead_end
        rw [numI_def] at hne
        rw [show (9999 : Int) + 1 = 10000 by omega] at hs
        omega
      · have i3 : isDate (y + 1) 1 1 = true := decide_eq_true ⟨by omega, by omega, by omega, by omega, by omega, by have := long_pos (y + 1) 1 (by omega) (by omega); omega⟩
        obtain ⟨_, _, c3⟩ := date_of_num i3
        have e3 : numI y 12 (longI y 12) + 1 = numI (y + 1) 1 1 := by rw [numI_def, numI_def, cum_one]; omega
        rw [e3, c3]
        omega
    · have i3 : isDate y (m + 1) 1 = true := decide_eq_true ⟨by omega, by omega, by omega, by omega, by omega, by have := long_pos y (m + 1) (by omega) (by omega); omega⟩
      obtain ⟨_, _, c3⟩ := date_of_num i3
      have hc := cum_succ y m q3 q4
      have e3 : numI y m (longI y m) + 1 = numI y (m + 1) 1 := by rw [numI_def, numI_def]; omega
      rw [e3, c3]
      omega
  · obtain ⟨y, m, d, hd, hn, hy, hm, hdd⟩ := day_num h h'
    simp only [pFrom3, pTo3, hy]
    have hq := hd
    simp only [isDate, decide_eq_true_eq] at hq
    obtain ⟨q1, q2, q3, q4, q5, q6⟩ := hq
    have hl := long12 y
    have hc := cum12 y
    have hs := ahead_succ y
    have i1 : isDate y 1 1 = true := decide_eq_true ⟨q1, q2, by omega, by omega, by omega, by have := long_pos y 1 (by omega) (by omega); omega⟩
    have i2 : isDate y 12 31 = true := decide_eq_true ⟨q1, q2, by omega, by omega, by omega, by omega⟩
    have e1 : aheadI y + 1 = numI y 1 1 := by rw [numI_def, cum_one]; omega
    have e2 : aheadI (y + 1) = numI y 12 31 := by rw [numI_def]; omega
    obtain ⟨a1, _, _⟩ := date_of_num i1
    obtain ⟨b1, _, _⟩ := date_of_num i2
    have k1 := num_day i1
    have k2 := num_day i2
    simp only [isDay, decide_eq_true_eq] at k1 k2
    obtain ⟨nb1, nb2⟩ := num_bd hd
    rw [← hn] at nb1 nb2
    refine ⟨by omega, by omega, by omega, by omega, by rw [e1, a1]; exact e1, by rw [e1, a1], by rw [e2, b1], by rw [e2, b1]; exact e2, fun hne => ?_⟩
    by_cases hy9 : y = 9999
    · subst hy9
      have := ahead_end
      rw [show (9999 : Int) + 1 = 10000 by omega] at hne
      omega
    · have i3 : isDate (y + 1) 1 1 = true := decide_eq_true ⟨by omega, by omega, by omega, by omega, by omega, by have := long_pos (y + 1) 1 (by omega) (by omega); omega⟩
      obtain ⟨c1, _, _⟩ := date_of_num i3
      have e3 : aheadI (y + 1) + 1 = numI (y + 1) 1 1 := by rw [numI_def, cum_one]; omega
      rw [e3, c1]
      omega
end Go.Proofs.YtnbkknlljbhpgaaGreatDoor
