/- The plain arithmetic of the calendar: leap years, lengths of months, a day's number, its date, its weekday; no program in sight. -/
import Derived.Below
namespace Go.Proofs.YthpapjdjnnkdbaaGreatDoor

def leapB (y : Int) : Bool := decide (y % 4 = 0 ∧ (y % 100 ≠ 0 ∨ y % 400 = 0))
def leapI (y : Int) : Int := if leapB y = true then 1 else 0
def mdays (m : Int) : Int := if m = 2 then 28 else if m = 4 ∨ m = 6 ∨ m = 9 ∨ m = 11 then 30 else 31
/-- the length of a month; 0 of no month -/
def longI (y m : Int) : Int := if m < 1 ∨ 12 < m then 0 else if m = 2 ∧ leapB y = true then 29 else mdays m
/-- how many days lie ahead of a year -/
def aheadI (y : Int) : Int := 365 * (y - 1) + (y - 1) / 4 - (y - 1) / 100 + (y - 1) / 400
/-- how many days of a year lie ahead of a month -/
def cumI (y m : Int) : Int :=
  if m ≤ 1 then 0 else if m = 2 then 31 else if m = 3 then 59 + leapI y else if m = 4 then 90 + leapI y else if m = 5 then 120 + leapI y
  else if m = 6 then 151 + leapI y else if m = 7 then 181 + leapI y else if m = 8 then 212 + leapI y else if m = 9 then 243 + leapI y
  else if m = 10 then 273 + leapI y else if m = 11 then 304 + leapI y else if m = 12 then 334 + leapI y else 365 + leapI y
def numI (y m d : Int) : Int := aheadI y + cumI y m + d
/-- is it a date? -/
def isDate (y m d : Int) : Bool := decide (1 ≤ y ∧ y ≤ 9999 ∧ 1 ≤ m ∧ m ≤ 12 ∧ 1 ≤ d ∧ d ≤ longI y m)
def isDay (n : Int) : Bool := decide (1 ≤ n ∧ n ≤ 3652059)
def yearI (n : Int) : Int :=
  let a := (n - 1) / 146097; let r := (n - 1) % 146097
  let b := if r / 36524 = 4 then 3 else r / 36524; let s := r - 36524 * b
  let c := s / 1461; let t := s % 1461
  let d := if t / 365 = 4 then 3 else t / 365
  400 * a + 100 * b + 4 * c + d + 1
def monI (y k : Int) : Int :=
  if k ≤ 31 then 1 else if k ≤ 59 + leapI y then 2 else if k ≤ 90 + leapI y then 3 else if k ≤ 120 + leapI y then 4 else if k ≤ 151 + leapI y then 5
  else if k ≤ 181 + leapI y then 6 else if k ≤ 212 + leapI y then 7 else if k ≤ 243 + leapI y then 8 else if k ≤ 273 + leapI y then 9
  else if k ≤ 304 + leapI y then 10 else if k ≤ 334 + leapI y then 11 else 12
def monthI (n : Int) : Int := monI (yearI n) (n - aheadI (yearI n))
def mdayI (n : Int) : Int := n - aheadI (yearI n) - cumI (yearI n) (monthI n)

theorem leapI_bd (y : Int) : 0 ≤ leapI y ∧ leapI y ≤ 1 := by unfold leapI; split <;> omega

theorem ahead_succ (y : Int) : aheadI (y + 1) = aheadI y + 365 + leapI y := by
  unfold aheadI leapI leapB
  by_cases h4 : y % 4 = 0 <;> by_cases h1 : y % 100 = 0 <;> by_cases h2 : y % 400 = 0 <;> simp [h4, h1, h2] <;> omega

theorem ahead_mono {a b : Int} (h : a ≤ b) : aheadI a ≤ aheadI b := by unfold aheadI; omega
theorem ahead_lt {a b : Int} (h : a < b) : aheadI a + 365 ≤ aheadI b := by unfold aheadI; omega
theorem ahead_one : aheadI 1 = 0 := rfl
theorem ahead_end : aheadI 10000 = 3652059 := rfl
theorem ahead_bd (y : Int) (h : 1 ≤ y) (h' : y ≤ 10001) : 0 ≤ aheadI y ∧ aheadI y ≤ 3652425 := by unfold aheadI; omega

theorem long_bd (y m : Int) : 0 ≤ longI y m ∧ longI y m ≤ 31 := by unfold longI mdays; repeat' split <;> omega
theorem long_pos (y m : Int) (h : 1 ≤ m) (h' : m ≤ 12) : 28 ≤ longI y m := by unfold longI mdays; repeat' split <;> omega

theorem long_eq (y m : Int) : longI y m = if m < 1 ∨ 12 < m then 0 else if m = 2 then 28 + leapI y else if m = 4 ∨ m = 6 ∨ m = 9 ∨ m = 11 then 30 else 31 := by
  unfold longI mdays leapI
  by_cases h2 : m = 2 <;> cases leapB y <;> simp [h2]

theorem cum_succ (y m : Int) (h : 1 ≤ m) (h' : m ≤ 12) : cumI y (m + 1) = cumI y m + longI y m := by
  rw [long_eq]
  have : m = 1 ∨ m = 2 ∨ m = 3 ∨ m = 4 ∨ m = 5 ∨ m = 6 ∨ m = 7 ∨ m = 8 ∨ m = 9 ∨ m = 10 ∨ m = 11 ∨ m = 12 := by omega
  rcases this with rfl | rfl | rfl | rfl | rfl | rfl | rfl | rfl | rfl | rfl | rfl | rfl <;> simp [cumI] <;> omega

theorem cum_one (y : Int) : cumI y 1 = 0 := rfl
theorem cum_bd (y m : Int) : 0 ≤ cumI y m ∧ cumI y m ≤ 365 + leapI y := by
  have := leapI_bd y
  unfold cumI; repeat' split <;> omega
theorem cum_step (y m : Int) : cumI y m ≤ cumI y (m + 1) := by
  by_cases h : 1 ≤ m ∧ m ≤ 12
  · rw [cum_succ y m h.1 h.2]; have := (long_bd y m).1; omega
  · by_cases h1 : m ≤ 0
    · have : m + 1 ≤ 1 := by omega
      have h2 : m ≤ 1 := by omega
      simp [cumI, this, h2]
    · have : cumI y m = 365 + leapI y := by unfold cumI; (repeat rw [if_neg (by omega)])
      have k : cumI y (m + 1) = 365 + leapI y := by unfold cumI; (repeat rw [if_neg (by omega)])
      omega
theorem cum_mono (y : Int) {a b : Int} (h : a ≤ b) : cumI y a ≤ cumI y b := by
  obtain ⟨k, rfl⟩ : ∃ k : Nat, b = a + k := ⟨(b - a).toNat, by omega⟩
  clear h
  induction k with
  | zero => simp
  | succ k ih =>
    have := cum_step y (a + k)
    rw [show a + (k : Int) + 1 = a + ((k + 1 : Nat) : Int) by omega] at this
    omega

/-- a date's number lies in its year -/
theorem num_bd {y m d : Int} (h : isDate y m d = true) : aheadI y < numI y m d ∧ numI y m d ≤ aheadI (y + 1) := by
  simp only [isDate, decide_eq_true_eq] at h
  obtain ⟨h1, h2, h3, h4, h5, h6⟩ := h
  have hc := cum_succ y m h3 h4
  have hm := cum_mono y (a := m + 1) (b := 13) (by omega)
  have h13 : cumI y 13 = 365 + leapI y := rfl
  have hs := ahead_succ y
  have hb := (cum_bd y m).1
  unfold numI
  omega

theorem num_day {y m d : Int} (h : isDate y m d = true) : isDay (numI y m d) = true := by
  have := num_bd h
  simp only [isDate, decide_eq_true_eq] at h
  have h1 := ahead_mono (a := 1) (b := y) (by omega)
  have h2 := ahead_mono (a := y + 1) (b := 10000) (by omega)
  rw [ahead_one] at h1
  rw [ahead_end] at h2
  simp only [isDay, decide_eq_true_eq]
  omega

theorem num_inj {y m d y' m' d' : Int} (h : isDate y m d = true) (h' : isDate y' m' d' = true) (e : numI y m d = numI y' m' d') : y = y' ∧ m = m' ∧ d = d' := by
  have b := num_bd h
  have b' := num_bd h'
  have hy : y = y' := by
    rcases Int.lt_trichotomy y y' with l | l | l
    · have := ahead_mono (a := y + 1) (b := y') (by omega); omega
    · exact l
    · have := ahead_mono (a := y' + 1) (b := y) (by omega); omega
  subst hy
  simp only [isDate, decide_eq_true_eq] at h h'
  obtain ⟨h1, h2, h3, h4, h5, h6⟩ := h
  obtain ⟨_, _, k3, k4, k5, k6⟩ := h'
  have c := cum_succ y m h3 h4
  have c' := cum_succ y m' k3 k4
  unfold numI at e
  have hm : m = m' := by
    rcases Int.lt_trichotomy m m' with l | l | l
    · have := cum_mono y (a := m + 1) (b := m') (by omega); omega
    · exact l
    · have := cum_mono y (a := m' + 1) (b := m) (by omega); omega
  subst hm
  exact ⟨rfl, rfl, by omega⟩

theorem year_bd {n : Int} (h : isDay n = true) : 1 ≤ yearI n ∧ yearI n ≤ 9999 ∧ aheadI (yearI n) < n ∧ n ≤ aheadI (yearI n + 1) := by
  simp only [isDay, decide_eq_true_eq] at h
  unfold yearI aheadI
  dsimp only
  generalize ha : (n - 1) / 146097 = a
  generalize hr : (n - 1) % 146097 = r
  generalize hb : (if r / 36524 = 4 then 3 else r / 36524) = b
  generalize hc : (r - 36524 * b) / 1461 = c
  generalize ht : (r - 36524 * b) % 1461 = t
  generalize hd : (if t / 365 = 4 then 3 else t / 365) = d
  have hb' : 0 ≤ b ∧ b ≤ 3 ∧ 36524 * b ≤ r ∧ (r < 36524 * b + 36524 ∨ b = 3) ∧ r ≤ 146096 := by split at hb <;> omega
  have hc' : 0 ≤ c ∧ c ≤ 24 ∧ (c ≤ 23 ∨ t ≤ 1459 ∨ b = 3) := by omega
  have hd' : 0 ≤ d ∧ d ≤ 3 ∧ 365 * d ≤ t ∧ (t < 365 * d + 365 ∨ (d = 3 ∧ t = 1460)) := by split at hd <;> omega
  have e1 : (400 * a + 100 * b + 4 * c + d + 1 - 1) / 4 = 100 * a + 25 * b + c := by omega
  have e2 : (400 * a + 100 * b + 4 * c + d + 1 - 1) / 100 = 4 * a + b := by omega
  have e3 : (400 * a + 100 * b + 4 * c + d + 1 - 1) / 400 = a := by omega
  have hn : n - 1 = 146097 * a + 36524 * b + 1461 * c + t := by omega
  rw [e1, e2, e3]
  refine ⟨by omega, by omega, by omega, ?_⟩
  by_cases hd3 : d = 3
  · subst hd3
    by_cases hc24 : c = 24 ∧ b = 3
    · obtain ⟨rfl, rfl⟩ := hc24
      rw [show (400 * a + 100 * 3 + 4 * 24 + 3 + 1 + 1 - 1) / 4 = 100 * a + 100 by omega, show (400 * a + 100 * 3 + 4 * 24 + 3 + 1 + 1 - 1) / 100 = 4 * a + 4 by omega, show (400 * a + 100 * 3 + 4 * 24 + 3 + 1 + 1 - 1) / 400 = a + 1 by omega]
      omega
    · by_cases hcc : c = 24
      · rw [show (400 * a + 100 * b + 4 * c + 3 + 1 + 1 - 1) / 4 = 100 * a + 25 * b + 25 by omega, show (400 * a + 100 * b + 4 * c + 3 + 1 + 1 - 1) / 100 = 4 * a + b + 1 by omega, show (400 * a + 100 * b + 4 * c + 3 + 1 + 1 - 1) / 400 = a by omega]
        omega
      · rw [show (400 * a + 100 * b + 4 * c + 3 + 1 + 1 - 1) / 4 = 100 * a + 25 * b + c + 1 by omega, show (400 * a + 100 * b + 4 * c + 3 + 1 + 1 - 1) / 100 = 4 * a + b by omega, show (400 * a + 100 * b + 4 * c + 3 + 1 + 1 - 1) / 400 = a by omega]
        omega
  · rw [show (400 * a + 100 * b + 4 * c + d + 1 + 1 - 1) / 4 = 100 * a + 25 * b + c by omega, show (400 * a + 100 * b + 4 * c + d + 1 + 1 - 1) / 100 = 4 * a + b by omega, show (400 * a + 100 * b + 4 * c + d + 1 + 1 - 1) / 400 = a by omega]
    omega

theorem date_is {n : Int} (h : isDay n = true) : isDate (yearI n) (monthI n) (mdayI n) = true ∧ numI (yearI n) (monthI n) (mdayI n) = n := by
  obtain ⟨h1, h2, h3, h4⟩ := year_bd h
  refine ⟨?_, by unfold numI mdayI; omega⟩
  simp only [isDate, decide_eq_true_eq]
  unfold mdayI monthI
  rw [ahead_succ] at h4
  generalize hk : n - aheadI (yearI n) = k at *
  generalize yearI n = y at *
  have hl := leapI_bd y
  rw [long_eq]
  have hk1 : 1 ≤ k ∧ k ≤ 365 + leapI y := by omega
  unfold monI
  repeat' split
  all_goals simp [cumI] <;> omega

/-- the date of a day is the only one -/
theorem date_of_num {y m d : Int} (h : isDate y m d = true) : yearI (numI y m d) = y ∧ monthI (numI y m d) = m ∧ mdayI (numI y m d) = d := by
  have k := date_is (num_day h)
  exact num_inj k.1 h k.2

end Go.Proofs.YthpapjdjnnkdbaaGreatDoor
