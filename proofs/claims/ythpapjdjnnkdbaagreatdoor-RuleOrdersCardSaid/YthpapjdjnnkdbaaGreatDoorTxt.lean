/- Numbers as digits, days as texts: plain lists of bytes, no program in sight. -/
import Derived.Test.YthpapjdjnnkdbaaGreatDoorCal
import Derived.Lib.Itoa
import Derived.Lib.ItoaMem
import Derived.Lib.ItoaLen
import Derived.Lib.Repeat
import Derived.Lib.AtoiAllCases
namespace Go.Proofs.YthpapjdjnnkdbaaGreatDoor

/-- the digits of a number, so many -/
def dgs (n : Nat) : Nat → List UInt8
  | 0 => []
  | k + 1 => dgs (n / 10) k ++ [UInt8.ofNat (48 + n % 10)]
def padL (n : Int) (k : Nat) : List UInt8 := Lib.repeatL [48] (k - (Lib.itoa n).length) ++ Lib.itoa n
def textL (n : Int) : List UInt8 := if isDay n = true then padL (yearI n) 4 ++ [45] ++ padL (monthI n) 2 ++ [45] ++ padL (mdayI n) 2 else []

theorem dgs_length (n k : Nat) : (dgs n k).length = k := by induction k generalizing n <;> simp [dgs, *]

theorem dec_ge {n : Nat} (h : 10 ≤ n) : Lib.decDigits n = Lib.decDigits (n / 10) ++ [UInt8.ofNat (48 + n % 10)] := by
  rw [Lib.decDigits, dif_neg (by omega)]

theorem repeatL_one (b : UInt8) (k : Nat) : Lib.repeatL [b] k = List.replicate k b := by
  induction k with
  | zero => rfl
  | succ k ih => rw [Lib.repeatL, ih]; rfl
theorem repeatL_snoc (b : UInt8) (k : Nat) : Lib.repeatL [b] (k + 1) = Lib.repeatL [b] k ++ [b] := by
  rw [repeatL_one, repeatL_one, List.replicate_succ']

theorem dgs_zero (k : Nat) : dgs 0 k = Lib.repeatL [48] k := by
  induction k with
  | zero => rfl
  | succ k ih => rw [repeatL_snoc, dgs, ← ih]; rfl

theorem dgs_front (j : Nat) : ∀ n : Nat, dgs n (j + 1) = UInt8.ofNat (48 + n / 10 ^ j % 10) :: dgs n j := by
  induction j with
  | zero => intro n; simp [dgs]
  | succ j ih =>
    intro n
    rw [dgs, ih (n / 10), Nat.div_div_eq_div_mul, Nat.pow_succ', List.cons_append]
    rfl

theorem dgs_dec (k : Nat) : ∀ n : Nat, n < 10 ^ (k + 1) → dgs n (k + 1) = Lib.repeatL [48] (k + 1 - (Lib.decDigits n).length) ++ Lib.decDigits n := by
  induction k with
  | zero =>
    intro n h
    have h' : n < 10 := by simpa using h
    rw [Lib.decDigits_one h']
    simp [dgs, Lib.repeatL, Nat.mod_eq_of_lt h']
  | succ k ih =>
    intro n h
    by_cases h9 : n < 10
    · rw [Lib.decDigits_one h9, dgs]
      have e : n / 10 = 0 := by omega
      rw [e, dgs_zero, Nat.mod_eq_of_lt h9]
      simp
    · rw [dgs, ih (n / 10) (by rw [Nat.pow_succ] at h; omega), dec_ge (n := n) (by omega)]
      simp

theorem padL_dgs (n : Nat) (k : Nat) (h : n < 10 ^ (k + 1)) : padL n (k + 1) = dgs n (k + 1) := by
  rw [padL, Lib.itoa_nonneg, dgs_dec k n h]

theorem itoa_len (n : Int) (h0 : -9223372036854775808 ≤ n) (h1 : n ≤ 9223372036854775807) : (Lib.itoa n).length ≤ 21 := Lib.itoa_length_le n h0 h1
theorem padL_len_le (n : Int) (k : Nat) (h0 : -9223372036854775808 ≤ n) (h1 : n ≤ 9223372036854775807) : (padL n k).length ≤ k + 21 := by
  have := itoa_len n h0 h1
  simp only [padL, List.length_append, Lib.repeatL_length, List.length_singleton]
  omega

/-- a day's text, digit by digit -/
def textD (n : Int) : List UInt8 := dgs (yearI n).toNat 4 ++ [45] ++ dgs (monthI n).toNat 2 ++ [45] ++ dgs (mdayI n).toNat 2
theorem textL_eq {n : Int} (h : isDay n = true) : textL n = textD n := by
  have hd := (date_is h).1
  simp only [isDate, decide_eq_true_eq] at hd
  have hm := long_bd (yearI n) (monthI n)
  unfold textL textD
  rw [if_pos h]
  generalize yearI n = Y at *
  generalize monthI n = M at *
  generalize mdayI n = D at *
  obtain ⟨y, rfl⟩ := Int.eq_ofNat_of_zero_le (a := Y) (by omega)
  obtain ⟨m, rfl⟩ := Int.eq_ofNat_of_zero_le (a := M) (by omega)
  obtain ⟨d, rfl⟩ := Int.eq_ofNat_of_zero_le (a := D) (by omega)
  rw [padL_dgs y 3 (by omega), padL_dgs m 1 (by omega), padL_dgs d 1 (by omega)]
  rfl
theorem textL_len {n : Int} (h : isDay n = true) : (textL n).length = 10 := by rw [textL_eq h]; simp [textD, dgs_length]
theorem text_one : textL 1 = [48, 48, 48, 49, 45, 48, 49, 45, 48, 49] := by rw [textL_eq (by decide)]; decide

end Go.Proofs.YthpapjdjnnkdbaaGreatDoor
