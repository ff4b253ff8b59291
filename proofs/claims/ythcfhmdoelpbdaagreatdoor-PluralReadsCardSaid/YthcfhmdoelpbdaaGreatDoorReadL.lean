/- An ordinal's digits, read again. -/
import Derived.Test.YthcfhmdoelpbdaaGreatDoorReadP
import Derived.Lib.Atoi
import Derived.Lib.AtoiErrMem
namespace Go.Proofs.YthcfhmdoelpbdaaGreatDoor
set_option linter.unusedVariables false
set_option linter.unusedSimpArgs false
open Go.RowKit Go.Proofs

theorem decFrom_append : ∀ (l r : List UInt8) (acc : Nat), Lib.decFrom acc (l ++ r) = (Lib.decFrom acc l).bind fun n => Lib.decFrom n r
  | [], r, acc => by simp [Lib.decFrom]
  | b :: l, r, acc => by
    simp only [List.cons_append, Lib.decFrom]
    cases Lib.digitVal b with
    | none => rfl
    | some d => exact decFrom_append l r _

theorem digitVal_of {d : Nat} (h : d < 10) : Lib.digitVal (UInt8.ofNat (48 + d)) = some d := by
  have : ∀ d, d < 10 → Lib.digitVal (UInt8.ofNat (48 + d)) = some d := by decide
  exact this d h

theorem decFrom_digits (u : Nat) : Lib.decFrom 0 (Lib.decDigits u) = some u := by
  induction u using Nat.strongRecOn with
  | _ u ih =>
    obtain ⟨X, h0, h1, h2⟩ := dec_last u
    rw [h0, decFrom_append]
    by_cases hu : 10 ≤ u
    · rw [h1 hu, ih (u / 10) (by omega)]
      simp only [Option.bind_some, Lib.decFrom, digitVal_of (Nat.mod_lt u (by omega : 0 < 10))]
      congr 1
      omega
    · rw [h2 (by omega)]
      simp only [Lib.decFrom, Option.bind_some, digitVal_of (Nat.mod_lt u (by omega : 0 < 10))]
      congr 1
      omega

theorem digits_bd (u : Nat) : ∀ c ∈ Lib.decDigits u, 48 ≤ c.toNat ∧ c.toNat ≤ 57 := by
  induction u using Nat.strongRecOn with
  | _ u ih =>
    obtain ⟨X, h0, h1, h2⟩ := dec_last u
    have hd : ∀ d, d < 10 → 48 ≤ (UInt8.ofNat (48 + d)).toNat ∧ (UInt8.ofNat (48 + d)).toNat ≤ 57 := by decide
    intro c hc
    rw [h0] at hc
    rcases List.mem_append.1 hc with hc | hc
    · by_cases hu : 10 ≤ u
      · rw [h1 hu] at hc; exact ih (u / 10) (by omega) c hc
      · rw [h2 (by omega)] at hc; cases hc
    · rw [List.mem_singleton.1 hc]; exact hd _ (Nat.mod_lt _ (by omega))

theorem digits_ne (u : Nat) : Lib.decDigits u ≠ [] := by
  obtain ⟨X, h0, _, _⟩ := dec_last u
  rw [h0]; simp

theorem atoi_digits (u : Nat) : Lib.atoi (Lib.decDigits u) = some (u : Int) := by
  have hb := digits_bd u
  have hf := decFrom_digits u
  cases h : Lib.decDigits u with
  | nil => exact absurd h (digits_ne u)
  | cons b r =>
    rw [h] at hb hf
    obtain ⟨b1, b2⟩ := hb b List.mem_cons_self
    have n1 : (b == 45) = false := by rw [beq_eq_false_iff_ne]; intro e; subst e; revert b1; decide
    have n2 : (b == 43) = false := by rw [beq_eq_false_iff_ne]; intro e; subst e; revert b1; decide
    simp only [Lib.atoi, n1, n2, Bool.false_eq_true, if_false, Lib.decNat, List.isEmpty_cons, hf, Option.map_some]

theorem digits_len : ∀ (m u : Nat), u < 10 ^ (m + 1) → (Lib.decDigits u).length ≤ m + 1 := by
  intro m
  induction m with
  | zero =>
    intro u hu
    obtain ⟨X, h0, _, h2⟩ := dec_last u
    rw [h0, h2 (by simpa using hu)]; simp
  | succ m ih =>
    intro u hu
    obtain ⟨X, h0, h1, h2⟩ := dec_last u
    rw [h0, List.length_append]
    by_cases h : 10 ≤ u
    · rw [h1 h]
      have := ih (u / 10) (by rw [Nat.pow_succ] at hu; omega)
      simp; omega
    · rw [h2 (by omega)]; simp

theorem atoiIs_any (x : Int) (h0 : 0 ≤ x) (h1 : x ≤ 1000000000000) : AtoiIs (digT x) x := by
  obtain ⟨u, rfl⟩ := Int.eq_ofNat_of_zero_le h0
  have hl := digits_len 12 u (by have : (10 : Nat) ^ (12 + 1) = 10000000000000 := by decide
                                 omega)
  have hd : (digT (u : Int)).data.toList = Lib.decDigits u := by unfold digT; rw [Lib.itoa_nonneg]
  intro w
  refine (Tryz.strconv_Atoi (digT u) u ?_ (by rw [hd]; exact atoi_digits u) w).mono ?_
  · show (digT u).data.size ≤ 18
    rw [← Array.length_toList, hd]; omega
  · rintro e w' ⟨he, t, rfl⟩
    exact ⟨he, Lib.bytesWorld_below _ _ _⟩

end Go.Proofs.YthcfhmdoelpbdaaGreatDoor
