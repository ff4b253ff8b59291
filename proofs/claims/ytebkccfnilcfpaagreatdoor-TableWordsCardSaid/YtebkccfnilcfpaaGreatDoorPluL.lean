/- The digits' law: chapter 7's Form is the package's. -/
import Derived.Test.YtebkccfnilcfpaaGreatDoorLawF
import Derived.Lib.ItoaMem
import Derived.Lib.ItoaLen
namespace Go.Proofs.YtebkccfnilcfpaaGreatDoor
set_option linter.unusedVariables false
set_option linter.unusedSimpArgs false
open Go.RowKit Go.Proofs

theorem dec_last (u : Nat) : ∃ X, Lib.decDigits u = X ++ [UInt8.ofNat (48 + u % 10)] ∧ (10 ≤ u → X = Lib.decDigits (u / 10)) ∧ (u < 10 → X = []) := by
  rw [Lib.decDigits]
  by_cases h : u < 10
  · rw [dif_pos h]
    exact ⟨[], by rw [Nat.mod_eq_of_lt h]; rfl, fun h' => absurd h' (by omega), fun _ => rfl⟩
  · rw [dif_neg h]
    exact ⟨_, rfl, fun _ => rfl, fun h' => absurd h' h⟩

theorem digit_eq {a b : Nat} (ha : a < 10) (hb : b < 10) : (UInt8.ofNat (48 + a) == UInt8.ofNat (48 + b)) = decide (a = b) := by
  have : ∀ a, a < 10 → ∀ b, b < 10 → (UInt8.ofNat (48 + a) == UInt8.ofNat (48 + b)) = decide (a = b) := by decide
  exact this a ha b hb

theorem suffix1 (u d : Nat) (hd : d < 10) : Lib.hasSuffix (Lib.decDigits u) [UInt8.ofNat (48 + d)] = decide (u % 10 = d) := by
  obtain ⟨X, h, _, _⟩ := dec_last u
  unfold Lib.hasSuffix List.isSuffixOf
  rw [h, List.reverse_append]
  simp only [List.reverse_cons, List.reverse_nil, List.nil_append, List.cons_append, List.isPrefixOf, Bool.and_true]
  rw [digit_eq hd (Nat.mod_lt _ (by omega))]
  by_cases e : u % 10 = d
  · simp [e]
  · rw [decide_eq_false e, decide_eq_false (fun h => e h.symm)]

theorem suffix2 (u d : Nat) (hd : d < 10) : Lib.hasSuffix (Lib.decDigits u) [49, UInt8.ofNat (48 + d)] = decide (u % 100 = 10 + d) := by
  obtain ⟨X, h, h1, h2⟩ := dec_last u
  unfold Lib.hasSuffix List.isSuffixOf
  rw [h, List.reverse_append]
  simp only [List.reverse_cons, List.reverse_nil, List.nil_append, List.cons_append, List.isPrefixOf]
  rw [digit_eq hd (Nat.mod_lt _ (by omega))]
  by_cases hu : 10 ≤ u
  · obtain ⟨Y, g, _, _⟩ := dec_last (u / 10)
    rw [h1 hu, g, List.reverse_append]
    simp only [List.reverse_cons, List.reverse_nil, List.nil_append, List.cons_append, List.isPrefixOf, Bool.and_true]
    have := digit_eq (a := 1) (b := u / 10 % 10) (by omega) (Nat.mod_lt _ (by omega))
    rw [show (49 : UInt8) = UInt8.ofNat (48 + 1) by rfl, this]
    by_cases e : u % 100 = 10 + d
    · rw [decide_eq_true (show d = u % 10 by omega), decide_eq_true (show 1 = u / 10 % 10 by omega), decide_eq_true e]; rfl
    · rw [decide_eq_false e]
      by_cases e1 : d = u % 10
      · rw [decide_eq_false (show ¬ 1 = u / 10 % 10 by omega), Bool.and_false]
      · rw [decide_eq_false e1, Bool.false_and]
  · rw [h2 (by omega)]
    rw [decide_eq_false (show ¬ u % 100 = 10 + d by omega)]
    simp [List.isPrefixOf]

theorem dec_short {u d : Nat} (hd : d < 10) : Lib.decDigits u = [UInt8.ofNat (48 + d)] ↔ u = d := by
  constructor
  · intro h
    obtain ⟨X, h0, h1, h2⟩ := dec_last u
    rw [h0] at h
    by_cases hu : 10 ≤ u
    · obtain ⟨Y, g, _, _⟩ := dec_last (u / 10)
      rw [h1 hu, g] at h
      have := congrArg List.length h
      simp at this
    · rw [h2 (by omega)] at h
      simp only [List.nil_append, List.cons.injEq, and_true] at h
      have := digit_eq (a := u % 10) (b := d) (Nat.mod_lt _ (by omega)) hd
      rw [h] at this
      simp only [beq_self_eq_true] at this
      have := of_decide_eq_true this.symm
      omega
  · intro h
    subst h
    obtain ⟨X, h0, _, h2⟩ := dec_last u
    rw [h0, h2 hd, Nat.mod_eq_of_lt hd]; rfl

theorem dig_any (n : Int) (w : World) (hs : Std w) (h0 : 0 ≤ n) (h1 : n ≤ 1000000000000) : Dig n ⟨(Lib.itoa n).toArray⟩ w :=
  (Tryz.strconv_Itoa n (by omega) (by omega) w hs.pow).mono fun e w' ⟨he, k, os, hw⟩ => ⟨he, by rw [hw]; exact Lib.below_grow _ _ (Nat.le_refl _) _ _⟩

theorem lawform_any (k n : Int) (w : World) (hs : Std w) (h0 : 0 ≤ n) (h1 : n ≤ 1000000000000) :
    Calls Tryz.prog 18 #[.int .i64 k, .int .i64 n] w fun e w' => e = .returned (.int .i64 (formP k n)) ∧ Below w.heap.size w w' := by
  have HI := dig_any n w hs h0 h1
  obtain ⟨u, rfl⟩ := Int.eq_ofNat_of_zero_le h0
  have hl := Lib.itoa_length_le (u : Int) (by omega) (by omega)
  rw [Lib.itoa_nonneg] at HI hl
  have hsz : (⟨(Lib.decDigits u).toArray⟩ : ByteArray).size ≤ 9223372036854775807 := by
    show (Lib.decDigits u).toArray.size ≤ _
    simp; omega
  have s1 : ∀ d, d < 10 → ∀ b, decide (u % 10 = d) = b → Suf ⟨(Lib.decDigits u).toArray⟩ ⟨#[UInt8.ofNat (48 + d)]⟩ b := fun d hd b hb =>
    suf_of hsz (by rw [← hb]; exact suffix1 u d hd)
  have s2 : ∀ d, d < 10 → ∀ b, decide (u % 100 = 10 + d) = b → Suf ⟨(Lib.decDigits u).toArray⟩ ⟨#[49, UInt8.ofNat (48 + d)]⟩ b := fun d hd b hb =>
    suf_of hsz (by rw [← hb]; exact suffix2 u d hd)
  have tl : (⟨(Lib.decDigits u).toArray⟩ : ByteArray).toList = Lib.decDigits u := by rw [Lib.toList_data]
  have c1 : (⟨(Lib.decDigits u).toArray⟩ : ByteArray).toList = [49] ↔ u = 1 := by rw [tl]; exact dec_short (d := 1) (by omega)
  have c0 : (⟨(Lib.decDigits u).toArray⟩ : ByteArray).toList = [48] ↔ u = 0 := by rw [tl]; exact dec_short (d := 0) (by omega)
  generalize (⟨(Lib.decDigits u).toArray⟩ : ByteArray) = S at *
  have t : ∀ {p : Prop} [Decidable p], p → decide p = true := fun h => decide_eq_true h
  have f : ∀ {p : Prop} [Decidable p], ¬ p → decide p = false := fun h => decide_eq_false h
  by_cases e1 : u = 1
  · rw [show formP k u = 0 by unfold formP; rw [if_pos (by omega)]]
    exact lawform_one k u S w HI (s1 2 (by omega) _ (f (by omega))) (s1 3 (by omega) _ (f (by omega))) (s1 4 (by omega) _ (f (by omega))) (c1.2 e1)
  have n1 : ¬ S.toList = [49] := fun h => e1 (c1.1 h)
  by_cases e0 : u = 0
  · by_cases k1 : k = 1
    · subst k1
      rw [show formP 1 u = 0 by unfold formP; rw [if_pos (by omega)]]
      exact lawform_nought_fr u S w HI (s1 2 (by omega) _ (f (by omega))) (s1 3 (by omega) _ (f (by omega))) (s1 4 (by omega) _ (f (by omega))) n1 (c0.2 e0)
    · by_cases k2 : k = 2
      · subst k2
        rw [show formP 2 u = 2 by unfold formP; rw [if_neg (by omega), if_neg (by omega), if_neg (by omega)]]
        exact lawform_nought_two u S w HI (s1 2 (by omega) _ (f (by omega))) (s1 3 (by omega) _ (f (by omega))) (s1 4 (by omega) _ (f (by omega))) n1 (c0.2 e0)
      · rw [show formP k u = 1 by unfold formP; rw [if_neg (by omega), if_pos (by omega)]]
        exact lawform_nought_no k u S w HI (s1 2 (by omega) _ (f (by omega))) (s1 3 (by omega) _ (f (by omega))) (s1 4 (by omega) _ (f (by omega))) n1 (c0.2 e0) k1 k2
  have n0 : ¬ S.toList = [48] := fun h => e0 (c0.1 h)
  by_cases k2 : k = 2
  · subst k2
    by_cases d2 : u % 10 = 2
    · by_cases d12 : u % 100 = 12
      · rw [show formP 2 u = 2 by unfold formP; rw [if_neg (by omega), if_neg (by omega), if_neg (by omega)]]
        exact lawform_a12_two u S w HI (s1 2 (by omega) _ (t (by omega))) (s2 2 (by omega) _ (t (by omega))) n1 n0
      · rw [show formP 2 u = 1 by unfold formP; rw [if_neg (by omega), if_neg (by omega), if_pos (by omega)]]
        exact lawform_b2_two u S w HI (s1 2 (by omega) _ (t (by omega))) (s2 2 (by omega) _ (f (by omega))) (s2 3 (by omega) _ (f (by omega))) (s2 4 (by omega) _ (f (by omega))) n1 n0
    by_cases d3 : u % 10 = 3
    · by_cases d13 : u % 100 = 13
      · rw [show formP 2 u = 2 by unfold formP; rw [if_neg (by omega), if_neg (by omega), if_neg (by omega)]]
        exact lawform_a13_two u S w HI (s1 2 (by omega) _ (f (by omega))) (s1 3 (by omega) _ (t (by omega))) (s2 2 (by omega) _ (f (by omega))) (s2 3 (by omega) _ (t (by omega))) n1 n0
      · rw [show formP 2 u = 1 by unfold formP; rw [if_neg (by omega), if_neg (by omega), if_pos (by omega)]]
        exact lawform_b3_two u S w HI (s1 2 (by omega) _ (f (by omega))) (s1 3 (by omega) _ (t (by omega))) (s2 2 (by omega) _ (f (by omega))) (s2 3 (by omega) _ (f (by omega))) (s2 4 (by omega) _ (f (by omega))) n1 n0
    by_cases d4 : u % 10 = 4
    · by_cases d14 : u % 100 = 14
      · rw [show formP 2 u = 2 by unfold formP; rw [if_neg (by omega), if_neg (by omega), if_neg (by omega)]]
        exact lawform_a14_two u S w HI (s1 2 (by omega) _ (f (by omega))) (s1 3 (by omega) _ (f (by omega))) (s1 4 (by omega) _ (t (by omega))) (s2 2 (by omega) _ (f (by omega))) (s2 3 (by omega) _ (f (by omega))) (s2 4 (by omega) _ (t (by omega))) n1 n0
      · rw [show formP 2 u = 1 by unfold formP; rw [if_neg (by omega), if_neg (by omega), if_pos (by omega)]]
        exact lawform_b4_two u S w HI (s1 2 (by omega) _ (f (by omega))) (s1 3 (by omega) _ (f (by omega))) (s1 4 (by omega) _ (t (by omega))) (s2 2 (by omega) _ (f (by omega))) (s2 3 (by omega) _ (f (by omega))) (s2 4 (by omega) _ (f (by omega))) n1 n0
    rw [show formP 2 u = 2 by unfold formP; rw [if_neg (by omega), if_neg (by omega), if_neg (by omega)]]
    exact lawform_g_two u S w HI (s1 2 (by omega) _ (f (by omega))) (s1 3 (by omega) _ (f (by omega))) (s1 4 (by omega) _ (f (by omega))) n1 n0
  · rw [show formP k u = 1 by unfold formP; rw [if_neg (by omega), if_pos (by omega)]]
    by_cases d2 : u % 10 = 2
    · by_cases d12 : u % 100 = 12
      · exact lawform_a12_no k u S w HI (s1 2 (by omega) _ (t (by omega))) (s2 2 (by omega) _ (t (by omega))) n1 n0 k2
      · exact lawform_b2_no k u S w HI (s1 2 (by omega) _ (t (by omega))) (s2 2 (by omega) _ (f (by omega))) (s2 3 (by omega) _ (f (by omega))) (s2 4 (by omega) _ (f (by omega))) n1 n0 k2
    by_cases d3 : u % 10 = 3
    · by_cases d13 : u % 100 = 13
      · exact lawform_a13_no k u S w HI (s1 2 (by omega) _ (f (by omega))) (s1 3 (by omega) _ (t (by omega))) (s2 2 (by omega) _ (f (by omega))) (s2 3 (by omega) _ (t (by omega))) n1 n0 k2
      · exact lawform_b3_no k u S w HI (s1 2 (by omega) _ (f (by omega))) (s1 3 (by omega) _ (t (by omega))) (s2 2 (by omega) _ (f (by omega))) (s2 3 (by omega) _ (f (by omega))) (s2 4 (by omega) _ (f (by omega))) n1 n0 k2
    by_cases d4 : u % 10 = 4
    · by_cases d14 : u % 100 = 14
      · exact lawform_a14_no k u S w HI (s1 2 (by omega) _ (f (by omega))) (s1 3 (by omega) _ (f (by omega))) (s1 4 (by omega) _ (t (by omega))) (s2 2 (by omega) _ (f (by omega))) (s2 3 (by omega) _ (f (by omega))) (s2 4 (by omega) _ (t (by omega))) n1 n0 k2
      · exact lawform_b4_no k u S w HI (s1 2 (by omega) _ (f (by omega))) (s1 3 (by omega) _ (f (by omega))) (s1 4 (by omega) _ (t (by omega))) (s2 2 (by omega) _ (f (by omega))) (s2 3 (by omega) _ (f (by omega))) (s2 4 (by omega) _ (f (by omega))) n1 n0 k2
    exact lawform_g_no k u S w HI (s1 2 (by omega) _ (f (by omega))) (s1 3 (by omega) _ (f (by omega))) (s1 4 (by omega) _ (f (by omega))) n1 n0 k2
end Go.Proofs.YtebkccfnilcfpaaGreatDoor
