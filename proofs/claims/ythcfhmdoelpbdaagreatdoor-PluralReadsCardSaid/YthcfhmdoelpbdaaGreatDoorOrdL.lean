/- Chapter 7's Ordinal is the package's. -/
import Derived.Test.YthcfhmdoelpbdaaGreatDoorLawO
namespace Go.Proofs.YthcfhmdoelpbdaaGreatDoor
set_option linter.unusedVariables false
set_option linter.unusedSimpArgs false
open Go.RowKit Go.Proofs

/-- A number's digits, as a text. -/
def digT (n : Int) : ByteArray := ⟨(Lib.itoa n).toArray⟩
/-- An ordinal. -/
def ordT (k n : Int) : ByteArray := digT n ++ ⟨(sufP k n).toArray⟩

theorem digT_size (n : Int) (h0 : 0 ≤ n) (h1 : n ≤ 1000000000000) : (digT n).size ≤ 30 := by
  have hl := Lib.itoa_length_le n (by omega) (by omega)
  show (Lib.itoa n).toArray.size ≤ 30
  simp; omega

theorem ordP_any (k n : Int) (w : World) (hs : Std w) (h0 : 0 ≤ n) (h1 : n ≤ 1000000000000) :
    Calls Tryz.prog 19 #[.int .i64 k, .int .i64 n] w fun e w' => e = .returned (.string (ordT k n)) ∧ Below w.heap.size w w' :=
  ord_any k n (digT n) w (dig_any n w hs h0 h1) (digT_size n h0 h1) h0 h1

theorem ordL_any (k n : Int) (w : World) (hs : Std w) (h0 : 0 ≤ n) (h1 : n ≤ 1000000000000) :
    Calls Tryz.prog 20 #[.int .i64 k, .int .i64 n] w fun e w' => e = .returned (.string (ordT k n)) ∧ Below w.heap.size w w' := by
  have HI : Dig n (digT n) w := dig_any n w hs h0 h1
  have hS := digT_size n h0 h1
  unfold ordT
  obtain ⟨u, rfl⟩ := Int.eq_ofNat_of_zero_le h0
  have hD : digT (u : Int) = ⟨(Lib.decDigits u).toArray⟩ := by unfold digT; rw [Lib.itoa_nonneg]
  have hd : (digT (u : Int)).data.toList = Lib.decDigits u := by rw [hD]
  have hsz : (digT (u : Int)).size ≤ 9223372036854775807 := by omega
  have s1 : ∀ d, d < 10 → ∀ b, decide (u % 10 = d) = b → Suf (digT u) ⟨#[UInt8.ofNat (48 + d)]⟩ b := fun d hd' b hb => suf_of hsz (by rw [hd, ← hb]; exact suffix1 u d hd')
  have s2 : ∀ d, d < 10 → ∀ b, decide (u % 100 = 10 + d) = b → Suf (digT u) ⟨#[49, UInt8.ofNat (48 + d)]⟩ b := fun d hd' b hb => suf_of hsz (by rw [hd, ← hb]; exact suffix2 u d hd')
  have c1 : (digT (u : Int)).toList = [49] ↔ u = 1 := by rw [Lib.toList_data, hd]; exact dec_short (d := 1) (by omega)
  have t : ∀ {p : Prop} [Decidable p], p → decide p = true := fun h => decide_eq_true h
  have f : ∀ {p : Prop} [Decidable p], ¬ p → decide p = false := fun h => decide_eq_false h
  by_cases k2 : k = 2
  · subst k2
    rw [show sufP 2 u = [46] from if_pos rfl]
    exact lawo_point u _ w HI hS
  by_cases k1 : k = 1
  · subst k1
    by_cases n1 : u = 1
    · rw [show sufP 1 u = [101, 114] by unfold sufP; rw [if_neg (by omega), if_pos rfl, if_pos (by omega)]]
      refine lawo_er1 u _ w HI hS ?_
      subst n1
      unfold digT
      rw [show Lib.itoa ((1 : Nat) : Int) = [49] from itoa_lit (i := 1) (by omega)]
    · rw [show sufP 1 u = [101] by unfold sufP; rw [if_neg (by omega), if_pos rfl, if_neg (by omega)]]
      exact lawo_er u _ w HI hS (fun h => n1 (c1.1 h))
  by_cases d1 : u % 10 = 1
  · by_cases e : u % 100 = 11
    · rw [show sufP k u = [116, 104] by unfold sufP; rw [if_neg k2, if_neg k1, if_pos (by omega)]]
      exact lawo_e11 k u _ w hs HI hS (s1 1 (by omega) _ (t (by omega))) (s2 1 (by omega) _ (t (by omega))) (s1 2 (by omega) _ (f (by omega))) (s1 3 (by omega) _ (f (by omega))) k1 k2
    · rw [show sufP k u = [115, 116] by unfold sufP; rw [if_neg k2, if_neg k1, if_neg (by omega), if_pos (by omega)]]
      exact lawo_st k u _ w hs HI hS (s1 1 (by omega) _ (t (by omega))) (s2 1 (by omega) _ (f (by omega))) k1 k2
  by_cases d2 : u % 10 = 2
  · by_cases e : u % 100 = 12
    · rw [show sufP k u = [116, 104] by unfold sufP; rw [if_neg k2, if_neg k1, if_pos (by omega)]]
      exact lawo_e12 k u _ w hs HI hS (s1 1 (by omega) _ (f (by omega))) (s1 2 (by omega) _ (t (by omega))) (s2 2 (by omega) _ (t (by omega))) (s1 3 (by omega) _ (f (by omega))) k1 k2
    · rw [show sufP k u = [110, 100] by unfold sufP; rw [if_neg k2, if_neg k1, if_neg (by omega), if_neg (by omega), if_pos (by omega)]]
      exact lawo_nd k u _ w hs HI hS (s1 1 (by omega) _ (f (by omega))) (s1 2 (by omega) _ (t (by omega))) (s2 2 (by omega) _ (f (by omega))) k1 k2
  by_cases d3 : u % 10 = 3
  · by_cases e : u % 100 = 13
    · rw [show sufP k u = [116, 104] by unfold sufP; rw [if_neg k2, if_neg k1, if_pos (by omega)]]
      exact lawo_e13 k u _ w hs HI hS (s1 1 (by omega) _ (f (by omega))) (s1 2 (by omega) _ (f (by omega))) (s1 3 (by omega) _ (t (by omega))) (s2 3 (by omega) _ (t (by omega))) k1 k2
    · rw [show sufP k u = [114, 100] by unfold sufP; rw [if_neg k2, if_neg k1, if_neg (by omega), if_neg (by omega), if_neg (by omega), if_pos (by omega)]]
      exact lawo_rd k u _ w hs HI hS (s1 1 (by omega) _ (f (by omega))) (s1 2 (by omega) _ (f (by omega))) (s1 3 (by omega) _ (t (by omega))) (s2 3 (by omega) _ (f (by omega))) k1 k2
  rw [show sufP k u = [116, 104] by
    unfold sufP; rw [if_neg k2, if_neg k1]
    by_cases h : 11 ≤ (u : Int) % 100 ∧ (u : Int) % 100 ≤ 13
    · rw [if_pos h]
    · rw [if_neg h, if_neg (by omega), if_neg (by omega), if_neg (by omega)]]
  exact lawo_g k u _ w hs HI hS (s1 1 (by omega) _ (f (by omega))) (s1 2 (by omega) _ (f (by omega))) (s1 3 (by omega) _ (f (by omega))) k1 k2
end Go.Proofs.YthcfhmdoelpbdaaGreatDoor
