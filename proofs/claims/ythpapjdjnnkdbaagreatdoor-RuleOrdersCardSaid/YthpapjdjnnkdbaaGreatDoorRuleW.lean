/- The walks of rule's small functions. -/
import Derived.Test.YthpapjdjnnkdbaaGreatDoorCivT
import Derived.Test.YthpapjdjnnkdbaaGreatDoorRuleM
import Derived.Deep.RegionHeld3
namespace Go.Proofs.YthpapjdjnnkdbaaGreatDoor
set_option linter.unusedVariables false
set_option linter.unusedSimpArgs false
open Go.RowKit Go.Proofs

theorem compare_any (x y : Int) (w : World) :
    Calls Tryz.prog 14 #[.int .i64 x, .int .i64 y] w fun e w' => e = .returned (.int .i64 (cmpI x y)) ∧ w = w' :=
  (Tryz.cmp_Compare_int x y w).mono fun e w' ⟨he, hw⟩ => ⟨he, hw.symm⟩

theorem month_any (n : Int) (w : World) :
    Calls Tryz.prog 39 #[.int .i64 n] w fun e w' => e = .returned (.bool (mayMonth n)) ∧ w = w' := by
  by_cases h1 : 1 ≤ n <;> by_cases h2 : n ≤ 12
  all_goals
    go_enter Tryz.func39, Tryz.ntmps39
    go_wp2
    go_ret
    exact ⟨ret_bool (by simp [mayMonth]; omega), rfl⟩

theorem near_any (m : Int) (w : World) :
    Calls Tryz.prog 40 #[.int .i64 m] w fun e w' => e = .returned (.func (.func 66) #[] #[.pointer (some ⟨w.heap.size, 0, none⟩)]) ∧ w' = w.alloc (.cells #[.int .i64 m] 3) := by
  have hmf : ∀ (fn : Fn) (first cap : Array Value) (w : World), (Instr.makeFunc fn first cap).run Tryz.prog w = .ok (.func fn first cap) w := fun _ _ _ _ => rfl
  go_enter Tryz.func40, Tryz.ntmps40
  go_wp2
  go_ret
  exact ⟨rfl, rfl⟩

theorem nearF_any (n m : Int) (b : Nat) (w : World) (h0 : 0 ≤ m) (h1 : m ≤ 1000) (hc : w.cell? ⟨b, 0, none⟩ = some (.int .i64 m)) :
    Calls Tryz.prog 66 #[.int .i64 n, .pointer (some ⟨b, 0, none⟩)] w fun e w' => e = .returned (.bool (mayNear m n)) ∧ w = w' := by
  rcases Int.lt_trichotomy n 0 with h | h | h
  · have hne : (n != 0) = true := by simp; omega
    by_cases h2 : -m ≤ n
    all_goals
      go_enter Tryz.func66, Tryz.ntmps66
      go_wp2
      go_ret
      exact ⟨ret_bool (by symm; first | (rw [mayNear, decide_eq_true_iff]; omega) | (rw [mayNear, decide_eq_false_iff_not]; omega) | (rw [mayNear, decide_eq_decide]; omega)), rfl⟩
  · subst h
    go_enter Tryz.func66, Tryz.ntmps66
    go_wp2
    go_ret
    exact ⟨ret_bool (by simp [mayNear]), rfl⟩
  · have hne : (n != 0) = true := by simp; omega
    by_cases h2 : n ≤ m
    all_goals
      go_enter Tryz.func66, Tryz.ntmps66
      go_wp2
      go_ret
      exact ⟨ret_bool (by symm; first | (rw [mayNear, decide_eq_true_iff]; omega) | (rw [mayNear, decide_eq_false_iff_not]; omega) | (rw [mayNear, decide_eq_decide]; omega)), rfl⟩

theorem nthF_any (N D m : Int) (b : Nat) (w : World) (h0 : 0 ≤ m) (h1 : m ≤ 1000) (hc : w.cell? ⟨b, 0, none⟩ = some (.int .i64 m)) (hb : b < w.heap.size) :
    Calls Tryz.prog 42 #[.agg #[.int .i64 N, .int .i64 D], .pointer (some ⟨b, 0, none⟩)] w fun e w' => e = .returned (.bool (mayNth m (N, D))) ∧ Below w.heap.size w w' := by
  by_cases h : mayNth m (N, D) = true
  · have H := Lib.hid h
    rw [mayNth, decide_eq_true_iff] at h
    obtain ⟨h2, h3, h4, h5⟩ := h
    go_enter Tryz.func42, Tryz.ntmps42
    go_wp2
    refine bodyPost_ret (v := .bool true) (by simp [results, Tryz.results42, go_sem]) rfl ?_
    exact ⟨by rw [H.out], (Below.refl _ _).alloc (Nat.le_refl _) _⟩
  · rw [Bool.not_eq_true] at h
    have H := Lib.hid h
    rw [mayNth, decide_eq_false_iff_not] at h
    have h' : D < 0 ∨ (0 ≤ D ∧ 6 < D) ∨ (0 ≤ D ∧ D ≤ 6 ∧ N < -m) ∨ (0 ≤ D ∧ D ≤ 6 ∧ -m ≤ N ∧ m < N) := by simp only at h; omega
    clear h
    rcases h' with h | ⟨h, h2⟩ | ⟨h, h2, h3⟩ | ⟨h, h2, h3, h4⟩
    all_goals
      go_enter Tryz.func42, Tryz.ntmps42
      go_wp2
      refine bodyPost_ret (v := .bool false) (by simp [results, Tryz.results42, go_sem] <;> omega) rfl ?_
      exact ⟨by rw [H.out], (Below.refl _ _).alloc (Nat.le_refl _) _⟩

def or2 (a b : Int) : Int := if a ≠ 0 then a else b

theorem orInt_any (a b : Int) (g cap : Nat) (w : World) (ha : -100 ≤ a ∧ a ≤ 100) (hb : -100 ≤ b ∧ b ≤ 100) (c0 : w.cell? ⟨g, 0, none⟩ = some (.int .i64 a)) (c1 : w.cell? ⟨g, 1, none⟩ = some (.int .i64 b)) :
    Calls Tryz.prog 13 #[.slice (some ⟨g, 0, none⟩) 2 cap] w fun e w' => e = .returned (.int .i64 (or2 a b)) ∧ w = w' := by
  go_enter Tryz.func13, Tryz.ntmps13
  go_wp2
  go_loop [8] (fun i => ∃ k : Int, 0 ≤ k ∧ k ≤ 2 ∧ i = .int .i64 k ∧ Hid (0 < k → a = 0) ∧ Hid (1 < k → b = 0)) (fun i => (2 - intOf i).toNat)
  case atStart => exact ⟨0, by omega, by omega, rfl, fun h => by omega, fun h => by omega⟩
  case round =>
    obtain ⟨k, k0, k1, rfl, A1, A2⟩ := hrel
    have : k = 0 ∨ k = 1 ∨ k = 2 := by omega
    rcases this with rfl | rfl | rfl
    · by_cases h : a = 0
      · have hz : (a != 0) = false := by simp [h]
        have H := Lib.hid h
        clear h
        go_wp2
        go_round
        case rel => exact ⟨1, by omega, by omega, rfl, fun _ => H.out, fun h => by omega⟩
        case measure => simp [intOf]
      · have hz : (a != 0) = true := by simp [h]
        go_wp2
        go_ret
        exact ⟨ret_int (by rw [or2, if_pos h]), rfl⟩
    · by_cases h : b = 0
      · have hz : (b != 0) = false := by simp [h]
        have H := Lib.hid h
        clear h
        go_wp2
        go_round
        case rel => exact ⟨2, by omega, by omega, rfl, fun _ => A1.out (by omega), fun _ => H.out⟩
        case measure => simp [intOf]
      · have hz : (b != 0) = true := by simp [h]
        go_wp2
        go_ret
        exact ⟨ret_int (by rw [or2, if_neg (by simp [A1.out (by omega)])]), rfl⟩
    · go_wp2
      go_ret
      exact ⟨ret_int (by simp [or2, A1.out (by omega), A2.out (by omega)]), rfl⟩

theorem orErr_any (a b c d : Int) (g cap : Nat) (w : World) (c0 : w.cell? ⟨g, 0, none⟩ = some (.int .i64 a)) (c1 : w.cell? ⟨g, 1, none⟩ = some (.int .i64 b))
    (c2 : w.cell? ⟨g, 2, none⟩ = some (.int .i64 c)) (c3 : w.cell? ⟨g, 3, none⟩ = some (.int .i64 d)) :
    Calls Tryz.prog 37 #[.slice (some ⟨g, 0, none⟩) 4 cap] w fun e w' => e = .returned (.int .i64 (or4 a b c d)) ∧ w = w' := by
  go_enter Tryz.func37, Tryz.ntmps37
  go_wp2
  go_loop [8] (fun i => ∃ k : Int, 0 ≤ k ∧ k ≤ 4 ∧ i = .int .i64 k ∧ Hid (0 < k → a = 0) ∧ Hid (1 < k → b = 0) ∧ Hid (2 < k → c = 0) ∧ Hid (3 < k → d = 0)) (fun i => (4 - intOf i).toNat)
  case atStart => exact ⟨0, by omega, by omega, rfl, fun h => by omega, fun h => by omega, fun h => by omega, fun h => by omega⟩
  case round =>
    obtain ⟨k, k0, k1, rfl, A1, A2, A3, A4⟩ := hrel
    have : k = 0 ∨ k = 1 ∨ k = 2 ∨ k = 3 ∨ k = 4 := by omega
    rcases this with rfl | rfl | rfl | rfl | rfl
    · by_cases h : a = 0
      · have hz : (a != 0) = false := by simp [h]
        have H := Lib.hid h
        clear h
        go_wp2
        go_round
        case rel => exact ⟨1, by omega, by omega, rfl, fun _ => H.out, fun h => by omega, fun h => by omega, fun h => by omega⟩
        case measure => simp [intOf]
      · have hz : (a != 0) = true := by simp [h]
        go_wp2
        go_ret
        exact ⟨ret_int (by rw [or4, if_pos h]), rfl⟩
    · by_cases h : b = 0
      · have hz : (b != 0) = false := by simp [h]
        have H := Lib.hid h
        clear h
        go_wp2
        go_round
        case rel => exact ⟨2, by omega, by omega, rfl, fun _ => A1.out (by omega), fun _ => H.out, fun h => by omega, fun h => by omega⟩
        case measure => simp [intOf]
      · have hz : (b != 0) = true := by simp [h]
        go_wp2
        go_ret
        exact ⟨ret_int (by rw [or4, if_neg (by simp [A1.out (by omega)]), if_pos h]), rfl⟩
    · by_cases h : c = 0
      · have hz : (c != 0) = false := by simp [h]
        have H := Lib.hid h
        clear h
        go_wp2
        go_round
        case rel => exact ⟨3, by omega, by omega, rfl, fun _ => A1.out (by omega), fun _ => A2.out (by omega), fun _ => H.out, fun h => by omega⟩
        case measure => simp [intOf]
      · have hz : (c != 0) = true := by simp [h]
        go_wp2
        go_ret
        exact ⟨ret_int (by rw [or4, if_neg (by simp [A1.out (by omega)]), if_neg (by simp [A2.out (by omega)]), if_pos h]), rfl⟩
    · by_cases h : d = 0
      · have hz : (d != 0) = false := by simp [h]
        have H := Lib.hid h
        clear h
        go_wp2
        go_round
        case rel => exact ⟨4, by omega, by omega, rfl, fun _ => A1.out (by omega), fun _ => A2.out (by omega), fun _ => A3.out (by omega), fun _ => H.out⟩
        case measure => simp [intOf]
      · have hz : (d != 0) = true := by simp [h]
        go_wp2
        go_ret
        exact ⟨ret_int (by rw [or4, if_neg (by simp [A1.out (by omega)]), if_neg (by simp [A2.out (by omega)]), if_neg (by simp [A3.out (by omega)])]), rfl⟩
    · go_wp2
      go_ret
      exact ⟨ret_int (by simp [or4, A1.out (by omega), A2.out (by omega), A3.out (by omega), A4.out (by omega)]), rfl⟩

theorem or2_cmp (a b : Int × Int) : or2 (cmpI a.1 b.1) (cmpI a.2 b.2) = cmpN a b := rfl

theorem order_any (N1 D1 N2 D2 : Int) (w : World) :
    Calls Tryz.prog 6 #[.agg #[.int .i64 N1, .int .i64 D1], .agg #[.int .i64 N2, .int .i64 D2]] w fun e w' => e = .returned (.int .i64 (cmpN (N1, D1) (N2, D2))) ∧ Below w.heap.size w w' := by
  have b1 := cmpI_bd N1 N2
  have b2 := cmpI_bd D1 D2
  have HO := Lib.hid (or2_cmp (N1, D1) (N2, D2))
  simp only at HO
  go_enter Tryz.func6, Tryz.ntmps6
  go_wp2
  go_region_held3 (fun w' => w'.cell? ⟨w.heap.size, 0, none⟩ = some (.int .i64 N1) ∧ w'.cell? ⟨w.heap.size, 1, none⟩ = some (.int .i64 D1) ∧ w'.cell? ⟨w.heap.size + 1, 0, none⟩ = some (.int .i64 N2) ∧ w'.cell? ⟨w.heap.size + 1, 1, none⟩ = some (.int .i64 D2))
    (go_keep)
    ((first | (go_at_call 14; refine (compare_any _ _ _).mono ?_; rintro e w' ⟨rfl, rfl⟩)
            | (go_at_call 13; refine (orInt_any (cmpI N1 N2) (cmpI D1 D2) (w.heap.size + 1 + 1) 2 _ ⟨by omega, by omega⟩ ⟨by omega, by omega⟩ (by go_simp) (by go_simp)).mono ?_; rintro e w' ⟨rfl, rfl⟩)))
  go_wp2
  go_ret
  exact ⟨ret_int HO.out, (by (repeat (first | exact Below.refl _ _ | assumption | refine Below.drew ?_ | refine below_drewN ?_ _ | refine Below.alloc ?_ (by first | exact Nat.le_refl _ | omega | (simp <;> omega)) _ | refine Below.setCell ?_ (by first | exact Nat.le_refl _ | omega | (simp <;> omega)) _)))⟩
end Go.Proofs.YthpapjdjnnkdbaaGreatDoor
