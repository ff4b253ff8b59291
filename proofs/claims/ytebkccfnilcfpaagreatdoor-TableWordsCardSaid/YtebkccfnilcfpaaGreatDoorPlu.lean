/- The walks of package plural's forms, and of chapter 7's own. -/
import Derived.Test.YtebkccfnilcfpaaGreatDoorBase
namespace Go.Proofs.YtebkccfnilcfpaaGreatDoor
open Go.RowKit Go.Proofs

def formP (k n : Int) : Int := if n = 1 ∨ (k = 1 ∧ n = 0) then 0 else if k ≠ 2 then 1 else if 2 ≤ n % 10 ∧ n % 10 ≤ 4 ∧ (n % 100 < 12 ∨ 14 < n % 100) then 1 else 2

theorem form_any (k n : Int) (w : World) (h0 : 0 ≤ n) (h1 : n ≤ 1000000000000) :
    Calls Tryz.prog 24 #[.int .i64 k, .int .i64 n] w fun e w' => e = .returned (.int .i64 (formP k n)) ∧ w = w' := by
  by_cases e1 : n = 1
  · subst e1
    go_enter Tryz.func24, Tryz.ntmps24
    go_wp2
    go_ret
    exact ⟨ret_int (by simp [formP]), rfl⟩
  have b1 : (n == 1) = false := by simpa using e1
  by_cases e2 : k = 1
  · subst e2
    by_cases e3 : n = 0
    · subst e3
      go_enter Tryz.func24, Tryz.ntmps24
      go_wp2
      go_ret
      exact ⟨ret_int (by simp [formP]), rfl⟩
    · have b0 : (n == 0) = false := by simpa using e3
      have HF : formP 1 n = 1 := by unfold formP; rw [if_neg (by omega), if_pos (by omega)]
      rw [HF]
      go_enter Tryz.func24, Tryz.ntmps24
      go_wp2
      go_ret
      exact ⟨rfl, rfl⟩
  by_cases e3 : k = 2
  · subst e3
    have HF : formP 2 n = if 2 ≤ n % 10 ∧ n % 10 ≤ 4 ∧ (n % 100 < 12 ∨ 14 < n % 100) then 1 else 2 := by unfold formP; rw [if_neg (by omega), if_neg (by omega)]
    rw [HF]
    clear HF
    by_cases a1 : 2 ≤ n % 10
    · by_cases a2 : n % 10 ≤ 4
      · by_cases a3 : n % 100 < 12
        · rw [if_pos (by omega)]
          go_enter Tryz.func24, Tryz.ntmps24
          go_wp2
          go_ret
          exact ⟨rfl, rfl⟩
        · by_cases a4 : 14 < n % 100
          · rw [if_pos (by omega)]
            go_enter Tryz.func24, Tryz.ntmps24
            go_wp2
            go_ret
            exact ⟨rfl, rfl⟩
          · rw [if_neg (by omega)]
            go_enter Tryz.func24, Tryz.ntmps24
            go_wp2
            go_ret
            exact ⟨rfl, rfl⟩
      · rw [if_neg (by omega)]
        go_enter Tryz.func24, Tryz.ntmps24
        go_wp2
        go_ret
        exact ⟨rfl, rfl⟩
    · rw [if_neg (by omega)]
      go_enter Tryz.func24, Tryz.ntmps24
      go_wp2
      go_ret
      exact ⟨rfl, rfl⟩
  · have b2 : (k == 1) = false := by simpa using e2
    have b3 : (k == 2) = false := by simpa using e3
    have HF : formP k n = 1 := by unfold formP; rw [if_neg (by omega), if_pos (by omega)]
    rw [HF]
    go_enter Tryz.func24, Tryz.ntmps24
    go_wp2
    go_ret
    exact ⟨rfl, rfl⟩
end Go.Proofs.YtebkccfnilcfpaaGreatDoor
