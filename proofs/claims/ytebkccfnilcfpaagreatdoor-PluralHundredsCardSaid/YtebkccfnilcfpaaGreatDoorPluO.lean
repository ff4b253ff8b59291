/- The walk of package plural's Ordinal. -/
import Derived.Test.YtebkccfnilcfpaaGreatDoorPluL
namespace Go.Proofs.YtebkccfnilcfpaaGreatDoor
set_option linter.unusedVariables false
set_option linter.unusedSimpArgs false
open Go.RowKit Go.Proofs

/-- What stands behind an ordinal's digits. -/
def sufP (k n : Int) : List UInt8 :=
  if k = 2 then [46] else if k = 1 then (if n = 1 then [101, 114] else [101])
  else if 11 ≤ n % 100 ∧ n % 100 ≤ 13 then [116, 104] else if n % 10 = 1 then [115, 116] else if n % 10 = 2 then [110, 100] else if n % 10 = 3 then [114, 100] else [116, 104]

theorem ord_any (k n : Int) (S : ByteArray) (w : World) (HI : Dig n S w) (hS : S.size ≤ 30) (h0 : 0 ≤ n) (h1 : n ≤ 1000000000000) :
    Calls Tryz.prog 23 #[.int .i64 k, .int .i64 n] w fun e w' => e = .returned (.string (S ++ ⟨(sufP k n).toArray⟩)) ∧ Below w.heap.size w w' := by
  by_cases e2 : k = 2
  · subst e2
    rw [show sufP 2 n = [46] from if_pos rfl]
    go_enter Tryz.func23, Tryz.ntmps23
    go_wp2_with (go_at_call 36; refine HI.mono ?_; rintro e w1 ⟨rfl, hb⟩)
    go_ret
    exact ⟨rfl, hb⟩
  have b2 : (k == 2) = false := beq_eq_false_iff_ne.2 e2
  by_cases e1 : k = 1
  · subst e1
    by_cases n1 : n = 1
    · subst n1
      rw [show sufP 1 1 = [101, 114] from rfl]
      go_enter Tryz.func23, Tryz.ntmps23
      go_wp2_with (go_at_call 36; refine HI.mono ?_; rintro e w1 ⟨rfl, hb⟩)
      go_ret
      exact ⟨rfl, hb⟩
    · have c1 : (n == 1) = false := beq_eq_false_iff_ne.2 n1
      rw [show sufP 1 n = [101] by unfold sufP; rw [if_neg (by omega), if_pos rfl, if_neg n1]]
      go_enter Tryz.func23, Tryz.ntmps23
      go_wp2_with (go_at_call 36; refine HI.mono ?_; rintro e w1 ⟨rfl, hb⟩)
      go_ret
      exact ⟨rfl, hb⟩
  have b1 : (k == 1) = false := beq_eq_false_iff_ne.2 e1
  by_cases t1 : 11 ≤ n % 100
  · by_cases t2 : n % 100 ≤ 13
    · rw [show sufP k n = [116, 104] by unfold sufP; rw [if_neg e2, if_neg e1, if_pos ⟨t1, t2⟩]]
      go_enter Tryz.func23, Tryz.ntmps23
      go_wp2_with (go_at_call 36; refine HI.mono ?_; rintro e w1 ⟨rfl, hb⟩)
      go_ret
      exact ⟨rfl, hb⟩
    · have hs : sufP k n = if n % 10 = 1 then [115, 116] else if n % 10 = 2 then [110, 100] else if n % 10 = 3 then [114, 100] else [116, 104] := by unfold sufP; rw [if_neg e2, if_neg e1, if_neg (by omega)]
      rw [hs]
      clear hs
      by_cases d1 : n % 10 = 1
      · rw [if_pos d1]
        go_enter Tryz.func23, Tryz.ntmps23
        go_wp2_with (go_at_call 36; refine HI.mono ?_; rintro e w1 ⟨rfl, hb⟩)
        go_ret
        exact ⟨rfl, hb⟩
      rw [if_neg d1]
      by_cases d2 : n % 10 = 2
      · rw [if_pos d2]
        go_enter Tryz.func23, Tryz.ntmps23
        go_wp2_with (go_at_call 36; refine HI.mono ?_; rintro e w1 ⟨rfl, hb⟩)
        go_ret
        exact ⟨rfl, hb⟩
      rw [if_neg d2]
      by_cases d3 : n % 10 = 3
      · rw [if_pos d3]
        go_enter Tryz.func23, Tryz.ntmps23
        go_wp2_with (go_at_call 36; refine HI.mono ?_; rintro e w1 ⟨rfl, hb⟩)
        go_ret
        exact ⟨rfl, hb⟩
      rw [if_neg d3]
      go_enter Tryz.func23, Tryz.ntmps23
      go_wp2_with (go_at_call 36; refine HI.mono ?_; rintro e w1 ⟨rfl, hb⟩)
      go_ret
      exact ⟨rfl, hb⟩
  · have hs : sufP k n = if n % 10 = 1 then [115, 116] else if n % 10 = 2 then [110, 100] else if n % 10 = 3 then [114, 100] else [116, 104] := by unfold sufP; rw [if_neg e2, if_neg e1, if_neg (by omega)]
    rw [hs]
    clear hs
    by_cases d1 : n % 10 = 1
    · rw [if_pos d1]
      go_enter Tryz.func23, Tryz.ntmps23
      go_wp2_with (go_at_call 36; refine HI.mono ?_; rintro e w1 ⟨rfl, hb⟩)
      go_ret
      exact ⟨rfl, hb⟩
    rw [if_neg d1]
    by_cases d2 : n % 10 = 2
    · rw [if_pos d2]
      go_enter Tryz.func23, Tryz.ntmps23
      go_wp2_with (go_at_call 36; refine HI.mono ?_; rintro e w1 ⟨rfl, hb⟩)
      go_ret
      exact ⟨rfl, hb⟩
    rw [if_neg d2]
    by_cases d3 : n % 10 = 3
    · rw [if_pos d3]
      go_enter Tryz.func23, Tryz.ntmps23
      go_wp2_with (go_at_call 36; refine HI.mono ?_; rintro e w1 ⟨rfl, hb⟩)
      go_ret
      exact ⟨rfl, hb⟩
    rw [if_neg d3]
    go_enter Tryz.func23, Tryz.ntmps23
    go_wp2_with (go_at_call 36; refine HI.mono ?_; rintro e w1 ⟨rfl, hb⟩)
    go_ret
    exact ⟨rfl, hb⟩
end Go.Proofs.YtebkccfnilcfpaaGreatDoor
