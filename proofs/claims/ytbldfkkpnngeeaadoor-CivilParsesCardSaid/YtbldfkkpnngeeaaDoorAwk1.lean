/- The fixed fact of chapter 1's statements. -/
import Derived.Test.YtbldfkkpnngeeaaDoorCivL
namespace Go.Proofs.YtbldfkkpnngeeaaDoor
open Go.RowKit Go.Proofs

theorem awake1_any (w : World) (hs : Std w) :
    Calls Tryd.prog 15 #[] w fun e w' => e = .returned (.bool true) ∧ Below w.heap.size w w' := by
  have w1 : wdI 1 = 0 := by decide
  have w8 : wdI 8 = 0 := by decide
  have w7 : wdI 7 = 6 := by decide
  have n1 : numI 1 1 1 = 1 := by decide
  have H1 := of_yes 1 1 1
  have H2 := weekday_any 1
  have H3 := weekday_any 8
  have H4 := weekday_any 7
  rw [n1] at H1
  rw [w1] at H2
  rw [w8] at H3
  rw [w7] at H4
  clear w1 w8 w7 n1
  go_enter Tryd.func15, Tryd.ntmps15
  go_wp2_with (go_at_call 20; refine (H1 _ hs (by decide)).mono ?_; rintro e w' ⟨rfl, rfl⟩)
  refine (text_yes 1 _ hs (by decide)).mono ?_
  rintro e w1 ⟨p, rfl, HP, hl, hb⟩
  obtain rfl : p = _ := HP.out.trans text_one
  clear HP
  go_wp2_with fail
  refine (H2 _).mono ?_
  rintro e w2 ⟨rfl, rfl⟩
  go_wp2_with fail
  refine (H3 _).mono ?_
  rintro e w2 ⟨rfl, rfl⟩
  go_wp2_with fail
  refine (H4 _).mono ?_
  rintro e w2 ⟨rfl, rfl⟩
  go_wp2
  go_ret
  exact ⟨rfl, hb⟩
end Go.Proofs.YtbldfkkpnngeeaaDoor
