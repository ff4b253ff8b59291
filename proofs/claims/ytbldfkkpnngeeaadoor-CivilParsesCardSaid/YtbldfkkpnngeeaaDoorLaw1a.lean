/- The walks of the statements of chapter 1 that need no text. -/
import Derived.Test.YtbldfkkpnngeeaaDoorAwk1
import Derived.OpenShut
namespace Go.Proofs.YtbldfkkpnngeeaaDoor
open Go.RowKit Go.Proofs

theorem wrap64_bd (x : Int) : -9223372036854775808 ≤ wrap64 x ∧ wrap64 x ≤ 9223372036854775807 := by unfold wrap64; omega

theorem walk_CivilLong (a0 a1 : Int) (w0 : (Lit.int .u16 a0).wf = true) (w1 : (Lit.int .i64 a1).wf = true) (w : World) (hs : Std w) :
    Calls Tryd.prog 3 #[.int .u16 a0, .int .i64 a1] w fun e w' => e = .returned (.bool true) ∧ Below w.heap.size w w' := by
  have b0 := bounds_u16 w0
  have b1 := bounds_i64 w1
  clear w0 w1
  go_enter Tryd.func3, Tryd.ntmps3
  go_wp2_with (go_at_call 15; refine (awake1_any _ hs).mono ?_; rintro e w1 ⟨rfl, hb⟩)
  have hs1 := hs.below hb
  refine (leap_any _ _ (by omega) (by omega)).mono ?_
  rintro e w2 ⟨rfl, rfl⟩
  go_wp2_with fail
  refine (leapL_any _ _ (by omega) (by omega)).mono ?_
  rintro e w2 ⟨rfl, rfl⟩
  go_wp2_with fail
  refine (long_any _ _ _ hs1 (by omega) (by omega) (by omega) (by omega)).mono ?_
  rintro e w2 ⟨rfl, rfl⟩
  go_wp2_with fail
  refine (longL_any _ _ _ (by omega) (by omega)).mono ?_
  rintro e w2 ⟨rfl, rfl⟩
  go_wp2_with fail
  refine (long_any _ _ _ hs1 (by omega) (by omega) (wrap64_bd _).1 (wrap64_bd _).2).mono ?_
  rintro e w2 ⟨rfl, rfl⟩
  go_wp2_with fail
  refine (longL_any _ _ _ (by omega) (by omega)).mono ?_
  rintro e w2 ⟨rfl, rfl⟩
  go_wp2
  go_ret
  exact ⟨by simp, hb⟩
end Go.Proofs.YtbldfkkpnngeeaaDoor
