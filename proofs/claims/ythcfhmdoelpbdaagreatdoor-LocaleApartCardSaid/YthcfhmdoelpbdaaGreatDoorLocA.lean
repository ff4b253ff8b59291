/- LocaleApart. -/
import Derived.Test.YthcfhmdoelpbdaaGreatDoorLaA
import Derived.Test.YthcfhmdoelpbdaaGreatDoorLaB
import Derived.Test.YthcfhmdoelpbdaaGreatDoorLaC
import Derived.Test.YthcfhmdoelpbdaaGreatDoorLaD
import Derived.OpenShut
namespace Go.Proofs.YthcfhmdoelpbdaaGreatDoor
set_option linter.unusedVariables false
set_option linter.unusedSimpArgs false
open Go Go.Sy Go.RowKit

theorem la_all (t1 t2 t3 t4 t5 : TypeId) : laT.ok (laRun t1 t2 t3 t4 t5) [] = true := okT_node (la0 t1 t2 t3 t4 t5) (okT_node (la1 t1 t2 t3 t4 t5) (okT_node (la2 t1 t2 t3 t4 t5) (okT_need (la3 t1 t2 t3 t4 t5))))
theorem laT1_val {E : Env} {b : Int} (h : ∀ i, den E 40 (laC i) = some (.bool (decide (b = i)))) (h0 : 0 ≤ b) (h1 : b < 15) : laT1.val E = some (.bool true) := by
  have hl : laL.val E = some (.bool true) := rfl
  simp only [laT1, val_node, val_need, pick_b, want_b, h, hl, decide_eq_true_eq]
  have hb : b = 0 ∨ b = 1 ∨ b = 2 ∨ b = 3 ∨ b = 4 ∨ b = 5 ∨ b = 6 ∨ b = 7 ∨ b = 8 ∨ b = 9 ∨ b = 10 ∨ b = 11 ∨ b = 12 ∨ b = 13 ∨ b = 14 := by omega
  rcases hb with e | e | e | e | e | e | e | e | e | e | e | e | e | e | e <;> (rw [e]; rfl)
theorem laT_val {E : Env} {a b : Int} (hN : ∀ i, den E 40 (laN i) = some (.bool (decide (a = i)))) (h : ∀ i, den E 40 (laC i) = some (.bool (decide (b = i)))) (g0 : 0 ≤ a) (g1 : a < 4) (h0 : 0 ≤ b) (h1 : b < 15) : laT.val E = some (.bool true) := by
  simp only [laT, val_node, val_need, pick_b, want_b, hN, laT1_val h h0 h1, decide_eq_true_eq]
  have ha : a = 0 ∨ a = 1 ∨ a = 2 ∨ a = 3 := by omega
  rcases ha with e | e | e | e <;> (rw [e]; rfl)
theorem i32e {E : Env} (k m l) : interp E 32 [.int k m, .int k l] = some (.bool (decide (m = l))) := by simp [interp]

theorem walk_LocaleApart (a0 a1 : Int) (w0 : (Lit.int .u8 a0).wf = true) (w1 : (Lit.int .u8 a1).wf = true) (w : World) (hs : Wld8 w) :
    Calls Tryz.prog 11 #[.int .u8 a0, .int .u8 a1] w fun e w' => e = .returned (.bool true) ∧ Below w.heap.size w w' := by
  have g0 := bounds_u8 w0
  have g1 := bounds_u8 w1
  refine tree8 (FN := fns0) (cs := [awC 28]) (hs := langs) (args := [sv 0 [.int .u8 0], sv 0 [.int .u8 1]]) (T := laT) (F0 := []) (E := mkE fns0 rows0 [a0, a1] [] [] fun _ => undef) ?_ (langs_ok fns0) la_all (by intro p hp; cases hp) rfl rfl (laT_val (a := a0.tmod 4) (b := IntKind.i64.wrap (a1.tmod 15)) (fun i => ?_) (fun i => ?_) ?_ ?_ ?_ ?_) ?_ hs
  · exact fun c hc => by
      simp only [List.mem_cons, List.not_mem_nil, or_false] at hc
      subst hc
      exact awC_ok8 aw9 fns0
  · simp only [laN, den_i, den_sv, denL_nil, denL_cons, Option.bind_some, i0, i24, i32e, mk_int, getD_z, getD_s, Int.reduceToNat, ↓reduceIte, Int.reduceEq]
  · simp only [laC, den_i, den_sv, denL_nil, denL_cons, Option.bind_some, i0, i14, i24, i32e, mk_int, getD_z, getD_s, Int.reduceToNat, ↓reduceIte, Int.reduceEq]
  · exact Int.tmod_nonneg 4 g0.1
  · exact Int.tmod_lt_of_pos a0 (by omega)
  · have k1 := Int.tmod_nonneg 15 g1.1
    have k2 := Int.tmod_lt_of_pos a1 (b := 15) (by omega)
    rw [wr64 (by omega) (by omega)]; exact k1
  · have k1 := Int.tmod_nonneg 15 g1.1
    have k2 := Int.tmod_lt_of_pos a1 (b := 15) (by omega)
    rw [wr64 (by omega) (by omega)]; exact k2
  · intro ρ hρ
    exact vr2 (vr_int hρ _ _ rfl) (vr_int hρ _ _ rfl)
end Go.Proofs.YthcfhmdoelpbdaaGreatDoor
