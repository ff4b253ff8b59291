/- FoldSmall. -/
import Derived.Test.YtebkccfnilcfpaaGreatDoorFoldL
import Derived.Test.YtebkccfnilcfpaaGreatDoorLowS
namespace Go.Proofs.YtebkccfnilcfpaaGreatDoor
set_option linter.unusedVariables false
set_option linter.unusedSimpArgs false
open Go Go.Sy Go.RowKit

theorem fnL_Z : FnZ fnL := fnL_L.toFnZ
def toldS : Tolds := ⟨[awC 25, fbadC, lbadC, fsmallC, lsmallC], [], [], [], []⟩
theorem toldS_ok : TOk fnL toldS := ⟨fun c h => (by
    simp only [toldS, List.mem_cons, List.not_mem_nil, or_false] at h
    rcases h with rfl | rfl | rfl | rfl | rfl
    · exact awC_ok aw10 fnL
    · exact fbadC_ok fnL_Z
    · exact lbadC_ok fnL_Z
    · exact fsmallC_ok fnL_Z
    · exact lsmallC_ok fun _ => rfl), fun c h => (by cases h), fun c h => (by cases h), fun c h => (by cases h), fun c h => (by cases h)⟩

def fsT : Tree := .node (zL 300 zA) (.leaf (.bool true)) (.need (zL 1048576 zA) false (.node (sv 31 [zF zA, .int .i64 0])
  (.node (sv 30 [zS zA, sv 6 [.int .i64 47, zA]]) (.node (sv 30 [sv 10 [zS zA], sv 10 [zA]]) (.need (zL 1048576 (zS zA)) false (.node (sv 30 [zS (zS zA), zS zA]) (.leaf (sv 30 [zF (zS zA), .int .i64 (-1)])) (.leaf (.bool false)))) (.leaf (.bool false))) (.leaf (.bool false)))
  (.leaf (.bool true))))

theorem fs_run : ∀ t1 t2 t3 t4, fsT.ok (fun F => (arun (cfgH fnL noRows toldS F) 1000 8 [zA] (heapOf 20 (vars t1 t2 t3 t4))).map (·.1)) [] = true := fun _ _ _ _ => by kernel_rfl

theorem walk_FoldSmall (a : ByteArray) (w : World) (hw : Wld w) : Calls Tryz.prog 8 #[.string a] w fun e w' => e = .returned (.bool true) ∧ Below w.heap.size w w' := by
  obtain ⟨E, hEq⟩ : ∃ E, E = mkE fnL rows0 [] [] [a] fun _ => undef := ⟨_, rfl⟩
  have hfn : E.fns = fnL := by rw [hEq]; rfl
  have e0 : E.str 0 = a := by rw [hEq]; rfl
  refine tree_h toldS_ok (K := noRows) (args := [zA]) (Tr := fsT) (F0 := []) fs_run (E := E) (by intro p hp; cases hp) hfn (by rw [hEq]; rfl) ?_ ?_ hw (by intro r hr; cases hr)
  · have dA : ∀ m, den E (m + 2) zA = some (.string a) := fun m => by simp only [zA, den_i, den_sv, denL_cons, denL_nil, Option.bind_some, i2, Int.reduceToNat, e0]
    have dS : ∀ m, den E (m + 3) (zS zA) = some (.string (smallB a)) := fun m => by simp only [zS, den_i, den_sv, denL_cons, denL_nil, dA, Option.bind_some, i6, hfn, Int.reduceToNat, fnL_L.sml]
    have dSS : ∀ m, den E (m + 4) (zS (zS zA)) = some (.string (smallB (smallB a))) := fun m => by
      show den E (m + 3 + 1) (sv 6 [.int .i64 46, zS zA]) = _
      simp only [den_i, den_sv, denL_cons, denL_nil, dS, Option.bind_some, i6, hfn, Int.reduceToNat, fnL_L.sml]
    have l3 : den E 40 (zL 300 zA) = some (.bool (decide ((300 : Int) < (a.size : Int)))) := by simp only [zL, den_i, den_sv (n := 39), den_sv (n := 38), denL_cons, denL_nil, dA, Option.bind_some, i10, i31]
    by_cases c1 : (300 : Int) < (a.size : Int)
    · simp only [fsT, val_node, val_leaf, l3, c1, decide_true, pick_b, if_true, den_b]
    have l1 : den E 40 (zL 1048576 zA) = some (.bool false) := by
      simp only [zL, den_i, den_sv (n := 39), den_sv (n := 38), denL_cons, denL_nil, dA, Option.bind_some, i10, i31]
      rw [decide_eq_false (by omega)]
    have kA : den E 40 (sv 31 [zF zA, .int .i64 0]) = some (.bool (decide (badI a.data.toList < 0))) := by
      simp only [zF, den_i, den_sv (n := 39), den_sv (n := 38), denL_cons, denL_nil, dA, Option.bind_some, i4, i31, hfn, Int.reduceToNat, fnL_L.bad]
    by_cases hba : badI a.data.toList < 0
    · have ha := badI_neg.1 hba
      have hsz : (smallB a).size = a.size := by
        have := small_len ha
        have h1 : (smallB a).data.toList.length = (smallB a).size := by simp
        have h2 : a.data.toList.length = a.size := by simp
        rw [← h1, smallB_list, this, h2]
      have k1 : den E 40 (sv 30 [zS zA, sv 6 [.int .i64 47, zA]]) = some (.bool true) := by
        simp only [den_i, den_sv (n := 39), den_sv (n := 38), denL_cons, denL_nil, dS, dA, Option.bind_some, i6, i30s, hfn, Int.reduceToNat]
        rw [show fnL.str 47 [.string a] = lawSmallB a from rfl, law_small ha, decide_eq_true rfl]
      have k2 : den E 40 (sv 30 [sv 10 [zS zA], sv 10 [zA]]) = some (.bool true) := by
        simp only [den_sv (n := 39), den_sv (n := 38), denL_cons, denL_nil, dS, dA, Option.bind_some, i10, i30, hsz, decide_true]
      have k3 : den E 40 (zL 1048576 (zS zA)) = some (.bool false) := by
        simp only [zL, den_i, den_sv (n := 39), den_sv (n := 38), denL_cons, denL_nil, dS, Option.bind_some, i10, i31]
        rw [decide_eq_false (by omega)]
      have k4 : den E 40 (sv 30 [zS (zS zA), zS zA]) = some (.bool true) := by
        have : smallB (smallB a) = smallB a := ba_ext (by rw [smallB_list, smallB_list, small_twice ha])
        simp only [den_sv (n := 39), denL_cons, denL_nil, dS, dSS, Option.bind_some, i30s, this, decide_true]
      have k5 : den E 40 (sv 30 [zF (zS zA), .int .i64 (-1)]) = some (.bool true) := by
        have : badI (smallB a).data.toList = -1 := by unfold badI; rw [smallB_list, small_bad ha]
        simp only [zF, den_i, den_sv (n := 39), den_sv (n := 38), denL_cons, denL_nil, dS, Option.bind_some, i4, i30, hfn, Int.reduceToNat, fnL_L.bad, this]
        rfl
      simp only [fsT, val_node, val_need, val_leaf, l3, l1, kA, k1, k2, k3, k4, k5, c1, hba, decide_true, decide_false, pick_b, want_b, if_true, Bool.false_eq_true, if_false, ↓reduceIte]
    · simp only [fsT, val_node, val_need, val_leaf, l3, l1, kA, c1, hba, decide_false, pick_b, want_b, if_true, Bool.false_eq_true, if_false, ↓reduceIte, den_b]
  · intro ρ hρ
    exact vr1 (sv_vr (vr1 (.int _ _)) (by rw [hρ]; show some (Value.string (E.str 0)) = _; rw [e0]))
end Go.Proofs.YtebkccfnilcfpaaGreatDoor
