/- Chapter 10's fixed fact; FoldJoins, FoldBad. -/
import Derived.Test.YtebkccfnilcfpaaGreatDoorFoldC
import Derived.Test.YtebkccfnilcfpaaGreatDoorFoldQ
import Derived.Test.YtebkccfnilcfpaaGreatDoorRowS
import Derived.Test.YtebkccfnilcfpaaGreatDoorAw9
namespace Go.Proofs.YtebkccfnilcfpaaGreatDoor
set_option linter.unusedVariables false
set_option linter.unusedSimpArgs false
open Go Go.Sy Go.RowKit

theorem aw9' : AwIs 42 := fun w h => aw9 w ⟨h, h.many⟩

/-! ### Chapter 10's fixed fact -/

def tMaerz : ByteArray := ⟨#[77, 195, 132, 82, 90]⟩
def tmaerz : ByteArray := ⟨#[109, 195, 164, 114, 122]⟩
theorem maerz : smallB tMaerz = tmaerz := ba_ext (by show small tblN _ = _; decide +kernel)
theorem aff : badI [97, 255] = 1 := by decide +kernel
theorem aone' : badI [97] = -1 := by decide +kernel

def awT : Tree := .need (sv 30 [sv 6 [.int .i64 46, .string ⟨#[77, 195, 132, 82, 90]⟩], .string ⟨#[109, 195, 164, 114, 122]⟩]) true (.need (sv 30 [sv 4 [.int .i64 42, .string ⟨#[97, 255]⟩], .int .i64 1]) true (.leaf (sv 30 [sv 4 [.int .i64 42, .string ⟨#[97]⟩], .int .i64 (-1)])))
def toldA : Tolds := ⟨[awC 42, fbadC, fsmallC], [], [], [], []⟩
theorem toldA_ok : TOk fnZ toldA := ⟨fun c h => (by
    simp only [toldA, List.mem_cons, List.not_mem_nil, or_false] at h
    rcases h with rfl | rfl | rfl
    · exact awC_ok aw9' fnZ
    · exact fbadC_ok fnZ_Z
    · exact fsmallC_ok fnZ_Z), fun c h => (by cases h), fun c h => (by cases h), fun c h => (by cases h), fun c h => (by cases h)⟩
theorem aw10_run : ∀ t1 t2 t3 t4, awT.ok (fun F => (arun (cfgH fnZ noRows toldA F) 1000 25 [] (heapOf 20 (vars t1 t2 t3 t4))).map (·.1)) [] = true := fun _ _ _ _ => by kernel_rfl

theorem aw10 : AwIs 25 := fun w hw => by
  refine tree_h toldA_ok (K := noRows) (args := []) (Tr := awT) (F0 := []) aw10_run (E := mkE fnZ rows0 [] [] [] fun _ => undef) (by intro p hp; cases hp) rfl rfl ?_ (fun ρ _ => VRs.nil ρ) hw (by intro r hr; cases hr)
  have k1 : den (mkE fnZ rows0 [] [] [] fun _ => undef) 40 (sv 30 [sv 6 [.int .i64 46, .string ⟨#[77, 195, 132, 82, 90]⟩], .string ⟨#[109, 195, 164, 114, 122]⟩]) = some (.bool true) := by
    simp only [den_i, den_s, den_sv (n := 39), den_sv (n := 38), denL_cons, denL_nil, Option.bind_some, i6, i30s, Int.reduceToNat]
    rw [show (mkE fnZ rows0 [] [] [] fun _ => undef).fns.str 46 [.string ⟨#[77, 195, 132, 82, 90]⟩] = tmaerz from maerz]
    rfl
  have k2 : den (mkE fnZ rows0 [] [] [] fun _ => undef) 40 (sv 30 [sv 4 [.int .i64 42, .string ⟨#[97, 255]⟩], .int .i64 1]) = some (.bool true) := by
    simp only [den_i, den_s, den_sv (n := 39), den_sv (n := 38), denL_cons, denL_nil, Option.bind_some, i4, i30, Int.reduceToNat]
    rw [show (mkE fnZ rows0 [] [] [] fun _ => undef).fns.int 42 [.string ⟨#[97, 255]⟩] = 1 from aff]
    rfl
  have k3 : den (mkE fnZ rows0 [] [] [] fun _ => undef) 40 (sv 30 [sv 4 [.int .i64 42, .string ⟨#[97]⟩], .int .i64 (-1)]) = some (.bool true) := by
    simp only [den_i, den_s, den_sv (n := 39), den_sv (n := 38), denL_cons, denL_nil, Option.bind_some, i4, i30, Int.reduceToNat]
    rw [show (mkE fnZ rows0 [] [] [] fun _ => undef).fns.int 42 [.string ⟨#[97]⟩] = -1 from aone']
    rfl
  simp only [awT, val_need, val_leaf, k1, k2, k3, want_b, ↓reduceIte]

theorem toldZ_ok : TOk fnZ toldZ := ⟨fun c h => (by
    simp only [toldZ, List.mem_cons, List.not_mem_nil, or_false] at h
    rcases h with rfl | rfl | rfl | rfl
    · exact awC_ok aw10 fnZ
    · exact fbadC_ok fnZ_Z
    · exact lbadC_ok fnZ_Z
    · exact fsmallC_ok fnZ_Z), fun c h => (by cases h), fun c h => (by cases h), fun c h => (by cases h), fun c h => (by cases h)⟩

/-! ### FoldJoins -/

def zA : Value := sv 2 [.int .i64 0]
def zB : Value := sv 2 [.int .i64 1]
def zAB : Value := sv 40 [zA, zB]
def zF (x : Value) : Value := sv 4 [.int .i64 42, x]
def zS (x : Value) : Value := sv 6 [.int .i64 46, x]
def zL (n : Int) (x : Value) : Value := sv 31 [.int .i64 n, sv 10 [x]]
def fjT : Tree := .node (zL 200 zA) (.leaf (.bool true)) (.node (zL 200 zB) (.leaf (.bool true)) (.need (zL 1048576 zA) false (.node (sv 31 [zF zA, .int .i64 0])
  (.need (zL 1048576 zB) false (.node (sv 31 [zF zB, .int .i64 0])
    (.need (sv 41 [zA, zB]) true (.need (zL 1048576 zAB) false (.node (sv 30 [zF zAB, .int .i64 (-1)]) (.need (sv 41 [zS zA, zS zB]) true (.leaf (sv 30 [zS zAB, sv 40 [zS zA, zS zB]]))) (.leaf (.bool false)))))
    (.need (sv 41 [zA, zB]) true (.need (zL 1048576 zAB) false (.leaf (sv 30 [zF zAB, sv 20 [.int .i64 0, sv 10 [zA], zF zB]]))))))
  (.leaf (.bool true)))))

theorem fj_run : ∀ t1 t2 t3 t4, fjT.ok (fun F => (arun (cfgH fnZ noRows toldZ F) 1000 10 [zA, zB] (heapOf 20 (vars t1 t2 t3 t4))).map (·.1)) [] = true := fun _ _ _ _ => by kernel_rfl

theorem badI_neg {l : List UInt8} : badI l < 0 ↔ bad l = none := by
  unfold badI
  cases bad l with
  | none => simp
  | some k => simp

theorem smallB_list (s : ByteArray) : (smallB s).data.toList = small tblN s.data.toList := by simp [smallB]

theorem walk_FoldJoins (a b : ByteArray) (w : World) (hw : Wld w) : Calls Tryz.prog 10 #[.string a, .string b] w fun e w' => e = .returned (.bool true) ∧ Below w.heap.size w w' := by
  obtain ⟨E, hEq⟩ : ∃ E, E = mkE fnZ rows0 [] [] [a, b] fun _ => undef := ⟨_, rfl⟩
  have hfn : E.fns = fnZ := by rw [hEq]; rfl
  have e0 : E.str 0 = a := by rw [hEq]; rfl
  have e1 : E.str 1 = b := by rw [hEq]; rfl
  refine tree_h toldZ_ok (K := noRows) (args := [zA, zB]) (Tr := fjT) (F0 := []) fj_run (E := E) (by intro p hp; cases hp) hfn (by rw [hEq]; rfl) ?_ ?_ hw (by intro r hr; cases hr)
  · have dA : ∀ m, den E (m + 2) zA = some (.string a) := fun m => by simp only [zA, den_i, den_sv, denL_cons, denL_nil, Option.bind_some, i2, Int.reduceToNat, e0]
    have dB : ∀ m, den E (m + 2) zB = some (.string b) := fun m => by simp only [zB, den_i, den_sv, denL_cons, denL_nil, Option.bind_some, i2, Int.reduceToNat, e1]
    have hL : ∀ {x : Value} {s : ByteArray} (n : Int), (∀ m, den E (m + 4) x = some (.string s)) → den E 40 (zL n x) = some (.bool (decide (n < (s.size : Int)))) := fun n h => by
      simp only [zL, den_i, den_sv (n := 39), den_sv (n := 38), denL_cons, denL_nil, h, Option.bind_some, i10, i31]
    have hF : ∀ {x : Value} {s : ByteArray} (m : Nat), (∀ m, den E (m + 4) x = some (.string s)) → den E (m + 5) (zF x) = some (.int .i64 (badI s.data.toList)) := fun m h => by
      simp only [zF, den_i, den_sv, denL_cons, denL_nil, h, Option.bind_some, i4, hfn, Int.reduceToNat, fnZ_Z.bad]
    have hS : ∀ {x : Value} {s : ByteArray} (m : Nat), (∀ m, den E (m + 4) x = some (.string s)) → den E (m + 5) (zS x) = some (.string (smallB s)) := fun m h => by
      simp only [zS, den_i, den_sv, denL_cons, denL_nil, h, Option.bind_some, i6, hfn, Int.reduceToNat, fnZ_Z.sml]
    have dA' := fun m => dA (m + 2)
    have dB' := fun m => dB (m + 2)
    by_cases c1 : (200 : Int) < (a.size : Int)
    · simp only [fjT, val_node, val_leaf, hL 200 dA', c1, decide_true, pick_b, if_true, den_b]
    by_cases c2 : (200 : Int) < (b.size : Int)
    · simp only [fjT, val_node, val_leaf, hL 200 dA', hL 200 dB', c1, c2, decide_true, decide_false, pick_b, if_true, Bool.false_eq_true, if_false, den_b]
    have kA : den E 40 (sv 31 [zF zA, .int .i64 0]) = some (.bool (decide (badI a.data.toList < 0))) := by
      simp only [den_i, den_sv (n := 39), denL_cons, denL_nil, hF 34 dA', Option.bind_some, i31]
    have kB : den E 40 (sv 31 [zF zB, .int .i64 0]) = some (.bool (decide (badI b.data.toList < 0))) := by
      simp only [den_i, den_sv (n := 39), denL_cons, denL_nil, hF 34 dB', Option.bind_some, i31]
    have l1 := hL 1048576 dA'
    have l2 := hL 1048576 dB'
    rw [decide_eq_false (by omega)] at l1 l2
    by_cases hba : badI a.data.toList < 0
    · have ha := badI_neg.1 hba
      have q1 : den E 40 (sv 41 [zA, zB]) = some (.bool true) := by simp only [den_sv (n := 39), denL_cons, denL_nil, dA, dB, Option.bind_some]; exact i41c (by omega)
      have dAB : ∀ m, den E (m + 4) zAB = some (.string (cat a b)) := fun m => by simp only [zAB, den_sv, denL_cons, denL_nil, dA, dB, Option.bind_some]; exact i40c (by omega)
      have l3 := hL 1048576 dAB
      rw [decide_eq_false (by rw [cat_size]; omega)] at l3
      have hj := bad_join (b := b.data.toList) ha
      by_cases hbb : badI b.data.toList < 0
      · have hb := badI_neg.1 hbb
        have hab : badI (cat a b).data.toList = -1 := by unfold badI; rw [cat_list, hj, hb]; rfl
        have kAB : den E 40 (sv 30 [zF zAB, .int .i64 (-1)]) = some (.bool true) := by
          simp only [den_i, den_sv (n := 39), denL_cons, denL_nil, hF 34 dAB, Option.bind_some, i30, hab]; rfl
        have sz : ∀ {s : ByteArray}, bad s.data.toList = none → (smallB s).size = s.size := fun {s} h => by
          have := small_len h
          have h1 : (smallB s).data.toList.length = (smallB s).size := by simp
          have h2 : s.data.toList.length = s.size := by simp
          rw [← h1, smallB_list, this, h2]
        have q2 : den E 40 (sv 41 [zS zA, zS zB]) = some (.bool true) := by simp only [den_sv (n := 39), denL_cons, denL_nil, hS 34 dA', hS 34 dB', Option.bind_some]; exact i41c (by rw [sz ha, sz hb]; omega)
        have hk : smallB (cat a b) = cat (smallB a) (smallB b) := ba_ext (by rw [smallB_list, cat_list, cat_list, smallB_list, smallB_list, small_join ha])
        have r1 : den E 40 (sv 30 [zS zAB, sv 40 [zS zA, zS zB]]) = some (.bool true) := by
          have d40 : den E 39 (sv 40 [zS zA, zS zB]) = some (.string (cat (smallB a) (smallB b))) := by
            simp only [den_sv (n := 38), denL_cons, denL_nil, hS 33 dA', hS 33 dB', Option.bind_some]; exact i40c (by rw [sz ha, sz hb]; omega)
          simp only [den_sv (n := 39), denL_cons, denL_nil, hS 34 dAB, d40, Option.bind_some, i30s, hk, decide_true]
        simp only [fjT, val_node, val_need, val_leaf, hL 200 dA', hL 200 dB', c1, c2, l1, l2, l3, kA, kB, kAB, q1, q2, r1, hba, hbb, decide_true, decide_false, pick_b, want_b, if_true, Bool.false_eq_true, if_false, ↓reduceIte]
      · obtain ⟨k, hk⟩ : ∃ k, bad b.data.toList = some k := by
          cases h : bad b.data.toList with
          | none => exact absurd (badI_neg.2 h) hbb
          | some k => exact ⟨k, rfl⟩
        have ebb : badI b.data.toList = (k : Int) := by unfold badI; rw [hk]
        have hkb : k ≤ 200 := by
          have := bad_le hk
          have h2 : b.data.toList.length = b.size := by simp
          omega
        have hab : badI (cat a b).data.toList = (a.size : Int) + (k : Int) := by
          unfold badI
          rw [cat_list, hj, hk]
          simp only [Option.map_some]
          have h2 : a.data.toList.length = a.size := by simp
          rw [h2]
          omega
        have r1 : den E 40 (sv 30 [zF zAB, sv 20 [.int .i64 0, sv 10 [zA], zF zB]]) = some (.bool true) := by
          simp (disch := omega) only [den_i, den_sv (n := 39), den_sv (n := 38), den_sv (n := 37), denL_cons, denL_nil, dA, hF 34 dAB, hF 33 dB', Option.bind_some, i10, i20, i30, wr64, hab, ebb, decide_true]
        simp only [fjT, val_node, val_need, val_leaf, hL 200 dA', hL 200 dB', c1, c2, l1, l2, l3, kA, kB, q1, r1, hba, hbb, decide_true, decide_false, pick_b, want_b, if_true, Bool.false_eq_true, if_false, ↓reduceIte]
    · simp only [fjT, val_node, val_need, val_leaf, hL 200 dA', hL 200 dB', c1, c2, l1, kA, hba, decide_false, pick_b, want_b, if_true, Bool.false_eq_true, if_false, ↓reduceIte, den_b]
  · intro ρ hρ
    exact vr2 (sv_vr (vr1 (.int _ _)) (by rw [hρ]; show some (Value.string (E.str 0)) = _; rw [e0])) (sv_vr (vr1 (.int _ _)) (by rw [hρ]; show some (Value.string (E.str 1)) = _; rw [e1]))
end Go.Proofs.YtebkccfnilcfpaaGreatDoor
