/- kalendslaw10.runes as a contract; kalendslaw10.Bad. -/
import Derived.Test.YtebkccfnilcfpaaGreatDoorRunE
namespace Go.Proofs.YtebkccfnilcfpaaGreatDoor
set_option linter.unusedVariables false
set_option linter.unusedSimpArgs false
open Go Go.Sy Go.RowKit

def toldRn : Tolds := ⟨[], [], [], [], [rnLoop true, rnLoop false]⟩
theorem toldRn_ok {FN : Fns} (hF : FnB FN) : TOk FN toldRn := ⟨fun c h => (by cases h), fun c h => (by cases h), fun c h => (by cases h), fun c h => (by cases h), fun c h => (by
    simp only [toldRn, List.mem_cons, List.not_mem_nil, or_false] at h
    rcases h with rfl | rfl
    · exact rnLoop_ok hF true
    · exact rnLoop_ok hF false)⟩

def runesC : FCtr where
  f := 30
  nb := 0
  nl := 1
  args := [lfs 0]
  objs := []
  srts := [some .str]
  wants := [(sv 31 [.int .i64 1048576, sv 10 [lfs 0]], false)]
  dec := some (sv 5 [.int .i64 45, lfs 0])
  out q := cond q ⟨[.tuple #[.slice none 0 0, lfi .i64 0]], [], [sv 4 [.int .i64 42, lfs 0]]⟩
    ⟨[.tuple #[nmR 0, lfi .i64 1]], [.own [.str] 9 0], [sv 81 [.int .i64 44, lfs 0], sv 4 [.int .i64 42, lfs 0]]⟩
def rfS : Value := sv 2 [.int .i64 0]
def rfB : Value := sv 4 [.int .i64 42, rfS]
def rfL : Value := sv 81 [.int .i64 44, rfS]
def rfM : Value := .int .i64 (-1)
def rfT : HTree := .need (sv 31 [.int .i64 1048576, sv 10 [rfS]]) false (.node (sv 5 [.int .i64 43, rfS])
  (.node (sv 5 [.int .i64 45, rfS]) (.leaf .ret 0 [rfB]) (.leaf .ret 1 [rfL, rfB]))
  (.node (sv 5 [.int .i64 45, rfS]) (.leaf .ret 0 [rfM]) (.leaf .ret 1 [rfL, rfM])))
def rfFi : List Shape := [⟨[(0, .tuple #[.slice none 0 0, lfi .i64 0])], [], 1⟩, ⟨[(0, .tuple #[nmR 0, lfi .i64 1])], [.own [.str] 9 0], 2⟩]

theorem rf_run {FN : Fns} : ∀ t1 t2 t3 t4, rfT.okF (fun F => arun (cfgH FN noRows toldRn F) 1000 30 [lfs 0] (canH 0 (heapOf 20 (vars t1 t2 t3 t4)) [])) (fun F => ⟨20, F, FN, [], rows0⟩) 0 rfFi [] = true := fun t1 t2 t3 t4 => by kernel_rfl

theorem runesC_ok {FN : Fns} (hF : FnB FN) : FOk FN runesC := by
  refine fok_of (toldRn_ok hF) (Tr := rfT) (F0 := []) (fins := rfFi) (by decide) rf_run (fun q => cond q 0 1) (fun q => cond q 1 2) (fun _ => 0) (fun q => by cases q <;> exact ⟨_, rfl, rfl⟩) fun V ls q hlen hleaf hrow hask => ?_
  match ls, hlen with
  | [a0], _ =>
    obtain ⟨s, rfl⟩ := hleaf 0 _ _ rfl rfl
    refine ⟨fun p hp => (by cases hp), ?_⟩
    have E0 : (envL FN V 0 [.string s]).str 0 = s := rfl
    have E5 : (envL FN V 0 [.string s]).fns = FN := rfl
    have hask' : Asked (envL FN V 0 [.string s]) runesC.wants runesC.dec q := hask
    generalize hE : envL FN V 0 [.string s] = E at *
    have d0 : ∀ m, den E (m + 2) rfS = some (.string s) := fun m => by simp only [rfS, den_i, den_sv, denL_cons, denL_nil, Option.bind_some, i2, Int.reduceToNat, E0]
    have d0' : ∀ m, den E (m + 2) (lfs 0) = some (.string s) := d0
    have k1 : den E 40 (sv 31 [.int .i64 1048576, sv 10 [rfS]]) = some (.bool (decide ((1048576 : Int) < (s.size : Int)))) := by simp only [den_i, den_sv (n := 39), den_sv (n := 38), denL_cons, denL_nil, d0, Option.bind_some, i10, i31]
    have w1 := asked_facts hask' (e := sv 31 [.int .i64 1048576, sv 10 [lfs 0]]) (b := false) (by simp [runesC]) (c := decide ((1048576 : Int) < (s.size : Int))) k1
    have k3 : den E 40 (sv 5 [.int .i64 43, rfS]) = some (.bool (bad s.data.toList).isSome) := by simp only [den_i, den_sv (n := 39), denL_cons, denL_nil, d0, Option.bind_some, i5, E5, Int.reduceToNat, hF.isb]
    have k4 : den E 40 (sv 5 [.int .i64 45, rfS]) = some (.bool (letters s.data.toList).isEmpty) := by simp only [den_i, den_sv (n := 39), denL_cons, denL_nil, d0, Option.bind_some, i5, E5, Int.reduceToNat, hF.emp]
    have w4 := asked_dec (e := sv 5 [.int .i64 45, lfs 0]) hask' k4
    have e4 : den E 40 rfB = some (.int .i64 (badI s.data.toList)) := by
      simp only [rfB, den_i, den_sv (n := 39), denL_cons, denL_nil, d0, Option.bind_some, i4, E5, Int.reduceToNat, hF.bad]
    have e81 : den E 40 rfL = some (strs ((letters s.data.toList).map mkB)) := by
      simp only [rfL, den_i, den_sv (n := 39), denL_cons, denL_nil, d0, Option.bind_some, i81, E5, Int.reduceToNat, hF.let_]
      simp only [strs, List.map_map]
      rfl
    have eM : den E 40 rfM = some (.int .i64 (-1)) := rfl
    rw [w1] at k1
    have hM : (bad s.data.toList).isSome = false → badI s.data.toList = -1 := fun h => by
      unfold badI
      cases hb : bad s.data.toList with
      | none => rfl
      | some k => rw [hb] at h; cases h
    have hB : ∀ v, v = rfB ∨ ((bad s.data.toList).isSome = false ∧ v = rfM) → den E 40 v = some (.int .i64 (badI s.data.toList)) := fun v hv => by
      rcases hv with rfl | ⟨h, rfl⟩
      · exact e4
      · rw [eM, hM h]
    cases q with
    | true =>
      refine ⟨.ret, [.int .i64 (badI s.data.toList)], ?_, ?_⟩
      · simp only [rfT, HTree.val, k1, k3, k4, w4, wantC, pickC, ↓reduceIte, if_true]
        cases hb : (bad s.data.toList).isSome with
        | true => simp only [if_true, denL_cons, denL_nil, hB rfB (.inl rfl), Option.bind_some]; rfl
        | false => simp only [Bool.false_eq_true, if_false, denL_cons, denL_nil, hB rfM (.inr ⟨hb, rfl⟩), Option.bind_some]; rfl
      · show denL (den E 40) [rfB] = _
        simp only [denL_cons, denL_nil, e4, Option.bind_some]
    | false =>
      refine ⟨.ret, [strs ((letters s.data.toList).map mkB), .int .i64 (badI s.data.toList)], ?_, ?_⟩
      · simp only [rfT, HTree.val, k1, k3, k4, w4, wantC, pickC, ↓reduceIte, Bool.false_eq_true, if_false]
        cases hb : (bad s.data.toList).isSome with
        | true => simp only [if_true, denL_cons, denL_nil, e81, hB rfB (.inl rfl), Option.bind_some]; rfl
        | false => simp only [Bool.false_eq_true, if_false, denL_cons, denL_nil, e81, hB rfM (.inr ⟨hb, rfl⟩), Option.bind_some]; rfl
      · show denL (den E 40) [rfL, rfB] = _
        simp only [denL_cons, denL_nil, e81, e4, Option.bind_some]

/-! ### kalendslaw10.Bad -/

def toldBd : Tolds := ⟨[], [], [runesC], [], []⟩
def fnB : Fns where
  int i l := match i, l with
    | 42, [.string s] => badI s.data.toList
    | _, _ => 0
  bool i l := match i, l with
    | 43, [.string s] => (bad s.data.toList).isSome
    | 45, [.string s] => (letters s.data.toList).isEmpty
    | _, _ => false
  str _ _ := ⟨#[]⟩
  val _ _ := .bool false
  lst i l := match i, l with
    | 44, [.string s] => (letters s.data.toList).map fun l => .string (mkB l)
    | _, _ => []
theorem fnB_B : FnB fnB := ⟨fun _ => rfl, fun _ => rfl, fun _ => rfl, fun _ => rfl⟩
theorem toldBd_ok {FN : Fns} (hF : FnB FN) : TOk FN toldBd := ⟨fun c h => (by cases h), fun c h => (by cases h), fun c h => (by
    simp only [toldBd, List.mem_cons, List.not_mem_nil, or_false] at h
    subst h
    exact runesC_ok hF), fun c h => (by cases h), fun c h => (by cases h)⟩

def bdT : Tree := .need (sv 31 [.int .i64 1048576, sv 10 [rfS]]) false (.node (sv 5 [.int .i64 45, rfS]) (.leaf rfB) (.leaf rfB))
theorem bd_run : ∀ t1 t2 t3 t4, bdT.ok (fun F => (arun (cfgH fnB noRows toldBd F) 1000 27 [sv 2 [.int .i64 0]] (heapOf 20 (vars t1 t2 t3 t4))).map (·.1)) [] = true := fun t1 t2 t3 t4 => by kernel_rfl

theorem lbad_any (s : ByteArray) (hs : s.size ≤ 1048576) (w : World) (hw : Wld w) : Calls Tryz.prog 27 #[.string s] w fun e w' => e = .returned (.int .i64 (badI s.data.toList)) ∧ Below w.heap.size w w' := by
  obtain ⟨E, hEq⟩ : ∃ E, E = mkE fnB rows0 [] [] [s] fun _ => undef := ⟨_, rfl⟩
  have hfn : E.fns = fnB := by rw [hEq]; rfl
  have e0 : E.str 0 = s := by rw [hEq]; rfl
  refine tree_h (toldBd_ok fnB_B) (K := noRows) (args := [sv 2 [.int .i64 0]]) (Tr := bdT) (F0 := []) bd_run (E := E) (by intro p hp; cases hp) hfn (by rw [hEq]; rfl) ?_ ?_ hw (by intro r hr; cases hr)
  · have d0 : ∀ m, den E (m + 2) rfS = some (.string s) := fun m => by simp only [rfS, den_i, den_sv, denL_cons, denL_nil, Option.bind_some, i2, Int.reduceToNat, e0]
    have k1 : den E 40 (sv 31 [.int .i64 1048576, sv 10 [rfS]]) = some (.bool false) := by
      simp only [den_i, den_sv (n := 39), den_sv (n := 38), denL_cons, denL_nil, d0, Option.bind_some, i10, i31]
      rw [decide_eq_false (by omega)]
    have k4 : den E 40 (sv 5 [.int .i64 45, rfS]) = some (.bool (letters s.data.toList).isEmpty) := by simp only [den_i, den_sv (n := 39), denL_cons, denL_nil, d0, Option.bind_some, i5, hfn, Int.reduceToNat, fnB_B.emp]
    have e4 : den E 40 rfB = some (.int .i64 (badI s.data.toList)) := by
      simp only [rfB, den_i, den_sv (n := 39), denL_cons, denL_nil, d0, Option.bind_some, i4, hfn, Int.reduceToNat, fnB_B.bad]
    simp only [bdT, val_need, val_node, val_leaf, k1, k4, e4, want_b, pick_b, ↓reduceIte]
    cases (letters s.data.toList).isEmpty <;> rfl
  · intro ρ hρ
    exact vr1 (sv_vr (vr1 (.int _ _)) (by rw [hρ]; show some (Value.string (E.str 0)) = _; rw [e0]))
end Go.Proofs.YtebkccfnilcfpaaGreatDoor
