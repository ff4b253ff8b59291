/- Read, at any text. -/
import Derived.Test.YthcfhmdoelpbdaaGreatDoorApart
namespace Go.Proofs.YthcfhmdoelpbdaaGreatDoor
set_option linter.unusedVariables false
set_option linter.unusedSimpArgs false
open Go Go.Sy Go.RowKit

def killsR : List Nat := [11, 12, 13, 14, 15, 16, 17, 18, 19, 20, 21, 22, 23, 24, 25, 26, 27, 28]
def readLC : LCtr := digLC 18 28 55 1 8 0 killsR

theorem readLC_ok {FN : Fns} (hFN : ∀ s k, FN.int 10 [.string s, .int .i64 (k : Nat)] = ((k + digRun s k : Nat) : Int)) : LCtrOk FN readLC :=
  digLC_ok hFN (by decide) (by kernel_rfl) (by decide) (by decide) (by decide) fun _ _ _ _ => by kernel_rfl

/-- The digits at a text's beginning. -/
def lead (s : ByteArray) : ByteArray := bext s 0 (digRun s 0)

/-- Is a text an ordinal, of a number from 1 to most? -/
def readOk (k : Int) (s : ByteArray) (m : Int) : Bool := atoiOk (lead s) && decide (1 ≤ atoiV (lead s)) && decide (atoiV (lead s) ≤ m) && decide (ordT k (atoiV (lead s)) = s)

def readV (k : Int) (s : ByteArray) (m : Int) : Value := cond (readOk k s m) (.tuple #[.int .i64 (atoiV (lead s)), .bool true]) (.tuple #[.int .i64 0, .bool false])

def fnR : Fns where
  int i l := match i, l with
    | 10, [.string s, .int _ k] => ((k.toNat + digRun s k.toNat : Nat) : Int)
    | 11, [.string s] => atoiV s
    | 12, [.string s] => atoiE s
    | _, _ => 0
  bool i l := match i, l with
    | 11, [.string s] => atoiOk s
    | _, _ => false
  str i l := match i, l with
    | 1, [.int _ k, .int _ n] => ordT k n
    | _, _ => ⟨#[]⟩
  val _ _ := .bool false

def readT : Tree := (.need (sv 31 [(sv 10 [(sv 2 [.int .i64 0])]), .int .i64 0]) false (.need (sv 31 [.int .i64 4611686018427387904, (sv 10 [(sv 2 [.int .i64 0])])]) false (.need (sv 31 [(sv 4 [.int .i64 10, (sv 2 [.int .i64 0]), .int .i64 0]), .int .i64 0]) false (.need (sv 31 [(sv 10 [(sv 2 [.int .i64 0])]), (sv 4 [.int .i64 10, (sv 2 [.int .i64 0]), .int .i64 0])]) false (.need (sv 31 [.int .i64 1099511627776, (sv 10 [(sv 13 [(sv 2 [.int .i64 0]), .int .i64 0, (sv 4 [.int .i64 10, (sv 2 [.int .i64 0]), .int .i64 0])])])]) false (.node (sv 5 [.int .i64 11, (sv 13 [(sv 2 [.int .i64 0]), .int .i64 0, (sv 4 [.int .i64 10, (sv 2 [.int .i64 0]), .int .i64 0])])])
  (.node (sv 31 [(sv 4 [.int .i64 11, (sv 13 [(sv 2 [.int .i64 0]), .int .i64 0, (sv 4 [.int .i64 10, (sv 2 [.int .i64 0]), .int .i64 0])])]), .int .i64 1])
  (.leaf (.tuple #[.int .i64 0, .bool false]))
  (.node (sv 31 [(sv 0 [.int .i64 1]), (sv 4 [.int .i64 11, (sv 13 [(sv 2 [.int .i64 0]), .int .i64 0, (sv 4 [.int .i64 10, (sv 2 [.int .i64 0]), .int .i64 0])])])])
  (.leaf (.tuple #[.int .i64 0, .bool false]))
  (.need (sv 31 [(sv 4 [.int .i64 11, (sv 13 [(sv 2 [.int .i64 0]), .int .i64 0, (sv 4 [.int .i64 10, (sv 2 [.int .i64 0]), .int .i64 0])])]), .int .i64 0]) false (.need (sv 31 [.int .i64 1000000000000, (sv 4 [.int .i64 11, (sv 13 [(sv 2 [.int .i64 0]), .int .i64 0, (sv 4 [.int .i64 10, (sv 2 [.int .i64 0]), .int .i64 0])])])]) false (.node (sv 30 [(sv 6 [.int .i64 1, (sv 0 [.int .i64 0]), (sv 4 [.int .i64 11, (sv 13 [(sv 2 [.int .i64 0]), .int .i64 0, (sv 4 [.int .i64 10, (sv 2 [.int .i64 0]), .int .i64 0])])])]), (sv 2 [.int .i64 0])])
  (.leaf (.tuple #[(sv 4 [.int .i64 11, (sv 13 [(sv 2 [.int .i64 0]), .int .i64 0, (sv 4 [.int .i64 10, (sv 2 [.int .i64 0]), .int .i64 0])])]), .bool true]))
  (.leaf (.tuple #[.int .i64 0, .bool false])))))))
  (.leaf (.tuple #[.int .i64 0, .bool false]))))))))

theorem ordC_okG {FN : Fns} (h1 : ∀ k n, FN.str 1 [.int .i64 k, .int .i64 n] = ordT k n) : CtrOk FN ordC := by
  intro S args q hF hs hw _ ρ args' w g hv hd _
  obtain ⟨a, b, rfl⟩ := sorts2 hs
  simp only [ordC, sortsOk, Bool.and_true, Bool.and_eq_true, decide_eq_true_eq] at hs
  obtain ⟨x, y, rfl, vx, vy⟩ := vrs2_inv hv
  obtain ⟨k, rfl⟩ := HasS.of hs.1 vx
  obtain ⟨n, rfl⟩ := HasS.of hs.2 vy
  simp only [ordC, List.mem_cons, List.not_mem_nil, or_false, forall_eq_or_imp, forall_eq] at hw
  have w1 := holds_lt g hw.1 vy (.int _ _)
  have w2 := holds_lt g hw.2 (.int _ _) vy
  simp only [decide_eq_false_iff_not] at w1 w2
  exact (ordP_any k n w hd.std (by omega) (by omega)).mono fun e w' ⟨he, hb⟩ => ⟨_, he, sv_vr (VRs.cons (.int _ _) (vr2 vx vy)) (by simp only [interp, g.fns, hF, Int.reduceToNat, h1]), hb⟩

theorem readG_any (k m : Int) (s : ByteArray) (hs : s.size ≤ 1000000) (hm : m ≤ 1000000000000) (w : World) (hw : Wld w) :
    Calls Tryz.prog 18 #[.int .i64 k, .string s, .int .i64 m] w fun e w' => e = .returned (readV k s m) ∧ Below w.heap.size w w' := by
  have hd := digRun_le (s := s) (k := 0) (by omega)
  simp only [Nat.zero_add] at hd
  have hb := bext_size (s := s) (l := 0) hd
  refine tree_loops (FN := fnR) (K := noRows) (cs := [ordC, atoiC]) (ls := [readLC]) (args := [sv 0 [.int .i64 0], sv 2 [.int .i64 0], sv 0 [.int .i64 1]]) (T := readT) (F0 := []) (E := mkE fnR rows0 [k, m] [] [s] fun _ => undef) ?_ ?_ (fun _ _ _ _ => by kernel_rfl) (by intro p hp; cases hp) rfl rfl ?_ ?_ hw (by intro r hr; cases hr)
  · intro c hc
    simp only [List.mem_cons, List.not_mem_nil, or_false] at hc
    rcases hc with rfl | rfl
    · exact ordC_okG fun _ _ => rfl
    · exact atoiC_ok (fun _ => rfl) (fun _ => rfl) (fun _ => rfl)
  · intro c hc
    simp only [List.mem_cons, List.not_mem_nil, or_false] at hc
    subst hc
    exact readLC_ok fun s k => by simp [fnR]
  · have f10 : fnR.int 10 [.string s, .int .i64 0] = ((digRun s 0 : Nat) : Int) := by simp [fnR]
    have E0 : ∀ i, (mkE fnR rows0 [k, m] [] [s] fun _ => undef).int i = [k, m].getD i 0 := fun _ => rfl
    have E1 : ∀ i, (mkE fnR rows0 [k, m] [] [s] fun _ => undef).str i = [s].getD i ⟨#[]⟩ := fun _ => rfl
    have E2 : (mkE fnR rows0 [k, m] [] [s] fun _ => undef).fns = fnR := rfl
    have f11 : ∀ u, fnR.int 11 [.string u] = atoiV u := fun _ => rfl
    have g11 : ∀ u, fnR.bool 11 [.string u] = atoiOk u := fun _ => rfl
    have s1 : ∀ a b, fnR.str 1 [.int .i64 a, .int .i64 b] = ordT a b := fun _ _ => rfl
    simp (config := { maxSteps := 2000000 }) (disch := omega) only [readT, val_leaf, val_node, val_need, pick_b, want_b, den_i, den_b, den_s, den_sv, den_t, denL_nil, denL_cons, Option.bind_some, i0, i2, i4, i5, i6, i10, i13z, i30s, i31, E0, E1, E2, getD_z, getD_s, Int.reduceToNat, f10, f11, g11, s1, decide_eq_true_eq, decide_eq_false_iff_not]
    rw [if_pos (by omega), if_pos (by omega), if_pos (by omega), if_pos (by omega), if_pos (by omega)]
    unfold readV readOk lead
    generalize bext s 0 (digRun s 0) = D
    by_cases h1 : atoiOk D = true
    · rw [if_pos h1, h1]
      by_cases h2 : atoiV D < 1
      · rw [if_pos h2, decide_eq_false (show ¬ 1 ≤ atoiV D by omega)]; rfl
      · rw [if_neg h2, decide_eq_true (show 1 ≤ atoiV D by omega)]
        by_cases h3 : m < atoiV D
        · rw [if_pos h3, decide_eq_false (show ¬ atoiV D ≤ m by omega)]; rfl
        · rw [if_neg h3, decide_eq_true (show atoiV D ≤ m by omega), if_pos (by omega), if_pos (by omega)]
          by_cases h4 : ordT k (atoiV D) = s
          · rw [if_pos h4, decide_eq_true h4]; rfl
          · rw [if_neg h4, decide_eq_false h4]; rfl
    · rw [if_neg h1, Bool.eq_false_iff.2 h1]; rfl
  · intro ρ hρ
    exact vr3 (vr_int hρ _ _ rfl) (vr_str hρ _ _ rfl) (vr_int hρ _ _ rfl)

/-- Read, at any text, as it is told. -/
def readGC : Ctr where
  f := 18
  sorts := [some (.int .i64), some .str, some (.int .i64)]
  wants l := match l with
    | [_, s, m] => [(sv 31 [.int .i64 1000000, slen s], false), (sv 31 [.int .i64 1000000000000, m], false)]
    | _ => []
  dec l := some (sv 5 (.int .i64 20 :: l))
  res b l := match l with
    | [_, s, _] => cond b (.tuple #[sv 4 [.int .i64 20, s], .bool true]) (.tuple #[.int .i64 0, .bool false])
    | _ => .bool false

theorem readGC_ok {FN : Fns} (h1 : ∀ k s m, FN.bool 20 [.int .i64 k, .string s, .int .i64 m] = readOk k s m) (h2 : ∀ s, FN.int 20 [.string s] = atoiV (lead s)) : CtrOk FN readGC := by
  intro S args q hF hs hw hq ρ args' w g hv hd _
  obtain ⟨a, b, c, rfl⟩ := sorts3 hs
  simp only [readGC, sortsOk, Bool.and_true, Bool.and_eq_true, decide_eq_true_eq] at hs
  obtain ⟨x, y, z, rfl, vx, vy, vz⟩ := vrs3_inv hv
  obtain ⟨k, rfl⟩ := HasS.of hs.1 vx
  obtain ⟨s, rfl⟩ := HasS.of hs.2.1 vy
  obtain ⟨m, rfl⟩ := HasS.of hs.2.2 vz
  simp only [readGC, List.mem_cons, List.not_mem_nil, or_false, forall_eq_or_imp, forall_eq] at hw
  have w1 := holds_lt g hw.1 (.int _ _) (slen_vr vy)
  have w2 := holds_lt g hw.2 (.int _ _) vz
  simp only [decide_eq_false_iff_not] at w1 w2
  have hsz : s.data.toList.length = s.size := by simp
  have hq' : q = readOk k s m := way_vr g hq (sv_vr (VRs.cons (.int _ _) (vr3 vx vy vz)) (by simp only [interp, g.fns, hF, Int.reduceToNat, h1]))
  refine (readG_any k m s (by omega) (by omega) w hd).mono fun e w' ⟨he, hb⟩ => ⟨_, he, ?_, hb⟩
  subst hq'
  unfold readV
  simp only [readGC]
  cases readOk k s m with
  | true => exact VR.tuple' (vr2 (sv_vr (vr2 (.int _ _) vy) (by simp only [interp, g.fns, hF, Int.reduceToNat, h2])) (.bool _))
  | false => exact VR.tuple' (vr2 (.int _ _) (.bool _))

/-- Chapter 7's Ordinal, as it is told. -/
def ordLC : Ctr := { ordC with f := 20 }

theorem ordLC_okG {FN : Fns} (h1 : ∀ k n, FN.str 1 [.int .i64 k, .int .i64 n] = ordT k n) : CtrOk FN ordLC := by
  intro S args q hF hs hw _ ρ args' w g hv hd _
  obtain ⟨a, b, rfl⟩ := sorts2 hs
  simp only [ordLC, ordC, sortsOk, Bool.and_true, Bool.and_eq_true, decide_eq_true_eq] at hs
  obtain ⟨x, y, rfl, vx, vy⟩ := vrs2_inv hv
  obtain ⟨k, rfl⟩ := HasS.of hs.1 vx
  obtain ⟨n, rfl⟩ := HasS.of hs.2 vy
  simp only [ordLC, ordC, List.mem_cons, List.not_mem_nil, or_false, forall_eq_or_imp, forall_eq] at hw
  have w1 := holds_lt g hw.1 vy (.int _ _)
  have w2 := holds_lt g hw.2 (.int _ _) vy
  simp only [decide_eq_false_iff_not] at w1 w2
  exact (ordL_any k n w hd.std (by omega) (by omega)).mono fun e w' ⟨he, hb⟩ => ⟨_, he, sv_vr (VRs.cons (.int _ _) (vr2 vx vy)) (by simp only [interp, g.fns, hF, Int.reduceToNat, h1]), hb⟩
end Go.Proofs.YthcfhmdoelpbdaaGreatDoor
