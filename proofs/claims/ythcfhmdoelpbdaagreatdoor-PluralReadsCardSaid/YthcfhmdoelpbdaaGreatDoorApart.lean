/- PluralApart, by the evaluator: what it is told. -/
import Derived.Test.YthcfhmdoelpbdaaGreatDoorOrdI
import Derived.Test.YthcfhmdoelpbdaaGreatDoorSyAw7
import Derived.Test.YthcfhmdoelpbdaaGreatDoorStdC
namespace Go.Proofs.YthcfhmdoelpbdaaGreatDoor
set_option linter.unusedVariables false
set_option linter.unusedSimpArgs false
open Go Go.Sy Go.RowKit

theorem sorts2 {s t : Option Srt} {args : List Value} (h : sortsOk [s, t] args = true) : ∃ a b, args = [a, b] := sorts2' h

/-! ### Contracts -/

def ordC : Ctr where
  f := 19
  sorts := [some (.int .i64), some (.int .i64)]
  wants l := match l with
    | [_, n] => [(sv 31 [n, .int .i64 0], false), (sv 31 [.int .i64 1000000000000, n], false)]
    | _ => []
  dec _ := none
  res _ l := sv 6 (.int .i64 1 :: l)

/-- Read, at an ordinal. -/
def readC : Ctr where
  f := 18
  sorts := [some (.int .i64), some .str, some (.int .i64)]
  wants l := match l with
    | [_, .func (.methodOf 6 _) ⟨[.int .i64 1, k, x]⟩ _, _] => cond (isI64 k && isI64 x) [(sv 31 [x, .int .i64 1], false), (sv 31 [.int .i64 1000000000000, x], false)] [(.bool false, true)]
    | _ => [(.bool false, true)]
  dec _ := none
  res _ l := match l with
    | [o, .func (.methodOf 6 _) ⟨[_, k, x]⟩ _, m] => .tuple #[sv 4 [.int .i64 2, o, k, x, m], sv 5 [.int .i64 2, o, k, x, m]]
    | _ => .bool false

/-- What functions hand back. -/
def fnA : Fns where
  int i l := match i, l with
    | 2, [.int _ o, .int _ k, .int _ x, .int _ m] => if x ≤ m ∧ ordT o x = ordT k x then x else 0
    | _, _ => 0
  bool i l := match i, l with
    | 2, [.int _ o, .int _ k, .int _ x, .int _ m] => decide (x ≤ m ∧ ordT o x = ordT k x)
    | _, _ => false
  str i l := match i, l with
    | 1, [.int _ k, .int _ n] => ordT k n
    | _, _ => ⟨#[]⟩
  val _ _ := .bool false

theorem ordC_ok : CtrOk fnA ordC := by
  intro S args q hF hs hw _ ρ args' w g hv hd _
  obtain ⟨a, b, rfl⟩ := sorts2 hs
  simp only [ordC, sortsOk, Bool.and_true, Bool.and_eq_true, decide_eq_true_eq] at hs
  obtain ⟨x, y, rfl, vx, vy⟩ := vrs2_inv hv
  obtain ⟨k, rfl⟩ := HasS.of hs.1 vx
  obtain ⟨n, rfl⟩ := HasS.of hs.2 vy
  simp only [ordC, List.mem_cons, List.not_mem_nil, or_false, forall_eq_or_imp, forall_eq] at hw
  have h1 := holds_lt g hw.1 vy (.int _ _)
  have h2 := holds_lt g hw.2 (.int _ _) vy
  simp only [decide_eq_false_iff_not] at h1 h2
  exact (ordP_any k n w hd.std (by omega) (by omega)).mono fun e w' ⟨he, hb⟩ => ⟨_, he, sv_vr (VRs.cons (.int _ _) (vr2 vx vy)) (by simp [interp, g.fns, hF, fnA]), hb⟩

theorem readC_ok : CtrOk fnA readC := by
  intro S args q hF hs hw _ ρ args' w g hv hd _
  obtain ⟨a, b, c, rfl⟩ := sorts3 hs
  simp only [readC, sortsOk, Bool.and_true, Bool.and_eq_true, decide_eq_true_eq] at hs
  obtain ⟨x, y, z, rfl, vx, vy, vz⟩ := vrs3_inv hv
  obtain ⟨o, rfl⟩ := HasS.of hs.1 vx
  obtain ⟨m, rfl⟩ := HasS.of hs.2.2 vz
  simp only [readC] at hw ⊢
  split at hw
  · rename_i h0
    simp only [List.cons.injEq, and_true] at h0
    obtain ⟨rfl, rfl, rfl⟩ := h0
    cases hq : (isI64 _ && isI64 _) with
    | false =>
      rw [hq] at hw
      simp only [cond_false, List.mem_cons, List.not_mem_nil, or_false, forall_eq] at hw
      simp [holds, truth] at hw
    | true =>
      rw [hq] at hw
      simp only [Bool.and_eq_true] at hq
      simp only [cond_true, List.mem_cons, List.not_mem_nil, or_false, forall_eq_or_imp, forall_eq] at hw
      obtain ⟨vs, hvs, hi⟩ := vy.sym_invL
      obtain ⟨y0, l0, rfl, c0, r0⟩ := hvs.cons_inv
      obtain ⟨y1, l1, rfl, c1, r1⟩ := r0.cons_inv
      obtain ⟨y2, l2, rfl, c2, r2⟩ := r1.cons_inv
      rw [r2.nil_inv] at hi
      cases c0
      obtain ⟨k, rfl⟩ := isI64_ok hq.1 c1
      obtain ⟨q, rfl⟩ := isI64_ok hq.2 c2
      have h1 := holds_lt g hw.1 c2 (.int _ _)
      have h2 := holds_lt g hw.2 (.int _ _) c2
      simp only [decide_eq_false_iff_not] at h1 h2
      simp only [interp, g.fns, hF, fnA, Option.some.injEq] at hi
      subst hi
      have v5 : VRs ρ [.int .i64 2, a, _, _, c] [.int .i64 2, .int .i64 o, .int .i64 k, .int .i64 q, .int .i64 m] := VRs.cons (.int _ _) (VRs.cons vx (vr3 c1 c2 vz))
      refine (readO_any o k m q w hd.std (by omega) (by omega)).mono fun e w' ⟨he, hb⟩ => ⟨_, he, ?_, hb⟩
      unfold readI
      by_cases hc : q ≤ m ∧ ordT o q = ordT k q
      · rw [if_pos hc]
        exact VR.tuple' (vr2 (sv_vr v5 (by simp [interp, g.fns, hF, fnA, hc])) (sv_vr v5 (by simp [interp, g.fns, hF, fnA, hc])))
      · rw [if_neg hc]
        exact VR.tuple' (vr2 (sv_vr v5 (by simp only [interp, g.fns, hF]; exact congrArg (fun z => some (Value.int .i64 z)) (if_neg hc))) (sv_vr v5 (by simp only [interp, g.fns, hF]; exact congrArg (fun z => some (Value.bool z)) (decide_eq_false hc))))
  · simp only [List.mem_cons, List.not_mem_nil, or_false, forall_eq] at hw
    simp [holds, truth] at hw

def apartT : Tree := (.need (sv 31 [(sv 20 [.int .i64 0, .int .i64 1, (sv 14 [.int .i64 0, (sv 0 [.int .u16 0])])]), .int .i64 0]) false (.need (sv 31 [.int .i64 1000000000000, (sv 20 [.int .i64 0, .int .i64 1, (sv 14 [.int .i64 0, (sv 0 [.int .u16 0])])])]) false (.need (sv 31 [(sv 20 [.int .i64 0, .int .i64 1, (sv 14 [.int .i64 0, (sv 0 [.int .u16 0])])]), .int .i64 1]) false (.need (sv 31 [(sv 20 [.int .i64 0, .int .i64 1, (sv 14 [.int .i64 0, (sv 0 [.int .u16 1])])]), .int .i64 0]) false (.need (sv 31 [.int .i64 1000000000000, (sv 20 [.int .i64 0, .int .i64 1, (sv 14 [.int .i64 0, (sv 0 [.int .u16 1])])])]) false (.node (sv 30 [(sv 30 [(sv 6 [.int .i64 1, (sv 14 [.int .i64 0, (sv 24 [.int .u8 0, (sv 0 [.int .u8 2]), .int .u8 3])]), (sv 20 [.int .i64 0, .int .i64 1, (sv 14 [.int .i64 0, (sv 0 [.int .u16 0])])])]), (sv 6 [.int .i64 1, (sv 14 [.int .i64 0, (sv 24 [.int .u8 0, (sv 0 [.int .u8 2]), .int .u8 3])]), (sv 20 [.int .i64 0, .int .i64 1, (sv 14 [.int .i64 0, (sv 0 [.int .u16 1])])])])]), (sv 30 [(sv 20 [.int .i64 0, .int .i64 1, (sv 14 [.int .i64 0, (sv 0 [.int .u16 0])])]), (sv 20 [.int .i64 0, .int .i64 1, (sv 14 [.int .i64 0, (sv 0 [.int .u16 1])])])])])
  (.node (sv 5 [.int .i64 2, (sv 14 [.int .i64 0, (sv 24 [.int .u8 0, (sv 0 [.int .u8 3]), .int .u8 3])]), (sv 14 [.int .i64 0, (sv 24 [.int .u8 0, (sv 0 [.int .u8 2]), .int .u8 3])]), (sv 20 [.int .i64 0, .int .i64 1, (sv 14 [.int .i64 0, (sv 0 [.int .u16 0])])]), .int .i64 70000])
  (.node (sv 30 [(sv 4 [.int .i64 2, (sv 14 [.int .i64 0, (sv 24 [.int .u8 0, (sv 0 [.int .u8 3]), .int .u8 3])]), (sv 14 [.int .i64 0, (sv 24 [.int .u8 0, (sv 0 [.int .u8 2]), .int .u8 3])]), (sv 20 [.int .i64 0, .int .i64 1, (sv 14 [.int .i64 0, (sv 0 [.int .u16 0])])]), .int .i64 70000]), (sv 20 [.int .i64 0, .int .i64 1, (sv 14 [.int .i64 0, (sv 0 [.int .u16 0])])])])
  (.node (sv 30 [(sv 14 [.int .i64 0, (sv 24 [.int .u8 0, (sv 0 [.int .u8 2]), .int .u8 3])]), (sv 14 [.int .i64 0, (sv 24 [.int .u8 0, (sv 0 [.int .u8 3]), .int .u8 3])])])
  (.leaf ((sv 5 [.int .i64 2, (sv 14 [.int .i64 0, (sv 24 [.int .u8 0, (sv 0 [.int .u8 3]), .int .u8 3])]), (sv 14 [.int .i64 0, (sv 24 [.int .u8 0, (sv 0 [.int .u8 2]), .int .u8 3])]), (sv 20 [.int .i64 0, .int .i64 1, (sv 14 [.int .i64 0, (sv 0 [.int .u16 0])])]), .int .i64 70000])))
  (.leaf (.bool true)))
  (.leaf (.bool false)))
  (.node (sv 30 [(sv 14 [.int .i64 0, (sv 24 [.int .u8 0, (sv 0 [.int .u8 2]), .int .u8 3])]), (sv 14 [.int .i64 0, (sv 24 [.int .u8 0, (sv 0 [.int .u8 3]), .int .u8 3])])])
  (.leaf ((sv 5 [.int .i64 2, (sv 14 [.int .i64 0, (sv 24 [.int .u8 0, (sv 0 [.int .u8 3]), .int .u8 3])]), (sv 14 [.int .i64 0, (sv 24 [.int .u8 0, (sv 0 [.int .u8 2]), .int .u8 3])]), (sv 20 [.int .i64 0, .int .i64 1, (sv 14 [.int .i64 0, (sv 0 [.int .u16 0])])]), .int .i64 70000])))
  (.leaf (.bool true))))
  (.leaf (.bool false))))))))

theorem walk_PluralApart (a0 a1 a2 a3 : Int) (w0 : (Lit.int .u16 a0).wf = true) (w1 : (Lit.int .u16 a1).wf = true) (w2 : (Lit.int .u8 a2).wf = true) (w3 : (Lit.int .u8 a3).wf = true) (w : World) (hs : Wld w) :
    Calls Tryz.prog 5 #[.int .u16 a0, .int .u16 a1, .int .u8 a2, .int .u8 a3] w fun e w' => e = .returned (.bool true) ∧ Below w.heap.size w w' := by
  have b0 := bounds_u16 w0
  have b1 := bounds_u16 w1
  have b2 := bounds_u8 w2
  have b3 := bounds_u8 w3
  refine tree_any (FN := fnA) (cs := [awC 13, ordC, readC]) (args := [sv 0 [.int .u16 0], sv 0 [.int .u16 1], sv 0 [.int .u8 2], sv 0 [.int .u8 3]]) (T := apartT) (F0 := []) (E := mkE fnA rows0 [a0, a1, a2, a3] [] [] fun _ => undef) ?_ (fun _ _ _ _ => by kernel_rfl) (by intro p hp; cases hp) rfl rfl ?_ ?_ hs
  · intro c hc
    simp only [List.mem_cons, List.not_mem_nil, or_false] at hc
    rcases hc with rfl | rfl | rfl
    · exact awC_ok aw7 fnA
    · exact ordC_ok
    · exact readC_ok
  · simp (disch := omega) only [apartT, val_leaf, val_node, val_need, pick_b, want_b, den_i, den_b, den_s, den_sv, den_t, denL_nil, denL_cons, Option.bind_some, i0, i1, i2, i4, i5, i6, i8, i10, i14, i15, i17, i18, i20, i21, i22, i23, i24, i30, i30s, i30b, i31, wr64, mk_int, mk_fns, getD_z, getD_s, Int.reduceToNat, ↓reduceIte, Int.reduceEq, reduceCtorEq, Int.tmod_eq_emod_of_nonneg, decide_eq_true_eq, decide_eq_false_iff_not]
    have hK : decide (ordT (a2 % 3) (1 + a0) = ordT (a2 % 3) (1 + a1)) = decide (1 + a0 = 1 + a1) := by
      rw [decide_eq_decide]
      exact ⟨fun h => ordT_inj (by omega) (by omega) h, fun h => by rw [h]⟩
    simp only [fnA, hK, beq_self_eq_true, if_true]
    rw [if_pos (by omega), if_pos (by omega), if_pos (by omega), if_pos (by omega), if_pos (by omega)]
    by_cases hq : ordT (a3 % 3) (1 + a0) = ordT (a2 % 3) (1 + a0)
    · simp only [hq, and_true]
      rw [if_pos (by simp; omega), if_pos (by rw [if_pos (by omega)])]
      split
      · simp; omega
      · rfl
    · simp only [hq, and_false, decide_false, Bool.false_eq_true, if_false]
      split
      · rename_i he; rw [he] at hq; exact absurd rfl hq
      · rfl
  · intro ρ hρ
    refine VRs.cons ?_ (vr3 ?_ ?_ ?_) <;> exact vr_int hρ _ _ rfl
end Go.Proofs.YthcfhmdoelpbdaaGreatDoor
