/- The loop of kalendslaw02.Make that takes up weekdays. -/
import Derived.Test.YthpapjdjnnkdbaaGreatDoorMkHB
import Derived.Test.YthpapjdjnnkdbaaGreatDoorNthC
namespace Go.Proofs.YthpapjdjnnkdbaaGreatDoor
set_option linter.unusedVariables false
set_option linter.unusedSimpArgs false
open Go Go.Sy Go.RowKit

def cellsP (l : List (Int × Int)) : List Value := l.flatMap fun p => [Value.int .i64 p.1, Value.int .i64 p.2]

/-- .. 106: is a weekday in a row? 107: sorted; 108: may they be sorted so? 113: Make's weekdays. -/
structure FnN (FN : Fns) : Prop where
  cont : ∀ l a b, FN.bool 106 [prs .i64 .i64 l, .int .i64 a, .int .i64 b] = decide ((a, b) ∈ l)
  sort : ∀ l, FN.lst 107 [prs .i64 .i64 l] = cellsP (l.mergeSort fun a b => decide (¬ wdCmp b a < 0))
  may : ∀ l, FN.bool 108 [prs .i64 .i64 l] = l.all fun x => decide (-100 ≤ x.1 ∧ x.1 ≤ 100 ∧ 0 ≤ x.2 ∧ x.2 ≤ 6)

def wdX (m : Int) (x : Int × Int) : Int × Int := ((IntKind.i64.wrap x.1).tmod (m + 1), x.2.tmod 7)
def wdsX (m : Int) (l : List (Int × Int)) : List (Int × Int) := l.foldl (fun acc w => if wdX m w ∈ acc then acc else acc ++ [wdX m w]) []
theorem wdsX_snoc (m : Int) (l : List (Int × Int)) (w : Int × Int) : wdsX m (l ++ [w]) = if wdX m w ∈ wdsX m l then wdsX m l else wdsX m l ++ [wdX m w] := by
  simp only [wdsX, List.foldl_append, List.foldl_cons, List.foldl_nil]
  rfl
theorem wdsX_len (m : Int) (l : List (Int × Int)) : (wdsX m l).length ≤ l.length := by
  have key : ∀ (l acc : List (Int × Int)), (l.foldl (fun acc w => if wdX m w ∈ acc then acc else acc ++ [wdX m w]) acc).length ≤ acc.length + l.length := by
    intro l
    induction l with
    | nil => intro acc; simp
    | cons a r ih =>
      intro acc
      simp only [List.foldl_cons, List.length_cons]
      refine Nat.le_trans (ih _) ?_
      split
      · omega
      · simp; omega
  have := key l []
  rw [List.length_nil, Nat.zero_add] at this
  exact this
theorem wdsX_nil {m : Int} {l : List (Int × Int)} (h : wdsX m l = []) : l = [] := by
  rcases List.eq_nil_or_concat l with rfl | ⟨r, w, rfl⟩
  · rfl
  · rw [List.concat_eq_append, wdsX_snoc] at h
    split at h
    · rename_i hm; rw [h] at hm; cases hm
    · simp at h

def mkCSh : List Shape := [⟨[(3, nmB 0), (103, nmR 1), (104, lfi .i64 7), (105, lfi .i64 8), (9, lfi .i64 9)], [.box [lfi .i64 0, lfi .i64 1, lfi .i64 2, lfi .i64 3, specL 0 4, specL 0 5, .slice none 0 0, .slice none 0 0] 39 true 0, .row [.int .i8, .int .u8] 6], 10⟩, ⟨[(3, nmB 0), (103, nmR 1), (104, lfi .i64 7), (105, lfi .i64 8), (9, lfi .i64 9)], [.box [lfi .i64 0, lfi .i64 1, lfi .i64 2, lfi .i64 3, specL 0 4, specL 0 5, nmR 2, .slice none 0 0] 39 true 0, .row [.int .i8, .int .u8] 6, .own [.int .i64, .int .i64] 23 10], 11⟩]
def mkCFi : List Shape := [⟨[(3, nmB 0)], [.box [lfi .i64 0, lfi .i64 1, lfi .i64 2, lfi .i64 3, specL 0 4, specL 0 5, .slice none 0 0, .slice none 0 0] 39 true 0], 6⟩, ⟨[(3, nmB 0)], [.box [lfi .i64 0, lfi .i64 1, lfi .i64 2, lfi .i64 3, specL 0 4, specL 0 5, nmR 1, .slice none 0 0] 39 true 0, .own [.int .i64, .int .i64] 23 6], 7⟩]
def mkCK : List Nat := [3, 9, 11, 12, 103, 104, 105, 106, 107, 108, 109, 110, 111, 112, 113, 114, 115, 116, 117, 118, 119, 120, 121, 122, 123, 124, 125, 126, 127, 128, 129, 130, 131]
def mkCT0 : HTree := (.node (sv 31 [(sv 0 [.int .i64 8]), (sv 0 [.int .i64 7])])
  (.need (sv 31 [(sv 0 [.int .i64 8]), .int .i64 0]) false (.need (sv 31 [(sv 0 [.int .i64 8]), (sv 74 [(sv 98 [.int .i64 1000006]), .int .i64 2])]) true (.need (sv 30 [(sv 20 [.int .i64 0, (sv 0 [.int .i64 9]), .int .i64 1]), .int .i64 0]) false (.leaf .normal 1 [(sv 0 [.int .i64 0]), (sv 0 [.int .i64 1]), (sv 0 [.int .i64 2]), (sv 0 [.int .i64 3]), (sv 98 [.int .i64 1000004]), (sv 98 [.int .i64 1000005]), (sv 98 [.int .i64 1000006]), (sv 0 [.int .i64 7]), (sv 20 [.int .i64 0, (sv 0 [.int .i64 8]), .int .i64 1]), (sv 0 [.int .i64 9]), .agg #[(sv 24 [.int .i64 0, (sv 14 [.int .i64 0, (sv 72 [.int .i8 0, (sv 98 [.int .i64 1000006]), (sv 0 [.int .i64 8]), .int .i64 2, .int .i64 0])]), (sv 20 [.int .i64 0, (sv 0 [.int .i64 9]), .int .i64 1])]), (sv 14 [.int .i64 0, (sv 24 [.int .u8 0, (sv 72 [.int .u8 0, (sv 98 [.int .i64 1000006]), (sv 0 [.int .i64 8]), .int .i64 2, .int .i64 1]), .int .u8 7])])]]))))
  (.leaf (.exit 5) 0 [(sv 0 [.int .i64 0]), (sv 0 [.int .i64 1]), (sv 0 [.int .i64 2]), (sv 0 [.int .i64 3]), (sv 98 [.int .i64 1000004]), (sv 98 [.int .i64 1000005])]))
def mkCT1 : HTree := (.node (sv 31 [(sv 0 [.int .i64 8]), (sv 0 [.int .i64 7])])
  (.need (sv 31 [(sv 0 [.int .i64 8]), .int .i64 0]) false (.need (sv 31 [(sv 0 [.int .i64 8]), (sv 74 [(sv 98 [.int .i64 1000006]), .int .i64 2])]) true (.need (sv 30 [(sv 20 [.int .i64 0, (sv 0 [.int .i64 9]), .int .i64 1]), .int .i64 0]) false (.need (sv 31 [(sv 74 [(sv 98 [.int .i64 1000010]), .int .i64 2]), .int .i64 16777216]) true (.node (sv 5 [.int .i64 106, (sv 98 [.int .i64 1000010]), (sv 24 [.int .i64 0, (sv 14 [.int .i64 0, (sv 72 [.int .i8 0, (sv 98 [.int .i64 1000006]), (sv 0 [.int .i64 8]), .int .i64 2, .int .i64 0])]), (sv 20 [.int .i64 0, (sv 0 [.int .i64 9]), .int .i64 1])]), (sv 14 [.int .i64 0, (sv 24 [.int .u8 0, (sv 72 [.int .u8 0, (sv 98 [.int .i64 1000006]), (sv 0 [.int .i64 8]), .int .i64 2, .int .i64 1]), .int .u8 7])])])
  (.leaf .normal 1 [(sv 0 [.int .i64 0]), (sv 0 [.int .i64 1]), (sv 0 [.int .i64 2]), (sv 0 [.int .i64 3]), (sv 98 [.int .i64 1000004]), (sv 98 [.int .i64 1000005]), (sv 98 [.int .i64 1000006]), (sv 0 [.int .i64 7]), (sv 20 [.int .i64 0, (sv 0 [.int .i64 8]), .int .i64 1]), (sv 0 [.int .i64 9]), (sv 98 [.int .i64 1000010])])
  (.leaf .normal 1 [(sv 0 [.int .i64 0]), (sv 0 [.int .i64 1]), (sv 0 [.int .i64 2]), (sv 0 [.int .i64 3]), (sv 98 [.int .i64 1000004]), (sv 98 [.int .i64 1000005]), (sv 98 [.int .i64 1000006]), (sv 0 [.int .i64 7]), (sv 20 [.int .i64 0, (sv 0 [.int .i64 8]), .int .i64 1]), (sv 0 [.int .i64 9]), (sv 76 [(sv 98 [.int .i64 1000010]), (sv 24 [.int .i64 0, (sv 14 [.int .i64 0, (sv 72 [.int .i8 0, (sv 98 [.int .i64 1000006]), (sv 0 [.int .i64 8]), .int .i64 2, .int .i64 0])]), (sv 20 [.int .i64 0, (sv 0 [.int .i64 9]), .int .i64 1])]), (sv 14 [.int .i64 0, (sv 24 [.int .u8 0, (sv 72 [.int .u8 0, (sv 98 [.int .i64 1000006]), (sv 0 [.int .i64 8]), .int .i64 2, .int .i64 1]), .int .u8 7])])])]))))))
  (.leaf (.exit 5) 1 [(sv 0 [.int .i64 0]), (sv 0 [.int .i64 1]), (sv 0 [.int .i64 2]), (sv 0 [.int .i64 3]), (sv 98 [.int .i64 1000004]), (sv 98 [.int .i64 1000005]), (sv 98 [.int .i64 1000010])]))
def mkCLoop : HLCtr where
  f := 7
  p := 32762
  nt := 164
  nb := 1
  nl := 10
  ins := [(3, nmB 0), (103, nmR 1), (104, lfi .i64 7), (105, lfi .i64 8), (9, lfi .i64 9)]
  objs := [.box [lfi .i64 0, lfi .i64 1, lfi .i64 2, lfi .i64 3, specL 0 4, specL 0 5, .slice none 0 0, .slice none 0 0] 39 true 0, .row [.int .i8, .int .u8] 6]
  srts := [some (.int .i64), some (.int .i64), some (.int .i64), some (.int .i64), none, none, none, some (.int .i64), some (.int .i64), some (.int .i64)]
  wants := [(sv 30 [lfi .i64 8, .int .i64 0], true), (sv 30 [lfi .i64 7, sv 74 [specL 0 6, .int .i64 2]], true), (sv 31 [sv 74 [specL 0 6, .int .i64 2], .int .i64 1001], true), (sv 31 [lfi .i64 9, .int .i64 0], false), (sv 31 [lfi .i64 9, .int .i64 1001], true)]
  dec := some (sv 30 [lfi .i64 7, .int .i64 0])
  ex _ := .exit 5
  tmps _ := [3]
  out b := cond b ⟨[nmB 0], [.box [lfi .i64 0, lfi .i64 1, lfi .i64 2, lfi .i64 3, specL 0 4, specL 0 5, .slice none 0 0, .slice none 0 0] 39 true 0], [lfi .i64 0, lfi .i64 1, lfi .i64 2, lfi .i64 3, specL 0 4, specL 0 5]⟩ ⟨[nmB 0], [.box [lfi .i64 0, lfi .i64 1, lfi .i64 2, lfi .i64 3, specL 0 4, specL 0 5, nmR 1, .slice none 0 0] 39 true 0, .own [.int .i64, .int .i64] 23 6], [lfi .i64 0, lfi .i64 1, lfi .i64 2, lfi .i64 3, specL 0 4, specL 0 5, sv 81 [.int .i64 113, specL 0 6, lfi .i64 9]]⟩
  kills := mkCK

structure mkCS where
  u0 : Int
  u1 : Int
  u2 : Int
  u3 : Int
  v4 : Value
  v5 : Value
  l : List (Int × Int)
  m : Int
  i : Nat
  acc : List (Int × Int)

def mkCS.st (s : mkCS) : List Value := [.int .i64 s.u0, .int .i64 s.u1, .int .i64 s.u2, .int .i64 s.u3, s.v4, s.v5, prs .i8 .u8 s.l, .int .i64 (s.l.length : Int), .int .i64 (s.i : Int), .int .i64 s.m] ++ (match s.acc with | [] => [] | _ => [prs .i64 .i64 s.acc])

def toldC : Tolds := ⟨[], [containsN], [], [], []⟩

def mkCR {FN : Fns} (hF : FnN FN) : RoundH FN 164 mkCSh mkCFi [mkCT0, mkCT1] [[], []] mkCS where
  sh s := match s.acc with | [] => 0 | _ => 1
  st s := s.st
  Inv s := s.acc = wdsX s.m (s.l.take s.i) ∧ s.i ≤ s.l.length ∧ s.l.length ≤ 1000 ∧ 0 ≤ s.m ∧ s.m ≤ 1000
  μ s := s.l.length - s.i
  fin s := match wdsX s.m s.l with | [] => (.exit 5, 0, [.int .i64 s.u0, .int .i64 s.u1, .int .i64 s.u2, .int .i64 s.u3, s.v4, s.v5]) | a :: r => (.exit 5, 1, [.int .i64 s.u0, .int .i64 s.u1, .int .i64 s.u2, .int .i64 s.u3, s.v4, s.v5, prs .i64 .i64 (a :: r)])
  step V s hI := by
    obtain ⟨u0, u1, u2, u3, v4, v5, l, m, i, acc⟩ := s
    obtain ⟨h1, h2, h3, h4, h5⟩ := hI
    simp only at h1 h2 h3 h4 h5
    cases acc with
    | nil =>
      refine ⟨mkCT0, [], ?_⟩
      have P0 : (envL FN V 164 (mkCS.st ⟨u0, u1, u2, u3, v4, v5, l, m, i, []⟩)).int 0 = u0 := rfl
      have P1 : (envL FN V 164 (mkCS.st ⟨u0, u1, u2, u3, v4, v5, l, m, i, []⟩)).int 1 = u1 := rfl
      have P2 : (envL FN V 164 (mkCS.st ⟨u0, u1, u2, u3, v4, v5, l, m, i, []⟩)).int 2 = u2 := rfl
      have P3 : (envL FN V 164 (mkCS.st ⟨u0, u1, u2, u3, v4, v5, l, m, i, []⟩)).int 3 = u3 := rfl
      have P4 : (envL FN V 164 (mkCS.st ⟨u0, u1, u2, u3, v4, v5, l, m, i, []⟩)).val 1000004 = v4 := rfl
      have P5 : (envL FN V 164 (mkCS.st ⟨u0, u1, u2, u3, v4, v5, l, m, i, []⟩)).val 1000005 = v5 := rfl
      have E0 : (envL FN V 164 (mkCS.st ⟨u0, u1, u2, u3, v4, v5, l, m, i, []⟩)).val 1000006 = prs .i8 .u8 l := rfl
      have E1 : (envL FN V 164 (mkCS.st ⟨u0, u1, u2, u3, v4, v5, l, m, i, []⟩)).int 7 = (l.length : Int) := rfl
      have E2 : (envL FN V 164 (mkCS.st ⟨u0, u1, u2, u3, v4, v5, l, m, i, []⟩)).int 8 = (i : Int) := rfl
      have E9 : (envL FN V 164 (mkCS.st ⟨u0, u1, u2, u3, v4, v5, l, m, i, []⟩)).int 9 = m := rfl
      generalize hE : envL FN V 164 (mkCS.st ⟨u0, u1, u2, u3, v4, v5, l, m, i, []⟩) = E at *
      by_cases hk : i < l.length
      · obtain ⟨x, hx⟩ : ∃ x, l[i]? = some x := ⟨_, List.getElem?_eq_getElem hk⟩
        have c1 : (i : Int) < (l.length : Int) := by omega
        have c2 : ¬ (i : Int) < 0 := by omega
        have c3 : ¬ (m + 1 = 0) := by omega
        have hm := Int.tmod_lt_of_pos x.2 (b := 7) (by decide)
        have hm2 := Int.lt_tmod_of_pos x.2 (b := 7) (by decide)
        have hval : mkCT0.val E = some (.normal, 1, [.int .i64 u0, .int .i64 u1, .int .i64 u2, .int .i64 u3, v4, v5, prs .i8 .u8 l, .int .i64 l.length, .int .i64 ((i : Int) + 1), .int .i64 m, prs .i64 .i64 [wdX m x]]) := by
          simp (disch := omega) only [mkCT0, wdX, HTree.val, pickC, wantC, den_i, den_b, den_s, den_sv, den_ag, denL_nil, denL_cons, Option.bind_some, i0, i5, i14, i20, i21, i24, i30, i31, i74p, i76p, i81, i98, Int.reduceToNat, decide_true, decide_false, if_true, if_false, decide_eq_true_eq, Bool.false_eq_true, ↓reduceIte, reduceCtorEq, Int.reduceEq, i72p0 hx, i72p1 hx, E0, E1, E2, E9, P0, P1, P2, P3, P4, P5, wr64, c1, c2, c3]
          rfl
        rw [hval]
        have hsn : wdsX m (l.take (i + 1)) = [wdX m x] := by rw [take_snoc hx, wdsX_snoc, ← h1]; simp
        exact ⟨_, _, _, rfl, rfl, (fun p hp => by cases hp), rfl, .inl ⟨rfl, ⟨u0, u1, u2, u3, v4, v5, l, m, i + 1, [wdX m x]⟩, ⟨hsn.symm, hk, h3, h4, h5⟩, by simp only; omega, rfl, rfl, rfl⟩⟩
      · have c1 : ¬ (i : Int) < (l.length : Int) := by omega
        have hval : mkCT0.val E = some (.exit 5, 0, [.int .i64 u0, .int .i64 u1, .int .i64 u2, .int .i64 u3, v4, v5]) := by
          simp (disch := omega) only [mkCT0, HTree.val, pickC, wantC, den_i, den_b, den_s, den_sv, den_ag, denL_nil, denL_cons, Option.bind_some, i0, i5, i14, i20, i21, i24, i30, i31, i74p, i76p, i81, i98, Int.reduceToNat, decide_true, decide_false, if_true, if_false, decide_eq_true_eq, Bool.false_eq_true, ↓reduceIte, reduceCtorEq, Int.reduceEq, E0, E1, E2, E9, P0, P1, P2, P3, P4, P5, wr64, c1]
        rw [hval]
        have hi : i = l.length := by omega
        rw [hi, List.take_length] at h1
        refine ⟨_, _, _, rfl, rfl, (fun p hp => by cases hp), rfl, .inr ⟨by simp, ?_⟩⟩
        simp only [← h1]
    | cons a0 r0 =>
      refine ⟨mkCT1, [], ?_⟩
      obtain ⟨acc, hacc⟩ : ∃ acc, acc = a0 :: r0 := ⟨_, rfl⟩
      have P0 : (envL FN V 164 (mkCS.st ⟨u0, u1, u2, u3, v4, v5, l, m, i, a0 :: r0⟩)).int 0 = u0 := rfl
      have P1 : (envL FN V 164 (mkCS.st ⟨u0, u1, u2, u3, v4, v5, l, m, i, a0 :: r0⟩)).int 1 = u1 := rfl
      have P2 : (envL FN V 164 (mkCS.st ⟨u0, u1, u2, u3, v4, v5, l, m, i, a0 :: r0⟩)).int 2 = u2 := rfl
      have P3 : (envL FN V 164 (mkCS.st ⟨u0, u1, u2, u3, v4, v5, l, m, i, a0 :: r0⟩)).int 3 = u3 := rfl
      have P4 : (envL FN V 164 (mkCS.st ⟨u0, u1, u2, u3, v4, v5, l, m, i, a0 :: r0⟩)).val 1000004 = v4 := rfl
      have P5 : (envL FN V 164 (mkCS.st ⟨u0, u1, u2, u3, v4, v5, l, m, i, a0 :: r0⟩)).val 1000005 = v5 := rfl
      have E0 : (envL FN V 164 (mkCS.st ⟨u0, u1, u2, u3, v4, v5, l, m, i, a0 :: r0⟩)).val 1000006 = prs .i8 .u8 l := rfl
      have E1 : (envL FN V 164 (mkCS.st ⟨u0, u1, u2, u3, v4, v5, l, m, i, a0 :: r0⟩)).int 7 = (l.length : Int) := rfl
      have E2 : (envL FN V 164 (mkCS.st ⟨u0, u1, u2, u3, v4, v5, l, m, i, a0 :: r0⟩)).int 8 = (i : Int) := rfl
      have E9 : (envL FN V 164 (mkCS.st ⟨u0, u1, u2, u3, v4, v5, l, m, i, a0 :: r0⟩)).int 9 = m := rfl
      have E3 : (envL FN V 164 (mkCS.st ⟨u0, u1, u2, u3, v4, v5, l, m, i, a0 :: r0⟩)).val 1000010 = prs .i64 .i64 acc := by rw [hacc]; rfl
      have E5 : (envL FN V 164 (mkCS.st ⟨u0, u1, u2, u3, v4, v5, l, m, i, a0 :: r0⟩)).fns = FN := rfl
      generalize hE : envL FN V 164 (mkCS.st ⟨u0, u1, u2, u3, v4, v5, l, m, i, a0 :: r0⟩) = E at *
      rw [← hacc] at h1
      by_cases hk : i < l.length
      · obtain ⟨x, hx⟩ : ∃ x, l[i]? = some x := ⟨_, List.getElem?_eq_getElem hk⟩
        have c1 : (i : Int) < (l.length : Int) := by omega
        have c2 : ¬ (i : Int) < 0 := by omega
        have c3 : ¬ (m + 1 = 0) := by omega
        have hm := Int.tmod_lt_of_pos x.2 (b := 7) (by decide)
        have hm2 := Int.lt_tmod_of_pos x.2 (b := 7) (by decide)
        have hal : acc.length ≤ i := by
          have := wdsX_len m (l.take i)
          rw [← h1] at this
          have h6 : (l.take i).length ≤ i := by simp; omega
          omega
        have c4 : (acc.length : Int) < 16777216 := by omega
        have hval : mkCT1.val E = if wdX m x ∈ acc then some (.normal, 1, [.int .i64 u0, .int .i64 u1, .int .i64 u2, .int .i64 u3, v4, v5, prs .i8 .u8 l, .int .i64 l.length, .int .i64 ((i : Int) + 1), .int .i64 m, prs .i64 .i64 acc]) else some (.normal, 1, [.int .i64 u0, .int .i64 u1, .int .i64 u2, .int .i64 u3, v4, v5, prs .i8 .u8 l, .int .i64 l.length, .int .i64 ((i : Int) + 1), .int .i64 m, prs .i64 .i64 (acc ++ [wdX m x])]) := by
          simp (disch := omega) only [mkCT1, wdX, HTree.val, pickC, wantC, den_i, den_b, den_s, den_sv, den_ag, denL_nil, denL_cons, Option.bind_some, i0, i5, i14, i20, i21, i24, i30, i31, i74p, i76p, i81, i98, Int.reduceToNat, decide_true, decide_false, if_true, if_false, decide_eq_true_eq, Bool.false_eq_true, ↓reduceIte, reduceCtorEq, Int.reduceEq, i72p0 hx, i72p1 hx, E0, E1, E2, E3, E5, E9, P0, P1, P2, P3, P4, P5, hF.cont, wr64, c1, c2, c3, c4]
          rfl
        rw [hval]
        have hsn : wdsX m (l.take (i + 1)) = if wdX m x ∈ acc then acc else acc ++ [wdX m x] := by rw [take_snoc hx, wdsX_snoc, ← h1]
        by_cases hm : wdX m x ∈ acc
        · rw [if_pos hm] at hsn ⊢
          exact ⟨_, _, _, rfl, rfl, (fun p hp => by cases hp), rfl, .inl ⟨rfl, ⟨u0, u1, u2, u3, v4, v5, l, m, i + 1, acc⟩, ⟨hsn.symm, hk, h3, h4, h5⟩, by simp only; omega, rfl, by rw [hacc], by rw [hacc]; rfl⟩⟩
        · rw [if_neg hm] at hsn ⊢
          exact ⟨_, _, _, rfl, rfl, (fun p hp => by cases hp), rfl, .inl ⟨rfl, ⟨u0, u1, u2, u3, v4, v5, l, m, i + 1, acc ++ [wdX m x]⟩, ⟨hsn.symm, hk, h3, h4, h5⟩, by simp only; omega, rfl, by rw [hacc]; rfl, by rw [hacc]; rfl⟩⟩
      · have c1 : ¬ (i : Int) < (l.length : Int) := by omega
        have hval : mkCT1.val E = some (.exit 5, 1, [.int .i64 u0, .int .i64 u1, .int .i64 u2, .int .i64 u3, v4, v5, prs .i64 .i64 acc]) := by
          simp (disch := omega) only [mkCT1, HTree.val, pickC, wantC, den_i, den_b, den_s, den_sv, den_ag, denL_nil, denL_cons, Option.bind_some, i0, i5, i14, i20, i21, i24, i30, i31, i74p, i76p, i81, i98, Int.reduceToNat, decide_true, decide_false, if_true, if_false, decide_eq_true_eq, Bool.false_eq_true, ↓reduceIte, reduceCtorEq, Int.reduceEq, E0, E1, E2, E3, E9, P0, P1, P2, P3, P4, P5, wr64, c1]
        rw [hval]
        have hi : i = l.length := by omega
        rw [hi, List.take_length] at h1
        refine ⟨_, _, _, rfl, rfl, (fun p hp => by cases hp), rfl, .inr ⟨by simp, ?_⟩⟩
        simp only [← h1, hacc]

theorem mkCRounds {FN : Fns} : RoundsOk FN toldC 7 32762 164 1 mkCSh mkCFi mkCK [mkCT0, mkCT1] [[], []] := fun t1 t2 t3 t4 => by kernel_rfl

theorem mkCLoop_ok {FN : Fns} (hF : FnN FN) (hW : ∀ l m, FN.lst 113 [prs .i8 .u8 l, .int .i64 m] = cellsP (wdsX m l)) (hc : GCtrOk FN containsN) : HLOk FN mkCLoop := by
  refine hlok_of (T := toldC) ⟨fun c h => (by cases h), fun c h => (by simp only [toldC, List.mem_cons, List.not_mem_nil, or_false] at h; subst h; exact hc), fun c h => (by cases h), fun c h => (by cases h), fun c h => (by cases h)⟩ (by kernel_rfl) (by decide) mkCRounds (mkCR hF) 0 rfl (fun b => cond b 0 1) (fun b => cond b 6 7) (fun q => ?_) fun V ls q hlen hleaf hrow hask => ?_
  · cases q <;> exact ⟨rfl, rfl, by decide⟩
  · obtain ⟨v0, hv0, hR⟩ := hrow 1 6 [.int .i8, .int .u8] (.inl rfl) (by rw [hlen]; decide)
    obtain ⟨l, rfl⟩ := hasR_prs hR
    match ls, hlen with
    | [a0, a1, a2, a3, v4, v5, a6, a7, a8, a9], _ =>
      simp only [List.getElem?_cons_zero, List.getElem?_cons_succ, Option.some.injEq] at hv0
      subst hv0
      obtain ⟨u0, rfl⟩ := hleaf 0 _ _ rfl rfl
      obtain ⟨u1, rfl⟩ := hleaf 1 _ _ rfl rfl
      obtain ⟨u2, rfl⟩ := hleaf 2 _ _ rfl rfl
      obtain ⟨u3, rfl⟩ := hleaf 3 _ _ rfl rfl
      obtain ⟨n, rfl⟩ := hleaf 7 _ _ rfl rfl
      obtain ⟨i, rfl⟩ := hleaf 8 _ _ rfl rfl
      obtain ⟨m, rfl⟩ := hleaf 9 _ _ rfl rfl
      have P0 : (envL FN V 164 [.int .i64 u0, .int .i64 u1, .int .i64 u2, .int .i64 u3, v4, v5, prs .i8 .u8 l, .int .i64 n, .int .i64 i, .int .i64 m]).int 0 = u0 := rfl
      have P1 : (envL FN V 164 [.int .i64 u0, .int .i64 u1, .int .i64 u2, .int .i64 u3, v4, v5, prs .i8 .u8 l, .int .i64 n, .int .i64 i, .int .i64 m]).int 1 = u1 := rfl
      have P2 : (envL FN V 164 [.int .i64 u0, .int .i64 u1, .int .i64 u2, .int .i64 u3, v4, v5, prs .i8 .u8 l, .int .i64 n, .int .i64 i, .int .i64 m]).int 2 = u2 := rfl
      have P3 : (envL FN V 164 [.int .i64 u0, .int .i64 u1, .int .i64 u2, .int .i64 u3, v4, v5, prs .i8 .u8 l, .int .i64 n, .int .i64 i, .int .i64 m]).int 3 = u3 := rfl
      have P4 : (envL FN V 164 [.int .i64 u0, .int .i64 u1, .int .i64 u2, .int .i64 u3, v4, v5, prs .i8 .u8 l, .int .i64 n, .int .i64 i, .int .i64 m]).val 1000004 = v4 := rfl
      have P5 : (envL FN V 164 [.int .i64 u0, .int .i64 u1, .int .i64 u2, .int .i64 u3, v4, v5, prs .i8 .u8 l, .int .i64 n, .int .i64 i, .int .i64 m]).val 1000005 = v5 := rfl
      have E0 : (envL FN V 164 [.int .i64 u0, .int .i64 u1, .int .i64 u2, .int .i64 u3, v4, v5, prs .i8 .u8 l, .int .i64 n, .int .i64 i, .int .i64 m]).val 1000006 = prs .i8 .u8 l := rfl
      have E1 : (envL FN V 164 [.int .i64 u0, .int .i64 u1, .int .i64 u2, .int .i64 u3, v4, v5, prs .i8 .u8 l, .int .i64 n, .int .i64 i, .int .i64 m]).int 7 = n := rfl
      have E2 : (envL FN V 164 [.int .i64 u0, .int .i64 u1, .int .i64 u2, .int .i64 u3, v4, v5, prs .i8 .u8 l, .int .i64 n, .int .i64 i, .int .i64 m]).int 8 = i := rfl
      have E9 : (envL FN V 164 [.int .i64 u0, .int .i64 u1, .int .i64 u2, .int .i64 u3, v4, v5, prs .i8 .u8 l, .int .i64 n, .int .i64 i, .int .i64 m]).int 9 = m := rfl
      have E5 : (envL FN V 164 [.int .i64 u0, .int .i64 u1, .int .i64 u2, .int .i64 u3, v4, v5, prs .i8 .u8 l, .int .i64 n, .int .i64 i, .int .i64 m]).fns = FN := rfl
      have hask' : Asked (envL FN V 164 [.int .i64 u0, .int .i64 u1, .int .i64 u2, .int .i64 u3, v4, v5, prs .i8 .u8 l, .int .i64 n, .int .i64 i, .int .i64 m]) mkCLoop.wants mkCLoop.dec q := hask
      have goal2 : ∀ b, denL (den (envL FN V 164 [.int .i64 u0, .int .i64 u1, .int .i64 u2, .int .i64 u3, v4, v5, prs .i8 .u8 l, .int .i64 n, .int .i64 i, .int .i64 m]) 40) (mkCLoop.out b).exprs = some (cond b [.int .i64 u0, .int .i64 u1, .int .i64 u2, .int .i64 u3, v4, v5] [.int .i64 u0, .int .i64 u1, .int .i64 u2, .int .i64 u3, v4, v5, prs .i64 .i64 (wdsX m l)]) := fun b => by
        cases b <;> simp only [mkCLoop, cond_false, cond_true, HTree.val, pickC, wantC, den_i, den_b, den_s, den_sv, den_ag, denL_nil, denL_cons, Option.bind_some, i0, i5, i14, i20, i21, i24, i30, i31, i74p, i76p, i81, i98, Int.reduceToNat, decide_true, decide_false, if_true, if_false, decide_eq_true_eq, Bool.false_eq_true, ↓reduceIte, reduceCtorEq, Int.reduceEq, specL, lfi, E0, E1, E5, E9, P0, P1, P2, P3, P4, P5, Nat.reduceAdd, hW, Int.toNat_natCast] <;> rfl
      generalize hE : envL FN V 164 [.int .i64 u0, .int .i64 u1, .int .i64 u2, .int .i64 u3, v4, v5, prs .i8 .u8 l, .int .i64 n, .int .i64 i, .int .i64 m] = E at *
      have w1 := asked_facts hask' (e := sv 30 [lfi .i64 8, .int .i64 0]) (b := true) (by simp [mkCLoop]) (c := decide (i = 0)) (by simp only [lfi, Int.toNat_natCast, HTree.val, pickC, wantC, den_i, den_b, den_s, den_sv, den_ag, denL_nil, denL_cons, Option.bind_some, i0, i5, i14, i20, i21, i24, i30, i31, i74p, i76p, i81, i98, Int.reduceToNat, decide_true, decide_false, if_true, if_false, decide_eq_true_eq, Bool.false_eq_true, ↓reduceIte, reduceCtorEq, Int.reduceEq, E2])
      have w2 := asked_facts hask' (e := sv 30 [lfi .i64 7, sv 74 [specL 0 6, .int .i64 2]]) (b := true) (by simp [mkCLoop]) (c := decide (n = (l.length : Int))) (by simp only [lfi, specL, Nat.reduceAdd, Int.toNat_natCast, HTree.val, pickC, wantC, den_i, den_b, den_s, den_sv, den_ag, denL_nil, denL_cons, Option.bind_some, i0, i5, i14, i20, i21, i24, i30, i31, i74p, i76p, i81, i98, Int.reduceToNat, decide_true, decide_false, if_true, if_false, decide_eq_true_eq, Bool.false_eq_true, ↓reduceIte, reduceCtorEq, Int.reduceEq, E0, E1])
      have w3 := asked_facts hask' (e := sv 31 [sv 74 [specL 0 6, .int .i64 2], .int .i64 1001]) (b := true) (by simp [mkCLoop]) (c := decide ((l.length : Int) < 1001)) (by simp only [lfi, specL, Nat.reduceAdd, Int.toNat_natCast, HTree.val, pickC, wantC, den_i, den_b, den_s, den_sv, den_ag, denL_nil, denL_cons, Option.bind_some, i0, i5, i14, i20, i21, i24, i30, i31, i74p, i76p, i81, i98, Int.reduceToNat, decide_true, decide_false, if_true, if_false, decide_eq_true_eq, Bool.false_eq_true, ↓reduceIte, reduceCtorEq, Int.reduceEq, E0])
      have w4 := asked_facts hask' (e := sv 31 [lfi .i64 9, .int .i64 0]) (b := false) (by simp [mkCLoop]) (c := decide (m < 0)) (by simp only [lfi, Int.toNat_natCast, HTree.val, pickC, wantC, den_i, den_b, den_s, den_sv, den_ag, denL_nil, denL_cons, Option.bind_some, i0, i5, i14, i20, i21, i24, i30, i31, i74p, i76p, i81, i98, Int.reduceToNat, decide_true, decide_false, if_true, if_false, decide_eq_true_eq, Bool.false_eq_true, ↓reduceIte, reduceCtorEq, Int.reduceEq, E9])
      have w5 := asked_facts hask' (e := sv 31 [lfi .i64 9, .int .i64 1001]) (b := true) (by simp [mkCLoop]) (c := decide (m < 1001)) (by simp only [lfi, Int.toNat_natCast, HTree.val, pickC, wantC, den_i, den_b, den_s, den_sv, den_ag, denL_nil, denL_cons, Option.bind_some, i0, i5, i14, i20, i21, i24, i30, i31, i74p, i76p, i81, i98, Int.reduceToNat, decide_true, decide_false, if_true, if_false, decide_eq_true_eq, Bool.false_eq_true, ↓reduceIte, reduceCtorEq, Int.reduceEq, E9])
      have w6 := asked_dec (e := sv 30 [lfi .i64 7, .int .i64 0]) hask' (c := decide (n = 0)) (by simp only [lfi, Int.toNat_natCast, HTree.val, pickC, wantC, den_i, den_b, den_s, den_sv, den_ag, denL_nil, denL_cons, Option.bind_some, i0, i5, i14, i20, i21, i24, i30, i31, i74p, i76p, i81, i98, Int.reduceToNat, decide_true, decide_false, if_true, if_false, decide_eq_true_eq, Bool.false_eq_true, ↓reduceIte, reduceCtorEq, Int.reduceEq, E1])
      simp only [decide_eq_true_eq, decide_eq_false_iff_not] at w1 w2 w3 w4 w5
      subst w1; subst w2
      have h7 : decide ((l.length : Int) = 0) = (wdsX m l).isEmpty := by
        cases l with
        | nil => rfl
        | cons a r =>
          rw [decide_eq_false (by simp only [List.length_cons]; omega)]
          cases h : wdsX m (a :: r) with
          | nil => cases wdsX_nil h
          | cons => rfl
      rw [h7] at w6
      refine ⟨⟨u0, u1, u2, u3, v4, v5, l, m, 0, []⟩, ⟨rfl, Nat.zero_le _, by simp only; omega, by simp only; omega, by simp only; omega⟩, rfl, rfl, ?_, ?_, ?_⟩
      · simp only [mkCR]; split <;> rfl
      · simp only [mkCR]
        rw [← w6]
        split <;> rename_i h <;> rw [h] <;> rfl
      · have h6 : some (cond q [.int .i64 u0, .int .i64 u1, .int .i64 u2, .int .i64 u3, v4, v5] [.int .i64 u0, .int .i64 u1, .int .i64 u2, .int .i64 u3, v4, v5, prs .i64 .i64 (wdsX m l)]) = some (((mkCR hF).fin ⟨u0, u1, u2, u3, v4, v5, l, m, 0, []⟩).2.2) := by
          rw [← w6]
          simp only [mkCR]
          split <;> rename_i h <;> rw [h] <;> rfl
        rw [← h6, ← goal2 q, ← hE]
        rfl

end Go.Proofs.YthpapjdjnnkdbaaGreatDoor
