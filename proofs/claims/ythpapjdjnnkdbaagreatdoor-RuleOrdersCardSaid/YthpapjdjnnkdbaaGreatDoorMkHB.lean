/- MkHX: joined of MkHB, MkHA. -/
import Derived.Test.YthpapjdjnnkdbaaGreatDoorFewF

/- The loops of kalendslaw02.Make that append. -/
namespace Go.Proofs.YthpapjdjnnkdbaaGreatDoor
set_option linter.unusedVariables false
set_option linter.unusedSimpArgs false
open Go Go.Sy Go.RowKit

def mkBSh : List Shape := [⟨[(78, nmR 0), (79, lfi .i64 1), (80, lfi .i64 2), (6, .slice none 0 0)], [.row [.int .i8] 0], 3⟩, ⟨[(78, nmR 0), (79, lfi .i64 1), (80, lfi .i64 2), (6, nmR 1)], [.row [.int .i8] 0, .own [.int .i64] 3 3], 4⟩]
def mkBFi : List Shape := [⟨[(6, nmR 0)], [.row [.int .i64] 0], 1⟩]
def mkBK : List Nat := [6, 8, 78, 79, 80, 81, 82, 83, 84, 85, 86, 87, 88, 89]
def mkBT0 : HTree := (.node (sv 31 [(sv 0 [.int .i64 2]), (sv 0 [.int .i64 1])])
  (.need (sv 31 [(sv 0 [.int .i64 2]), .int .i64 0]) false (.need (sv 31 [(sv 0 [.int .i64 2]), (sv 74 [(sv 98 [.int .i64 1000000]), .int .i64 1])]) true (.leaf .normal 1 [(sv 98 [.int .i64 1000000]), (sv 0 [.int .i64 1]), (sv 20 [.int .i64 0, (sv 0 [.int .i64 2]), .int .i64 1]), .agg #[(sv 14 [.int .i64 0, (sv 72 [.int .i8 0, (sv 98 [.int .i64 1000000]), (sv 0 [.int .i64 2]), .int .i64 1, .int .i64 0])])]])))
  (.leaf (.exit 3) 0 [.agg #[]]))
def mkBT1 : HTree := (.node (sv 31 [(sv 0 [.int .i64 2]), (sv 0 [.int .i64 1])])
  (.need (sv 31 [(sv 0 [.int .i64 2]), .int .i64 0]) false (.need (sv 31 [(sv 0 [.int .i64 2]), (sv 74 [(sv 98 [.int .i64 1000000]), .int .i64 1])]) true (.need (sv 31 [(sv 74 [(sv 98 [.int .i64 1000003]), .int .i64 1]), .int .i64 16777216]) true (.leaf .normal 1 [(sv 98 [.int .i64 1000000]), (sv 0 [.int .i64 1]), (sv 20 [.int .i64 0, (sv 0 [.int .i64 2]), .int .i64 1]), (sv 76 [(sv 98 [.int .i64 1000003]), (sv 14 [.int .i64 0, (sv 72 [.int .i8 0, (sv 98 [.int .i64 1000000]), (sv 0 [.int .i64 2]), .int .i64 1, .int .i64 0])])])]))))
  (.leaf (.exit 3) 0 [(sv 98 [.int .i64 1000003])]))
def mkBLoop : HLCtr where
  f := 7
  p := 4090
  nt := 164
  nb := 0
  nl := 3
  ins := [(78, nmR 0), (79, lfi .i64 1), (80, lfi .i64 2), (6, .slice none 0 0)]
  objs := [.row [.int .i8] 0]
  srts := [none, some (.int .i64), some (.int .i64)]
  wants := [(sv 30 [lfi .i64 2, .int .i64 0], true), (sv 30 [lfi .i64 1, sv 74 [specL 164 0, .int .i64 1]], true), (sv 31 [sv 74 [specL 164 0, .int .i64 1], .int .i64 1001], true)]
  dec := none
  ex _ := .exit 3
  tmps _ := [6]
  out b := ⟨[nmR 0], [.row [.int .i64] 0], [sv 81 [.int .i64 111, specL 164 0]]⟩
  kills := mkBK

structure mkBS where
  l : List Int
  i : Nat
  acc : List Int

def mkBS.st (s : mkBS) : List Value := [ints .i8 s.l, .int .i64 (s.l.length : Int), .int .i64 (s.i : Int)] ++ (match s.acc with | [] => [] | _ => [ints .i64 s.acc])
def mkBF (x : Int) : Int := IntKind.i64.wrap x
def mkBR {FN : Fns} : RoundH FN 164 mkBSh mkBFi [mkBT0, mkBT1] [[], []] mkBS where
  sh s := match s.acc with | [] => 0 | _ => 1
  st s := s.st
  Inv s := s.acc = (s.l.take s.i).map mkBF ∧ s.i ≤ s.l.length ∧ s.l.length ≤ 1000
  μ s := s.l.length - s.i
  fin s := (.exit 3, 0, [ints .i64 (s.l.map mkBF)])
  step V s hI := by
    obtain ⟨l, i, acc⟩ := s
    obtain ⟨h1, h2, h3⟩ := hI
    simp only at h1 h2 h3
    cases acc with
    | nil =>
      refine ⟨mkBT0, [], ?_⟩
      have E0 : (envL FN V 164 (mkBS.st ⟨l, i, []⟩)).val 1000000 = ints .i8 l := rfl
      have E1 : (envL FN V 164 (mkBS.st ⟨l, i, []⟩)).int 1 = (l.length : Int) := rfl
      have E2 : (envL FN V 164 (mkBS.st ⟨l, i, []⟩)).int 2 = (i : Int) := rfl
      generalize hE : envL FN V 164 (mkBS.st ⟨l, i, []⟩) = E at *
      by_cases hk : i < l.length
      · obtain ⟨x, hx⟩ : ∃ x, l[i]? = some x := ⟨_, List.getElem?_eq_getElem hk⟩
        have c1 : (i : Int) < (l.length : Int) := by omega
        have c2 : ¬ (i : Int) < 0 := by omega
        have hsn : (l.take (i + 1)).map mkBF = [mkBF x] := by rw [take_snoc hx, List.map_append, ← h1]; rfl
        have hval : mkBT0.val E = some (.normal, 1, [ints .i8 l, .int .i64 l.length, .int .i64 ((i : Int) + 1), ints .i64 [mkBF x]]) := by
          skip
          simp (disch := omega) only [mkBT0, mkBF, HTree.val, pickC, wantC, den_i, den_b, den_s, den_sv, den_ag, denL_nil, denL_cons, Option.bind_some, i0, i5, i14, i20, i21, i24, i30, i31, i74i, i76i, i98, Int.reduceToNat, decide_true, decide_false, if_true, if_false, decide_eq_true_eq, Bool.false_eq_true, ↓reduceIte, reduceCtorEq, Int.reduceEq, i72i hx, E0, E1, E2, wr64, c1, c2]
          rfl
        rw [hval]
        exact ⟨_, _, _, rfl, rfl, (fun p hp => by cases hp), rfl, .inl ⟨rfl, ⟨l, i + 1, [mkBF x]⟩, ⟨hsn.symm, hk, h3⟩, by simp only; omega, rfl, rfl, rfl⟩⟩
      · have c1 : ¬ (i : Int) < (l.length : Int) := by omega
        have hi : i = l.length := by omega
        rw [hi, List.take_length] at h1
        have hl : l = [] := List.map_eq_nil_iff.1 h1.symm
        have hval : mkBT0.val E = some (.exit 3, 0, [ints .i64 []]) := by
          simp (disch := omega) only [mkBT0, HTree.val, pickC, wantC, den_i, den_b, den_s, den_sv, den_ag, denL_nil, denL_cons, Option.bind_some, i0, i5, i14, i20, i21, i24, i30, i31, i74i, i76i, i98, Int.reduceToNat, decide_true, decide_false, if_true, if_false, decide_eq_true_eq, Bool.false_eq_true, ↓reduceIte, reduceCtorEq, Int.reduceEq, E0, E1, E2, wr64, c1]
          rfl
        rw [hval]
        refine ⟨_, _, _, rfl, rfl, (fun p hp => by cases hp), rfl, .inr ⟨by simp, ?_⟩⟩
        subst hl
        rfl
    | cons a0 r0 =>
      refine ⟨mkBT1, [], ?_⟩
      obtain ⟨acc, hacc⟩ : ∃ acc, acc = a0 :: r0 := ⟨_, rfl⟩
      have E0 : (envL FN V 164 (mkBS.st ⟨l, i, a0 :: r0⟩)).val 1000000 = ints .i8 l := rfl
      have E1 : (envL FN V 164 (mkBS.st ⟨l, i, a0 :: r0⟩)).int 1 = (l.length : Int) := rfl
      have E2 : (envL FN V 164 (mkBS.st ⟨l, i, a0 :: r0⟩)).int 2 = (i : Int) := rfl
      have E3 : (envL FN V 164 (mkBS.st ⟨l, i, a0 :: r0⟩)).val 1000003 = ints .i64 acc := by rw [hacc]; rfl
      generalize hE : envL FN V 164 (mkBS.st ⟨l, i, a0 :: r0⟩) = E at *
      rw [← hacc] at h1
      by_cases hk : i < l.length
      · obtain ⟨x, hx⟩ : ∃ x, l[i]? = some x := ⟨_, List.getElem?_eq_getElem hk⟩
        have c1 : (i : Int) < (l.length : Int) := by omega
        have c2 : ¬ (i : Int) < 0 := by omega
        have c4 : (acc.length : Int) < 16777216 := by rw [h1]; simp; omega
        have hsn : (l.take (i + 1)).map mkBF = acc ++ [mkBF x] := by rw [take_snoc hx, List.map_append, ← h1]; rfl
        have hval : mkBT1.val E = some (.normal, 1, [ints .i8 l, .int .i64 l.length, .int .i64 ((i : Int) + 1), ints .i64 (acc ++ [mkBF x])]) := by
          skip
          simp (disch := omega) only [mkBT1, mkBF, HTree.val, pickC, wantC, den_i, den_b, den_s, den_sv, den_ag, denL_nil, denL_cons, Option.bind_some, i0, i5, i14, i20, i21, i24, i30, i31, i74i, i76i, i98, Int.reduceToNat, decide_true, decide_false, if_true, if_false, decide_eq_true_eq, Bool.false_eq_true, ↓reduceIte, reduceCtorEq, Int.reduceEq, i72i hx, E0, E1, E2, E3, wr64, c1, c2, c4]
        rw [hval]
        exact ⟨_, _, _, rfl, rfl, (fun p hp => by cases hp), rfl, .inl ⟨rfl, ⟨l, i + 1, acc ++ [mkBF x]⟩, ⟨hsn.symm, hk, h3⟩, by simp only; omega, rfl, by rw [hacc]; rfl, by rw [hacc]; rfl⟩⟩
      · have c1 : ¬ (i : Int) < (l.length : Int) := by omega
        have hval : mkBT1.val E = some (.exit 3, 0, [ints .i64 acc]) := by
          simp (disch := omega) only [mkBT1, HTree.val, pickC, wantC, den_i, den_b, den_s, den_sv, den_ag, denL_nil, denL_cons, Option.bind_some, i0, i5, i14, i20, i21, i24, i30, i31, i74i, i76i, i98, Int.reduceToNat, decide_true, decide_false, if_true, if_false, decide_eq_true_eq, Bool.false_eq_true, ↓reduceIte, reduceCtorEq, Int.reduceEq, E0, E1, E2, E3, wr64, c1]
        rw [hval]
        have hi : i = l.length := by omega
        rw [hi, List.take_length] at h1
        refine ⟨_, _, _, rfl, rfl, (fun p hp => by cases hp), rfl, .inr ⟨by simp, ?_⟩⟩
        simp only [h1]

theorem mkBRounds {FN : Fns} : RoundsOk FN ⟨[], [], [], [], []⟩ 7 4090 164 0 mkBSh mkBFi mkBK [mkBT0, mkBT1] [[], []] := fun t1 t2 t3 t4 => by kernel_rfl

theorem mkBLoop_ok {FN : Fns} (hF : ∀ l, FN.lst 111 [ints .i8 l] = (l.map mkBF).map (Value.int .i64)) : HLOk FN mkBLoop := by
  refine hlok_of (T := ⟨[], [], [], [], []⟩) ⟨fun c h => (by cases h), fun c h => (by cases h), fun c h => (by cases h), fun c h => (by cases h), fun c h => (by cases h)⟩ (by kernel_rfl) (by decide) mkBRounds mkBR 0 rfl (fun b => 0) (fun b => 1) (fun q => ?_) fun V ls q hlen hleaf hrow hask => ?_
  · cases q <;> exact ⟨rfl, rfl, by decide⟩
  · obtain ⟨v0, hv0, hR⟩ := hrow 0 0 [.int .i8] (.inl rfl) (by rw [hlen]; decide)
    obtain ⟨l, rfl⟩ := hasR_ints hR
    match ls, hlen with
    | [a0, a1, a2], _ =>
      simp only [List.getElem?_cons_zero, List.getElem?_cons_succ, Option.some.injEq] at hv0
      subst hv0
      obtain ⟨n, rfl⟩ := hleaf 1 _ _ rfl rfl
      obtain ⟨i, rfl⟩ := hleaf 2 _ _ rfl rfl

      have E0 : (envL FN V 164 [ints .i8 l, .int .i64 n, .int .i64 i]).val 1000000 = ints .i8 l := rfl
      have E1 : (envL FN V 164 [ints .i8 l, .int .i64 n, .int .i64 i]).int 1 = n := rfl
      have E2 : (envL FN V 164 [ints .i8 l, .int .i64 n, .int .i64 i]).int 2 = i := rfl
      have E5 : (envL FN V 164 [ints .i8 l, .int .i64 n, .int .i64 i]).fns = FN := rfl
      have hask' : Asked (envL FN V 164 [ints .i8 l, .int .i64 n, .int .i64 i]) mkBLoop.wants mkBLoop.dec q := hask
      have goal2 : ∀ b, denL (den (envL FN V 164 [ints .i8 l, .int .i64 n, .int .i64 i]) 40) (mkBLoop.out b).exprs = some ([ints .i64 (l.map mkBF)]) := fun b => by
        cases b <;> simp only [mkBLoop, cond_false, cond_true, HTree.val, pickC, wantC, den_i, den_b, den_s, den_sv, den_ag, denL_nil, denL_cons, Option.bind_some, i0, i5, i14, i20, i21, i24, i30, i31, i74i, i76i, i98, Int.reduceToNat, decide_true, decide_false, if_true, if_false, decide_eq_true_eq, Bool.false_eq_true, ↓reduceIte, reduceCtorEq, Int.reduceEq, specL, lfi, i81, E0, E1, E5, Nat.reduceAdd, hF, Int.toNat_natCast] <;> rfl
      generalize hE : envL FN V 164 [ints .i8 l, .int .i64 n, .int .i64 i] = E at *
      have w1 := asked_facts hask' (e := sv 30 [lfi .i64 2, .int .i64 0]) (b := true) (by simp [mkBLoop]) (c := decide (i = 0)) (by simp only [lfi, Int.toNat_natCast, HTree.val, pickC, wantC, den_i, den_b, den_s, den_sv, den_ag, denL_nil, denL_cons, Option.bind_some, i0, i5, i14, i20, i21, i24, i30, i31, i74i, i76i, i98, Int.reduceToNat, decide_true, decide_false, if_true, if_false, decide_eq_true_eq, Bool.false_eq_true, ↓reduceIte, reduceCtorEq, Int.reduceEq, E2])
      have w2 := asked_facts hask' (e := sv 30 [lfi .i64 1, sv 74 [specL 164 0, .int .i64 1]]) (b := true) (by simp [mkBLoop]) (c := decide (n = (l.length : Int))) (by simp only [lfi, specL, Nat.reduceAdd, Int.toNat_natCast, HTree.val, pickC, wantC, den_i, den_b, den_s, den_sv, den_ag, denL_nil, denL_cons, Option.bind_some, i0, i5, i14, i20, i21, i24, i30, i31, i74i, i76i, i98, Int.reduceToNat, decide_true, decide_false, if_true, if_false, decide_eq_true_eq, Bool.false_eq_true, ↓reduceIte, reduceCtorEq, Int.reduceEq, E0, E1])
      have w3 := asked_facts hask' (e := sv 31 [sv 74 [specL 164 0, .int .i64 1], .int .i64 1001]) (b := true) (by simp [mkBLoop]) (c := decide ((l.length : Int) < 1001)) (by simp only [lfi, specL, Nat.reduceAdd, Int.toNat_natCast, HTree.val, pickC, wantC, den_i, den_b, den_s, den_sv, den_ag, denL_nil, denL_cons, Option.bind_some, i0, i5, i14, i20, i21, i24, i30, i31, i74i, i76i, i98, Int.reduceToNat, decide_true, decide_false, if_true, if_false, decide_eq_true_eq, Bool.false_eq_true, ↓reduceIte, reduceCtorEq, Int.reduceEq, E0])

      simp only [decide_eq_true_eq, decide_eq_false_iff_not] at w1 w2 w3
      subst w1; subst w2
      refine ⟨⟨l, 0, []⟩, ⟨rfl, Nat.zero_le _, by simp only; omega⟩, rfl, rfl, ?_, ?_, ?_⟩
      · simp only [mkBR]; first | rfl | (split <;> rfl)
      · rfl
      · exact (show _ = _ from by rw [← hE] at goal2; exact goal2 q)

def mkDSh : List Shape := [⟨[(148, nmR 0), (149, lfi .i64 1), (150, lfi .i64 2), (6, .slice none 0 0)], [.row [.int .i16] 0], 3⟩, ⟨[(148, nmR 0), (149, lfi .i64 1), (150, lfi .i64 2), (6, nmR 1)], [.row [.int .i16] 0, .own [.int .i64] 3 3], 4⟩]
def mkDFi : List Shape := [⟨[(6, nmR 0)], [.row [.int .i64] 0], 1⟩]
def mkDK : List Nat := [6, 14, 148, 149, 150, 151, 152, 153, 154, 155, 156, 157, 158, 159]
def mkDT0 : HTree := (.node (sv 31 [(sv 0 [.int .i64 2]), (sv 0 [.int .i64 1])])
  (.need (sv 31 [(sv 0 [.int .i64 2]), .int .i64 0]) false (.need (sv 31 [(sv 0 [.int .i64 2]), (sv 74 [(sv 98 [.int .i64 1000000]), .int .i64 1])]) true (.leaf .normal 1 [(sv 98 [.int .i64 1000000]), (sv 0 [.int .i64 1]), (sv 20 [.int .i64 0, (sv 0 [.int .i64 2]), .int .i64 1]), .agg #[(sv 14 [.int .i64 0, (sv 72 [.int .i16 0, (sv 98 [.int .i64 1000000]), (sv 0 [.int .i64 2]), .int .i64 1, .int .i64 0])])]])))
  (.leaf (.exit 7) 0 [.agg #[]]))
def mkDT1 : HTree := (.node (sv 31 [(sv 0 [.int .i64 2]), (sv 0 [.int .i64 1])])
  (.need (sv 31 [(sv 0 [.int .i64 2]), .int .i64 0]) false (.need (sv 31 [(sv 0 [.int .i64 2]), (sv 74 [(sv 98 [.int .i64 1000000]), .int .i64 1])]) true (.need (sv 31 [(sv 74 [(sv 98 [.int .i64 1000003]), .int .i64 1]), .int .i64 16777216]) true (.leaf .normal 1 [(sv 98 [.int .i64 1000000]), (sv 0 [.int .i64 1]), (sv 20 [.int .i64 0, (sv 0 [.int .i64 2]), .int .i64 1]), (sv 76 [(sv 98 [.int .i64 1000003]), (sv 14 [.int .i64 0, (sv 72 [.int .i16 0, (sv 98 [.int .i64 1000000]), (sv 0 [.int .i64 2]), .int .i64 1, .int .i64 0])])])]))))
  (.leaf (.exit 7) 0 [(sv 98 [.int .i64 1000003])]))
def mkDLoop : HLCtr where
  f := 7
  p := 2097066
  nt := 164
  nb := 0
  nl := 3
  ins := [(148, nmR 0), (149, lfi .i64 1), (150, lfi .i64 2), (6, .slice none 0 0)]
  objs := [.row [.int .i16] 0]
  srts := [none, some (.int .i64), some (.int .i64)]
  wants := [(sv 30 [lfi .i64 2, .int .i64 0], true), (sv 30 [lfi .i64 1, sv 74 [specL 164 0, .int .i64 1]], true), (sv 31 [sv 74 [specL 164 0, .int .i64 1], .int .i64 1001], true)]
  dec := none
  ex _ := .exit 7
  tmps _ := [6]
  out b := ⟨[nmR 0], [.row [.int .i64] 0], [sv 81 [.int .i64 112, specL 164 0]]⟩
  kills := mkDK

structure mkDS where
  l : List Int
  i : Nat
  acc : List Int

def mkDS.st (s : mkDS) : List Value := [ints .i16 s.l, .int .i64 (s.l.length : Int), .int .i64 (s.i : Int)] ++ (match s.acc with | [] => [] | _ => [ints .i64 s.acc])
def mkDF (x : Int) : Int := IntKind.i64.wrap x
def mkDR {FN : Fns} : RoundH FN 164 mkDSh mkDFi [mkDT0, mkDT1] [[], []] mkDS where
  sh s := match s.acc with | [] => 0 | _ => 1
  st s := s.st
  Inv s := s.acc = (s.l.take s.i).map mkDF ∧ s.i ≤ s.l.length ∧ s.l.length ≤ 1000
  μ s := s.l.length - s.i
  fin s := (.exit 7, 0, [ints .i64 (s.l.map mkDF)])
  step V s hI := by
    obtain ⟨l, i, acc⟩ := s
    obtain ⟨h1, h2, h3⟩ := hI
    simp only at h1 h2 h3
    cases acc with
    | nil =>
      refine ⟨mkDT0, [], ?_⟩
      have E0 : (envL FN V 164 (mkDS.st ⟨l, i, []⟩)).val 1000000 = ints .i16 l := rfl
      have E1 : (envL FN V 164 (mkDS.st ⟨l, i, []⟩)).int 1 = (l.length : Int) := rfl
      have E2 : (envL FN V 164 (mkDS.st ⟨l, i, []⟩)).int 2 = (i : Int) := rfl
      generalize hE : envL FN V 164 (mkDS.st ⟨l, i, []⟩) = E at *
      by_cases hk : i < l.length
      · obtain ⟨x, hx⟩ : ∃ x, l[i]? = some x := ⟨_, List.getElem?_eq_getElem hk⟩
        have c1 : (i : Int) < (l.length : Int) := by omega
        have c2 : ¬ (i : Int) < 0 := by omega
        have hsn : (l.take (i + 1)).map mkDF = [mkDF x] := by rw [take_snoc hx, List.map_append, ← h1]; rfl
        have hval : mkDT0.val E = some (.normal, 1, [ints .i16 l, .int .i64 l.length, .int .i64 ((i : Int) + 1), ints .i64 [mkDF x]]) := by
          skip
          simp (disch := omega) only [mkDT0, mkDF, HTree.val, pickC, wantC, den_i, den_b, den_s, den_sv, den_ag, denL_nil, denL_cons, Option.bind_some, i0, i5, i14, i20, i21, i24, i30, i31, i74i, i76i, i98, Int.reduceToNat, decide_true, decide_false, if_true, if_false, decide_eq_true_eq, Bool.false_eq_true, ↓reduceIte, reduceCtorEq, Int.reduceEq, i72i hx, E0, E1, E2, wr64, c1, c2]
          rfl
        rw [hval]
        exact ⟨_, _, _, rfl, rfl, (fun p hp => by cases hp), rfl, .inl ⟨rfl, ⟨l, i + 1, [mkDF x]⟩, ⟨hsn.symm, hk, h3⟩, by simp only; omega, rfl, rfl, rfl⟩⟩
      · have c1 : ¬ (i : Int) < (l.length : Int) := by omega
        have hi : i = l.length := by omega
        rw [hi, List.take_length] at h1
        have hl : l = [] := List.map_eq_nil_iff.1 h1.symm
        have hval : mkDT0.val E = some (.exit 7, 0, [ints .i64 []]) := by
          simp (disch := omega) only [mkDT0, HTree.val, pickC, wantC, den_i, den_b, den_s, den_sv, den_ag, denL_nil, denL_cons, Option.bind_some, i0, i5, i14, i20, i21, i24, i30, i31, i74i, i76i, i98, Int.reduceToNat, decide_true, decide_false, if_true, if_false, decide_eq_true_eq, Bool.false_eq_true, ↓reduceIte, reduceCtorEq, Int.reduceEq, E0, E1, E2, wr64, c1]
          rfl
        rw [hval]
        refine ⟨_, _, _, rfl, rfl, (fun p hp => by cases hp), rfl, .inr ⟨by simp, ?_⟩⟩
        subst hl
        rfl
    | cons a0 r0 =>
      refine ⟨mkDT1, [], ?_⟩
      obtain ⟨acc, hacc⟩ : ∃ acc, acc = a0 :: r0 := ⟨_, rfl⟩
      have E0 : (envL FN V 164 (mkDS.st ⟨l, i, a0 :: r0⟩)).val 1000000 = ints .i16 l := rfl
      have E1 : (envL FN V 164 (mkDS.st ⟨l, i, a0 :: r0⟩)).int 1 = (l.length : Int) := rfl
      have E2 : (envL FN V 164 (mkDS.st ⟨l, i, a0 :: r0⟩)).int 2 = (i : Int) := rfl
      have E3 : (envL FN V 164 (mkDS.st ⟨l, i, a0 :: r0⟩)).val 1000003 = ints .i64 acc := by rw [hacc]; rfl
      generalize hE : envL FN V 164 (mkDS.st ⟨l, i, a0 :: r0⟩) = E at *
      rw [← hacc] at h1
      by_cases hk : i < l.length
      · obtain ⟨x, hx⟩ : ∃ x, l[i]? = some x := ⟨_, List.getElem?_eq_getElem hk⟩
        have c1 : (i : Int) < (l.length : Int) := by omega
        have c2 : ¬ (i : Int) < 0 := by omega
        have c4 : (acc.length : Int) < 16777216 := by rw [h1]; simp; omega
        have hsn : (l.take (i + 1)).map mkDF = acc ++ [mkDF x] := by rw [take_snoc hx, List.map_append, ← h1]; rfl
        have hval : mkDT1.val E = some (.normal, 1, [ints .i16 l, .int .i64 l.length, .int .i64 ((i : Int) + 1), ints .i64 (acc ++ [mkDF x])]) := by
          skip
          simp (disch := omega) only [mkDT1, mkDF, HTree.val, pickC, wantC, den_i, den_b, den_s, den_sv, den_ag, denL_nil, denL_cons, Option.bind_some, i0, i5, i14, i20, i21, i24, i30, i31, i74i, i76i, i98, Int.reduceToNat, decide_true, decide_false, if_true, if_false, decide_eq_true_eq, Bool.false_eq_true, ↓reduceIte, reduceCtorEq, Int.reduceEq, i72i hx, E0, E1, E2, E3, wr64, c1, c2, c4]
        rw [hval]
        exact ⟨_, _, _, rfl, rfl, (fun p hp => by cases hp), rfl, .inl ⟨rfl, ⟨l, i + 1, acc ++ [mkDF x]⟩, ⟨hsn.symm, hk, h3⟩, by simp only; omega, rfl, by rw [hacc]; rfl, by rw [hacc]; rfl⟩⟩
      · have c1 : ¬ (i : Int) < (l.length : Int) := by omega
        have hval : mkDT1.val E = some (.exit 7, 0, [ints .i64 acc]) := by
          simp (disch := omega) only [mkDT1, HTree.val, pickC, wantC, den_i, den_b, den_s, den_sv, den_ag, denL_nil, denL_cons, Option.bind_some, i0, i5, i14, i20, i21, i24, i30, i31, i74i, i76i, i98, Int.reduceToNat, decide_true, decide_false, if_true, if_false, decide_eq_true_eq, Bool.false_eq_true, ↓reduceIte, reduceCtorEq, Int.reduceEq, E0, E1, E2, E3, wr64, c1]
        rw [hval]
        have hi : i = l.length := by omega
        rw [hi, List.take_length] at h1
        refine ⟨_, _, _, rfl, rfl, (fun p hp => by cases hp), rfl, .inr ⟨by simp, ?_⟩⟩
        simp only [h1]

theorem mkDRounds {FN : Fns} : RoundsOk FN ⟨[], [], [], [], []⟩ 7 2097066 164 0 mkDSh mkDFi mkDK [mkDT0, mkDT1] [[], []] := fun t1 t2 t3 t4 => by kernel_rfl

theorem mkDLoop_ok {FN : Fns} (hF : ∀ l, FN.lst 112 [ints .i16 l] = (l.map mkDF).map (Value.int .i64)) : HLOk FN mkDLoop := by
  refine hlok_of (T := ⟨[], [], [], [], []⟩) ⟨fun c h => (by cases h), fun c h => (by cases h), fun c h => (by cases h), fun c h => (by cases h), fun c h => (by cases h)⟩ (by kernel_rfl) (by decide) mkDRounds mkDR 0 rfl (fun b => 0) (fun b => 1) (fun q => ?_) fun V ls q hlen hleaf hrow hask => ?_
  · cases q <;> exact ⟨rfl, rfl, by decide⟩
  · obtain ⟨v0, hv0, hR⟩ := hrow 0 0 [.int .i16] (.inl rfl) (by rw [hlen]; decide)
    obtain ⟨l, rfl⟩ := hasR_ints hR
    match ls, hlen with
    | [a0, a1, a2], _ =>
      simp only [List.getElem?_cons_zero, List.getElem?_cons_succ, Option.some.injEq] at hv0
      subst hv0
      obtain ⟨n, rfl⟩ := hleaf 1 _ _ rfl rfl
      obtain ⟨i, rfl⟩ := hleaf 2 _ _ rfl rfl

      have E0 : (envL FN V 164 [ints .i16 l, .int .i64 n, .int .i64 i]).val 1000000 = ints .i16 l := rfl
      have E1 : (envL FN V 164 [ints .i16 l, .int .i64 n, .int .i64 i]).int 1 = n := rfl
      have E2 : (envL FN V 164 [ints .i16 l, .int .i64 n, .int .i64 i]).int 2 = i := rfl
      have E5 : (envL FN V 164 [ints .i16 l, .int .i64 n, .int .i64 i]).fns = FN := rfl
      have hask' : Asked (envL FN V 164 [ints .i16 l, .int .i64 n, .int .i64 i]) mkDLoop.wants mkDLoop.dec q := hask
      have goal2 : ∀ b, denL (den (envL FN V 164 [ints .i16 l, .int .i64 n, .int .i64 i]) 40) (mkDLoop.out b).exprs = some ([ints .i64 (l.map mkDF)]) := fun b => by
        cases b <;> simp only [mkDLoop, cond_false, cond_true, HTree.val, pickC, wantC, den_i, den_b, den_s, den_sv, den_ag, denL_nil, denL_cons, Option.bind_some, i0, i5, i14, i20, i21, i24, i30, i31, i74i, i76i, i98, Int.reduceToNat, decide_true, decide_false, if_true, if_false, decide_eq_true_eq, Bool.false_eq_true, ↓reduceIte, reduceCtorEq, Int.reduceEq, specL, lfi, i81, E0, E1, E5, Nat.reduceAdd, hF, Int.toNat_natCast] <;> rfl
      generalize hE : envL FN V 164 [ints .i16 l, .int .i64 n, .int .i64 i] = E at *
      have w1 := asked_facts hask' (e := sv 30 [lfi .i64 2, .int .i64 0]) (b := true) (by simp [mkDLoop]) (c := decide (i = 0)) (by simp only [lfi, Int.toNat_natCast, HTree.val, pickC, wantC, den_i, den_b, den_s, den_sv, den_ag, denL_nil, denL_cons, Option.bind_some, i0, i5, i14, i20, i21, i24, i30, i31, i74i, i76i, i98, Int.reduceToNat, decide_true, decide_false, if_true, if_false, decide_eq_true_eq, Bool.false_eq_true, ↓reduceIte, reduceCtorEq, Int.reduceEq, E2])
      have w2 := asked_facts hask' (e := sv 30 [lfi .i64 1, sv 74 [specL 164 0, .int .i64 1]]) (b := true) (by simp [mkDLoop]) (c := decide (n = (l.length : Int))) (by simp only [lfi, specL, Nat.reduceAdd, Int.toNat_natCast, HTree.val, pickC, wantC, den_i, den_b, den_s, den_sv, den_ag, denL_nil, denL_cons, Option.bind_some, i0, i5, i14, i20, i21, i24, i30, i31, i74i, i76i, i98, Int.reduceToNat, decide_true, decide_false, if_true, if_false, decide_eq_true_eq, Bool.false_eq_true, ↓reduceIte, reduceCtorEq, Int.reduceEq, E0, E1])
      have w3 := asked_facts hask' (e := sv 31 [sv 74 [specL 164 0, .int .i64 1], .int .i64 1001]) (b := true) (by simp [mkDLoop]) (c := decide ((l.length : Int) < 1001)) (by simp only [lfi, specL, Nat.reduceAdd, Int.toNat_natCast, HTree.val, pickC, wantC, den_i, den_b, den_s, den_sv, den_ag, denL_nil, denL_cons, Option.bind_some, i0, i5, i14, i20, i21, i24, i30, i31, i74i, i76i, i98, Int.reduceToNat, decide_true, decide_false, if_true, if_false, decide_eq_true_eq, Bool.false_eq_true, ↓reduceIte, reduceCtorEq, Int.reduceEq, E0])

      simp only [decide_eq_true_eq, decide_eq_false_iff_not] at w1 w2 w3
      subst w1; subst w2
      refine ⟨⟨l, 0, []⟩, ⟨rfl, Nat.zero_le _, by simp only; omega⟩, rfl, rfl, ?_, ?_, ?_⟩
      · simp only [mkDR]; first | rfl | (split <;> rfl)
      · rfl
      · exact (show _ = _ from by rw [← hE] at goal2; exact goal2 q)

end Go.Proofs.YthpapjdjnnkdbaaGreatDoor

/- The loops of kalendslaw02.Make that append. -/
namespace Go.Proofs.YthpapjdjnnkdbaaGreatDoor
set_option linter.unusedVariables false
set_option linter.unusedSimpArgs false
open Go Go.Sy Go.RowKit

def mkASh : List Shape := [⟨[(3, nmB 0), (54, nmR 1), (55, lfi .i64 5), (56, lfi .i64 6)], [.box [lfi .i64 0, lfi .i64 1, lfi .i64 2, lfi .i64 3, .slice none 0 0, .slice none 0 0, .slice none 0 0, .slice none 0 0] 39 true 0, .row [.int .u8] 4], 7⟩, ⟨[(3, nmB 0), (54, nmR 1), (55, lfi .i64 5), (56, lfi .i64 6)], [.box [lfi .i64 0, lfi .i64 1, lfi .i64 2, lfi .i64 3, nmR 2, .slice none 0 0, .slice none 0 0, .slice none 0 0] 39 true 0, .row [.int .u8] 4, .own [.int .i64] 3 7], 8⟩]
def mkAFi : List Shape := [⟨[(3, nmB 0)], [.box [lfi .i64 0, lfi .i64 1, lfi .i64 2, lfi .i64 3, .slice none 0 0, .slice none 0 0, .slice none 0 0, .slice none 0 0] 39 true 0], 4⟩, ⟨[(3, nmB 0)], [.box [lfi .i64 0, lfi .i64 1, lfi .i64 2, lfi .i64 3, nmR 1, .slice none 0 0, .slice none 0 0, .slice none 0 0] 39 true 0, .own [.int .i64] 3 4], 5⟩]
def mkAK : List Nat := [3, 5, 54, 55, 56, 57, 58, 59, 60, 61, 62, 63, 64, 65, 66, 67, 68, 69]
def mkAT0 : HTree := (.node (sv 31 [(sv 0 [.int .i64 6]), (sv 0 [.int .i64 5])])
  (.need (sv 31 [(sv 0 [.int .i64 6]), .int .i64 0]) false (.need (sv 31 [(sv 0 [.int .i64 6]), (sv 74 [(sv 98 [.int .i64 1000004]), .int .i64 1])]) true (.leaf .normal 1 [(sv 0 [.int .i64 0]), (sv 0 [.int .i64 1]), (sv 0 [.int .i64 2]), (sv 0 [.int .i64 3]), (sv 98 [.int .i64 1000004]), (sv 0 [.int .i64 5]), (sv 20 [.int .i64 0, (sv 0 [.int .i64 6]), .int .i64 1]), .agg #[(sv 20 [.int .i64 0, .int .i64 1, (sv 14 [.int .i64 0, (sv 24 [.int .u8 0, (sv 72 [.int .u8 0, (sv 98 [.int .i64 1000004]), (sv 0 [.int .i64 6]), .int .i64 1, .int .i64 0]), .int .u8 12])])])]])))
  (.leaf (.exit 1) 0 [(sv 0 [.int .i64 0]), (sv 0 [.int .i64 1]), (sv 0 [.int .i64 2]), (sv 0 [.int .i64 3])]))
def mkAT1 : HTree := (.node (sv 31 [(sv 0 [.int .i64 6]), (sv 0 [.int .i64 5])])
  (.need (sv 31 [(sv 0 [.int .i64 6]), .int .i64 0]) false (.need (sv 31 [(sv 0 [.int .i64 6]), (sv 74 [(sv 98 [.int .i64 1000004]), .int .i64 1])]) true (.need (sv 31 [(sv 74 [(sv 98 [.int .i64 1000007]), .int .i64 1]), .int .i64 16777216]) true (.leaf .normal 1 [(sv 0 [.int .i64 0]), (sv 0 [.int .i64 1]), (sv 0 [.int .i64 2]), (sv 0 [.int .i64 3]), (sv 98 [.int .i64 1000004]), (sv 0 [.int .i64 5]), (sv 20 [.int .i64 0, (sv 0 [.int .i64 6]), .int .i64 1]), (sv 76 [(sv 98 [.int .i64 1000007]), (sv 20 [.int .i64 0, .int .i64 1, (sv 14 [.int .i64 0, (sv 24 [.int .u8 0, (sv 72 [.int .u8 0, (sv 98 [.int .i64 1000004]), (sv 0 [.int .i64 6]), .int .i64 1, .int .i64 0]), .int .u8 12])])])])]))))
  (.leaf (.exit 1) 1 [(sv 0 [.int .i64 0]), (sv 0 [.int .i64 1]), (sv 0 [.int .i64 2]), (sv 0 [.int .i64 3]), (sv 98 [.int .i64 1000007])]))
def mkALoop : HLCtr where
  f := 7
  p := 250
  nt := 164
  nb := 1
  nl := 7
  ins := [(3, nmB 0), (54, nmR 1), (55, lfi .i64 5), (56, lfi .i64 6)]
  objs := [.box [lfi .i64 0, lfi .i64 1, lfi .i64 2, lfi .i64 3, .slice none 0 0, .slice none 0 0, .slice none 0 0, .slice none 0 0] 39 true 0, .row [.int .u8] 4]
  srts := [some (.int .i64), some (.int .i64), some (.int .i64), some (.int .i64), none, some (.int .i64), some (.int .i64)]
  wants := [(sv 30 [lfi .i64 6, .int .i64 0], true), (sv 30 [lfi .i64 5, sv 74 [specL 164 4, .int .i64 1]], true), (sv 31 [sv 74 [specL 164 4, .int .i64 1], .int .i64 1001], true)]
  dec := some (sv 30 [lfi .i64 5, .int .i64 0])
  ex _ := .exit 1
  tmps _ := [3]
  out b := cond b ⟨[nmB 0], [.box [lfi .i64 0, lfi .i64 1, lfi .i64 2, lfi .i64 3, .slice none 0 0, .slice none 0 0, .slice none 0 0, .slice none 0 0] 39 true 0], [lfi .i64 0, lfi .i64 1, lfi .i64 2, lfi .i64 3]⟩ ⟨[nmB 0], [.box [lfi .i64 0, lfi .i64 1, lfi .i64 2, lfi .i64 3, nmR 1, .slice none 0 0, .slice none 0 0, .slice none 0 0] 39 true 0, .own [.int .i64] 3 4], [lfi .i64 0, lfi .i64 1, lfi .i64 2, lfi .i64 3, sv 81 [.int .i64 110, specL 164 4]]⟩
  kills := mkAK

structure mkAS where
  u0 : Int
  u1 : Int
  u2 : Int
  u3 : Int
  l : List Int
  i : Nat
  acc : List Int

def mkAS.st (s : mkAS) : List Value := [.int .i64 s.u0, .int .i64 s.u1, .int .i64 s.u2, .int .i64 s.u3, ints .u8 s.l, .int .i64 (s.l.length : Int), .int .i64 (s.i : Int)] ++ (match s.acc with | [] => [] | _ => [ints .i64 s.acc])
def mkAF (x : Int) : Int := 1 + x.tmod 12
def mkAR {FN : Fns} : RoundH FN 164 mkASh mkAFi [mkAT0, mkAT1] [[], []] mkAS where
  sh s := match s.acc with | [] => 0 | _ => 1
  st s := s.st
  Inv s := s.acc = (s.l.take s.i).map mkAF ∧ s.i ≤ s.l.length ∧ s.l.length ≤ 1000
  μ s := s.l.length - s.i
  fin s := match s.l with | [] => (.exit 1, 0, [.int .i64 s.u0, .int .i64 s.u1, .int .i64 s.u2, .int .i64 s.u3]) | a :: r => (.exit 1, 1, [.int .i64 s.u0, .int .i64 s.u1, .int .i64 s.u2, .int .i64 s.u3, ints .i64 ((a :: r).map mkAF)])
  step V s hI := by
    obtain ⟨u0, u1, u2, u3, l, i, acc⟩ := s
    obtain ⟨h1, h2, h3⟩ := hI
    simp only at h1 h2 h3
    cases acc with
    | nil =>
      refine ⟨mkAT0, [], ?_⟩
      have P0 : (envL FN V 164 (mkAS.st ⟨u0, u1, u2, u3, l, i, []⟩)).int 0 = u0 := rfl
      have P1 : (envL FN V 164 (mkAS.st ⟨u0, u1, u2, u3, l, i, []⟩)).int 1 = u1 := rfl
      have P2 : (envL FN V 164 (mkAS.st ⟨u0, u1, u2, u3, l, i, []⟩)).int 2 = u2 := rfl
      have P3 : (envL FN V 164 (mkAS.st ⟨u0, u1, u2, u3, l, i, []⟩)).int 3 = u3 := rfl
      have E0 : (envL FN V 164 (mkAS.st ⟨u0, u1, u2, u3, l, i, []⟩)).val 1000004 = ints .u8 l := rfl
      have E1 : (envL FN V 164 (mkAS.st ⟨u0, u1, u2, u3, l, i, []⟩)).int 5 = (l.length : Int) := rfl
      have E2 : (envL FN V 164 (mkAS.st ⟨u0, u1, u2, u3, l, i, []⟩)).int 6 = (i : Int) := rfl
      generalize hE : envL FN V 164 (mkAS.st ⟨u0, u1, u2, u3, l, i, []⟩) = E at *
      by_cases hk : i < l.length
      · obtain ⟨x, hx⟩ : ∃ x, l[i]? = some x := ⟨_, List.getElem?_eq_getElem hk⟩
        have c1 : (i : Int) < (l.length : Int) := by omega
        have c2 : ¬ (i : Int) < 0 := by omega
        have hsn : (l.take (i + 1)).map mkAF = [mkAF x] := by rw [take_snoc hx, List.map_append, ← h1]; rfl
        have hval : mkAT0.val E = some (.normal, 1, [.int .i64 u0, .int .i64 u1, .int .i64 u2, .int .i64 u3, ints .u8 l, .int .i64 l.length, .int .i64 ((i : Int) + 1), ints .i64 [mkAF x]]) := by
          have hm := Int.tmod_lt_of_pos x (b := 12) (by decide)
          have hm2 := Int.lt_tmod_of_pos x (b := 12) (by decide)
          simp (disch := omega) only [mkAT0, mkAF, HTree.val, pickC, wantC, den_i, den_b, den_s, den_sv, den_ag, denL_nil, denL_cons, Option.bind_some, i0, i5, i14, i20, i21, i24, i30, i31, i74i, i76i, i98, Int.reduceToNat, decide_true, decide_false, if_true, if_false, decide_eq_true_eq, Bool.false_eq_true, ↓reduceIte, reduceCtorEq, Int.reduceEq, i72i hx, E0, E1, E2, P0, P1, P2, P3, wr64, c1, c2, Int.reduceEq]
          rfl
        rw [hval]
        exact ⟨_, _, _, rfl, rfl, (fun p hp => by cases hp), rfl, .inl ⟨rfl, ⟨u0, u1, u2, u3, l, i + 1, [mkAF x]⟩, ⟨hsn.symm, hk, h3⟩, by simp only; omega, rfl, rfl, rfl⟩⟩
      · have c1 : ¬ (i : Int) < (l.length : Int) := by omega
        have hi : i = l.length := by omega
        rw [hi, List.take_length] at h1
        have hl : l = [] := List.map_eq_nil_iff.1 h1.symm
        have hval : mkAT0.val E = some (.exit 1, 0, [.int .i64 u0, .int .i64 u1, .int .i64 u2, .int .i64 u3]) := by
          simp (disch := omega) only [mkAT0, HTree.val, pickC, wantC, den_i, den_b, den_s, den_sv, den_ag, denL_nil, denL_cons, Option.bind_some, i0, i5, i14, i20, i21, i24, i30, i31, i74i, i76i, i98, Int.reduceToNat, decide_true, decide_false, if_true, if_false, decide_eq_true_eq, Bool.false_eq_true, ↓reduceIte, reduceCtorEq, Int.reduceEq, E0, E1, E2, P0, P1, P2, P3, wr64, c1]
          skip
        rw [hval]
        refine ⟨_, _, _, rfl, rfl, (fun p hp => by cases hp), rfl, .inr ⟨by simp, ?_⟩⟩
        subst hl
        rfl
    | cons a0 r0 =>
      refine ⟨mkAT1, [], ?_⟩
      obtain ⟨acc, hacc⟩ : ∃ acc, acc = a0 :: r0 := ⟨_, rfl⟩
      have P0 : (envL FN V 164 (mkAS.st ⟨u0, u1, u2, u3, l, i, a0 :: r0⟩)).int 0 = u0 := rfl
      have P1 : (envL FN V 164 (mkAS.st ⟨u0, u1, u2, u3, l, i, a0 :: r0⟩)).int 1 = u1 := rfl
      have P2 : (envL FN V 164 (mkAS.st ⟨u0, u1, u2, u3, l, i, a0 :: r0⟩)).int 2 = u2 := rfl
      have P3 : (envL FN V 164 (mkAS.st ⟨u0, u1, u2, u3, l, i, a0 :: r0⟩)).int 3 = u3 := rfl
      have E0 : (envL FN V 164 (mkAS.st ⟨u0, u1, u2, u3, l, i, a0 :: r0⟩)).val 1000004 = ints .u8 l := rfl
      have E1 : (envL FN V 164 (mkAS.st ⟨u0, u1, u2, u3, l, i, a0 :: r0⟩)).int 5 = (l.length : Int) := rfl
      have E2 : (envL FN V 164 (mkAS.st ⟨u0, u1, u2, u3, l, i, a0 :: r0⟩)).int 6 = (i : Int) := rfl
      have E3 : (envL FN V 164 (mkAS.st ⟨u0, u1, u2, u3, l, i, a0 :: r0⟩)).val 1000007 = ints .i64 acc := by rw [hacc]; rfl
      generalize hE : envL FN V 164 (mkAS.st ⟨u0, u1, u2, u3, l, i, a0 :: r0⟩) = E at *
      rw [← hacc] at h1
      by_cases hk : i < l.length
      · obtain ⟨x, hx⟩ : ∃ x, l[i]? = some x := ⟨_, List.getElem?_eq_getElem hk⟩
        have c1 : (i : Int) < (l.length : Int) := by omega
        have c2 : ¬ (i : Int) < 0 := by omega
        have c4 : (acc.length : Int) < 16777216 := by rw [h1]; simp; omega
        have hsn : (l.take (i + 1)).map mkAF = acc ++ [mkAF x] := by rw [take_snoc hx, List.map_append, ← h1]; rfl
        have hval : mkAT1.val E = some (.normal, 1, [.int .i64 u0, .int .i64 u1, .int .i64 u2, .int .i64 u3, ints .u8 l, .int .i64 l.length, .int .i64 ((i : Int) + 1), ints .i64 (acc ++ [mkAF x])]) := by
          have hm := Int.tmod_lt_of_pos x (b := 12) (by decide)
          have hm2 := Int.lt_tmod_of_pos x (b := 12) (by decide)
          simp (disch := omega) only [mkAT1, mkAF, HTree.val, pickC, wantC, den_i, den_b, den_s, den_sv, den_ag, denL_nil, denL_cons, Option.bind_some, i0, i5, i14, i20, i21, i24, i30, i31, i74i, i76i, i98, Int.reduceToNat, decide_true, decide_false, if_true, if_false, decide_eq_true_eq, Bool.false_eq_true, ↓reduceIte, reduceCtorEq, Int.reduceEq, i72i hx, E0, E1, E2, E3, P0, P1, P2, P3, wr64, c1, c2, c4, Int.reduceEq]
        rw [hval]
        exact ⟨_, _, _, rfl, rfl, (fun p hp => by cases hp), rfl, .inl ⟨rfl, ⟨u0, u1, u2, u3, l, i + 1, acc ++ [mkAF x]⟩, ⟨hsn.symm, hk, h3⟩, by simp only; omega, rfl, by rw [hacc]; rfl, by rw [hacc]; rfl⟩⟩
      · have c1 : ¬ (i : Int) < (l.length : Int) := by omega
        have hval : mkAT1.val E = some (.exit 1, 1, [.int .i64 u0, .int .i64 u1, .int .i64 u2, .int .i64 u3, ints .i64 acc]) := by
          simp (disch := omega) only [mkAT1, HTree.val, pickC, wantC, den_i, den_b, den_s, den_sv, den_ag, denL_nil, denL_cons, Option.bind_some, i0, i5, i14, i20, i21, i24, i30, i31, i74i, i76i, i98, Int.reduceToNat, decide_true, decide_false, if_true, if_false, decide_eq_true_eq, Bool.false_eq_true, ↓reduceIte, reduceCtorEq, Int.reduceEq, E0, E1, E2, E3, P0, P1, P2, P3, wr64, c1]
        rw [hval]
        have hi : i = l.length := by omega
        rw [hi, List.take_length] at h1
        refine ⟨_, _, _, rfl, rfl, (fun p hp => by cases hp), rfl, .inr ⟨by simp, ?_⟩⟩
        cases l with
        | nil => simp [hacc] at h1
        | cons y q => simp only [h1]

theorem mkARounds {FN : Fns} : RoundsOk FN ⟨[], [], [], [], []⟩ 7 250 164 1 mkASh mkAFi mkAK [mkAT0, mkAT1] [[], []] := fun t1 t2 t3 t4 => by kernel_rfl

theorem mkALoop_ok {FN : Fns} (hF : ∀ l, FN.lst 110 [ints .u8 l] = (l.map mkAF).map (Value.int .i64)) : HLOk FN mkALoop := by
  refine hlok_of (T := ⟨[], [], [], [], []⟩) ⟨fun c h => (by cases h), fun c h => (by cases h), fun c h => (by cases h), fun c h => (by cases h), fun c h => (by cases h)⟩ (by kernel_rfl) (by decide) mkARounds mkAR 0 rfl (fun b => cond b 0 1) (fun b => cond b 4 5) (fun q => ?_) fun V ls q hlen hleaf hrow hask => ?_
  · cases q <;> exact ⟨rfl, rfl, by decide⟩
  · obtain ⟨v0, hv0, hR⟩ := hrow 1 4 [.int .u8] (.inl rfl) (by rw [hlen]; decide)
    obtain ⟨l, rfl⟩ := hasR_ints hR
    match ls, hlen with
    | [a0, a1, a2, a3, a4, a5, a6], _ =>
      simp only [List.getElem?_cons_zero, List.getElem?_cons_succ, Option.some.injEq] at hv0
      subst hv0
      obtain ⟨u0, rfl⟩ := hleaf 0 _ _ rfl rfl
      obtain ⟨u1, rfl⟩ := hleaf 1 _ _ rfl rfl
      obtain ⟨u2, rfl⟩ := hleaf 2 _ _ rfl rfl
      obtain ⟨u3, rfl⟩ := hleaf 3 _ _ rfl rfl
      obtain ⟨n, rfl⟩ := hleaf 5 _ _ rfl rfl
      obtain ⟨i, rfl⟩ := hleaf 6 _ _ rfl rfl
      have P0 : (envL FN V 164 [.int .i64 u0, .int .i64 u1, .int .i64 u2, .int .i64 u3, ints .u8 l, .int .i64 n, .int .i64 i]).int 0 = u0 := rfl
      have P1 : (envL FN V 164 [.int .i64 u0, .int .i64 u1, .int .i64 u2, .int .i64 u3, ints .u8 l, .int .i64 n, .int .i64 i]).int 1 = u1 := rfl
      have P2 : (envL FN V 164 [.int .i64 u0, .int .i64 u1, .int .i64 u2, .int .i64 u3, ints .u8 l, .int .i64 n, .int .i64 i]).int 2 = u2 := rfl
      have P3 : (envL FN V 164 [.int .i64 u0, .int .i64 u1, .int .i64 u2, .int .i64 u3, ints .u8 l, .int .i64 n, .int .i64 i]).int 3 = u3 := rfl
      have E0 : (envL FN V 164 [.int .i64 u0, .int .i64 u1, .int .i64 u2, .int .i64 u3, ints .u8 l, .int .i64 n, .int .i64 i]).val 1000004 = ints .u8 l := rfl
      have E1 : (envL FN V 164 [.int .i64 u0, .int .i64 u1, .int .i64 u2, .int .i64 u3, ints .u8 l, .int .i64 n, .int .i64 i]).int 5 = n := rfl
      have E2 : (envL FN V 164 [.int .i64 u0, .int .i64 u1, .int .i64 u2, .int .i64 u3, ints .u8 l, .int .i64 n, .int .i64 i]).int 6 = i := rfl
      have E5 : (envL FN V 164 [.int .i64 u0, .int .i64 u1, .int .i64 u2, .int .i64 u3, ints .u8 l, .int .i64 n, .int .i64 i]).fns = FN := rfl
      have hask' : Asked (envL FN V 164 [.int .i64 u0, .int .i64 u1, .int .i64 u2, .int .i64 u3, ints .u8 l, .int .i64 n, .int .i64 i]) mkALoop.wants mkALoop.dec q := hask
      have goal2 : ∀ b, denL (den (envL FN V 164 [.int .i64 u0, .int .i64 u1, .int .i64 u2, .int .i64 u3, ints .u8 l, .int .i64 n, .int .i64 i]) 40) (mkALoop.out b).exprs = some (cond b [.int .i64 u0, .int .i64 u1, .int .i64 u2, .int .i64 u3] [.int .i64 u0, .int .i64 u1, .int .i64 u2, .int .i64 u3, ints .i64 (l.map mkAF)]) := fun b => by
        cases b <;> simp only [mkALoop, cond_false, cond_true, HTree.val, pickC, wantC, den_i, den_b, den_s, den_sv, den_ag, denL_nil, denL_cons, Option.bind_some, i0, i5, i14, i20, i21, i24, i30, i31, i74i, i76i, i98, Int.reduceToNat, decide_true, decide_false, if_true, if_false, decide_eq_true_eq, Bool.false_eq_true, ↓reduceIte, reduceCtorEq, Int.reduceEq, specL, lfi, i81, E0, E1, E5, P0, P1, P2, P3, Nat.reduceAdd, hF, Int.toNat_natCast] <;> rfl
      generalize hE : envL FN V 164 [.int .i64 u0, .int .i64 u1, .int .i64 u2, .int .i64 u3, ints .u8 l, .int .i64 n, .int .i64 i] = E at *
      have w1 := asked_facts hask' (e := sv 30 [lfi .i64 6, .int .i64 0]) (b := true) (by simp [mkALoop]) (c := decide (i = 0)) (by simp only [lfi, Int.toNat_natCast, HTree.val, pickC, wantC, den_i, den_b, den_s, den_sv, den_ag, denL_nil, denL_cons, Option.bind_some, i0, i5, i14, i20, i21, i24, i30, i31, i74i, i76i, i98, Int.reduceToNat, decide_true, decide_false, if_true, if_false, decide_eq_true_eq, Bool.false_eq_true, ↓reduceIte, reduceCtorEq, Int.reduceEq, E2])
      have w2 := asked_facts hask' (e := sv 30 [lfi .i64 5, sv 74 [specL 164 4, .int .i64 1]]) (b := true) (by simp [mkALoop]) (c := decide (n = (l.length : Int))) (by simp only [lfi, specL, Nat.reduceAdd, Int.toNat_natCast, HTree.val, pickC, wantC, den_i, den_b, den_s, den_sv, den_ag, denL_nil, denL_cons, Option.bind_some, i0, i5, i14, i20, i21, i24, i30, i31, i74i, i76i, i98, Int.reduceToNat, decide_true, decide_false, if_true, if_false, decide_eq_true_eq, Bool.false_eq_true, ↓reduceIte, reduceCtorEq, Int.reduceEq, E0, E1])
      have w3 := asked_facts hask' (e := sv 31 [sv 74 [specL 164 4, .int .i64 1], .int .i64 1001]) (b := true) (by simp [mkALoop]) (c := decide ((l.length : Int) < 1001)) (by simp only [lfi, specL, Nat.reduceAdd, Int.toNat_natCast, HTree.val, pickC, wantC, den_i, den_b, den_s, den_sv, den_ag, denL_nil, denL_cons, Option.bind_some, i0, i5, i14, i20, i21, i24, i30, i31, i74i, i76i, i98, Int.reduceToNat, decide_true, decide_false, if_true, if_false, decide_eq_true_eq, Bool.false_eq_true, ↓reduceIte, reduceCtorEq, Int.reduceEq, E0])
      have w6 := asked_dec (e := sv 30 [lfi .i64 5, .int .i64 0]) hask' (c := decide (n = 0)) (by simp only [lfi, Int.toNat_natCast, HTree.val, pickC, wantC, den_i, den_b, den_s, den_sv, den_ag, denL_nil, denL_cons, Option.bind_some, i0, i5, i14, i20, i21, i24, i30, i31, i74i, i76i, i98, Int.reduceToNat, decide_true, decide_false, if_true, if_false, decide_eq_true_eq, Bool.false_eq_true, ↓reduceIte, reduceCtorEq, Int.reduceEq, E1])
      simp only [decide_eq_true_eq, decide_eq_false_iff_not] at w1 w2 w3
      subst w1; subst w2
      refine ⟨⟨u0, u1, u2, u3, l, 0, []⟩, ⟨rfl, Nat.zero_le _, by simp only; omega⟩, rfl, rfl, ?_, ?_, ?_⟩
      · simp only [mkAR]; first | rfl | (split <;> rfl)
      · simp only [mkAR]
        rw [← w6]
        cases l with
        | nil => rfl
        | cons a r => simp only [List.length_cons]; rw [decide_eq_false (by omega)]; rfl
      · have h6 : some (cond q [.int .i64 u0, .int .i64 u1, .int .i64 u2, .int .i64 u3] [.int .i64 u0, .int .i64 u1, .int .i64 u2, .int .i64 u3, ints .i64 (l.map mkAF)]) = some ((mkAR (FN := FN)).fin ⟨u0, u1, u2, u3, l, 0, []⟩).2.2 := by
          rw [← w6]
          simp only [mkAR]
          cases l with
          | nil => rfl
          | cons a r => simp only [List.length_cons]; rw [decide_eq_false (by omega)]; rfl
        rw [← h6, ← goal2 q, ← hE]
        rfl

end Go.Proofs.YthpapjdjnnkdbaaGreatDoor
