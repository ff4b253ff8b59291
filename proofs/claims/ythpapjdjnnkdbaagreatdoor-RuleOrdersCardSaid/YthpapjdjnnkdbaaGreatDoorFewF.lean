/- FewFX: joined of FewH, FewF. -/
import Derived.Test.YthpapjdjnnkdbaaGreatDoorSlC

/- The loop of kalendslaw02.few; few. -/
namespace Go.Proofs.YthpapjdjnnkdbaaGreatDoor
set_option linter.unusedVariables false
set_option linter.unusedSimpArgs false
open Go Go.Sy Go.RowKit

/-- .. 100: is what few takes up nothing? 101: what it takes up; 102: that, sorted. -/
structure FnF (FN : Fns) : Prop extends FnS FN where
  emp : ∀ l m, FN.bool 100 [ints .i64 l, .int .i64 m] = (fewU m l).isEmpty
  fewu : ∀ l m, FN.lst 101 [ints .i64 l, .int .i64 m] = (fewU m l).map (Value.int .i64)
  few : ∀ l m, FN.lst 102 [ints .i64 l, .int .i64 m] = (fewL m l).map (Value.int .i64)

def fewSh : List Shape := [⟨[(8, nmR 0), (1, lfi .i64 1), (9, lfi .i64 2), (10, lfi .i64 3), (5, .slice none 0 0)], [.row [.int .i64] 0], 4⟩, ⟨[(8, nmR 0), (1, lfi .i64 1), (9, lfi .i64 2), (10, lfi .i64 3), (5, nmR 1)], [.row [.int .i64] 0, .own [.int .i64] 3 4], 5⟩]
def fewFi : List Shape := [⟨[(5, .slice none 0 0)], [], 0⟩, ⟨[(5, nmR 0)], [.own [.int .i64] 3 0], 1⟩]
def fewK : List Nat := [1, 5, 7, 8, 9, 10, 11, 12, 13, 14, 15, 16, 17, 18, 19, 20, 21, 22, 23, 24, 25, 30, 26, 27, 28, 29]
def fewT0 : HTree := (.node (sv 31 [(sv 0 [.int .i64 3]), (sv 0 [.int .i64 2])])
  (.need (sv 31 [(sv 0 [.int .i64 3]), .int .i64 0]) false (.need (sv 31 [(sv 0 [.int .i64 3]), (sv 74 [(sv 98 [.int .i64 1000000]), .int .i64 1])]) true (.need (sv 30 [(sv 20 [.int .i64 0, (sv 0 [.int .i64 1]), .int .i64 1]), .int .i64 0]) false (.node (sv 30 [(sv 24 [.int .i64 0, (sv 72 [.int .i64 0, (sv 98 [.int .i64 1000000]), (sv 0 [.int .i64 3]), .int .i64 1, .int .i64 0]), (sv 20 [.int .i64 0, (sv 0 [.int .i64 1]), .int .i64 1])]), .int .i64 0])
  (.leaf .normal 0 [(sv 98 [.int .i64 1000000]), (sv 0 [.int .i64 1]), (sv 0 [.int .i64 2]), (sv 20 [.int .i64 0, (sv 0 [.int .i64 3]), .int .i64 1])])
  (.leaf .normal 1 [(sv 98 [.int .i64 1000000]), (sv 0 [.int .i64 1]), (sv 0 [.int .i64 2]), (sv 20 [.int .i64 0, (sv 0 [.int .i64 3]), .int .i64 1]), .agg #[(sv 24 [.int .i64 0, (sv 72 [.int .i64 0, (sv 98 [.int .i64 1000000]), (sv 0 [.int .i64 3]), .int .i64 1, .int .i64 0]), (sv 20 [.int .i64 0, (sv 0 [.int .i64 1]), .int .i64 1])])]])))))
  (.leaf (.exit 0) 0 []))
def fewT1 : HTree := (.node (sv 31 [(sv 0 [.int .i64 3]), (sv 0 [.int .i64 2])])
  (.need (sv 31 [(sv 0 [.int .i64 3]), .int .i64 0]) false (.need (sv 31 [(sv 0 [.int .i64 3]), (sv 74 [(sv 98 [.int .i64 1000000]), .int .i64 1])]) true (.need (sv 30 [(sv 20 [.int .i64 0, (sv 0 [.int .i64 1]), .int .i64 1]), .int .i64 0]) false (.node (sv 30 [(sv 24 [.int .i64 0, (sv 72 [.int .i64 0, (sv 98 [.int .i64 1000000]), (sv 0 [.int .i64 3]), .int .i64 1, .int .i64 0]), (sv 20 [.int .i64 0, (sv 0 [.int .i64 1]), .int .i64 1])]), .int .i64 0])
  (.leaf .normal 1 [(sv 98 [.int .i64 1000000]), (sv 0 [.int .i64 1]), (sv 0 [.int .i64 2]), (sv 20 [.int .i64 0, (sv 0 [.int .i64 3]), .int .i64 1]), (sv 98 [.int .i64 1000004])])
  (.need (sv 31 [(sv 74 [(sv 98 [.int .i64 1000004]), .int .i64 1]), .int .i64 16777216]) true (.node (sv 5 [.int .i64 104, (sv 98 [.int .i64 1000004]), (sv 24 [.int .i64 0, (sv 72 [.int .i64 0, (sv 98 [.int .i64 1000000]), (sv 0 [.int .i64 3]), .int .i64 1, .int .i64 0]), (sv 20 [.int .i64 0, (sv 0 [.int .i64 1]), .int .i64 1])])])
  (.leaf .normal 1 [(sv 98 [.int .i64 1000000]), (sv 0 [.int .i64 1]), (sv 0 [.int .i64 2]), (sv 20 [.int .i64 0, (sv 0 [.int .i64 3]), .int .i64 1]), (sv 98 [.int .i64 1000004])])
  (.leaf .normal 1 [(sv 98 [.int .i64 1000000]), (sv 0 [.int .i64 1]), (sv 0 [.int .i64 2]), (sv 20 [.int .i64 0, (sv 0 [.int .i64 3]), .int .i64 1]), (sv 76 [(sv 98 [.int .i64 1000004]), (sv 24 [.int .i64 0, (sv 72 [.int .i64 0, (sv 98 [.int .i64 1000000]), (sv 0 [.int .i64 3]), .int .i64 1, .int .i64 0]), (sv 20 [.int .i64 0, (sv 0 [.int .i64 1]), .int .i64 1])])])])))))))
  (.leaf (.exit 0) 1 [(sv 98 [.int .i64 1000004])]))

def fewLoop : HLCtr where
  f := 17
  p := 58
  nt := 34
  nb := 0
  nl := 4
  ins := [(8, nmR 0), (1, lfi .i64 1), (9, lfi .i64 2), (10, lfi .i64 3), (5, .slice none 0 0)]
  objs := [.row [.int .i64] 0]
  srts := [none, some (.int .i64), some (.int .i64), some (.int .i64)]
  wants := [(sv 30 [lfi .i64 3, .int .i64 0], true), (sv 30 [lfi .i64 2, sv 74 [specL 34 0, .int .i64 1]], true), (sv 31 [sv 74 [specL 34 0, .int .i64 1], .int .i64 1001], true), (sv 31 [lfi .i64 1, .int .i64 0], false), (sv 31 [lfi .i64 1, .int .i64 1001], true)]
  dec := some (sv 5 [.int .i64 100, specL 34 0, lfi .i64 1])
  ex _ := .exit 0
  tmps _ := [5]
  out b := cond b ⟨[.slice none 0 0], [], []⟩ ⟨[nmR 0], [.own [.int .i64] 3 0], [sv 81 [.int .i64 101, specL 34 0, lfi .i64 1]]⟩
  kills := fewK

def toldF : Tolds := ⟨[], [containsI], [], [], []⟩
theorem toldF_ok {FN : Fns} (hF : FnS FN) : TOk FN toldF := ⟨fun c h => (by cases h), fun c h => (by simp only [toldF, List.mem_cons, List.not_mem_nil, or_false] at h; subst h; exact containsI_ok hF), fun c h => (by cases h), fun c h => (by cases h), fun c h => (by cases h)⟩

structure FewS where
  l : List Int
  m : Int
  i : Nat
  acc : List Int

def FewS.st (s : FewS) : List Value := [ints .i64 s.l, .int .i64 s.m, .int .i64 (s.l.length : Int), .int .i64 (s.i : Int)] ++ (match s.acc with | [] => [] | _ => [ints .i64 s.acc])

theorem take_snoc {α : Type} {l : List α} {i : Nat} {x : α} (h : l[i]? = some x) : l.take (i + 1) = l.take i ++ [x] := by
  obtain ⟨hi, rfl⟩ := List.getElem?_eq_some_iff.1 h
  exact (List.take_append_getElem hi).symm

def fewR {FN : Fns} (hF : FnF FN) : RoundH FN 34 fewSh fewFi [fewT0, fewT1] [[], []] FewS where
  sh s := match s.acc with | [] => 0 | _ => 1
  st s := s.st
  Inv s := s.acc = fewU s.m (s.l.take s.i) ∧ s.i ≤ s.l.length ∧ s.l.length ≤ 1000 ∧ 0 ≤ s.m ∧ s.m ≤ 1000
  μ s := s.l.length - s.i
  fin s := match fewU s.m s.l with | [] => (.exit 0, 0, []) | a :: r => (.exit 0, 1, [ints .i64 (a :: r)])
  step V s hI := by
    obtain ⟨l, m, i, acc⟩ := s
    obtain ⟨h1, h2, h3, h4, h5⟩ := hI
    simp only at h1 h2 h3 h4 h5
    cases acc with
    | nil =>
      refine ⟨fewT0, [], ?_⟩
      have E0 : (envL FN V 34 (FewS.st ⟨l, m, i, []⟩)).val 1000000 = ints .i64 l := rfl
      have E1 : (envL FN V 34 (FewS.st ⟨l, m, i, []⟩)).int 1 = m := rfl
      have E2 : (envL FN V 34 (FewS.st ⟨l, m, i, []⟩)).int 2 = (l.length : Int) := rfl
      have E3 : (envL FN V 34 (FewS.st ⟨l, m, i, []⟩)).int 3 = (i : Int) := rfl
      generalize hE : envL FN V 34 (FewS.st ⟨l, m, i, []⟩) = E at *
      by_cases hk : i < l.length
      · obtain ⟨x, hx⟩ : ∃ x, l[i]? = some x := ⟨_, List.getElem?_eq_getElem hk⟩
        have c1 : (i : Int) < (l.length : Int) := by omega
        have c2 : ¬ (i : Int) < 0 := by omega
        have c3 : ¬ (m + 1 = 0) := by omega
        have hval : fewT0.val E = if x.tmod (m + 1) = 0 then some (.normal, 0, [ints .i64 l, .int .i64 m, .int .i64 l.length, .int .i64 ((i : Int) + 1)]) else some (.normal, 1, [ints .i64 l, .int .i64 m, .int .i64 l.length, .int .i64 ((i : Int) + 1), ints .i64 [x.tmod (m + 1)]]) := by
          simp (disch := omega) only [fewT0, HTree.val, pickC, wantC, den_i, den_b, den_s, den_sv, den_ag, denL_nil, denL_cons, Option.bind_some, i0, i5, i20, i21, i24, i30, i31, i74i, i76i, i98, Int.reduceToNat, decide_true, decide_false, if_true, if_false, decide_eq_true_eq, Bool.false_eq_true, ↓reduceIte, reduceCtorEq, i72i hx, E0, E1, E2, E3, wr64, c1, c2, c3]
          rfl
        rw [hval]
        have hsn : fewU m (l.take (i + 1)) = if x.tmod (m + 1) ≠ 0 then [x.tmod (m + 1)] else [] := by
          rw [take_snoc hx, fewU_snoc, ← h1]
          simp
        by_cases hz : x.tmod (m + 1) = 0
        · rw [if_pos hz]
          rw [if_neg (by simpa using hz)] at hsn
          refine ⟨_, _, _, rfl, rfl, (fun p hp => by cases hp), rfl, .inl ⟨rfl, ⟨l, m, i + 1, []⟩, ⟨hsn.symm, hk, h3, h4, h5⟩, by simp only; omega, rfl, rfl, rfl⟩⟩
        · rw [if_neg hz]
          rw [if_pos hz] at hsn
          refine ⟨_, _, _, rfl, rfl, (fun p hp => by cases hp), rfl, .inl ⟨rfl, ⟨l, m, i + 1, [x.tmod (m + 1)]⟩, ⟨hsn.symm, hk, h3, h4, h5⟩, by simp only; omega, rfl, rfl, rfl⟩⟩
      · have c1 : ¬ (i : Int) < (l.length : Int) := by omega
        have hval : fewT0.val E = some (.exit 0, 0, []) := by
          simp (disch := omega) only [fewT0, HTree.val, pickC, wantC, den_i, den_b, den_s, den_sv, den_ag, denL_nil, denL_cons, Option.bind_some, i0, i5, i20, i21, i24, i30, i31, i74i, i76i, i98, Int.reduceToNat, decide_true, decide_false, if_true, if_false, decide_eq_true_eq, Bool.false_eq_true, ↓reduceIte, reduceCtorEq, E0, E1, E2, E3, wr64, c1]
        rw [hval]
        have hi : i = l.length := by omega
        rw [hi, List.take_length] at h1
        refine ⟨_, _, _, rfl, rfl, (fun p hp => by cases hp), rfl, .inr ⟨by simp, ?_⟩⟩
        simp only [← h1]
    | cons a r =>
      refine ⟨fewT1, [], ?_⟩
      obtain ⟨acc, hacc⟩ : ∃ acc, acc = a :: r := ⟨_, rfl⟩
      have E0 : (envL FN V 34 (FewS.st ⟨l, m, i, a :: r⟩)).val 1000000 = ints .i64 l := rfl
      have E1 : (envL FN V 34 (FewS.st ⟨l, m, i, a :: r⟩)).int 1 = m := rfl
      have E2 : (envL FN V 34 (FewS.st ⟨l, m, i, a :: r⟩)).int 2 = (l.length : Int) := rfl
      have E3 : (envL FN V 34 (FewS.st ⟨l, m, i, a :: r⟩)).int 3 = (i : Int) := rfl
      have E4 : (envL FN V 34 (FewS.st ⟨l, m, i, a :: r⟩)).val 1000004 = ints .i64 acc := by rw [hacc]; rfl
      have E5 : (envL FN V 34 (FewS.st ⟨l, m, i, a :: r⟩)).fns = FN := rfl
      generalize hE : envL FN V 34 (FewS.st ⟨l, m, i, a :: r⟩) = E at *
      rw [← hacc] at h1
      by_cases hk : i < l.length
      · obtain ⟨x, hx⟩ : ∃ x, l[i]? = some x := ⟨_, List.getElem?_eq_getElem hk⟩
        have c1 : (i : Int) < (l.length : Int) := by omega
        have c2 : ¬ (i : Int) < 0 := by omega
        have c3 : ¬ (m + 1 = 0) := by omega
        have hal : acc.length ≤ i := by
          have := fewU_len m h4 (l.take i)
          rw [← h1] at this
          have h6 : (l.take i).length ≤ i := by simp; omega
          omega
        have c4 : (acc.length : Int) < 16777216 := by omega
        have hval : fewT1.val E = if x.tmod (m + 1) = 0 then some (.normal, 1, [ints .i64 l, .int .i64 m, .int .i64 l.length, .int .i64 ((i : Int) + 1), ints .i64 acc]) else if x.tmod (m + 1) ∈ acc then some (.normal, 1, [ints .i64 l, .int .i64 m, .int .i64 l.length, .int .i64 ((i : Int) + 1), ints .i64 acc])
            else some (.normal, 1, [ints .i64 l, .int .i64 m, .int .i64 l.length, .int .i64 ((i : Int) + 1), ints .i64 (acc ++ [x.tmod (m + 1)])]) := by
          simp (disch := omega) only [fewT1, HTree.val, pickC, wantC, den_i, den_b, den_s, den_sv, den_ag, denL_nil, denL_cons, Option.bind_some, i0, i5, i20, i21, i24, i30, i31, i74i, i76i, i98, Int.reduceToNat, decide_true, decide_false, if_true, if_false, decide_eq_true_eq, Bool.false_eq_true, ↓reduceIte, reduceCtorEq, i72i hx, E0, E1, E2, E3, E4, E5, hF.cont, wr64, c1, c2, c3, c4]
        rw [hval]
        have hsn : fewU m (l.take (i + 1)) = if x.tmod (m + 1) ≠ 0 ∧ ¬ (x.tmod (m + 1) ∈ acc) then acc ++ [x.tmod (m + 1)] else acc := by
          rw [take_snoc hx, fewU_snoc, ← h1]
        have same : fewU m (l.take (i + 1)) = acc → ∃ s' : FewS, (s'.acc = fewU s'.m (s'.l.take s'.i) ∧ s'.i ≤ s'.l.length ∧ s'.l.length ≤ 1000 ∧ 0 ≤ s'.m ∧ s'.m ≤ 1000) ∧ s'.l = l ∧ s'.m = m ∧ s'.i = i + 1 ∧ s'.acc = acc := fun he => ⟨⟨l, m, i + 1, acc⟩, ⟨he.symm, hk, h3, h4, h5⟩, rfl, rfl, rfl, rfl⟩
        by_cases hz : x.tmod (m + 1) = 0
        · rw [if_pos hz]
          rw [if_neg (by simp [hz])] at hsn
          refine ⟨_, _, _, rfl, rfl, (fun p hp => by cases hp), rfl, .inl ⟨rfl, ⟨l, m, i + 1, acc⟩, ⟨hsn.symm, hk, h3, h4, h5⟩, by simp only; omega, rfl, by rw [hacc], by rw [hacc]; rfl⟩⟩
        · rw [if_neg hz]
          by_cases hm : x.tmod (m + 1) ∈ acc
          · rw [if_pos hm]
            rw [if_neg (by simp [hm])] at hsn
            refine ⟨_, _, _, rfl, rfl, (fun p hp => by cases hp), rfl, .inl ⟨rfl, ⟨l, m, i + 1, acc⟩, ⟨hsn.symm, hk, h3, h4, h5⟩, by simp only; omega, rfl, by rw [hacc], by rw [hacc]; rfl⟩⟩
          · rw [if_neg hm]
            rw [if_pos ⟨hz, hm⟩] at hsn
            refine ⟨_, _, _, rfl, rfl, (fun p hp => by cases hp), rfl, .inl ⟨rfl, ⟨l, m, i + 1, acc ++ [x.tmod (m + 1)]⟩, ⟨hsn.symm, hk, h3, h4, h5⟩, by simp only; omega, rfl, by rw [hacc]; rfl, by rw [hacc]; rfl⟩⟩
      · have c1 : ¬ (i : Int) < (l.length : Int) := by omega
        have hval : fewT1.val E = some (.exit 0, 1, [ints .i64 acc]) := by
          simp (disch := omega) only [fewT1, HTree.val, pickC, wantC, den_i, den_b, den_s, den_sv, den_ag, denL_nil, denL_cons, Option.bind_some, i0, i5, i20, i21, i24, i30, i31, i74i, i76i, i98, Int.reduceToNat, decide_true, decide_false, if_true, if_false, decide_eq_true_eq, Bool.false_eq_true, ↓reduceIte, reduceCtorEq, E0, E1, E2, E3, E4, wr64, c1]
        rw [hval]
        have hi : i = l.length := by omega
        rw [hi, List.take_length] at h1
        refine ⟨_, _, _, rfl, rfl, (fun p hp => by cases hp), rfl, .inr ⟨by simp, ?_⟩⟩
        simp only [← h1, hacc]

theorem fewRounds {FN : Fns} : RoundsOk FN toldF 17 58 34 0 fewSh fewFi fewK [fewT0, fewT1] [[], []] := fun t1 t2 t3 t4 => by kernel_rfl

theorem fewLoop_ok {FN : Fns} (hF : FnF FN) : HLOk FN fewLoop := by
  refine hlok_of (toldF_ok hF.toFnS) (by kernel_rfl) (by decide) fewRounds (fewR hF) 0 rfl (fun b => cond b 0 1) (fun b => cond b 0 1) (fun q => ?_) fun V ls q hlen hleaf hrow hask => ?_
  · cases q <;> exact ⟨rfl, rfl, by decide⟩
  · obtain ⟨v0, hv0, hR⟩ := hrow 0 0 [.int .i64] (.inl rfl) (by rw [hlen]; decide)
    obtain ⟨l, rfl⟩ := hasR_ints hR
    match ls, hlen with
    | [a0, a1, a2, a3], _ =>
      simp only [List.getElem?_cons_zero, Option.some.injEq] at hv0
      subst hv0
      obtain ⟨m, rfl⟩ := hleaf 1 _ _ rfl rfl
      obtain ⟨n, rfl⟩ := hleaf 2 _ _ rfl rfl
      obtain ⟨i, rfl⟩ := hleaf 3 _ _ rfl rfl
      have E0 : (envL FN V 34 [ints .i64 l, .int .i64 m, .int .i64 n, .int .i64 i]).val 1000000 = ints .i64 l := rfl
      have E1 : (envL FN V 34 [ints .i64 l, .int .i64 m, .int .i64 n, .int .i64 i]).int 1 = m := rfl
      have E2 : (envL FN V 34 [ints .i64 l, .int .i64 m, .int .i64 n, .int .i64 i]).int 2 = n := rfl
      have E3 : (envL FN V 34 [ints .i64 l, .int .i64 m, .int .i64 n, .int .i64 i]).int 3 = i := rfl
      have E5 : (envL FN V 34 [ints .i64 l, .int .i64 m, .int .i64 n, .int .i64 i]).fns = FN := rfl
      have hask' : Asked (envL FN V 34 [ints .i64 l, .int .i64 m, .int .i64 n, .int .i64 i]) fewLoop.wants fewLoop.dec q := hask
      have goal2 : ∀ b, denL (den (envL FN V 34 [ints .i64 l, .int .i64 m, .int .i64 n, .int .i64 i]) 40) (fewLoop.out b).exprs = some (cond b [] [ints .i64 (fewU m l)]) := fun b => by
        cases b
        · simp only [fewLoop, cond_false, HTree.val, pickC, wantC, den_i, den_b, den_s, den_sv, den_ag, denL_nil, denL_cons, Option.bind_some, i0, i5, i20, i21, i24, i30, i31, i74i, i76i, i98, Int.reduceToNat, decide_true, decide_false, if_true, if_false, decide_eq_true_eq, Bool.false_eq_true, ↓reduceIte, reduceCtorEq, specL, lfi, i81, E0, E1, E5, Nat.add_zero, Nat.reduceAdd, hF.fewu, Int.toNat_natCast]
          rfl
        · rfl
      generalize hE : envL FN V 34 [ints .i64 l, .int .i64 m, .int .i64 n, .int .i64 i] = E at *
      have w1 := asked_facts hask' (e := sv 30 [lfi .i64 3, .int .i64 0]) (b := true) (by simp [fewLoop]) (c := decide (i = 0)) (by simp only [lfi, Int.toNat_natCast, HTree.val, pickC, wantC, den_i, den_b, den_s, den_sv, den_ag, denL_nil, denL_cons, Option.bind_some, i0, i5, i20, i21, i24, i30, i31, i74i, i76i, i98, Int.reduceToNat, decide_true, decide_false, if_true, if_false, decide_eq_true_eq, Bool.false_eq_true, ↓reduceIte, reduceCtorEq, E3])
      have w2 := asked_facts hask' (e := sv 30 [lfi .i64 2, sv 74 [specL 34 0, .int .i64 1]]) (b := true) (by simp [fewLoop]) (c := decide (n = (l.length : Int))) (by simp only [lfi, specL, Nat.add_zero, Nat.reduceAdd, Int.toNat_natCast, HTree.val, pickC, wantC, den_i, den_b, den_s, den_sv, den_ag, denL_nil, denL_cons, Option.bind_some, i0, i5, i20, i21, i24, i30, i31, i74i, i76i, i98, Int.reduceToNat, decide_true, decide_false, if_true, if_false, decide_eq_true_eq, Bool.false_eq_true, ↓reduceIte, reduceCtorEq, E0, E2])
      have w3 := asked_facts hask' (e := sv 31 [sv 74 [specL 34 0, .int .i64 1], .int .i64 1001]) (b := true) (by simp [fewLoop]) (c := decide ((l.length : Int) < 1001)) (by simp only [lfi, specL, Nat.add_zero, Nat.reduceAdd, Int.toNat_natCast, HTree.val, pickC, wantC, den_i, den_b, den_s, den_sv, den_ag, denL_nil, denL_cons, Option.bind_some, i0, i5, i20, i21, i24, i30, i31, i74i, i76i, i98, Int.reduceToNat, decide_true, decide_false, if_true, if_false, decide_eq_true_eq, Bool.false_eq_true, ↓reduceIte, reduceCtorEq, E0])
      have w4 := asked_facts hask' (e := sv 31 [lfi .i64 1, .int .i64 0]) (b := false) (by simp [fewLoop]) (c := decide (m < 0)) (by simp only [lfi, Int.toNat_natCast, HTree.val, pickC, wantC, den_i, den_b, den_s, den_sv, den_ag, denL_nil, denL_cons, Option.bind_some, i0, i5, i20, i21, i24, i30, i31, i74i, i76i, i98, Int.reduceToNat, decide_true, decide_false, if_true, if_false, decide_eq_true_eq, Bool.false_eq_true, ↓reduceIte, reduceCtorEq, E1])
      have w5 := asked_facts hask' (e := sv 31 [lfi .i64 1, .int .i64 1001]) (b := true) (by simp [fewLoop]) (c := decide (m < 1001)) (by simp only [lfi, Int.toNat_natCast, HTree.val, pickC, wantC, den_i, den_b, den_s, den_sv, den_ag, denL_nil, denL_cons, Option.bind_some, i0, i5, i20, i21, i24, i30, i31, i74i, i76i, i98, Int.reduceToNat, decide_true, decide_false, if_true, if_false, decide_eq_true_eq, Bool.false_eq_true, ↓reduceIte, reduceCtorEq, E1])
      have w6 := asked_dec (e := sv 5 [.int .i64 100, specL 34 0, lfi .i64 1]) hask' (c := (fewU m l).isEmpty) (by simp only [lfi, specL, Nat.add_zero, Nat.reduceAdd, Int.toNat_natCast, HTree.val, pickC, wantC, den_i, den_b, den_s, den_sv, den_ag, denL_nil, denL_cons, Option.bind_some, i0, i5, i20, i21, i24, i30, i31, i74i, i76i, i98, Int.reduceToNat, decide_true, decide_false, if_true, if_false, decide_eq_true_eq, Bool.false_eq_true, ↓reduceIte, reduceCtorEq, E0, E1, E5, hF.emp])
      simp only [decide_eq_true_eq, decide_eq_false_iff_not] at w1 w2 w3 w4 w5
      subst w1; subst w2
      refine ⟨⟨l, m, 0, []⟩, ⟨rfl, Nat.zero_le _, by simp only; omega, by simp only; omega, by simp only; omega⟩, rfl, rfl, ?_, ?_, ?_⟩
      · simp only [fewR]; split <;> rfl
      · simp only [fewR]
        rw [← w6]
        split <;> rename_i h <;> rw [h] <;> rfl
      · have h6 : some (cond q [] [ints .i64 (fewU m l)]) = some (((fewR hF).fin ⟨l, m, 0, []⟩).2.2) := by
          rw [← w6]
          simp only [fewR]
          split <;> rename_i h <;> rw [h] <;> rfl
        rw [← h6, ← goal2 q, ← hE]
        rfl

end Go.Proofs.YthpapjdjnnkdbaaGreatDoor

/- kalendslaw02.few, told with memory. -/
namespace Go.Proofs.YthpapjdjnnkdbaaGreatDoor
set_option linter.unusedVariables false
set_option linter.unusedSimpArgs false
open Go Go.Sy Go.RowKit

def fewC : FCtr where
  f := 17
  nb := 0
  nl := 2
  args := [nmR 0, lfi .i64 1]
  objs := [.row [.int .i64] 0]
  srts := [none, some (.int .i64)]
  wants := [(sv 31 [sv 74 [specL 0 0, .int .i64 1], .int .i64 1001], true), (sv 31 [lfi .i64 1, .int .i64 0], false), (sv 31 [lfi .i64 1, .int .i64 1001], true)]
  dec := none
  out _ := ⟨[nmR 0], [.row [.int .i64] 0], [sv 81 [.int .i64 102, specL 0 0, lfi .i64 1]]⟩

def toldFew : Tolds := ⟨[], [containsI], [sortI, sortI0], [], [fewLoop]⟩
theorem toldFew_ok {FN : Fns} (hF : FnF FN) : TOk FN toldFew := ⟨fun c h => (by cases h), fun c h => (by simp only [toldFew, List.mem_cons, List.not_mem_nil, or_false] at h; subst h; exact containsI_ok hF.toFnS),
  fun c h => (by
    simp only [toldFew, List.mem_cons, List.not_mem_nil, or_false] at h
    rcases h with rfl | rfl
    · exact sortI_ok hF.toFnS
    · exact sortI0_ok), fun c h => (by cases h), fun c h => (by simp only [toldFew, List.mem_cons, List.not_mem_nil, or_false] at h; subst h; exact fewLoop_ok hF)⟩

def fewT : HTree := (.need (sv 30 [(sv 74 [(sv 98 [.int .i64 1000000]), .int .i64 1]), (sv 74 [(sv 98 [.int .i64 1000000]), .int .i64 1])]) true (.need (sv 31 [(sv 74 [(sv 98 [.int .i64 1000000]), .int .i64 1]), .int .i64 1001]) true (.need (sv 31 [(sv 0 [.int .i64 1]), .int .i64 0]) false (.need (sv 31 [(sv 0 [.int .i64 1]), .int .i64 1001]) true (.node (sv 5 [.int .i64 100, (sv 98 [.int .i64 1000000]), (sv 0 [.int .i64 1])])
  (.leaf .ret 0 [.agg #[]])
  (.need (sv 31 [(sv 74 [(sv 81 [.int .i64 101, (sv 98 [.int .i64 1000000]), (sv 0 [.int .i64 1])]), .int .i64 1]), .int .i64 16777216]) true (.leaf .ret 0 [(sv 81 [.int .i64 103, (sv 81 [.int .i64 101, (sv 98 [.int .i64 1000000]), (sv 0 [.int .i64 1])])])])))))))

theorem few_run {FN : Fns} : ∀ t1 t2 t3 t4, fewT.okF (fun F => arun (cfgH FN noRows toldFew F) 1000 17 [nmR 0, lfi .i64 1] (canH 0 (heapOf 20 (vars t1 t2 t3 t4)) [.row [.int .i64] 0])) (fun F => ⟨20, F, FN, [], rows0⟩) 0 [⟨[(0, nmR 0)], [.row [.int .i64] 0], 1⟩] [] = true := fun t1 t2 t3 t4 => by kernel_rfl

theorem fewC_ok {FN : Fns} (hF : FnF FN) : FOk FN fewC := by
  refine fok_of (toldFew_ok hF) (by decide) few_run (fun _ => 0) (fun _ => 1) (fun _ => 0) (fun q => ⟨_, rfl, rfl⟩) fun V ls q hlen hleaf hrow hask => ?_
  obtain ⟨v0, hv0, hR⟩ := hrow 0 0 [.int .i64] (.inl rfl) (by rw [hlen]; decide)
  obtain ⟨l, rfl⟩ := hasR_ints hR
  match ls, hlen with
  | [a0, a1], _ =>
    simp only [List.getElem?_cons_zero, Option.some.injEq] at hv0
    subst hv0
    obtain ⟨m, rfl⟩ := hleaf 1 _ _ rfl rfl
    refine ⟨fun p hp => (by cases hp), ?_⟩
    have E0 : (envL FN V 0 [ints .i64 l, .int .i64 m]).val 1000000 = ints .i64 l := rfl
    have E1 : (envL FN V 0 [ints .i64 l, .int .i64 m]).int 1 = m := rfl
    have E5 : (envL FN V 0 [ints .i64 l, .int .i64 m]).fns = FN := rfl
    have hask' : Asked (envL FN V 0 [ints .i64 l, .int .i64 m]) fewC.wants fewC.dec q := hask
    have goal2 : denL (den (envL FN V 0 [ints .i64 l, .int .i64 m]) 40) (fewC.out q).exprs = some [ints .i64 (fewL m l)] := by
      simp only [fewC, HTree.val, pickC, wantC, den_i, den_b, den_s, den_sv, den_ag, denL_nil, denL_cons, Option.bind_some, i0, i5, i14, i20, i21, i24, i30, i31, i74i, i76i, i81, i98, Int.reduceToNat, decide_true, decide_false, if_true, if_false, decide_eq_true_eq, Bool.false_eq_true, ↓reduceIte, reduceCtorEq, Int.reduceEq, specL, lfi, E0, E1, E5, Nat.reduceAdd, hF.few, Int.toNat_natCast]
      rfl
    generalize hE : envL FN V 0 [ints .i64 l, .int .i64 m] = E at *
    have w3 := asked_facts hask' (e := sv 31 [sv 74 [specL 0 0, .int .i64 1], .int .i64 1001]) (b := true) (by simp [fewC]) (c := decide ((l.length : Int) < 1001)) (by simp only [lfi, specL, Nat.reduceAdd, Int.toNat_natCast, HTree.val, pickC, wantC, den_i, den_b, den_s, den_sv, den_ag, denL_nil, denL_cons, Option.bind_some, i0, i5, i14, i20, i21, i24, i30, i31, i74i, i76i, i81, i98, Int.reduceToNat, decide_true, decide_false, if_true, if_false, decide_eq_true_eq, Bool.false_eq_true, ↓reduceIte, reduceCtorEq, Int.reduceEq, E0])
    have w4 := asked_facts hask' (e := sv 31 [lfi .i64 1, .int .i64 0]) (b := false) (by simp [fewC]) (c := decide (m < 0)) (by simp only [lfi, Int.toNat_natCast, HTree.val, pickC, wantC, den_i, den_b, den_s, den_sv, den_ag, denL_nil, denL_cons, Option.bind_some, i0, i5, i14, i20, i21, i24, i30, i31, i74i, i76i, i81, i98, Int.reduceToNat, decide_true, decide_false, if_true, if_false, decide_eq_true_eq, Bool.false_eq_true, ↓reduceIte, reduceCtorEq, Int.reduceEq, E1])
    have w5 := asked_facts hask' (e := sv 31 [lfi .i64 1, .int .i64 1001]) (b := true) (by simp [fewC]) (c := decide (m < 1001)) (by simp only [lfi, Int.toNat_natCast, HTree.val, pickC, wantC, den_i, den_b, den_s, den_sv, den_ag, denL_nil, denL_cons, Option.bind_some, i0, i5, i14, i20, i21, i24, i30, i31, i74i, i76i, i81, i98, Int.reduceToNat, decide_true, decide_false, if_true, if_false, decide_eq_true_eq, Bool.false_eq_true, ↓reduceIte, reduceCtorEq, Int.reduceEq, E1])
    simp only [decide_eq_true_eq, decide_eq_false_iff_not] at w3 w4 w5
    have hfl := fewU_len m (by omega) l
    have hval : fewT.val E = some (.ret, 0, [ints .i64 (fewL m l)]) := by
      have c5 : ((fewU m l).length : Int) < 16777216 := by omega
      have J1 : ∀ z : List Int, Value.agg (z.map (Value.int .i64)).toArray = ints .i64 z := fun _ => rfl
      simp only [fewT, HTree.val, pickC, wantC, den_i, den_b, den_s, den_sv, den_ag, denL_nil, denL_cons, Option.bind_some, i0, i5, i14, i20, i21, i24, i30, i31, i74i, i76i, i81, i98, Int.reduceToNat, decide_true, decide_false, if_true, if_false, decide_eq_true_eq, Bool.false_eq_true, ↓reduceIte, reduceCtorEq, Int.reduceEq, E0, E1, E5, hF.emp, hF.fewu, hF.sort, J1, w3, w4, w5, c5, List.isEmpty_iff]
      by_cases he : fewU m l = []
      · rw [if_pos he]
        rw [show fewL m l = [] by unfold fewL; rw [he, List.mergeSort_nil]]
        rfl
      · rw [if_neg he]
        rfl
    rw [hval]
    exact ⟨.ret, _, rfl, goal2⟩

end Go.Proofs.YthpapjdjnnkdbaaGreatDoor
