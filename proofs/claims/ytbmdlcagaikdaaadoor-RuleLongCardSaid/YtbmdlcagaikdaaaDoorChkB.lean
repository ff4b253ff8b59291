/- ChkB: joined of ChkA, ChkB. -/
import Derived.Test.YtbmdlcagaikdaaaDoorSyCtrH
import Derived.Test.YtbmdlcagaikdaaaDoorRuleM

/- kalendslaw02.Check's inner loop, told with memory: the lists of numbers. -/
namespace Go.Proofs.YtbmdlcagaikdaaaDoor
set_option linter.unusedVariables false
set_option linter.unusedSimpArgs false
open Go Go.Sy Go.RowKit

theorem chk_step {α : Type} {may : α → Bool} {ord : α → α → Int} {l : List α} {k : Nat} {x : α} (h : l[k]? = some x) :
    chkFrom may ord (ahead? l k) (l.drop k) = if may x = false then 3 else if lateB ord (ahead? l k) x = true then 4 else chkFrom may ord (ahead? l (k + 1)) (l.drop (k + 1)) := by
  obtain ⟨hk, hx⟩ := List.getElem?_eq_some_iff.1 h
  rw [List.drop_eq_getElem_cons hk, hx, ahead?_succ, h]
  rfl

def ckSh (K : Int) : List Shape := [⟨[(3, .int .i64 K), (4, nmR 0), (92, lfi .i64 1), (93, lfi .i64 2)], [.row [.int .i64] 0], 3⟩]
def ckFi : List Shape := [⟨[(2, lfi .i64 0)], [], 1⟩, ⟨[], [], 0⟩]
def ckK : List Nat := [2, 3, 4, 6, 7, 8, 92, 93, 94, 95, 96, 97, 165, 166, 167, 168, 169, 170, 171, 172, 173, 174, 175, 176, 177, 178, 179, 180, 181, 182, 183, 184, 185, 186, 187, 188, 189, 190, 191, 192, 193, 194, 195, 196, 197, 198, 199, 200, 201]
def ckLoop (K num : Int) : HLCtr where
  f := 10
  p := 512830
  nt := 236
  nb := 0
  nl := 3
  ins := [(3, .int .i64 K), (4, nmR 0), (92, lfi .i64 1), (93, lfi .i64 2)]
  objs := [.row [.int .i64] 0]
  srts := [none, some (.int .i64), some (.int .i64)]
  wants := [(sv 30 [lfi .i64 2, .int .i64 0], true), (sv 30 [lfi .i64 1, sv 74 [specL 236 0, .int .i64 1]], true), (sv 31 [.int .i64 64, lfi .i64 1], false)]
  dec := some (sv 30 [sv 4 [.int .i64 num, specL 236 0], .int .i64 0])
  ex q := cond q (.exit 2) .ret
  tmps q := cond q [] [2]
  out q := cond q ⟨[], [], []⟩ ⟨[lfi .i64 0], [], [sv 4 [.int .i64 num, specL 236 0]]⟩
  kills := ckK

/-- What one round does. -/
def ckVal (T : HTree) (may : Int → Bool) : Prop := ∀ (E : Env) (l : List Int) (i : Nat), E.val 1000000 = ints .i64 l → E.int 1 = (l.length : Int) → E.int 2 = (i : Int) → i ≤ l.length → l.length ≤ 64 →
  T.val E = match l[i]? with
    | none => some (.exit 2, 1, [])
    | some x => if may x = false then some (.ret, 0, [.int .i64 3]) else if lateB cmpI (ahead? l i) x = true then some (.ret, 0, [.int .i64 4]) else some (.normal, 0, [ints .i64 l, .int .i64 l.length, .int .i64 ((i : Int) + 1)])

def ckEnd (c : Int) : AEx × Nat × List Value := if c = 0 then (.exit 2, 1, []) else (.ret, 0, [.int .i64 c])

def ckR {FN : Fns} (K : Int) (T : HTree) (may : Int → Bool) (hT : ckVal T may) : RoundH FN 236 (ckSh K) ckFi [T] [[]] (List Int × Nat) where
  sh _ := 0
  st s := [ints .i64 s.1, .int .i64 s.1.length, .int .i64 s.2]
  Inv s := s.2 ≤ s.1.length ∧ s.1.length ≤ 64
  μ s := s.1.length - s.2
  fin s := ckEnd (chkFrom may cmpI (ahead? s.1 s.2) (s.1.drop s.2))
  step V s hI := by
    obtain ⟨l, i⟩ := s
    obtain ⟨h1, h2⟩ := hI
    simp only at h1 h2
    refine ⟨T, [], ?_⟩
    have hv := hT (envL FN V 236 [ints .i64 l, .int .i64 l.length, .int .i64 i]) l i rfl rfl rfl h1 h2
    simp only
    cases hx : l[i]? with
    | none =>
      rw [hx] at hv
      have hi : l.length ≤ i := List.getElem?_eq_none_iff.1 hx
      refine ⟨_, _, _, rfl, rfl, (fun p hp => by cases hp), hv, .inr ⟨by simp, ?_⟩⟩
      rw [chk_end hi]
      rfl
    | some x =>
      rw [hx] at hv
      have hk := (List.getElem?_eq_some_iff.1 hx).1
      simp only at hv
      by_cases hm : may x = false
      · rw [if_pos hm] at hv
        refine ⟨_, _, _, rfl, rfl, (fun p hp => by cases hp), hv, .inr ⟨by simp, ?_⟩⟩
        rw [chk_step hx, if_pos hm]
        rfl
      · rw [if_neg hm] at hv
        by_cases hl : lateB cmpI (ahead? l i) x = true
        · rw [if_pos hl] at hv
          refine ⟨_, _, _, rfl, rfl, (fun p hp => by cases hp), hv, .inr ⟨by simp, ?_⟩⟩
          rw [chk_step hx, if_neg hm, if_pos hl]
          rfl
        · rw [if_neg hl] at hv
          refine ⟨_, _, _, rfl, rfl, (fun p hp => by cases hp), hv, .inl ⟨rfl, (l, i + 1), ⟨hk, h2⟩, by simp only; omega, ?_, rfl, rfl⟩⟩
          rw [chk_step hx, if_neg hm, if_neg hl]

theorem ckLoop_ok {FN : Fns} {K num : Int} {T : HTree} {may : Int → Bool} (hr : ∀ {FN : Fns}, RoundsOk FN ⟨[], [], [], [], []⟩ 10 512830 236 0 (ckSh K) ckFi ckK [T] [[]]) (hT : ckVal T may) (hF : ∀ l, FN.int num.toNat [ints .i64 l] = chkList may cmpI l) : HLOk FN (ckLoop K num) := by
  refine hlok_of (T := ⟨[], [], [], [], []⟩) ⟨fun c h => (by cases h), fun c h => (by cases h), fun c h => (by cases h), fun c h => (by cases h), fun c h => (by cases h)⟩ (by kernel_rfl) (show (236 : Nat) < 100000 by decide) hr (ckR K T may hT) 0 rfl (fun b => cond b 1 0) (fun b => cond b 0 1) (fun q => ?_) fun V ls q hlen hleaf hrow hask => ?_
  · cases q
    · exact ⟨rfl, rfl, show (ckK.all fun t => memb ckK t || memb [2] t) = true by decide⟩
    · exact ⟨rfl, rfl, show (ckK.all fun t => memb ckK t || memb [] t) = true by decide⟩
  · obtain ⟨v0, hv0, hR⟩ := hrow 0 0 [.int .i64] (.inl rfl) (by rw [hlen]; exact (by decide : (0 : Nat) < 3))
    obtain ⟨l, rfl⟩ := hasR_ints hR
    match ls, hlen with
    | [a0, a1, a2], _ =>
      simp only [List.getElem?_cons_zero, Option.some.injEq] at hv0
      subst hv0
      obtain ⟨n, rfl⟩ := hleaf 1 _ _ rfl rfl
      obtain ⟨i, rfl⟩ := hleaf 2 _ _ rfl rfl
      have E0 : (envL FN V 236 [ints .i64 l, .int .i64 n, .int .i64 i]).val 1000000 = ints .i64 l := rfl
      have E1 : (envL FN V 236 [ints .i64 l, .int .i64 n, .int .i64 i]).int 1 = n := rfl
      have E2 : (envL FN V 236 [ints .i64 l, .int .i64 n, .int .i64 i]).int 2 = i := rfl
      have E5 : (envL FN V 236 [ints .i64 l, .int .i64 n, .int .i64 i]).fns = FN := rfl
      have hask' : Asked (envL FN V 236 [ints .i64 l, .int .i64 n, .int .i64 i]) (ckLoop K num).wants (ckLoop K num).dec q := hask
      show ∃ s, _ ∧ _ ∧ _ ∧ _ ∧ _ ∧ denL (den (envL FN V 236 [ints .i64 l, .int .i64 n, .int .i64 i]) 40) ((ckLoop K num).out q).exprs = _
      have goal2 : denL (den (envL FN V 236 [ints .i64 l, .int .i64 n, .int .i64 i]) 40) ((ckLoop K num).out q).exprs = some (cond q [] [.int .i64 (chkList may cmpI l)]) := by
        cases q <;> simp only [ckLoop, cond_false, cond_true, den_sv, denL_nil, denL_cons, den_i, Option.bind_some, i4, i98, specL, Int.toNat_natCast, Nat.reduceAdd, E0, E5, hF]
      generalize envL FN V 236 [ints .i64 l, .int .i64 n, .int .i64 i] = E at *
      have w1 := asked_facts hask' (e := sv 30 [lfi .i64 2, .int .i64 0]) (b := true) (by simp [ckLoop]) (c := decide (i = 0)) (by simp only [lfi, den_sv, denL_nil, denL_cons, den_i, Option.bind_some, i0, i30, Int.toNat_natCast, E2])
      have w2 := asked_facts hask' (e := sv 30 [lfi .i64 1, sv 74 [specL 236 0, .int .i64 1]]) (b := true) (by simp [ckLoop]) (c := decide (n = (l.length : Int))) (by simp only [lfi, specL, den_sv, denL_nil, denL_cons, den_i, Option.bind_some, i0, i30, i74i, i98, Int.toNat_natCast, Nat.reduceAdd, E0, E1])
      have w3 := asked_facts hask' (e := sv 31 [.int .i64 64, lfi .i64 1]) (b := false) (by simp [ckLoop]) (c := decide (64 < n)) (by simp only [lfi, den_sv, denL_nil, denL_cons, den_i, Option.bind_some, i0, i31, Int.toNat_natCast, E1])
      have w6 := asked_dec (e := sv 30 [sv 4 [.int .i64 num, specL 236 0], .int .i64 0]) hask' (c := decide (chkList may cmpI l = 0)) (by simp only [specL, den_sv, denL_nil, denL_cons, den_i, Option.bind_some, i4, i30, i98, Int.toNat_natCast, Nat.reduceAdd, E0, E5, hF])
      simp only [decide_eq_true_eq, decide_eq_false_iff_not] at w1 w2 w3
      subst w1; subst w2
      have hcl : chkList may cmpI l = chkFrom may cmpI (ahead? l 0) (l.drop 0) := by
        rw [chkList, if_neg (by omega)]
        rfl
      refine ⟨(l, 0), ⟨Nat.zero_le _, by simp only; omega⟩, rfl, rfl, ?_, ?_, ?_⟩
      · show (ckEnd _).1 = _
        rw [← hcl, ckEnd, ← w6]
        by_cases hc : chkList may cmpI l = 0
        · rw [if_pos hc, decide_eq_true hc]; rfl
        · rw [if_neg hc, decide_eq_false hc]; rfl
      · show (ckEnd _).2.1 = _
        rw [← hcl, ckEnd, ← w6]
        by_cases hc : chkList may cmpI l = 0
        · rw [if_pos hc, decide_eq_true hc]; rfl
        · rw [if_neg hc, decide_eq_false hc]; rfl
      · rw [goal2]
        show _ = some (ckEnd _).2.2
        rw [← hcl, ckEnd, ← w6]
        by_cases hc : chkList may cmpI l = 0
        · rw [if_pos hc, decide_eq_true hc]; rfl
        · rw [if_neg hc, decide_eq_false hc]; rfl

def ckT0 : HTree := (.node (sv 31 [(sv 0 [.int .i64 2]), (sv 0 [.int .i64 1])])
  (.need (sv 31 [(sv 0 [.int .i64 2]), .int .i64 0]) false (.need (sv 31 [(sv 0 [.int .i64 2]), (sv 74 [(sv 98 [.int .i64 1000000]), .int .i64 1])]) true (.node (sv 30 [(sv 72 [.int .i64 0, (sv 98 [.int .i64 1000000]), (sv 0 [.int .i64 2]), .int .i64 1, .int .i64 0]), .int .i64 0])
  (.node (sv 31 [.int .i64 0, (sv 0 [.int .i64 2])])
  (.need (sv 31 [(sv 21 [.int .i64 0, (sv 0 [.int .i64 2]), .int .i64 1]), .int .i64 0]) false (.need (sv 31 [(sv 21 [.int .i64 0, (sv 0 [.int .i64 2]), .int .i64 1]), (sv 74 [(sv 98 [.int .i64 1000000]), .int .i64 1])]) true (.leaf .ret 0 [.int .i64 3])))
  (.leaf .ret 0 [.int .i64 3]))
  (.node (sv 31 [(sv 72 [.int .i64 0, (sv 98 [.int .i64 1000000]), (sv 0 [.int .i64 2]), .int .i64 1, .int .i64 0]), .int .i64 (-12)])
  (.node (sv 31 [.int .i64 0, (sv 0 [.int .i64 2])])
  (.need (sv 31 [(sv 21 [.int .i64 0, (sv 0 [.int .i64 2]), .int .i64 1]), .int .i64 0]) false (.need (sv 31 [(sv 21 [.int .i64 0, (sv 0 [.int .i64 2]), .int .i64 1]), (sv 74 [(sv 98 [.int .i64 1000000]), .int .i64 1])]) true (.leaf .ret 0 [.int .i64 3])))
  (.leaf .ret 0 [.int .i64 3]))
  (.node (sv 31 [.int .i64 12, (sv 72 [.int .i64 0, (sv 98 [.int .i64 1000000]), (sv 0 [.int .i64 2]), .int .i64 1, .int .i64 0])])
  (.node (sv 31 [.int .i64 0, (sv 0 [.int .i64 2])])
  (.need (sv 31 [(sv 21 [.int .i64 0, (sv 0 [.int .i64 2]), .int .i64 1]), .int .i64 0]) false (.need (sv 31 [(sv 21 [.int .i64 0, (sv 0 [.int .i64 2]), .int .i64 1]), (sv 74 [(sv 98 [.int .i64 1000000]), .int .i64 1])]) true (.leaf .ret 0 [.int .i64 3])))
  (.leaf .ret 0 [.int .i64 3]))
  (.node (sv 31 [.int .i64 0, (sv 0 [.int .i64 2])])
  (.need (sv 31 [(sv 21 [.int .i64 0, (sv 0 [.int .i64 2]), .int .i64 1]), .int .i64 0]) false (.need (sv 31 [(sv 21 [.int .i64 0, (sv 0 [.int .i64 2]), .int .i64 1]), (sv 74 [(sv 98 [.int .i64 1000000]), .int .i64 1])]) true (.node (sv 31 [(sv 72 [.int .i64 0, (sv 98 [.int .i64 1000000]), (sv 0 [.int .i64 2]), .int .i64 1, .int .i64 0]), .int .i64 0])
  (.leaf .ret 0 [.int .i64 3])
  (.node (sv 31 [(sv 72 [.int .i64 0, (sv 98 [.int .i64 1000000]), (sv 21 [.int .i64 0, (sv 0 [.int .i64 2]), .int .i64 1]), .int .i64 1, .int .i64 0]), (sv 72 [.int .i64 0, (sv 98 [.int .i64 1000000]), (sv 0 [.int .i64 2]), .int .i64 1, .int .i64 0])])
  (.leaf .normal 0 [(sv 98 [.int .i64 1000000]), (sv 0 [.int .i64 1]), (sv 20 [.int .i64 0, (sv 0 [.int .i64 2]), .int .i64 1])])
  (.leaf .ret 0 [.int .i64 4])))))
  (.node (sv 31 [(sv 72 [.int .i64 0, (sv 98 [.int .i64 1000000]), (sv 0 [.int .i64 2]), .int .i64 1, .int .i64 0]), .int .i64 0])
  (.leaf .ret 0 [.int .i64 3])
  (.leaf .normal 0 [(sv 98 [.int .i64 1000000]), (sv 0 [.int .i64 1]), (sv 20 [.int .i64 0, (sv 0 [.int .i64 2]), .int .i64 1])]))))))))
  (.leaf (.exit 2) 1 []))
theorem ckRounds0 {FN : Fns} : RoundsOk FN ⟨[], [], [], [], []⟩ 10 512830 236 0 (ckSh 0) ckFi ckK [ckT0] [[]] := fun t1 t2 t3 t4 => by kernel_rfl
theorem ckVal0 : ckVal ckT0 mayMonth := by
  intro E l i E0 E1 E2 hi hl
  cases hx : l[i]? with
  | none =>
    have h0 : l.length ≤ i := List.getElem?_eq_none_iff.1 hx
    have c1 : ¬ (i : Int) < (l.length : Int) := by omega
    simp (disch := omega) only [ckT0, HTree.val, pickC, wantC, den_i, den_b, den_s, den_sv, den_ag, denL_nil, denL_cons, Option.bind_some, i0, i20, i21, i30, i31, i74i, i98, Int.reduceToNat, decide_true, decide_false, if_true, if_false, decide_eq_true_eq, Bool.false_eq_true, ↓reduceIte, reduceCtorEq, Int.reduceEq, E0, E1, E2, wr64, c1]
  | some x =>
    have hk := (List.getElem?_eq_some_iff.1 hx).1
    have c1 : (i : Int) < (l.length : Int) := by omega
    have c2 : ¬ (i : Int) < 0 := by omega
    have hx' := fun a k1 k2 k3 => i72i (E := E) (k := .i64) hx a k1 k2 k3
    by_cases hz : i = 0
    · subst hz
      have c3 : ¬ (0 : Int) < ((0 : Nat) : Int) := by omega
      by_cases g1 : x = 0 <;> by_cases g2 : x < -12 <;> by_cases g3 : 12 < x <;> by_cases g4 : x < 0 <;> first
        | (exfalso; omega)
        | (simp (disch := omega) only [ckT0, HTree.val, pickC, wantC, den_i, den_b, den_s, den_sv, den_ag, denL_nil, denL_cons, Option.bind_some, i0, i20, i21, i30, i31, i74i, i98, Int.reduceToNat, decide_true, decide_false, if_true, if_false, decide_eq_true_eq, Bool.false_eq_true, ↓reduceIte, reduceCtorEq, Int.reduceEq, E0, E1, E2, wr64, hx', c1, c2, c3, g1, g2, g3, g4]
           simp [mayMonth, ahead?, lateB, g1, g2, g3, g4]
           try omega)
    · obtain ⟨p, hp⟩ : ∃ p, l[i - 1]? = some p := ⟨_, List.getElem?_eq_getElem (by omega)⟩
      have e1 : (i : Int) - 1 = ((i - 1 : Nat) : Int) := by omega
      have c3 : (0 : Int) < (i : Int) := by omega
      have c4 : ¬ ((i - 1 : Nat) : Int) < 0 := by omega
      have c5 : ((i - 1 : Nat) : Int) < (l.length : Int) := by omega
      have hp' := fun a k1 k2 k3 => i72i (E := E) (k := .i64) hp a k1 k2 k3
      have ha : ahead? l i = some p := by rw [ahead?, if_neg hz, hp]
      have hc : (0 ≤ cmpI p x) = ¬ (p < x) := by rw [cmpI_ge]; exact propext (by omega)
      by_cases g1 : x = 0 <;> by_cases g2 : x < -12 <;> by_cases g3 : 12 < x <;> by_cases g4 : x < 0 <;> by_cases g5 : p < x <;> first
        | (exfalso; omega)
        | (simp (disch := omega) only [ckT0, HTree.val, pickC, wantC, den_i, den_b, den_s, den_sv, den_ag, denL_nil, denL_cons, Option.bind_some, i0, i20, i21, i30, i31, i74i, i98, Int.reduceToNat, decide_true, decide_false, if_true, if_false, decide_eq_true_eq, Bool.false_eq_true, ↓reduceIte, reduceCtorEq, Int.reduceEq, E0, E1, E2, wr64, hx', hp', e1, c1, c2, c3, c4, c5, g1, g2, g3, g4, g5]
           simp [mayMonth, ha, lateB, hc, g1, g2, g3, g4, g5]
           try omega)

def ckT1 : HTree := (.node (sv 31 [(sv 0 [.int .i64 2]), (sv 0 [.int .i64 1])])
  (.need (sv 31 [(sv 0 [.int .i64 2]), .int .i64 0]) false (.need (sv 31 [(sv 0 [.int .i64 2]), (sv 74 [(sv 98 [.int .i64 1000000]), .int .i64 1])]) true (.node (sv 30 [(sv 72 [.int .i64 0, (sv 98 [.int .i64 1000000]), (sv 0 [.int .i64 2]), .int .i64 1, .int .i64 0]), .int .i64 0])
  (.node (sv 31 [.int .i64 0, (sv 0 [.int .i64 2])])
  (.need (sv 31 [(sv 21 [.int .i64 0, (sv 0 [.int .i64 2]), .int .i64 1]), .int .i64 0]) false (.need (sv 31 [(sv 21 [.int .i64 0, (sv 0 [.int .i64 2]), .int .i64 1]), (sv 74 [(sv 98 [.int .i64 1000000]), .int .i64 1])]) true (.leaf .ret 0 [.int .i64 3])))
  (.leaf .ret 0 [.int .i64 3]))
  (.node (sv 31 [(sv 72 [.int .i64 0, (sv 98 [.int .i64 1000000]), (sv 0 [.int .i64 2]), .int .i64 1, .int .i64 0]), .int .i64 (-31)])
  (.node (sv 31 [.int .i64 0, (sv 0 [.int .i64 2])])
  (.need (sv 31 [(sv 21 [.int .i64 0, (sv 0 [.int .i64 2]), .int .i64 1]), .int .i64 0]) false (.need (sv 31 [(sv 21 [.int .i64 0, (sv 0 [.int .i64 2]), .int .i64 1]), (sv 74 [(sv 98 [.int .i64 1000000]), .int .i64 1])]) true (.leaf .ret 0 [.int .i64 3])))
  (.leaf .ret 0 [.int .i64 3]))
  (.node (sv 31 [.int .i64 31, (sv 72 [.int .i64 0, (sv 98 [.int .i64 1000000]), (sv 0 [.int .i64 2]), .int .i64 1, .int .i64 0])])
  (.node (sv 31 [.int .i64 0, (sv 0 [.int .i64 2])])
  (.need (sv 31 [(sv 21 [.int .i64 0, (sv 0 [.int .i64 2]), .int .i64 1]), .int .i64 0]) false (.need (sv 31 [(sv 21 [.int .i64 0, (sv 0 [.int .i64 2]), .int .i64 1]), (sv 74 [(sv 98 [.int .i64 1000000]), .int .i64 1])]) true (.leaf .ret 0 [.int .i64 3])))
  (.leaf .ret 0 [.int .i64 3]))
  (.node (sv 31 [.int .i64 0, (sv 0 [.int .i64 2])])
  (.need (sv 31 [(sv 21 [.int .i64 0, (sv 0 [.int .i64 2]), .int .i64 1]), .int .i64 0]) false (.need (sv 31 [(sv 21 [.int .i64 0, (sv 0 [.int .i64 2]), .int .i64 1]), (sv 74 [(sv 98 [.int .i64 1000000]), .int .i64 1])]) true (.node (sv 31 [(sv 72 [.int .i64 0, (sv 98 [.int .i64 1000000]), (sv 21 [.int .i64 0, (sv 0 [.int .i64 2]), .int .i64 1]), .int .i64 1, .int .i64 0]), (sv 72 [.int .i64 0, (sv 98 [.int .i64 1000000]), (sv 0 [.int .i64 2]), .int .i64 1, .int .i64 0])])
  (.leaf .normal 0 [(sv 98 [.int .i64 1000000]), (sv 0 [.int .i64 1]), (sv 20 [.int .i64 0, (sv 0 [.int .i64 2]), .int .i64 1])])
  (.leaf .ret 0 [.int .i64 4]))))
  (.leaf .normal 0 [(sv 98 [.int .i64 1000000]), (sv 0 [.int .i64 1]), (sv 20 [.int .i64 0, (sv 0 [.int .i64 2]), .int .i64 1])])))))))
  (.leaf (.exit 2) 1 []))
theorem ckRounds1 {FN : Fns} : RoundsOk FN ⟨[], [], [], [], []⟩ 10 512830 236 0 (ckSh 1) ckFi ckK [ckT1] [[]] := fun t1 t2 t3 t4 => by kernel_rfl
theorem ckVal1 : ckVal ckT1 (mayNear 31) := by
  intro E l i E0 E1 E2 hi hl
  cases hx : l[i]? with
  | none =>
    have h0 : l.length ≤ i := List.getElem?_eq_none_iff.1 hx
    have c1 : ¬ (i : Int) < (l.length : Int) := by omega
    simp (disch := omega) only [ckT1, HTree.val, pickC, wantC, den_i, den_b, den_s, den_sv, den_ag, denL_nil, denL_cons, Option.bind_some, i0, i20, i21, i30, i31, i74i, i98, Int.reduceToNat, decide_true, decide_false, if_true, if_false, decide_eq_true_eq, Bool.false_eq_true, ↓reduceIte, reduceCtorEq, Int.reduceEq, E0, E1, E2, wr64, c1]
  | some x =>
    have hk := (List.getElem?_eq_some_iff.1 hx).1
    have c1 : (i : Int) < (l.length : Int) := by omega
    have c2 : ¬ (i : Int) < 0 := by omega
    have hx' := fun a k1 k2 k3 => i72i (E := E) (k := .i64) hx a k1 k2 k3
    by_cases hz : i = 0
    · subst hz
      have c3 : ¬ (0 : Int) < ((0 : Nat) : Int) := by omega
      by_cases g1 : x = 0 <;> by_cases g2 : x < -31 <;> by_cases g3 : 31 < x <;> first
        | (exfalso; omega)
        | (simp (disch := omega) only [ckT1, HTree.val, pickC, wantC, den_i, den_b, den_s, den_sv, den_ag, denL_nil, denL_cons, Option.bind_some, i0, i20, i21, i30, i31, i74i, i98, Int.reduceToNat, decide_true, decide_false, if_true, if_false, decide_eq_true_eq, Bool.false_eq_true, ↓reduceIte, reduceCtorEq, Int.reduceEq, E0, E1, E2, wr64, hx', c1, c2, c3, g1, g2, g3]
           simp [mayNear, ahead?, lateB, g1, g2, g3]
           try omega)
    · obtain ⟨p, hp⟩ : ∃ p, l[i - 1]? = some p := ⟨_, List.getElem?_eq_getElem (by omega)⟩
      have e1 : (i : Int) - 1 = ((i - 1 : Nat) : Int) := by omega
      have c3 : (0 : Int) < (i : Int) := by omega
      have c4 : ¬ ((i - 1 : Nat) : Int) < 0 := by omega
      have c5 : ((i - 1 : Nat) : Int) < (l.length : Int) := by omega
      have hp' := fun a k1 k2 k3 => i72i (E := E) (k := .i64) hp a k1 k2 k3
      have ha : ahead? l i = some p := by rw [ahead?, if_neg hz, hp]
      have hc : (0 ≤ cmpI p x) = ¬ (p < x) := by rw [cmpI_ge]; exact propext (by omega)
      by_cases g1 : x = 0 <;> by_cases g2 : x < -31 <;> by_cases g3 : 31 < x <;> by_cases g5 : p < x <;> first
        | (exfalso; omega)
        | (simp (disch := omega) only [ckT1, HTree.val, pickC, wantC, den_i, den_b, den_s, den_sv, den_ag, denL_nil, denL_cons, Option.bind_some, i0, i20, i21, i30, i31, i74i, i98, Int.reduceToNat, decide_true, decide_false, if_true, if_false, decide_eq_true_eq, Bool.false_eq_true, ↓reduceIte, reduceCtorEq, Int.reduceEq, E0, E1, E2, wr64, hx', hp', e1, c1, c2, c3, c4, c5, g1, g2, g3, g5]
           simp [mayNear, ha, lateB, hc, g1, g2, g3, g5]
           try omega)

def ckT3 : HTree := (.node (sv 31 [(sv 0 [.int .i64 2]), (sv 0 [.int .i64 1])])
  (.need (sv 31 [(sv 0 [.int .i64 2]), .int .i64 0]) false (.need (sv 31 [(sv 0 [.int .i64 2]), (sv 74 [(sv 98 [.int .i64 1000000]), .int .i64 1])]) true (.node (sv 30 [(sv 72 [.int .i64 0, (sv 98 [.int .i64 1000000]), (sv 0 [.int .i64 2]), .int .i64 1, .int .i64 0]), .int .i64 0])
  (.node (sv 31 [.int .i64 0, (sv 0 [.int .i64 2])])
  (.need (sv 31 [(sv 21 [.int .i64 0, (sv 0 [.int .i64 2]), .int .i64 1]), .int .i64 0]) false (.need (sv 31 [(sv 21 [.int .i64 0, (sv 0 [.int .i64 2]), .int .i64 1]), (sv 74 [(sv 98 [.int .i64 1000000]), .int .i64 1])]) true (.leaf .ret 0 [.int .i64 3])))
  (.leaf .ret 0 [.int .i64 3]))
  (.node (sv 31 [(sv 72 [.int .i64 0, (sv 98 [.int .i64 1000000]), (sv 0 [.int .i64 2]), .int .i64 1, .int .i64 0]), .int .i64 (-366)])
  (.node (sv 31 [.int .i64 0, (sv 0 [.int .i64 2])])
  (.need (sv 31 [(sv 21 [.int .i64 0, (sv 0 [.int .i64 2]), .int .i64 1]), .int .i64 0]) false (.need (sv 31 [(sv 21 [.int .i64 0, (sv 0 [.int .i64 2]), .int .i64 1]), (sv 74 [(sv 98 [.int .i64 1000000]), .int .i64 1])]) true (.leaf .ret 0 [.int .i64 3])))
  (.leaf .ret 0 [.int .i64 3]))
  (.node (sv 31 [.int .i64 366, (sv 72 [.int .i64 0, (sv 98 [.int .i64 1000000]), (sv 0 [.int .i64 2]), .int .i64 1, .int .i64 0])])
  (.node (sv 31 [.int .i64 0, (sv 0 [.int .i64 2])])
  (.need (sv 31 [(sv 21 [.int .i64 0, (sv 0 [.int .i64 2]), .int .i64 1]), .int .i64 0]) false (.need (sv 31 [(sv 21 [.int .i64 0, (sv 0 [.int .i64 2]), .int .i64 1]), (sv 74 [(sv 98 [.int .i64 1000000]), .int .i64 1])]) true (.leaf .ret 0 [.int .i64 3])))
  (.leaf .ret 0 [.int .i64 3]))
  (.node (sv 31 [.int .i64 0, (sv 0 [.int .i64 2])])
  (.need (sv 31 [(sv 21 [.int .i64 0, (sv 0 [.int .i64 2]), .int .i64 1]), .int .i64 0]) false (.need (sv 31 [(sv 21 [.int .i64 0, (sv 0 [.int .i64 2]), .int .i64 1]), (sv 74 [(sv 98 [.int .i64 1000000]), .int .i64 1])]) true (.node (sv 31 [(sv 72 [.int .i64 0, (sv 98 [.int .i64 1000000]), (sv 21 [.int .i64 0, (sv 0 [.int .i64 2]), .int .i64 1]), .int .i64 1, .int .i64 0]), (sv 72 [.int .i64 0, (sv 98 [.int .i64 1000000]), (sv 0 [.int .i64 2]), .int .i64 1, .int .i64 0])])
  (.leaf .normal 0 [(sv 98 [.int .i64 1000000]), (sv 0 [.int .i64 1]), (sv 20 [.int .i64 0, (sv 0 [.int .i64 2]), .int .i64 1])])
  (.leaf .ret 0 [.int .i64 4]))))
  (.leaf .normal 0 [(sv 98 [.int .i64 1000000]), (sv 0 [.int .i64 1]), (sv 20 [.int .i64 0, (sv 0 [.int .i64 2]), .int .i64 1])])))))))
  (.leaf (.exit 2) 1 []))
theorem ckRounds3 {FN : Fns} : RoundsOk FN ⟨[], [], [], [], []⟩ 10 512830 236 0 (ckSh 3) ckFi ckK [ckT3] [[]] := fun t1 t2 t3 t4 => by kernel_rfl
theorem ckVal3 : ckVal ckT3 (mayNear 366) := by
  intro E l i E0 E1 E2 hi hl
  cases hx : l[i]? with
  | none =>
    have h0 : l.length ≤ i := List.getElem?_eq_none_iff.1 hx
    have c1 : ¬ (i : Int) < (l.length : Int) := by omega
    simp (disch := omega) only [ckT3, HTree.val, pickC, wantC, den_i, den_b, den_s, den_sv, den_ag, denL_nil, denL_cons, Option.bind_some, i0, i20, i21, i30, i31, i74i, i98, Int.reduceToNat, decide_true, decide_false, if_true, if_false, decide_eq_true_eq, Bool.false_eq_true, ↓reduceIte, reduceCtorEq, Int.reduceEq, E0, E1, E2, wr64, c1]
  | some x =>
    have hk := (List.getElem?_eq_some_iff.1 hx).1
    have c1 : (i : Int) < (l.length : Int) := by omega
    have c2 : ¬ (i : Int) < 0 := by omega
    have hx' := fun a k1 k2 k3 => i72i (E := E) (k := .i64) hx a k1 k2 k3
    by_cases hz : i = 0
    · subst hz
      have c3 : ¬ (0 : Int) < ((0 : Nat) : Int) := by omega
      by_cases g1 : x = 0 <;> by_cases g2 : x < -366 <;> by_cases g3 : 366 < x <;> first
        | (exfalso; omega)
        | (simp (disch := omega) only [ckT3, HTree.val, pickC, wantC, den_i, den_b, den_s, den_sv, den_ag, denL_nil, denL_cons, Option.bind_some, i0, i20, i21, i30, i31, i74i, i98, Int.reduceToNat, decide_true, decide_false, if_true, if_false, decide_eq_true_eq, Bool.false_eq_true, ↓reduceIte, reduceCtorEq, Int.reduceEq, E0, E1, E2, wr64, hx', c1, c2, c3, g1, g2, g3]
           simp [mayNear, ahead?, lateB, g1, g2, g3]
           try omega)
    · obtain ⟨p, hp⟩ : ∃ p, l[i - 1]? = some p := ⟨_, List.getElem?_eq_getElem (by omega)⟩
      have e1 : (i : Int) - 1 = ((i - 1 : Nat) : Int) := by omega
      have c3 : (0 : Int) < (i : Int) := by omega
      have c4 : ¬ ((i - 1 : Nat) : Int) < 0 := by omega
      have c5 : ((i - 1 : Nat) : Int) < (l.length : Int) := by omega
      have hp' := fun a k1 k2 k3 => i72i (E := E) (k := .i64) hp a k1 k2 k3
      have ha : ahead? l i = some p := by rw [ahead?, if_neg hz, hp]
      have hc : (0 ≤ cmpI p x) = ¬ (p < x) := by rw [cmpI_ge]; exact propext (by omega)
      by_cases g1 : x = 0 <;> by_cases g2 : x < -366 <;> by_cases g3 : 366 < x <;> by_cases g5 : p < x <;> first
        | (exfalso; omega)
        | (simp (disch := omega) only [ckT3, HTree.val, pickC, wantC, den_i, den_b, den_s, den_sv, den_ag, denL_nil, denL_cons, Option.bind_some, i0, i20, i21, i30, i31, i74i, i98, Int.reduceToNat, decide_true, decide_false, if_true, if_false, decide_eq_true_eq, Bool.false_eq_true, ↓reduceIte, reduceCtorEq, Int.reduceEq, E0, E1, E2, wr64, hx', hp', e1, c1, c2, c3, c4, c5, g1, g2, g3, g5]
           simp [mayNear, ha, lateB, hc, g1, g2, g3, g5]
           try omega)

end Go.Proofs.YtbmdlcagaikdaaaDoor

/- kalendslaw02.Check's inner loop, told with memory: the list of weekdays. -/
namespace Go.Proofs.YtbmdlcagaikdaaaDoor
set_option linter.unusedVariables false
set_option linter.unusedSimpArgs false
open Go Go.Sy Go.RowKit

def cwI : Value := sv 0 [.int .i64 9]
def cwL : Value := sv 98 [.int .i64 1000006]
def cwX (d : Int) : Value := sv 72 [.int .i64 0, cwL, cwI, .int .i64 2, .int .i64 d]
def cwJ : Value := sv 21 [.int .i64 0, cwI, .int .i64 1]
def cwQ (d : Int) : Value := sv 72 [.int .i64 0, cwL, cwJ, .int .i64 2, .int .i64 d]
def cwZ : Value := sv 74 [cwL, .int .i64 2]
def cwB : List Value := [sv 0 [.int .i64 0], sv 0 [.int .i64 1], sv 0 [.int .i64 2], sv 0 [.int .i64 3], sv 98 [.int .i64 1000004], sv 98 [.int .i64 1000005], cwL, sv 98 [.int .i64 1000007]]
def cwE (c : Int) : HTree := .leaf .ret 0 (cwB ++ [.int .i64 c])
def cwN : HTree := .leaf .normal 0 (cwB ++ [sv 0 [.int .i64 8], sv 20 [.int .i64 0, cwI, .int .i64 1]])
def cwP (A B C Z : HTree) : HTree := .node (sv 31 [.int .i64 0, cwI]) (.need (sv 31 [cwJ, .int .i64 0]) false (.need (sv 31 [cwJ, cwZ]) true (.node (sv 31 [cwX 0, cwQ 0]) A (.node (sv 30 [cwQ 0, cwX 0]) B C)))) Z
def cwA (T : HTree) : HTree := cwP T T T T
def cwD : HTree := .node (sv 31 [cwQ 1, cwX 1]) cwN (cwE 4)
def cwM (m : Int) (T : HTree) : HTree := .node (sv 31 [.int .i64 m, cwX 0]) (cwE 3) T
def cwS (m : Int) (T : HTree) : HTree := .node (sv 31 [cwX 1, .int .i64 0]) (cwA (cwE 3)) (.node (sv 31 [.int .i64 6, cwX 1]) (cwA (cwE 3)) (.node (sv 30 [cwX 0, .int .i64 0]) (cwP (cwE 4) cwD cwN cwN) (.node (sv 31 [cwX 0, .int .i64 (-m)]) (cwA (cwE 3)) T)))
def cwR (m : Int) : HTree := cwS m (cwP (cwM m (cwE 4)) (cwM m cwD) (cwM m cwN) (cwM m cwN))
def cwR0 : HTree := cwS 0 (cwA (.need (sv 31 [.int .i64 0, cwX 0]) true (cwE 3)))
def cwF (k : Int) : Value := sv 32 [sv 0 [.int .i64 0], .int .i64 k]
def cwT : HTree := .node (sv 31 [cwI, sv 0 [.int .i64 8]]) (.need (sv 31 [cwI, .int .i64 0]) false (.need (sv 31 [cwI, cwZ]) true
  (.node (cwF 0) cwR0 (.node (cwF 1) cwR0 (.node (cwF 2) (cwR 5) (.need (cwF 3) true (cwR 53))))))) (.leaf (.exit 2) 1 cwB)

def cwOb : List PObj := [.box [lfi .i64 0, lfi .i64 1, lfi .i64 2, lfi .i64 3, nmR 1, nmR 2, nmR 3, nmR 4] 27 true 0, .row [.int .i64] 4, .row [.int .i64] 5, .row [.int .i64, .int .i64] 6, .row [.int .i64] 7]
def cwIn : List (Nat × Value) := [(1, nmB 0), (3, .int .i64 2), (92, lfi .i64 8), (93, lfi .i64 9)]
def cwSh : List Shape := [⟨cwIn, cwOb, 10⟩]
def cwFi : List Shape := [⟨[(1, nmB 0), (2, lfi .i64 8)], cwOb, 9⟩, ⟨[(1, nmB 0)], cwOb, 8⟩]
def cwK : List Nat := [1, 2, 3, 6, 7, 8, 9, 10, 92, 93, 94, 95, 96, 97, 98, 99, 100, 101, 102, 103, 104, 105, 106, 107, 108, 109, 110, 111, 112, 113, 114, 115, 116, 117, 118, 119, 120, 121, 122, 123, 124, 125, 126, 127, 128, 129, 130, 131, 132, 133, 134, 135, 136, 137, 138, 139, 140, 141, 142, 143, 144, 145, 146, 147, 148, 149, 150, 151, 152, 153, 154, 155, 156, 157, 158, 159, 160, 161, 162, 163, 164, 199, 200, 201]
def cwF0 : List (Value × Bool) := [(sv 31 [lfi .i64 0, .int .i64 4], true), (sv 31 [lfi .i64 0, .int .i64 0], false)]

def cwLoop : HLCtr where
  f := 10
  p := 512830
  nt := 236
  nb := 1
  nl := 10
  ins := cwIn
  objs := cwOb
  srts := [some (.int .i64), some (.int .i64), some (.int .i64), some (.int .i64), none, none, none, none, some (.int .i64), some (.int .i64)]
  wants := [(sv 30 [lfi .i64 9, .int .i64 0], true), (sv 30 [lfi .i64 8, sv 74 [specL 236 6, .int .i64 2]], true), (sv 31 [.int .i64 64, lfi .i64 8], false), (sv 31 [lfi .i64 0, .int .i64 0], false), (sv 31 [lfi .i64 0, .int .i64 4], true)]
  dec := some (sv 30 [sv 4 [.int .i64 152, lfi .i64 0, specL 236 6], .int .i64 0])
  ex q := cond q (.exit 2) .ret
  tmps q := cond q [1] [1, 2]
  out q := cond q ⟨[nmB 0], cwOb, [lfi .i64 0, lfi .i64 1, lfi .i64 2, lfi .i64 3, specL 236 4, specL 236 5, specL 236 6, specL 236 7]⟩ ⟨[nmB 0, lfi .i64 8], cwOb, [lfi .i64 0, lfi .i64 1, lfi .i64 2, lfi .i64 3, specL 236 4, specL 236 5, specL 236 6, specL 236 7, sv 4 [.int .i64 152, lfi .i64 0, specL 236 6]]⟩
  kills := cwK

/-! ### The rounds' tree, in parts -/

theorem okH_node {run : List (Value × Bool) → Option (AEx × AFr × Heap)} {Sf : List (Value × Bool) → Knw} {nt nb : Nat} {shs fins : List Shape} {kills : List Nat} {e : Value} {t f : HTree} {F : List (Value × Bool)} (h1 : t.ok run Sf nt nb shs fins kills ((e, true) :: F) = true) (h2 : f.ok run Sf nt nb shs fins kills ((e, false) :: F) = true) : (HTree.node e t f).ok run Sf nt nb shs fins kills F = true := by
  simp only [HTree.ok, h1, h2, Bool.and_self]
theorem okH_need {run : List (Value × Bool) → Option (AEx × AFr × Heap)} {Sf : List (Value × Bool) → Knw} {nt nb : Nat} {shs fins : List Shape} {kills : List Nat} {e : Value} {b : Bool} {t : HTree} {F : List (Value × Bool)} (h1 : t.ok run Sf nt nb shs fins kills ((e, b) :: F) = true) : (HTree.need e b t).ok run Sf nt nb shs fins kills F = true := h1

noncomputable def cwRun (FN : Fns) (t1 t2 t3 t4 : TypeId) (F : List (Value × Bool)) : Option (AEx × AFr × Heap) := ev (cfgH FN noRows ⟨[], [], [], [], []⟩ F) 1000 (some (10, 1025660)) none (loopAt 10 512830) (frCan 236 cwIn) (canH 236 (heapOf 20 (vars t1 t2 t3 t4)) cwOb)
def cwOk (FN : Fns) (t1 t2 t3 t4 : TypeId) (T : HTree) (F : List (Value × Bool)) : Prop := T.ok (cwRun FN t1 t2 t3 t4) (fun F => ⟨20, F, FN, [], rows0⟩) 236 1 cwSh cwFi cwK F = true
def cwG : List (Value × Bool) := (sv 31 [cwI, cwZ], true) :: (sv 31 [cwI, .int .i64 0], false) :: (sv 31 [cwI, sv 0 [.int .i64 8]], true) :: cwF0
theorem cw_ex {FN : Fns} (t1 t2 t3 t4 : TypeId) : cwOk FN t1 t2 t3 t4 (.leaf (.exit 2) 1 cwB) ((sv 31 [cwI, sv 0 [.int .i64 8]], false) :: cwF0) := by unfold cwOk; kernel_rfl
theorem cw_0 {FN : Fns} (t1 t2 t3 t4 : TypeId) : cwOk FN t1 t2 t3 t4 cwR0 ((cwF 0, true) :: cwG) := by unfold cwOk; kernel_rfl
theorem cw_1 {FN : Fns} (t1 t2 t3 t4 : TypeId) : cwOk FN t1 t2 t3 t4 cwR0 ((cwF 1, true) :: (cwF 0, false) :: cwG) := by unfold cwOk; kernel_rfl
theorem cw_2 {FN : Fns} (t1 t2 t3 t4 : TypeId) : cwOk FN t1 t2 t3 t4 (cwR 5) ((cwF 2, true) :: (cwF 1, false) :: (cwF 0, false) :: cwG) := by unfold cwOk; kernel_rfl
theorem cw_3 {FN : Fns} (t1 t2 t3 t4 : TypeId) : cwOk FN t1 t2 t3 t4 (cwR 53) ((cwF 3, true) :: (cwF 2, false) :: (cwF 1, false) :: (cwF 0, false) :: cwG) := by unfold cwOk; kernel_rfl
theorem cw_all {FN : Fns} (t1 t2 t3 t4 : TypeId) : cwOk FN t1 t2 t3 t4 cwT cwF0 :=
  okH_node (okH_need (okH_need (okH_node (cw_0 t1 t2 t3 t4) (okH_node (cw_1 t1 t2 t3 t4) (okH_node (cw_2 t1 t2 t3 t4) (okH_need (cw_3 t1 t2 t3 t4))))))) (cw_ex t1 t2 t3 t4)

theorem cwRounds {FN : Fns} : RoundsOk FN ⟨[], [], [], [], []⟩ 10 512830 236 1 cwSh cwFi cwK [cwT] [cwF0] := fun t1 t2 t3 t4 => by
  have h := cw_all (FN := FN) t1 t2 t3 t4
  unfold cwOk at h
  show (HTree.ok _ _ _ _ _ _ _ _ _ && _ && _ && _) = true
  rw [Bool.and_eq_true, Bool.and_eq_true, Bool.and_eq_true]
  exact ⟨⟨⟨h, by decide⟩, by decide⟩, rfl⟩
end Go.Proofs.YtbmdlcagaikdaaaDoor
