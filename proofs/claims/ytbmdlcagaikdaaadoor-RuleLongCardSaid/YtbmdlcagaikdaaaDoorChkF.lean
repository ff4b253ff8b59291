/- kalendslaw02.Check, told with memory: what it answers. -/
import Derived.Test.YtbmdlcagaikdaaaDoorChkE
namespace Go.Proofs.YtbmdlcagaikdaaaDoor
set_option linter.unusedVariables false
set_option linter.unusedSimpArgs false
open Go Go.Sy Go.RowKit

/-! ### What it answers -/

structure RcE (FN : Fns) (E : Env) (r : RuleD) : Prop where
  fn : FnK FN
  fns : E.fns = FN
  e0 : E.int 0 = r.freq
  e1 : E.int 1 = r.itv
  e2 : E.int 2 = r.cnt
  e3 : E.int 3 = r.untl
  v4 : E.val 1000004 = ints .i64 r.months
  v5 : E.val 1000005 = ints .i64 r.days
  v6 : E.val 1000006 = prs .i64 .i64 r.wds
  v7 : E.val 1000007 = ints .i64 r.pos

def rcRet (c : Int) : Option (AEx × Nat × List Value) := some (.ret, 0, [.int .i64 c])

section
variable {FN : Fns} {E : Env} {r : RuleD} (h : RcE FN E r)
include h
theorem rcF_d (n) : den E (n + 2) rcF = some (.int .i64 r.freq) := by simp only [rcF, den_sv, denL_cons, denL_nil, den_i, Option.bind_some, i0, Int.reduceToNat, h.e0]
theorem rcI_d (n) : den E (n + 2) rcI = some (.int .i64 r.itv) := by simp only [rcI, den_sv, denL_cons, denL_nil, den_i, Option.bind_some, i0, Int.reduceToNat, h.e1]
theorem rcC_d (n) : den E (n + 2) rcC = some (.int .i64 r.cnt) := by simp only [rcC, den_sv, denL_cons, denL_nil, den_i, Option.bind_some, i0, Int.reduceToNat, h.e2]
theorem rcU_d (n) : den E (n + 2) rcU = some (.int .i64 r.untl) := by simp only [rcU, den_sv, denL_cons, denL_nil, den_i, Option.bind_some, i0, Int.reduceToNat, h.e3]
theorem rcM_d (n) : den E (n + 2) rcM = some (ints .i64 r.months) := by simp only [rcM, den_sv, denL_cons, denL_nil, den_i, Option.bind_some, i98, Int.reduceToNat, h.v4]
theorem rcD_d (n) : den E (n + 2) rcD = some (ints .i64 r.days) := by simp only [rcD, den_sv, denL_cons, denL_nil, den_i, Option.bind_some, i98, Int.reduceToNat, h.v5]
theorem rcW_d (n) : den E (n + 2) rcW = some (prs .i64 .i64 r.wds) := by simp only [rcW, den_sv, denL_cons, denL_nil, den_i, Option.bind_some, i98, Int.reduceToNat, h.v6]
theorem rcP_d (n) : den E (n + 2) rcP = some (ints .i64 r.pos) := by simp only [rcP, den_sv, denL_cons, denL_nil, den_i, Option.bind_some, i98, Int.reduceToNat, h.v7]
theorem rcLM (n) : den E (n + 3) (rcL rcM 1) = some (.int .i64 r.months.length) := by simp only [rcL, den_sv, denL_cons, denL_nil, den_i, Option.bind_some, rcM_d h, i74i]
theorem rcLD (n) : den E (n + 3) (rcL rcD 1) = some (.int .i64 r.days.length) := by simp only [rcL, den_sv, denL_cons, denL_nil, den_i, Option.bind_some, rcD_d h, i74i]
theorem rcLW (n) : den E (n + 3) (rcL rcW 2) = some (.int .i64 r.wds.length) := by simp only [rcL, den_sv, denL_cons, denL_nil, den_i, Option.bind_some, rcW_d h, i74p]
theorem rcLP (n) : den E (n + 3) (rcL rcP 1) = some (.int .i64 r.pos.length) := by simp only [rcL, den_sv, denL_cons, denL_nil, den_i, Option.bind_some, rcP_d h, i74i]
end

theorem rcE_v {E : Env} (c : Int) : (rcE c).val E = rcRet c := rfl

theorem rcA_v {E : Env} {v c : Value} {z : Int} {T : HTree} {n : Nat} {k : Int} (hl : ∀ m, den E (m + 3) (rcL v z) = some (.int .i64 (n : Int))) (hc : ∀ m, den E (m + 3) c = some (.int .i64 k)) (h64 : 64 < n → k = 2) :
    (rcA v z c T).val E = if k = 0 then T.val E else rcRet k := by
  simp only [rcA, HTree.val, den_sv, denL_cons, denL_nil, den_i, Option.bind_some, hl, hc, i30, i31, pickC, wantC, decide_true, if_true, decide_eq_true_eq, rcE_v]
  by_cases g : (64 : Int) < (n : Int)
  · have := h64 (by omega)
    rw [if_pos g, if_neg (by omega), this]
  · rw [if_neg g]
    rfl
theorem rcB_v {E : Env} {v c : Value} {z f : Int} {T : HTree} {n : Nat} {k : Int} (hf : ∀ m, den E (m + 2) rcF = some (.int .i64 f)) (f0 : 0 ≤ f) (f4 : f < 4) (hl : ∀ m, den E (m + 3) (rcL v z) = some (.int .i64 (n : Int))) (hc : ∀ m, den E (m + 3) c = some (.int .i64 k)) (h64 : 64 < n → k = 2) :
    (rcB v z c T).val E = if k = 0 then T.val E else rcRet k := by
  have c1 : ¬ f < 0 := by omega
  simp only [rcB, HTree.val, den_sv, denL_cons, denL_nil, den_i, Option.bind_some, hf, hl, hc, i30, i31, pickC, wantC, decide_true, decide_false, if_true, decide_eq_true_eq, rcE_v, c1, f4]
  by_cases g : (64 : Int) < (n : Int)
  · have := h64 (by omega)
    rw [if_pos g, if_neg (by omega), this]
  · rw [if_neg g]
    rfl

section
variable {FN : Fns} {E : Env} {r : RuleD} (h : RcE FN E r)
include h
theorem rcR_v {X : HTree} (f0 : 0 ≤ r.freq) (f4 : r.freq < 4) (hX : r.days ≠ [] → X.val E = rcRet (if r.freq = 1 then 6 else 0)) :
    (rcR X).val E = if lstOf r ≠ 0 then rcRet (lstOf r) else rcRet (if (r.freq = 1 ∧ r.days ≠ []) ∨ (r.pos ≠ [] ∧ r.months = [] ∧ r.days = [] ∧ r.wds = []) then 6 else 0) := by
  have c1 : ∀ m, den E (m + 3) (sv 4 [.int .i64 150, rcM]) = some (.int .i64 (chkList mayMonth cmpI r.months)) := fun m => by simp only [den_sv, denL_cons, denL_nil, den_i, Option.bind_some, rcM_d h, i4, h.fns, Int.reduceToNat, h.fn.f150]
  have c2 : ∀ m, den E (m + 3) (sv 4 [.int .i64 151, rcD]) = some (.int .i64 (chkList (mayNear 31) cmpI r.days)) := fun m => by simp only [den_sv, denL_cons, denL_nil, den_i, Option.bind_some, rcD_d h, i4, h.fns, Int.reduceToNat, h.fn.f151]
  have c3 : ∀ m, den E (m + 3) (sv 4 [.int .i64 152, rcF, rcW]) = some (.int .i64 (chkList (mayNth (mostOf r.freq)) cmpN r.wds)) := fun m => by simp only [den_sv, denL_cons, denL_nil, den_i, Option.bind_some, rcF_d h, rcW_d h, i4, h.fns, Int.reduceToNat, h.fn.f152]
  have c4 : ∀ m, den E (m + 3) (sv 4 [.int .i64 153, rcP]) = some (.int .i64 (chkList (mayNear 366) cmpI r.pos)) := fun m => by simp only [den_sv, denL_cons, denL_nil, den_i, Option.bind_some, rcP_d h, i4, h.fns, Int.reduceToNat, h.fn.f153]
  have l2 : ∀ {α : Type} {may : α → Bool} {ord : α → α → Int} {l : List α}, 64 < l.length → chkList may ord l = 2 := fun g => by rw [chkList, if_pos g]
  have hfin : (HTree.node (sv 31 [.int .i64 0, rcL rcD 1]) X rcY).val E = rcRet (if (r.freq = 1 ∧ r.days ≠ []) ∨ (r.pos ≠ [] ∧ r.months = [] ∧ r.days = [] ∧ r.wds = []) then 6 else 0) := by
    have nM := @List.length_eq_zero_iff _ r.months
    have nD := @List.length_eq_zero_iff _ r.days
    have nW := @List.length_eq_zero_iff _ r.wds
    have nP := @List.length_eq_zero_iff _ r.pos
    simp only [rcY, HTree.val, den_sv, denL_cons, denL_nil, den_i, Option.bind_some, rcLM h, rcLD h, rcLW h, rcLP h, i30, i31, pickC, decide_eq_true_eq, rcE_v]
    by_cases gD : r.days = []
    · have q1 : ¬ (0 : Int) < (r.days.length : Int) := by have := nD.2 gD; omega
      have q2 : ((r.days.length : Nat) : Int) = 0 := by have := nD.2 gD; omega
      rw [if_neg q1]
      by_cases gP : r.pos = []
      · have q3 : ¬ (0 : Int) < (r.pos.length : Int) := by have := nP.2 gP; omega
        rw [if_neg q3, if_neg (by rintro (⟨_, g⟩ | ⟨g, _⟩); exact g gD; exact g gP)]
      · have q3 : (0 : Int) < (r.pos.length : Int) := by have := mt nP.1 gP; omega
        rw [if_pos q3]
        by_cases gM : r.months = []
        · have q4 : ((r.months.length : Nat) : Int) = 0 := by have := nM.2 gM; omega
          rw [if_pos q4, if_pos q2]
          by_cases gW : r.wds = []
          · have q5 : ((r.wds.length : Nat) : Int) = 0 := by have := nW.2 gW; omega
            rw [if_pos q5, if_pos (.inr ⟨gP, gM, gD, gW⟩)]
          · have q5 : ¬ ((r.wds.length : Nat) : Int) = 0 := by have := mt nW.1 gW; omega
            rw [if_neg q5, if_neg (by rintro (⟨_, g⟩ | ⟨_, _, _, g⟩); exact g gD; exact gW g)]
        · have q4 : ¬ ((r.months.length : Nat) : Int) = 0 := by have := mt nM.1 gM; omega
          rw [if_neg q4, if_neg (by rintro (⟨_, g⟩ | ⟨_, g, _⟩); exact g gD; exact gM g)]
    · have q1 : (0 : Int) < (r.days.length : Int) := by have := mt nD.1 gD; omega
      rw [if_pos q1, hX gD]
      by_cases gF : r.freq = 1
      · rw [if_pos gF, if_pos (.inl ⟨gF, gD⟩)]
      · rw [if_neg gF, if_neg (by rintro (⟨g, _⟩ | ⟨_, _, g, _⟩); exact gF g; exact gD g)]
  unfold rcR
  rw [rcA_v (rcLM h) c1 l2, rcA_v (rcLD h) c2 l2, rcB_v (rcF_d h) f0 f4 (rcLW h) c3 l2, rcA_v (rcLP h) c4 l2, hfin]
  unfold lstOf or4
  generalize chkList mayMonth cmpI r.months = a1
  generalize chkList (mayNear 31) cmpI r.days = a2
  generalize chkList (mayNth (mostOf r.freq)) cmpN r.wds = a3
  generalize chkList (mayNear 366) cmpI r.pos = a4
  by_cases g1 : a1 = 0 <;> by_cases g2 : a2 = 0 <;> by_cases g3 : a3 = 0 <;> by_cases g4 : a4 = 0 <;> simp [g1, g2, g3, g4]

theorem rcH_v {R : HTree} (f0 : 0 ≤ r.freq) (f4 : r.freq < 4) (hR : R.val E = if lstOf r ≠ 0 then rcRet (lstOf r) else rcRet (if (r.freq = 1 ∧ r.days ≠ []) ∨ (r.pos ≠ [] ∧ r.months = [] ∧ r.days = [] ∧ r.wds = []) then 6 else 0)) :
    (rcH R).val E = rcRet (chkOf r) := by
  have hd : isDay r.untl = false ↔ r.untl < 1 ∨ 3652059 < r.untl := by
    simp only [isDay, Bool.and_eq_false_iff, decide_eq_false_iff_not]
    omega
  obtain ⟨L, hL⟩ : ∃ L, L = if lstOf r ≠ 0 then lstOf r else if (r.freq = 1 ∧ r.days ≠ []) ∨ (r.pos ≠ [] ∧ r.months = [] ∧ r.days = [] ∧ r.wds = []) then 6 else 0 := ⟨_, rfl⟩
  have hR' : R.val E = rcRet L := by
    rw [hR, hL]
    by_cases g : lstOf r ≠ 0
    · rw [if_pos g, if_pos g]
    · rw [if_neg g, if_neg g]
  have key : chkOf r = if r.itv < 1 then 3 else if 999 < r.itv then 3 else if r.cnt < 0 then 3 else if 9999 < r.cnt then 3 else if r.untl = 0 then (if r.cnt = 0 then L else L) else if r.untl < 1 then 3 else if 3652059 < r.untl then 3 else if r.cnt = 0 then L else 7 := by
    unfold chkOf
    rw [if_neg (show ¬ (r.freq < 0 ∨ 4 ≤ r.freq) by omega), ← hL]
    simp only [hd]
    clear hL hR hR'
    repeat' split
    all_goals first | rfl | (exfalso; omega)
  rw [key]
  simp only [rcH, HTree.val, den_sv, denL_cons, denL_nil, den_i, Option.bind_some, rcI_d h, rcC_d h, rcU_d h, i30, i31, pickC, decide_eq_true_eq, rcE_v, hR', apply_ite rcRet]

theorem rcX_v (hd : r.days ≠ []) : rcX.val E = rcRet 0 := by
  have q2 : ¬ ((r.days.length : Nat) : Int) = 0 := by have := mt List.length_eq_zero_iff.1 hd; omega
  simp only [rcX, HTree.val, den_sv, denL_cons, denL_nil, den_i, Option.bind_some, rcLM h, rcLD h, rcLP h, i30, i31, pickC, wantC, decide_eq_true_eq, rcE_v, q2, decide_false, if_true, ite_self]

theorem rcT_v : rcT.val E = rcRet (chkOf r) := by
  have hQ : ∀ k n, den E (n + 3) (rcQ k) = some (.bool (decide (r.freq = k))) := fun k n => by simp only [rcQ, den_sv, denL_cons, denL_nil, den_i, Option.bind_some, rcF_d h, i30]
  simp only [rcT, HTree.val, hQ, pickC, decide_eq_true_eq, rcE_v]
  by_cases g0 : r.freq = 0
  · rw [if_pos g0]
    refine rcH_v h (by omega) (by omega) (rcR_v h (by omega) (by omega) fun hd => ?_)
    simp only [HTree.val, hQ, wantC, rcX_v h hd]
    rw [g0]
    rfl
  · rw [if_neg g0]
    by_cases g1 : r.freq = 1
    · rw [if_pos g1]
      exact rcH_v h (by omega) (by omega) (rcR_v h (by omega) (by omega) fun hd => by rw [if_pos g1, rcE_v])
    · rw [if_neg g1]
      have h2 : r.freq = 2 ∨ r.freq = 3 → rcT2.val E = rcRet (chkOf r) := fun g => rcH_v h (by omega) (by omega) (rcR_v h (by omega) (by omega) fun hd => by rw [if_neg g1, rcX_v h hd])
      by_cases g2 : r.freq = 2
      · rw [if_pos g2]; exact h2 (.inl g2)
      · rw [if_neg g2]
        by_cases g3 : r.freq = 3
        · rw [if_pos g3]; exact h2 (.inr g3)
        · rw [if_neg g3]
          unfold chkOf
          rw [if_pos (by omega)]
end

theorem refC_ok {FN : Fns} (hF : FnK FN) : FOk FN refC := by
  refine fok_of (toldCk_ok hF) (Tr := rcT) (F0 := []) (fins := [⟨[(0, lfi .i64 0)], [], 1⟩]) (by decide) (fun t1 t2 t3 t4 => rc_all t1 t2 t3 t4) (fun _ => 0) (fun _ => 1) (fun _ => 0) (fun q => ⟨_, rfl, rfl⟩) fun V ls q hlen hleaf hrow hask => ?_
  refine ⟨fun p hp => (by cases hp), ?_⟩
  obtain ⟨v4, hv4, hR4⟩ := hrow 0 4 [.int .i64] (.inl rfl) (by rw [hlen]; decide)
  obtain ⟨v5, hv5, hR5⟩ := hrow 1 5 [.int .i64] (.inl rfl) (by rw [hlen]; decide)
  obtain ⟨v6, hv6, hR6⟩ := hrow 2 6 [.int .i64, .int .i64] (.inl rfl) (by rw [hlen]; decide)
  obtain ⟨v7, hv7, hR7⟩ := hrow 3 7 [.int .i64] (.inl rfl) (by rw [hlen]; decide)
  obtain ⟨ms, rfl⟩ := hasR_ints hR4
  obtain ⟨ds, rfl⟩ := hasR_ints hR5
  obtain ⟨ws, rfl⟩ := hasR_prs hR6
  obtain ⟨ps, rfl⟩ := hasR_ints hR7
  match ls, hlen with
  | [y0, y1, y2, y3, y4, y5, y6, y7], _ =>
    simp only [List.getElem?_cons_zero, List.getElem?_cons_succ, Option.some.injEq] at hv4 hv5 hv6 hv7
    subst hv4; subst hv5; subst hv6; subst hv7
    obtain ⟨f, rfl⟩ := hleaf 0 _ _ rfl rfl
    obtain ⟨i, rfl⟩ := hleaf 1 _ _ rfl rfl
    obtain ⟨c, rfl⟩ := hleaf 2 _ _ rfl rfl
    obtain ⟨u, rfl⟩ := hleaf 3 _ _ rfl rfl
    have hE : RcE FN (envL FN V 0 [.int .i64 f, .int .i64 i, .int .i64 c, .int .i64 u, ints .i64 ms, ints .i64 ds, prs .i64 .i64 ws, ints .i64 ps]) ⟨f, i, c, u, ms, ds, ws, ps⟩ := ⟨hF, rfl, rfl, rfl, rfl, rfl, rfl, rfl, rfl, rfl⟩
    refine ⟨_, _, rcT_v hE, ?_⟩
    obtain ⟨_, g0, g1, g2, g3, g4, g5, g6, g7, g8⟩ := hE
    show denL (den (envL FN V 0 [.int .i64 f, .int .i64 i, .int .i64 c, .int .i64 u, ints .i64 ms, ints .i64 ds, prs .i64 .i64 ws, ints .i64 ps]) 40) _ = _
    generalize envL FN V 0 [.int .i64 f, .int .i64 i, .int .i64 c, .int .i64 u, ints .i64 ms, ints .i64 ds, prs .i64 .i64 ws, ints .i64 ps] = E at *
    simp only at g1 g2 g3 g4 g5 g6 g7 g8
    simp only [refC, lfi, specL, den_sv, denL_cons, denL_nil, den_i, Option.bind_some, i0, i4, i98, Int.reduceToNat, Int.toNat_natCast, Nat.reduceAdd, g0, g1, g2, g3, g4]
    simp [g5, g6, g7, g8, hF.ref, i98]

/-- The table of Check's functions alone. -/
def fnC : Fns where
  int i l := match i with
    | 130 => chkOf (ruleOf l)
    | 133 => chkOf (ruleOf l)
    | 150 => chkList mayMonth cmpI (deI (v1 l))
    | 151 => chkList (mayNear 31) cmpI (deI (v1 l))
    | 152 => chkList (mayNth (mostOf (n1 l))) cmpN (deP (v2 l))
    | 153 => chkList (mayNear 366) cmpI (deI (v1 l))
    | _ => 0
  bool i l := match i with
    | 131 => hasLists (ruleOf l)
    | _ => false
  str _ _ := ⟨#[]⟩
  val _ _ := .bool false
  lst _ _ := []
theorem fnC_K : FnK fnC where
  f150 l := by simp only [fnC, v1, deI_ints]
  f151 l := by simp only [fnC, v1, deI_ints]
  f152 f l := by simp only [fnC, n1, v2, deP_prs]
  f153 l := by simp only [fnC, v1, deI_ints]
  ref f i c u ms ds ws ps := by simp only [fnC, ruleOf, deI_ints, deP_prs]

theorem fnC_R : FnR fnC where
  check f i c u ms ds ws ps := by simp only [fnC, ruleOf, deI_ints, deP_prs]
  lists f i c u ms ds ws ps := by simp only [fnC, ruleOf, deI_ints, deP_prs]
end Go.Proofs.YtbmdlcagaikdaaaDoor
