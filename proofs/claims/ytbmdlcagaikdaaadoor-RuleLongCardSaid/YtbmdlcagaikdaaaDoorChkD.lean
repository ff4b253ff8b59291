/- ChkD: joined of ChkC, ChkD. -/
import Derived.Test.YtbmdlcagaikdaaaDoorChkB

/- kalendslaw02.Check's inner loop at weekdays: what a round does; the loop's contract. -/
namespace Go.Proofs.YtbmdlcagaikdaaaDoor
set_option linter.unusedVariables false
set_option linter.unusedSimpArgs false
open Go Go.Sy Go.RowKit

/-- What the environment of a round says. -/
structure CwE (E : Env) (f a b c : Int) (ms ds : List Int) (l : List (Int × Int)) (ps : List Int) (i : Nat) : Prop where
  f0 : 0 ≤ f
  f4 : f < 4
  e0 : E.int 0 = f
  e1 : E.int 1 = a
  e2 : E.int 2 = b
  e3 : E.int 3 = c
  v4 : E.val 1000004 = ints .i64 ms
  v5 : E.val 1000005 = ints .i64 ds
  v6 : E.val 1000006 = prs .i64 .i64 l
  v7 : E.val 1000007 = ints .i64 ps
  e8 : E.int 8 = (l.length : Int)
  e9 : E.int 9 = (i : Int)
  hi : i ≤ l.length
  hl : l.length ≤ 64

def cwBs (f a b c : Int) (ms ds : List Int) (l : List (Int × Int)) (ps : List Int) : List Value := [.int .i64 f, .int .i64 a, .int .i64 b, .int .i64 c, ints .i64 ms, ints .i64 ds, prs .i64 .i64 l, ints .i64 ps]

def cwRes (f a b c : Int) (ms ds : List Int) (l : List (Int × Int)) (ps : List Int) (i : Nat) (x : Int × Int) (may : Bool) : Option (AEx × Nat × List Value) :=
  if may = false then some (.ret, 0, cwBs f a b c ms ds l ps ++ [.int .i64 3]) else if lateB cmpN (ahead? l i) x = true then some (.ret, 0, cwBs f a b c ms ds l ps ++ [.int .i64 4]) else
    some (.normal, 0, cwBs f a b c ms ds l ps ++ [.int .i64 l.length, .int .i64 ((i : Int) + 1)])

theorem lateN {x : Int × Int} {o : Option (Int × Int)} : lateB cmpN o x = true ↔ ∃ p, o = some p ∧ (x.1 < p.1 ∨ (p.1 = x.1 ∧ x.2 ≤ p.2)) := by
  cases o with
  | none => simp [lateB]
  | some p =>
    rw [lateB_some, decide_eq_true_iff, cmpN_ge]
    exact ⟨fun h => ⟨p, rfl, h⟩, fun ⟨q, e, h⟩ => by cases e; exact h⟩

section
variable {E : Env} {f a b c : Int} {ms ds ps : List Int} {l : List (Int × Int)} {i : Nat} (h : CwE E f a b c ms ds l ps i)
include h
theorem cwI_d (n) : den E (n + 2) cwI = some (.int .i64 i) := by simp only [cwI, den_sv, denL_cons, denL_nil, den_i, Option.bind_some, i0, Int.reduceToNat, h.e9]
theorem cwL_d (n) : den E (n + 2) cwL = some (prs .i64 .i64 l) := by simp only [cwL, den_sv, denL_cons, denL_nil, den_i, Option.bind_some, i98, Int.reduceToNat, h.v6]
theorem cwZ_d (n) : den E (n + 3) cwZ = some (.int .i64 l.length) := by simp only [cwZ, den_sv, denL_cons, denL_nil, den_i, Option.bind_some, cwL_d h, i74p]
theorem cwJ_d (n) : den E (n + 3) cwJ = some (.int .i64 ((i : Int) - 1)) := by
  have := h.hi
  have := h.hl
  simp only [cwJ, den_sv, denL_cons, denL_nil, den_i, Option.bind_some, cwI_d h, i21]
  rw [wr64 (by omega) (by omega)]
theorem cwX_d {x : Int × Int} (hx : l[i]? = some x) (n) : den E (n + 3) (cwX 0) = some (.int .i64 x.1) ∧ den E (n + 3) (cwX 1) = some (.int .i64 x.2) := by
  simp only [cwX, den_sv, denL_cons, denL_nil, den_i, Option.bind_some, cwL_d h, cwI_d h]
  exact ⟨i72p0 hx _ _ _ _, i72p1 hx _ _ _ _⟩
theorem cwQ_d {p : Int × Int} (h0 : i ≠ 0) (hp : l[i - 1]? = some p) (n) : den E (n + 4) (cwQ 0) = some (.int .i64 p.1) ∧ den E (n + 4) (cwQ 1) = some (.int .i64 p.2) := by
  have e1 : (i : Int) - 1 = ((i - 1 : Nat) : Int) := by omega
  simp only [cwQ, den_sv, denL_cons, denL_nil, den_i, Option.bind_some, cwL_d h, cwJ_d h, e1]
  exact ⟨i72p0 hp _ _ _ _, i72p1 hp _ _ _ _⟩
theorem cwB_d : denL (den E 40) cwB = some (cwBs f a b c ms ds l ps) := by
  simp only [cwB, cwBs, den_sv, denL_cons, denL_nil, den_i, Option.bind_some, i0, i98, Int.reduceToNat, h.e0, h.e1, h.e2, h.e3, h.v4, h.v5, h.v7, cwL_d h]
theorem cwE_v (k : Int) : (cwE k).val E = some (.ret, 0, cwBs f a b c ms ds l ps ++ [.int .i64 k]) := by
  simp only [cwE, cwB, cwBs, HTree.val, List.cons_append, List.nil_append, den_sv, denL_cons, denL_nil, den_i, Option.bind_some, i0, i98, Int.reduceToNat, h.e0, h.e1, h.e2, h.e3, h.v4, h.v5, h.v7, cwL_d h]
theorem cwN_v : cwN.val E = some (.normal, 0, cwBs f a b c ms ds l ps ++ [.int .i64 l.length, .int .i64 ((i : Int) + 1)]) := by
  have := h.hi
  have := h.hl
  simp only [cwN, cwB, cwBs, HTree.val, List.cons_append, List.nil_append, den_sv, denL_cons, denL_nil, den_i, Option.bind_some, i0, i20, i98, Int.reduceToNat, h.e0, h.e1, h.e2, h.e3, h.e8, h.v4, h.v5, h.v7, cwL_d h, cwI_d h]
  rw [wr64 (by omega) (by omega)]

/-- which is ahead of the i-th: no element, or p -/
theorem cwP_v {A B C Z : HTree} {x : Int × Int} (hx : l[i]? = some x) :
    (cwP A B C Z).val E = match ahead? l i with
      | none => Z.val E
      | some p => if x.1 < p.1 then A.val E else if p.1 = x.1 then B.val E else C.val E := by
  have hk := (List.getElem?_eq_some_iff.1 hx).1
  by_cases hz : i = 0
  · have c1 : ¬ (0 : Int) < (i : Int) := by omega
    simp only [cwP, HTree.val, den_sv, denL_cons, denL_nil, den_i, Option.bind_some, cwI_d h, i31, pickC, c1, decide_false, Bool.false_eq_true, if_false, ahead?, hz, if_true]
    rw [if_neg (by simp)]
  · obtain ⟨p, hp⟩ : ∃ p, l[i - 1]? = some p := ⟨_, List.getElem?_eq_getElem (by omega)⟩
    have c1 : (0 : Int) < (i : Int) := by omega
    have c2 : ¬ ((i : Int) - 1 < 0) := by omega
    have c3 : (i : Int) - 1 < (l.length : Int) := by omega
    have ha : ahead? l i = some p := by rw [ahead?, if_neg hz, hp]
    rw [ha]
    simp only [cwP, HTree.val, den_sv, denL_cons, denL_nil, den_i, Option.bind_some, cwI_d h, cwJ_d h, cwZ_d h, cwX_d h hx, cwQ_d h hz hp, i30, i31, pickC, wantC, c1, c2, c3, decide_true, decide_false, if_true, decide_eq_true_eq]

theorem cwA_v {T : HTree} {x : Int × Int} (hx : l[i]? = some x) : (cwA T).val E = T.val E := by
  rw [cwA, cwP_v h hx]
  split
  · rfl
  · split
    · rfl
    · split <;> rfl

/-- the order's part, where the weekday itself may be -/
theorem cwO_v {x : Int × Int} (hx : l[i]? = some x) : (cwP (cwE 4) cwD cwN cwN).val E = cwRes f a b c ms ds l ps i x true := by
  rw [cwP_v h hx, cwRes, if_neg (by simp)]
  cases ha : ahead? l i with
  | none => rw [if_neg (by rw [lateN]; rintro ⟨p, e, _⟩; cases e), cwN_v h]
  | some p =>
    simp only
    have hz : i ≠ 0 := fun e => by rw [e] at ha; cases ha
    have hp : l[i - 1]? = some p := by rw [ahead?, if_neg hz] at ha; exact ha
    have hD : cwD.val E = if p.2 < x.2 then cwN.val E else (cwE 4).val E := by
      simp only [cwD, HTree.val, den_sv, denL_cons, denL_nil, Option.bind_some, cwX_d h hx, cwQ_d h hz hp, i31, pickC, decide_eq_true_eq]
    rw [hD, cwE_v h, cwN_v h]
    by_cases g1 : x.1 < p.1
    · rw [if_pos g1, if_pos (lateN.2 ⟨p, rfl, .inl g1⟩)]
    · rw [if_neg g1]
      by_cases g2 : p.1 = x.1
      · rw [if_pos g2]
        by_cases g3 : p.2 < x.2
        · rw [if_pos g3, if_neg (by rw [lateN]; rintro ⟨q, e, hq⟩; cases e; omega)]
        · rw [if_neg g3, if_pos (lateN.2 ⟨p, rfl, .inr ⟨g2, by omega⟩⟩)]
      · rw [if_neg g2, if_neg (by rw [lateN]; rintro ⟨q, e, hq⟩; cases e; omega)]

theorem cwS_v {m : Int} {T : HTree} {x : Int × Int} (hm : 0 ≤ m) (hx : l[i]? = some x) (hT : ¬ x.1 = 0 → ¬ x.1 < -m → T.val E = cwRes f a b c ms ds l ps i x (decide (x.1 ≤ m))) : (cwS m T).val E = cwRes f a b c ms ds l ps i x (mayNth m x) := by
  have hr : ∀ q, q = false → (cwE 3).val E = cwRes f a b c ms ds l ps i x q := fun q hq => by rw [cwE_v h, cwRes, if_pos hq]
  simp only [cwS, HTree.val, den_sv, denL_cons, denL_nil, den_i, Option.bind_some, cwX_d h hx, i30, i31, pickC, decide_eq_true_eq, cwA_v h hx, cwO_v h hx]
  by_cases g1 : x.2 < 0
  · rw [if_pos g1]
    exact hr _ (by simp only [mayNth, decide_eq_false_iff_not]; omega)
  · rw [if_neg g1]
    by_cases g2 : 6 < x.2
    · rw [if_pos g2]
      exact hr _ (by simp only [mayNth, decide_eq_false_iff_not]; omega)
    · rw [if_neg g2]
      by_cases g3 : x.1 = 0
      · rw [if_pos g3, show mayNth m x = true by simp only [mayNth, decide_eq_true_eq]; omega]
      · rw [if_neg g3]
        by_cases g4 : x.1 < -m
        · rw [if_pos g4]
          exact hr _ (by simp only [mayNth, decide_eq_false_iff_not]; omega)
        · rw [if_neg g4, hT g3 g4]
          congr 1
          simp only [mayNth, decide_eq_decide]
          omega

theorem cwM_v {m : Int} {T : HTree} {x : Int × Int} (hx : l[i]? = some x) : (cwM m T).val E = if m < x.1 then (cwE 3).val E else T.val E := by
  simp only [cwM, HTree.val, den_sv, denL_cons, denL_nil, den_i, Option.bind_some, cwX_d h hx, i31, pickC, decide_eq_true_eq]

theorem cwR_v {m : Int} {x : Int × Int} (hm : 0 ≤ m) (hx : l[i]? = some x) : (cwR m).val E = cwRes f a b c ms ds l ps i x (mayNth m x) := by
  refine cwS_v h hm hx fun g3 g4 => ?_
  by_cases g5 : m < x.1
  · rw [show decide (x.1 ≤ m) = false by simp only [decide_eq_false_iff_not]; omega, cwRes, if_pos rfl, ← cwE_v h, cwP_v h hx]
    simp only [cwM_v h hx, if_pos g5]
    split
    · rfl
    · split
      · rfl
      · split <;> rfl
  · rw [show decide (x.1 ≤ m) = true by simp only [decide_eq_true_eq]; omega, ← cwO_v h hx, cwP_v h hx, cwP_v h hx]
    simp only [cwM_v h hx, if_neg g5]

theorem cwR0_v {x : Int × Int} (hx : l[i]? = some x) : cwR0.val E = cwRes f a b c ms ds l ps i x (mayNth 0 x) := by
  refine cwS_v h (Int.le_refl 0) hx fun g3 g4 => ?_
  have g5 : 0 < x.1 := by omega
  rw [cwA_v h hx, show decide (x.1 ≤ 0) = false by simp only [decide_eq_false_iff_not]; omega, cwRes, if_pos rfl, ← cwE_v h]
  simp only [HTree.val, den_sv, denL_cons, denL_nil, den_i, Option.bind_some, cwX_d h hx, i31, wantC, g5, decide_true, if_true]

theorem cwT_v : cwT.val E = match l[i]? with
    | none => some (.exit 2, 1, cwBs f a b c ms ds l ps)
    | some x => cwRes f a b c ms ds l ps i x (mayNth (mostOf f) x) := by
  have hF : ∀ k n, den E (n + 3) (cwF k) = some (.bool (decide (f = k))) := fun k n => by
    simp only [cwF, den_sv, denL_cons, denL_nil, den_i, Option.bind_some, i0, Int.reduceToNat, h.e0]
    simp [interp]
  have h8 : ∀ n, den E (n + 2) (sv 0 [.int .i64 8]) = some (.int .i64 l.length) := fun n => by simp only [den_sv, denL_cons, denL_nil, den_i, Option.bind_some, i0, Int.reduceToNat, h.e8]
  have f0 := h.f0
  have f4 := h.f4
  cases hx : l[i]? with
  | none =>
    have h0 : l.length ≤ i := List.getElem?_eq_none_iff.1 hx
    have c1 : ¬ (i : Int) < (l.length : Int) := by omega
    simp only [cwT, HTree.val, den_sv, denL_cons, denL_nil, den_i, Option.bind_some, cwI_d h, h8, i31, pickC, c1, decide_false, Bool.false_eq_true, if_false, cwB_d h]
  | some x =>
    have hk := (List.getElem?_eq_some_iff.1 hx).1
    have c1 : (i : Int) < (l.length : Int) := by omega
    have c2 : ¬ (i : Int) < 0 := by omega
    simp only [cwT, HTree.val, den_sv, denL_cons, denL_nil, den_i, Option.bind_some, cwI_d h, cwZ_d h, h8, hF, i31, pickC, wantC, c1, c2, decide_true, decide_false, if_true, decide_eq_true_eq, cwR0_v h hx, cwR_v h (m := 5) (by omega) hx, cwR_v h (m := 53) (by omega) hx]
    have : f = 0 ∨ f = 1 ∨ f = 2 ∨ f = 3 := by omega
    rcases this with e | e | e | e <;> subst e <;> rfl
end
end Go.Proofs.YtbmdlcagaikdaaaDoor

/- kalendslaw02.Check's inner loop at weekdays: its contract. -/
namespace Go.Proofs.YtbmdlcagaikdaaaDoor
set_option linter.unusedVariables false
set_option linter.unusedSimpArgs false
open Go Go.Sy Go.RowKit

structure CwS where
  f : Int
  a : Int
  b : Int
  c : Int
  ms : List Int
  ds : List Int
  l : List (Int × Int)
  ps : List Int
  i : Nat

def CwS.bs (s : CwS) : List Value := cwBs s.f s.a s.b s.c s.ms s.ds s.l s.ps
def CwS.st (s : CwS) : List Value := [.int .i64 s.f, .int .i64 s.a, .int .i64 s.b, .int .i64 s.c, ints .i64 s.ms, ints .i64 s.ds, prs .i64 .i64 s.l, ints .i64 s.ps, .int .i64 s.l.length, .int .i64 s.i]
def CwS.end_ (s : CwS) (c : Int) : AEx × Nat × List Value := if c = 0 then (.exit 2, 1, s.bs) else (.ret, 0, s.bs ++ [.int .i64 c])

theorem CwS.env {FN : Fns} {V : Nat → Value} (s : CwS) (f0 : 0 ≤ s.f) (f4 : s.f < 4) (hi : s.i ≤ s.l.length) (hl : s.l.length ≤ 64) : CwE (envL FN V 236 s.st) s.f s.a s.b s.c s.ms s.ds s.l s.ps s.i :=
  ⟨f0, f4, rfl, rfl, rfl, rfl, rfl, rfl, rfl, rfl, rfl, rfl, hi, hl⟩

def cwRd {FN : Fns} : RoundH FN 236 cwSh cwFi [cwT] [cwF0] CwS where
  sh _ := 0
  st s := s.st
  Inv s := 0 ≤ s.f ∧ s.f < 4 ∧ s.i ≤ s.l.length ∧ s.l.length ≤ 64
  μ s := s.l.length - s.i
  fin s := s.end_ (chkFrom (mayNth (mostOf s.f)) cmpN (ahead? s.l s.i) (s.l.drop s.i))
  step V s hI := by
    obtain ⟨f0, f4, hi, hl⟩ := hI
    have hE := s.env (FN := FN) (V := V) f0 f4 hi hl
    have hv := cwT_v hE
    have hF : FactsOk (envL FN V 236 s.st) cwF0 := by
      intro p hp
      simp only [cwF0, lfi, Int.natCast_zero, Int.ofNat_zero, List.mem_cons, List.not_mem_nil, or_false] at hp
      rcases hp with rfl | rfl
      · simp only [den_sv, denL_cons, denL_nil, den_i, Option.bind_some, i0, Int.reduceToNat, hE.e0, i31, f4, decide_true]
      · have c2 : ¬ s.f < 0 := by omega
        simp only [den_sv, denL_cons, denL_nil, den_i, Option.bind_some, i0, Int.reduceToNat, hE.e0, i31, c2, decide_false]
    cases hx : s.l[s.i]? with
    | none =>
      rw [hx] at hv
      have h0 : s.l.length ≤ s.i := List.getElem?_eq_none_iff.1 hx
      refine ⟨_, _, _, _, _, rfl, rfl, hF, hv, .inr ⟨by simp, ?_⟩⟩
      rw [chk_end h0]
      rfl
    | some x =>
      rw [hx] at hv
      have hk := (List.getElem?_eq_some_iff.1 hx).1
      simp only [cwRes] at hv
      by_cases hm : mayNth (mostOf s.f) x = false
      · rw [if_pos hm] at hv
        refine ⟨_, _, _, _, _, rfl, rfl, hF, hv, .inr ⟨by simp, ?_⟩⟩
        rw [chk_step hx, if_pos hm]
        rfl
      · rw [if_neg hm] at hv
        by_cases hl' : lateB cmpN (ahead? s.l s.i) x = true
        · rw [if_pos hl'] at hv
          refine ⟨_, _, _, _, _, rfl, rfl, hF, hv, .inr ⟨by simp, ?_⟩⟩
          rw [chk_step hx, if_neg hm, if_pos hl']
          rfl
        · rw [if_neg hl'] at hv
          refine ⟨_, _, _, _, _, rfl, rfl, hF, hv, .inl ⟨rfl, { s with i := s.i + 1 }, ⟨f0, f4, hk, hl⟩, by simp only; omega, ?_, rfl, ?_⟩⟩
          · simp only
            rw [chk_step hx, if_neg hm, if_neg hl']
            rfl
          · rfl

theorem cwLoop_ok {FN : Fns} (hF : ∀ f l, FN.int 152 [.int .i64 f, prs .i64 .i64 l] = chkList (mayNth (mostOf f)) cmpN l) : HLOk FN cwLoop := by
  refine hlok_of (T := ⟨[], [], [], [], []⟩) ⟨fun c h => (by cases h), fun c h => (by cases h), fun c h => (by cases h), fun c h => (by cases h), fun c h => (by cases h)⟩ (by kernel_rfl) (by decide) cwRounds cwRd 0 rfl (fun b => cond b 1 0) (fun b => cond b 8 9) (fun q => ?_) fun V ls q hlen hleaf hrow hask => ?_
  · cases q
    · exact ⟨rfl, rfl, by decide⟩
    · exact ⟨rfl, rfl, by decide⟩
  · obtain ⟨v4, hv4, hR4⟩ := hrow 1 4 [.int .i64] (.inl rfl) (by rw [hlen]; decide)
    obtain ⟨v5, hv5, hR5⟩ := hrow 2 5 [.int .i64] (.inl rfl) (by rw [hlen]; decide)
    obtain ⟨v6, hv6, hR6⟩ := hrow 3 6 [.int .i64, .int .i64] (.inl rfl) (by rw [hlen]; decide)
    obtain ⟨v7, hv7, hR7⟩ := hrow 4 7 [.int .i64] (.inl rfl) (by rw [hlen]; decide)
    obtain ⟨ms, rfl⟩ := hasR_ints hR4
    obtain ⟨ds, rfl⟩ := hasR_ints hR5
    obtain ⟨l, rfl⟩ := hasR_prs hR6
    obtain ⟨ps, rfl⟩ := hasR_ints hR7
    match ls, hlen with
    | [y0, y1, y2, y3, y4, y5, y6, y7, y8, y9], _ =>
      simp only [List.getElem?_cons_zero, List.getElem?_cons_succ, Option.some.injEq] at hv4 hv5 hv6 hv7
      subst hv4; subst hv5; subst hv6; subst hv7
      obtain ⟨f, rfl⟩ := hleaf 0 _ _ rfl rfl
      obtain ⟨a, rfl⟩ := hleaf 1 _ _ rfl rfl
      obtain ⟨b, rfl⟩ := hleaf 2 _ _ rfl rfl
      obtain ⟨c, rfl⟩ := hleaf 3 _ _ rfl rfl
      obtain ⟨n, rfl⟩ := hleaf 8 _ _ rfl rfl
      obtain ⟨i, rfl⟩ := hleaf 9 _ _ rfl rfl
      have I0 : (envL FN V 236 [.int .i64 f, .int .i64 a, .int .i64 b, .int .i64 c, ints .i64 ms, ints .i64 ds, prs .i64 .i64 l, ints .i64 ps, .int .i64 n, .int .i64 i]).int 0 = f := rfl
      have I1 : (envL FN V 236 [.int .i64 f, .int .i64 a, .int .i64 b, .int .i64 c, ints .i64 ms, ints .i64 ds, prs .i64 .i64 l, ints .i64 ps, .int .i64 n, .int .i64 i]).int 1 = a := rfl
      have I2 : (envL FN V 236 [.int .i64 f, .int .i64 a, .int .i64 b, .int .i64 c, ints .i64 ms, ints .i64 ds, prs .i64 .i64 l, ints .i64 ps, .int .i64 n, .int .i64 i]).int 2 = b := rfl
      have I3 : (envL FN V 236 [.int .i64 f, .int .i64 a, .int .i64 b, .int .i64 c, ints .i64 ms, ints .i64 ds, prs .i64 .i64 l, ints .i64 ps, .int .i64 n, .int .i64 i]).int 3 = c := rfl
      have I8 : (envL FN V 236 [.int .i64 f, .int .i64 a, .int .i64 b, .int .i64 c, ints .i64 ms, ints .i64 ds, prs .i64 .i64 l, ints .i64 ps, .int .i64 n, .int .i64 i]).int 8 = n := rfl
      have I9 : (envL FN V 236 [.int .i64 f, .int .i64 a, .int .i64 b, .int .i64 c, ints .i64 ms, ints .i64 ds, prs .i64 .i64 l, ints .i64 ps, .int .i64 n, .int .i64 i]).int 9 = i := rfl
      have V4 : (envL FN V 236 [.int .i64 f, .int .i64 a, .int .i64 b, .int .i64 c, ints .i64 ms, ints .i64 ds, prs .i64 .i64 l, ints .i64 ps, .int .i64 n, .int .i64 i]).val 1000004 = ints .i64 ms := rfl
      have V5 : (envL FN V 236 [.int .i64 f, .int .i64 a, .int .i64 b, .int .i64 c, ints .i64 ms, ints .i64 ds, prs .i64 .i64 l, ints .i64 ps, .int .i64 n, .int .i64 i]).val 1000005 = ints .i64 ds := rfl
      have V6 : (envL FN V 236 [.int .i64 f, .int .i64 a, .int .i64 b, .int .i64 c, ints .i64 ms, ints .i64 ds, prs .i64 .i64 l, ints .i64 ps, .int .i64 n, .int .i64 i]).val 1000006 = prs .i64 .i64 l := rfl
      have V7 : (envL FN V 236 [.int .i64 f, .int .i64 a, .int .i64 b, .int .i64 c, ints .i64 ms, ints .i64 ds, prs .i64 .i64 l, ints .i64 ps, .int .i64 n, .int .i64 i]).val 1000007 = ints .i64 ps := rfl
      have E9 : (envL FN V 236 [.int .i64 f, .int .i64 a, .int .i64 b, .int .i64 c, ints .i64 ms, ints .i64 ds, prs .i64 .i64 l, ints .i64 ps, .int .i64 n, .int .i64 i]).fns = FN := rfl
      have hask' : Asked (envL FN V 236 [.int .i64 f, .int .i64 a, .int .i64 b, .int .i64 c, ints .i64 ms, ints .i64 ds, prs .i64 .i64 l, ints .i64 ps, .int .i64 n, .int .i64 i]) cwLoop.wants cwLoop.dec q := hask
      show ∃ s, _ ∧ _ ∧ _ ∧ _ ∧ _ ∧ denL (den (envL FN V 236 [.int .i64 f, .int .i64 a, .int .i64 b, .int .i64 c, ints .i64 ms, ints .i64 ds, prs .i64 .i64 l, ints .i64 ps, .int .i64 n, .int .i64 i]) 40) (cwLoop.out q).exprs = _
      generalize envL FN V 236 [.int .i64 f, .int .i64 a, .int .i64 b, .int .i64 c, ints .i64 ms, ints .i64 ds, prs .i64 .i64 l, ints .i64 ps, .int .i64 n, .int .i64 i] = E at *
      have goal2 : denL (den E 40) (cwLoop.out q).exprs = some (cond q (cwBs f a b c ms ds l ps) (cwBs f a b c ms ds l ps ++ [.int .i64 (chkList (mayNth (mostOf f)) cmpN l)])) := by
        cases q <;> simp only [cwLoop, cwBs, cond_false, cond_true, lfi, specL, den_sv, denL_nil, denL_cons, den_i, Option.bind_some, i0, i4, i98, Int.toNat_natCast, Int.reduceToNat, Nat.reduceAdd, I0, I1, I2, I3, V4, V5, V6, V7, E9, hF, List.cons_append, List.nil_append]
      have w1 := asked_facts hask' (e := sv 30 [lfi .i64 9, .int .i64 0]) (b := true) (by simp [cwLoop]) (c := decide (i = 0)) (by simp only [lfi, den_sv, denL_nil, denL_cons, den_i, Option.bind_some, i0, i30, Int.toNat_natCast, I9])
      have w2 := asked_facts hask' (e := sv 30 [lfi .i64 8, sv 74 [specL 236 6, .int .i64 2]]) (b := true) (by simp [cwLoop]) (c := decide (n = (l.length : Int))) (by simp only [lfi, specL, den_sv, denL_nil, denL_cons, den_i, Option.bind_some, i0, i30, i74p, i98, Int.toNat_natCast, Nat.reduceAdd, V6, I8])
      have w3 := asked_facts hask' (e := sv 31 [.int .i64 64, lfi .i64 8]) (b := false) (by simp [cwLoop]) (c := decide (64 < n)) (by simp only [lfi, den_sv, denL_nil, denL_cons, den_i, Option.bind_some, i0, i31, Int.toNat_natCast, I8])
      have w4 := asked_facts hask' (e := sv 31 [lfi .i64 0, .int .i64 0]) (b := false) (by simp [cwLoop]) (c := decide (f < 0)) (by simp only [lfi, den_sv, denL_nil, denL_cons, den_i, Option.bind_some, i0, i31, Int.toNat_natCast, I0])
      have w5 := asked_facts hask' (e := sv 31 [lfi .i64 0, .int .i64 4]) (b := true) (by simp [cwLoop]) (c := decide (f < 4)) (by simp only [lfi, den_sv, denL_nil, denL_cons, den_i, Option.bind_some, i0, i31, Int.toNat_natCast, I0])
      have w6 := asked_dec (e := sv 30 [sv 4 [.int .i64 152, lfi .i64 0, specL 236 6], .int .i64 0]) hask' (c := decide (chkList (mayNth (mostOf f)) cmpN l = 0)) (by simp only [lfi, specL, den_sv, denL_nil, denL_cons, den_i, Option.bind_some, i0, i4, i30, i98, Int.toNat_natCast, Int.reduceToNat, Nat.reduceAdd, I0, V6, E9, hF])
      simp only [decide_eq_true_eq, decide_eq_false_iff_not] at w1 w2 w3 w4 w5
      subst w1; subst w2
      have hcl : chkList (mayNth (mostOf f)) cmpN l = chkFrom (mayNth (mostOf f)) cmpN (ahead? l 0) (l.drop 0) := by
        rw [chkList, if_neg (by omega)]
        rfl
      have hend : (cwRd (FN := FN)).fin ⟨f, a, b, c, ms, ds, l, ps, 0⟩ = CwS.end_ ⟨f, a, b, c, ms, ds, l, ps, 0⟩ (chkList (mayNth (mostOf f)) cmpN l) := by rw [hcl]; rfl
      refine ⟨⟨f, a, b, c, ms, ds, l, ps, 0⟩, ⟨by simp only; omega, w5, Nat.zero_le _, by simp only; omega⟩, rfl, rfl, ?_, ?_, ?_⟩
      · rw [hend, CwS.end_, ← w6]
        by_cases hc : chkList (mayNth (mostOf f)) cmpN l = 0
        · rw [if_pos hc, decide_eq_true hc]; rfl
        · rw [if_neg hc, decide_eq_false hc]; rfl
      · rw [hend, CwS.end_, ← w6]
        by_cases hc : chkList (mayNth (mostOf f)) cmpN l = 0
        · rw [if_pos hc, decide_eq_true hc]; rfl
        · rw [if_neg hc, decide_eq_false hc]; rfl
      · rw [goal2, hend, CwS.end_, ← w6]
        by_cases hc : chkList (mayNth (mostOf f)) cmpN l = 0
        · rw [if_pos hc, decide_eq_true hc]; rfl
        · rw [if_neg hc, decide_eq_false hc]; rfl
end Go.Proofs.YtbmdlcagaikdaaaDoor
