/- (rule.Rule).Check, Lists, (kalendslaw02.R).Light as contracts that speak of slices' contents. -/
import Derived.Test.YtbmdlcagaikdaaaDoorRuleK
import Derived.Test.YtbmdlcagaikdaaaDoorLightW
import Derived.Test.YtbmdlcagaikdaaaDoorNthP
namespace Go.Proofs.YtbmdlcagaikdaaaDoor
set_option linter.unusedVariables false
set_option linter.unusedSimpArgs false
open Go Go.Sy Go.RowKit

theorem addr_add (b o k : Nat) : (⟨b, o, none⟩ : Addr).add k = ⟨b, o + k, none⟩ := by
  unfold Addr.add
  split
  · simp_all
  · rfl

theorem slI_of {w : World} {a : Option Addr} {l : List Int} (hl : l.length < 16777216) (h : 0 < l.length → ∃ b o, a = some ⟨b, o, none⟩ ∧ b < w.heap.size ∧ ∀ j, j < l.length → w.cell? ⟨b, o + j, none⟩ = some (.int .i64 (l.getD j 0))) : SlI w a l.length l :=
  ⟨rfl, by omega, fun h0 => by
    obtain ⟨b, o, e, hb, hc⟩ := h h0
    exact ⟨_, e, hb, fun k hk => Eq.trans (by rw [addr_add]) (hc k hk)⟩⟩

theorem slN_of {w : World} {a : Option Addr} {l : List (Int × Int)} (hl : l.length < 16777216) (h : 0 < l.length → ∃ b o, a = some ⟨b, o, none⟩ ∧ b < w.heap.size ∧ ∀ j, j < l.length * 2 → w.cell? ⟨b, o + j, none⟩ = (l.flatMap encN)[j]?) : SlN w a l.length l :=
  ⟨rfl, by omega, fun h0 => by
    obtain ⟨b, o, e, hb, hc⟩ := h h0
    refine ⟨_, e, hb, fun k hk => ⟨?_, ?_⟩⟩
    · refine Eq.trans (by rw [addr_add]) ((hc (k * 2) (by omega)).trans ?_)
      have h2 := flat_get l k 0 hk (by omega)
      rw [Nat.add_zero] at h2
      rw [h2]
      rfl
    · refine Eq.trans (by rw [addr_add]) ((hc (k * 2 + 1) (by omega)).trans ?_)
      rw [flat_get l k 1 hk (by omega)]
      rfl⟩

theorem leafR_row {ρ : Rho} {w : World} {srts : List Srt} {r : List ASort} {vs : List Value} {x : Value} {l : List Value} (h : LeafR ρ w (.row srts :: r) vs (x :: l)) : ∃ v q, vs = v :: q ∧ RowIs ρ w srts v x ∧ LeafR ρ w r q l := by
  rcases vs with _ | ⟨v, q⟩
  · exact h.elim
  · exact ⟨v, q, rfl, h.1, h.2⟩
theorem leafR_sc {ρ : Rho} {w : World} {s : Srt} {r : List ASort} {vs : List Value} {x : Value} {l : List Value} (h : LeafR ρ w (.sc s :: r) vs (x :: l)) : ∃ v q, vs = v :: q ∧ VR ρ v x ∧ HasS s x ∧ LeafR ρ w r q l := by
  rcases vs with _ | ⟨v, q⟩
  · exact h.elim
  · exact ⟨v, q, rfl, h.1.1, h.1.2, h.2⟩
theorem leafR_nil {ρ : Rho} {w : World} {vs : List Value} (h : LeafR ρ w [] vs []) : vs = [] := by
  rcases vs with _ | ⟨v, q⟩
  · rfl
  · exact False.elim h

/-- A rule's fields. -/
def ruleOpen (a : List Value) : Option (List Value) := match a with
  | [.agg ⟨[f, i, c, u, r1, r2, r3, r4]⟩] => some [f, i, c, u, r1, r2, r3, r4]
  | _ => none
def ruleSorts : List ASort := [.sc (.int .i64), .sc (.int .i64), .sc (.int .i64), .sc (.int .i64), .row [.int .i64], .row [.int .i64], .row [.int .i64, .int .i64], .row [.int .i64]]
/-- Not too long. -/
def lenWant (srts : List Srt) (s : Value) : Value × Bool := match s with
  | .agg cs => (.bool (Nat.blt cs.toList.length 16777216), true)
  | s => (sv 31 [hlen srts s, .int .i64 16777216], true)
def ruleWants (l : List Value) : List (Value × Bool) := match l with
  | [_, _, _, _, s1, s2, s3, s4] => [lenWant [.int .i64] s1, lenWant [.int .i64] s2, lenWant [.int .i64, .int .i64] s3, lenWant [.int .i64] s4]
  | _ => [(.bool false, true)]

theorem lenWant_ok {S : Knw} {ρ : Rho} (g : Glob S ρ) {srts : List Srt} {z : Value} {cells : Array Value} {n : Nat} (h : holds S (lenWant srts z) = true) (hv : VR ρ z (.agg cells)) (hs : cells.size = n * srts.length) (h0 : 0 < srts.length) : n < 16777216 := by
  unfold lenWant at h
  split at h
  · rename_i cs
    obtain ⟨ys, e, hys⟩ := hv.agg_inv
    cases e
    have hl : cs.toList.length = cells.toList.length := hys.1
    have ht : Nat.blt cs.toList.length 16777216 = true := by
      cases hq : Nat.blt cs.toList.length 16777216 with
      | true => rfl
      | false => rw [hq] at h; simp [holds, truth] at h
    have := blt_t ht
    have hc : n * srts.length < 16777216 := by
      rw [← hs]
      simp only [Array.length_toList] at *
      omega
    have : n * 1 ≤ n * srts.length := Nat.mul_le_mul_left _ h0
    omega
  · have := holds_lt g h (hlen_vr hv hs h0) (.int _ _)
    simp only [decide_eq_true_eq] at this
    omega

def checkG : GCtr where
  f := 9
  open_ := ruleOpen
  sorts := ruleSorts
  wants := ruleWants
  dec _ := none
  val _ l _ := sv 4 (.int .i64 130 :: l)
  rows _ _ := []

def listsG : GCtr where
  f := 13
  open_ := ruleOpen
  sorts := ruleSorts
  wants := ruleWants
  dec _ := none
  val _ l _ := sv 5 (.int .i64 131 :: l)
  rows _ _ := []

structure FnR (FN : Fns) : Prop where
  check : ∀ f i c u ms ds ws ps, FN.int 130 [.int .i64 f, .int .i64 i, .int .i64 c, .int .i64 u, ints .i64 ms, ints .i64 ds, prs .i64 .i64 ws, ints .i64 ps] = chkOf ⟨f, i, c, u, ms, ds, ws, ps⟩
  lists : ∀ f i c u ms ds ws ps, FN.bool 131 [.int .i64 f, .int .i64 i, .int .i64 c, .int .i64 u, ints .i64 ms, ints .i64 ds, prs .i64 .i64 ws, ints .i64 ps] = hasLists ⟨f, i, c, u, ms, ds, ws, ps⟩

/-- A rule that is told: what stands in the world. -/
theorem rule_at {S : Knw} {args ls vs : List Value} {ρ : Rho} {args' : Array Value} {w : World} (hopen : ruleOpen args = some ls) (hw : ∀ p ∈ ruleWants vs, holds S p = true) (g : Glob S ρ) (hv : VRs ρ args args'.toList) (hleaf : ∀ l', VRs ρ ls l' → LeafR ρ w ruleSorts vs l') :
    ∃ (r : RuleD) (a1 a2 a3 a4 : Option Addr) (c1 c2 c3 c4 : Nat), args' = #[.agg #[.int .i64 r.freq, .int .i64 r.itv, .int .i64 r.cnt, .int .i64 r.untl, .slice a1 r.months.length c1, .slice a2 r.days.length c2, .slice a3 r.wds.length c3, .slice a4 r.pos.length c4]] ∧
      RuleIn w r a1 r.months.length a2 r.days.length a3 r.wds.length a4 r.pos.length ∧ r.months.length < 16777216 ∧ r.days.length < 16777216 ∧ r.wds.length < 16777216 ∧ r.pos.length < 16777216 ∧
      VRs ρ vs [.int .i64 r.freq, .int .i64 r.itv, .int .i64 r.cnt, .int .i64 r.untl, ints .i64 r.months, ints .i64 r.days, prs .i64 .i64 r.wds, ints .i64 r.pos] := by
  unfold ruleOpen at hopen
  split at hopen
  · rename_i f i c u r1 r2 r3 r4
    cases hopen
    obtain ⟨av, t0, e0, ha, ht⟩ := hv.cons_inv
    rw [ht.nil_inv] at e0
    obtain ⟨ys, rfl, hys⟩ := ha.agg_inv
    have hl := hleaf _ hys
    obtain ⟨y1, s1, t1, k1, hs1⟩ := hys.cons_inv
    obtain ⟨y2, s2, t2, k2, hs2⟩ := hs1.cons_inv
    obtain ⟨y3, s3, t3, k3, hs3⟩ := hs2.cons_inv
    obtain ⟨y4, s4, t4, k4, hs4⟩ := hs3.cons_inv
    obtain ⟨y5, s5, t5, k5, hs5⟩ := hs4.cons_inv
    obtain ⟨y6, s6, t6, k6, hs6⟩ := hs5.cons_inv
    obtain ⟨y7, s7, t7, k7, hs7⟩ := hs6.cons_inv
    obtain ⟨y8, s8, t8, k8, hs8⟩ := hs7.cons_inv
    rw [hs8.nil_inv] at t8
    subst t8; subst t7; subst t6; subst t5; subst t4; subst t3; subst t2
    rw [t1] at hl
    have hys' : ys = #[y1, y2, y3, y4, y5, y6, y7, y8] := Array.ext' t1
    rw [ruleSorts] at hl
    obtain ⟨z1, o1, rfl, v1, ⟨n1, rfl⟩, hl1⟩ := leafR_sc hl
    obtain ⟨z2, o2, rfl, v2, ⟨n2, rfl⟩, hl2⟩ := leafR_sc hl1
    obtain ⟨z3, o3, rfl, v3, ⟨n3, rfl⟩, hl3⟩ := leafR_sc hl2
    obtain ⟨z4, o4, rfl, v4, ⟨n4, rfl⟩, hl4⟩ := leafR_sc hl3
    obtain ⟨z5, o5, rfl, h5, hl5⟩ := leafR_row hl4
    obtain ⟨z6, o6, rfl, h6, hl6⟩ := leafR_row hl5
    obtain ⟨z7, o7, rfl, h7, hl7⟩ := leafR_row hl6
    obtain ⟨z8, o8, rfl, h8, hl8⟩ := leafR_row hl7
    obtain rfl := leafR_nil hl8
    · obtain ⟨a1, c1, l1, rfl, f1, g1, q1⟩ := rowIs_ints h5
      obtain ⟨a2, c2, l2, rfl, f2, g2, q2⟩ := rowIs_ints h6
      obtain ⟨a3, c3, l3, rfl, f3, g3, q3⟩ := rowIs_prs h7
      obtain ⟨a4, c4, l4, rfl, f4, g4, q4⟩ := rowIs_ints h8
      have m1 : l1.length < 16777216 := lenWant_ok (srts := [.int .i64]) g (hw _ (by simp [ruleWants])) f1 (by simp [ints]) (by simp)
      have m2 : l2.length < 16777216 := lenWant_ok (srts := [.int .i64]) g (hw _ (by simp [ruleWants])) f2 (by simp [ints]) (by simp)
      have m3 : l3.length < 16777216 := lenWant_ok (srts := [.int .i64, .int .i64]) g (hw _ (by simp [ruleWants])) f3 (by show (l3.flatMap encN).toArray.size = _; simpa using flat_len l3) (by simp)
      have m4 : l4.length < 16777216 := lenWant_ok (srts := [.int .i64]) g (hw _ (by simp [ruleWants])) f4 (by simp [ints]) (by simp)
      refine ⟨⟨n1, n2, n3, n4, l1, l2, l3, l4⟩, a1, a2, a3, a4, c1, c2, c3, c4, ?_, ⟨slI_of m1 q1, slI_of m2 q2, slN_of m3 q3, slI_of m4 q4⟩, m1, m2, m3, m4, ?_⟩
      · apply Array.ext'
        rw [e0, hys']
      · exact VRs.cons v1 (VRs.cons v2 (VRs.cons v3 (VRs.cons v4 (VRs.cons f1 (VRs.cons f2 (VRs.cons f3 (VRs.cons f4 (VRs.nil _))))))))
  · cases hopen

theorem checkG_ok {FN : Fns} (hF : FnR FN) : GCtrOk FN checkG := by
  intro S args ls vs q hFN hopen hw _ ρ args' w g hv hd hleaf
  obtain ⟨r, a1, a2, a3, a4, c1, c2, c3, c4, rfl, hr, m1, m2, m3, m4, hvs⟩ := rule_at hopen hw g hv hleaf
  have hres : VR ρ (sv 4 (.int .i64 130 :: vs)) (.int .i64 (chkOf r)) := sv_vr (VRs.cons (.int _ _) hvs) (by
    show some (Value.int .i64 (ρ.env.fns.int 130 [.int .i64 r.freq, .int .i64 r.itv, .int .i64 r.cnt, .int .i64 r.untl, ints .i64 r.months, ints .i64 r.days, prs .i64 .i64 r.wds, ints .i64 r.pos])) = _
    rw [g.fns, hFN, hF.check])
  exact (check_any r a1 _ c1 a2 _ c2 a3 _ c3 a4 _ c4 w hr (by omega) (by omega) (by omega) (by omega)).mono fun e w' ⟨he, hw'⟩ => ⟨_, [], he, hw', trivial, fun ρ' nx ext _ => hres.mono ext⟩

theorem listsG_ok {FN : Fns} (hF : FnR FN) : GCtrOk FN listsG := by
  intro S args ls vs q hFN hopen hw _ ρ args' w g hv hd hleaf
  obtain ⟨r, a1, a2, a3, a4, c1, c2, c3, c4, rfl, hr, m1, m2, m3, m4, hvs⟩ := rule_at hopen hw g hv hleaf
  have hres : VR ρ (sv 5 (.int .i64 131 :: vs)) (.bool (hasLists r)) := sv_vr (VRs.cons (.int _ _) hvs) (by
    show some (Value.bool (ρ.env.fns.bool 131 [.int .i64 r.freq, .int .i64 r.itv, .int .i64 r.cnt, .int .i64 r.untl, ints .i64 r.months, ints .i64 r.days, prs .i64 .i64 r.wds, ints .i64 r.pos])) = _
    rw [g.fns, hFN, hF.lists])
  exact (hasLists_any r a1 _ c1 a2 _ c2 a3 _ c3 _ w rfl rfl rfl (by omega) (by omega) (by omega) rfl).mono fun e w' ⟨he, hw'⟩ => ⟨_, [], he, hw', trivial, fun ρ' nx ext _ => hres.mono ext⟩

def deI : Value → List Int
  | .agg cs => cs.toList.filterMap fun v => match v with | .int _ n => some n | _ => none
  | _ => []
def pairUp : List Int → List (Int × Int)
  | a :: b :: r => (a, b) :: pairUp r
  | _ => []
def deP (v : Value) : List (Int × Int) := pairUp (deI v)

theorem deI_ints (k : IntKind) (l : List Int) : deI (ints k l) = l := by
  simp [deI, ints, List.filterMap_map, Function.comp_def]
theorem deP_prs (k k' : IntKind) (l : List (Int × Int)) : deP (prs k k' l) = l := by
  unfold deP
  have : deI (prs k k' l) = l.flatMap fun p => [p.1, p.2] := by
    simp only [deI, prs]
    induction l with
    | nil => rfl
    | cons x r ih => simp at ih ⊢; simp [ih]
  rw [this]
  clear this
  induction l with
  | nil => rfl
  | cons x r ih => simp [pairUp, ih]

def ruleOf : List Value → RuleD
  | [.int _ f, .int _ i, .int _ c, .int _ u, m, d, w, p] => ⟨f, i, c, u, deI m, deI d, deP w, deI p⟩
  | _ => ⟨0, 0, 0, 0, [], [], [], []⟩
def rule2 : List Value → RuleD × RuleD
  | [.int _ a0, .int _ a1, .int _ a2, .int _ a3, .int _ b0, .int _ b1, .int _ b2, .int _ b3, m, d, w, p, m', d', w', p'] => (⟨a0, a1, a2, a3, deI m, deI d, deP w, deI p⟩, ⟨b0, b1, b2, b3, deI m', deI d', deP w', deI p'⟩)
  | _ => (⟨0, 0, 0, 0, [], [], [], []⟩, ⟨0, 0, 0, 0, [], [], [], []⟩)
def n1 : List Value → Int
  | .int _ a :: _ => a
  | _ => 0
def n2 : List Value → Int
  | _ :: .int _ a :: _ => a
  | _ => 0
def n3 : List Value → Int
  | _ :: _ :: .int _ a :: _ => a
  | _ => 0
def n4 : List Value → Int
  | _ :: _ :: _ :: .int _ a :: _ => a
  | _ => 0
def v1 : List Value → Value
  | a :: _ => a
  | _ => undef
def v2 : List Value → Value
  | _ :: a :: _ => a
  | _ => undef
def v3 : List Value → Value
  | _ :: _ :: a :: _ => a
  | _ => undef
def v4 : List Value → Value
  | _ :: _ :: _ :: a :: _ => a
  | _ => undef
def v5 : List Value → Value
  | _ :: _ :: _ :: _ :: a :: _ => a
  | _ => undef

end Go.Proofs.YtbmdlcagaikdaaaDoor
