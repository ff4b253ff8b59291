/- What the evaluator never does to an abstract heap: code. -/
import Derived.Test.YthcfhmdoelpbdaaGreatDoorEvK
namespace Go.Ev
set_option linter.unusedVariables false
set_option linter.unusedSimpArgs false
open Go

def SelfKeep (self : Self) : Prop := ∀ rd c fr H r, H.wmin ≤ H.next → self rd c fr H = some r → Keep H r.2.2

theorem Keep.le {H H' : Heap} (k : Keep H H') (hw : H.wmin ≤ H.next) : H'.wmin ≤ H'.next := by rw [k.wmin]; exact Nat.le_trans hw k.next

theorem keep_marks : ∀ {l : List Nat} {H H' : Heap}, amarks H l = some H' → Keep H H' := by
  intro l
  induction l with
  | nil => intro H H' h; simp only [amarks, Option.some.injEq] at h; subst h; exact Keep.refl _
  | cons r l ih =>
    intro H H' h
    simp only [amarks] at h
    split at h
    · obtain ⟨hm, h⟩ := cond_some h
      exact (Keep.put _ _ (by assumption) (Nat.le_of_ble_eq_true hm)).trans (ih h)
    · cases h

theorem keep_body {C : Cfg} {self : Self} (hs : SelfKeep self) {fn : Func} {c : Code} {args : List Value} {H : Heap} {r : Value × Heap} (hw : H.wmin ≤ H.next) (h : abody C self fn c args H = some r) : Keep H r.2 := by
  unfold abody at h
  obtain ⟨_, h⟩ := cond_some h
  split at h
  · cases h
  · rename_i he
    have k1 := hs _ _ _ _ _ hw he
    split at h
    · rename_i hm
      split at h
      · simp only [Option.some.injEq] at h
        subst h
        exact k1.trans (keep_marks hm)
      · cases h
    · cases h
  · cases h

theorem keep_callF {C : Cfg} {self : Self} (hs : SelfKeep self) {f : FuncId} {args : List Value} {H : Heap} {r : Value × Heap} (hw : H.wmin ≤ H.next) (h : acallF C self f args H = some r) : Keep H r.2 := by
  unfold acallF at h
  split at h
  · cases h
  · split at h
    · split at h
      · simp only [Option.some.injEq] at h; subst h; exact Keep.refl _
      · cases h
    · generalize hn : (_ == "runtime.NumGoroutine") = q at h
      cases q with
      | true => cases h
      | false =>
        simp only [cond_false] at h
        split at h
        · simp only [Option.some.injEq] at h; subst h; exact Keep.refl _
        · exact keep_body hs hw h

theorem keep_yield {self : Self} (hs : SelfKeep self) {l : Nat} {args : List Value} {H : Heap} {r : Value × Heap} (hw : H.wmin ≤ H.next) (h : ayield self l args H = some r) : Keep H r.2 := by
  unfold ayield at h
  split at h
  · split at h
    · split at h
      · rename_i h1
        have k1 := hs _ _ _ _ _ hw h1
        split at h
        · obtain ⟨hm, h⟩ := cond_some h
          split at h
          · rename_i h2
            have k2 := hs _ _ _ _ _ ((k1.trans (Keep.put _ _ (by assumption) (Nat.le_of_ble_eq_true hm))).le hw) h2
            split at h
            · obtain ⟨hm2, h⟩ := cond_some h
              have k3 := (k1.trans (Keep.put _ _ (by assumption) (Nat.le_of_ble_eq_true hm))).trans k2
              split at h
              · simp only [Option.some.injEq] at h; subst h; exact k3.trans (Keep.put _ _ (by assumption) (Nat.le_of_ble_eq_true hm2))
              · simp only [Option.some.injEq] at h; subst h; exact k3.trans (Keep.put _ _ (by assumption) (Nat.le_of_ble_eq_true hm2))
            · cases h
          · cases h
        · cases h
      · cases h
    · cases h
  · cases h

theorem keep_call {C : Cfg} {self : Self} (hs : SelfKeep self) {fv : Value} {args : List Value} {H : Heap} {r : Value × Heap} (hw : H.wmin ≤ H.next) (h : acall C self fv args H = some r) : Keep H r.2 := by
  unfold acall at h
  split at h
  · exact keep_callF hs hw h
  · exact keep_yield hs hw h
  · cases h

theorem keep_oper {C : Cfg} {self : Self} (hs : SelfKeep self) {ev : Operand → Option Value} {H : Heap} {op : Op} {r : Value × Heap} (hw : H.wmin ≤ H.next) (h : aoper C self ev H op = some r) : Keep H r.2 := by
  unfold aoper at h
  split at h
  · rename_i hh
    simp only [Option.some.injEq] at h
    subst h
    exact keep_heap hh
  · split at h
    · split at h
      · split at h
        · exact keep_call hs hw h
        · cases h
      · cases h
    · cases h

theorem keep_ops {C : Cfg} {self : Self} (hs : SelfKeep self) {ops : List Oper} : ∀ {l : List Oper} {fr : AFr} {H : Heap} {r : AFr × Heap}, H.wmin ≤ H.next → aops C self ops l fr H = some r → Keep H r.2 := by
  intro l
  induction l with
  | nil => intro fr H r _ h; simp only [aops, Option.some.injEq] at h; subst h; exact Keep.refl _
  | cons o rest ih =>
    intro fr H r hw h
    simp only [aops] at h
    split at h
    · split at h
      · exact ih hw h
      · split at h
        · rename_i ho
          have k := keep_oper hs hw ho
          exact k.trans (ih (k.le hw) h)
        · cases h
    · exact ih hw h
    · cases h

theorem hidden_app {l m : List (Nat × Nat)} {b : Nat} (h : hidden l b = false) : hidden (l ++ m) b = hidden m b := by
  induction l with
  | nil => rfl
  | cons p r ih =>
    obtain ⟨lo, hi⟩ := p
    simp only [hidden] at h
    simp only [List.cons_append, hidden]
    cases hc : (Nat.ble lo b && Nat.blt b hi) with
    | true => rw [hc] at h; cases h
    | false => rw [hc] at h; exact ih h

theorem hidden_below {l : List (Nat × Nat)} {b : Nat} (h : ∀ p ∈ l, b < p.1) : hidden l b = false := by
  induction l with
  | nil => rfl
  | cons p r ih =>
    obtain ⟨lo, hi⟩ := p
    simp only [hidden]
    cases hc : (Nat.ble lo b && Nat.blt b hi) with
    | true =>
      simp only [Bool.and_eq_true] at hc
      have h1 := Nat.le_of_ble_eq_true hc.1
      have := h (lo, hi) List.mem_cons_self
      simp only at this
      omega
    | false => exact ih fun q hq => h q (List.mem_cons_of_mem _ hq)

theorem hidden_above {l : List (Nat × Nat)} {b : Nat} (h : ∀ p ∈ l, p.2 ≤ b) : hidden l b = false := by
  induction l with
  | nil => rfl
  | cons p r ih =>
    obtain ⟨lo, hi⟩ := p
    simp only [hidden]
    cases hc : (Nat.ble lo b && Nat.blt b hi) with
    | true =>
      simp only [Bool.and_eq_true] at hc
      have h1 := blt_t hc.2
      have := h (lo, hi) List.mem_cons_self
      simp only at this
      omega
    | false => exact ih fun q hq => h q (List.mem_cons_of_mem _ hq)

theorem look_hide {H : Heap} {l : List (Nat × Nat)} {m : Nat} {b : Nat} {o : AObj} (h : look { H with wmin := m, hide := l } b = some o) : H.tab.get b = some o ∧ ∀ r, rootOf o = some r → H.alive r b = true :=
  (look_some h).2

/-- A look behind a barrier, some names hidden: nothing that was there before is another. -/
theorem Keep.behind {H H' : Heap} {u : List (Nat × Nat)} (k : Keep { H with wmin := H.next, hide := u ++ H.hide } H') : Keep H { H' with wmin := H.wmin, hide := H.hide } :=
  ⟨k.next, rfl, rfl, fun hw b o hb hl => k.keep (Nat.le_refl _) b o (Nat.lt_of_lt_of_le hb hw) hl, fun b o hb hl => k.top b o hb hl⟩

theorem unordered_sub {b : Nat} : ∀ {l : List Rec} {r : Rec}, r ∈ unordered b l → r ∈ l := by
  intro l
  induction l with
  | nil => intro r h; cases h
  | cons x t ih =>
    intro r h
    simp only [unordered] at h
    cases hb : b.testBit x.i with
    | true => rw [hb] at h; exact List.mem_cons_of_mem _ (ih h)
    | false =>
      rw [hb] at h
      rcases List.mem_cons.1 h with h | h
      · rw [h]; exact List.mem_cons_self
      · exact List.mem_cons_of_mem _ (ih h)

inductive AStep (C : Cfg) (self : Self) (ops : List Oper) (arr : Array Oper) (bs : List Nat) (o : Oper) (i : Nat) (fr : AFr) (H : Heap) (recs : List Rec) : Value → Heap → List Rec → Prop
  | skip : awanted ops fr o = some false → AStep C self ops arr bs o i fr H recs undef H recs
  | pure (v) : awanted ops fr o = some true → apure C.P (fr.evalM C.NG (looksOf arr o)) o.op = some v → AStep C self ops arr bs o i fr H recs v H recs
  | write (b v H1) : awanted ops fr o = some true → bs[i]? = some b → unordered b recs = [] → aoper C self (fr.evalM C.NG (looksOf arr o)) H o.op = some (v, H1) →
      AStep C self ops arr bs o i fr H recs v H1.bump (⟨i, H.next, H1.next + 1, true⟩ :: recs)
  | look (b v H1) : awanted ops fr o = some true → bs[i]? = some b → (∀ r ∈ unordered b recs, r.wr = false) →
      aoper C self (fr.evalM C.NG (looksOf arr o)) { H with wmin := H.next, hide := (unordered b recs).map (fun r => (r.lo, r.hi)) ++ H.hide } o.op = some (v, H1) →
      AStep C self ops arr bs o i fr H recs v { H1 with wmin := H.wmin, hide := H.hide, next := H1.next + 1 } (⟨i, H.next, H1.next + 1, false⟩ :: recs)

theorem astep_spec {C : Cfg} {self : Self} {ops : List Oper} {arr : Array Oper} {bs : List Nat} {o : Oper} {i : Nat} {fr : AFr} {H : Heap} {recs : List Rec} {v : Value} {H' : Heap} {recs' : List Rec}
    (h : astep C self ops arr bs o i fr H recs = some (v, H', recs')) : AStep C self ops arr bs o i fr H recs v H' recs' := by
  unfold astep at h
  split at h
  · rename_i hw
    split at h
    · rename_i v0 hp
      simp only [Option.some.injEq, Prod.mk.injEq] at h
      obtain ⟨rfl, rfl, rfl⟩ := h
      exact .pure _ hw hp
    · split at h
      · cases h
      · rename_i b hb
        obtain ⟨_, h⟩ := cond_some h
        split at h
        · rename_i hu
          generalize hq : (isWriter o.op || (isCall o.op && barrier ops bs i)) = q at h
          cases q with
          | true =>
            simp only [cond_true] at h
            split at h
            · rename_i v1 H1 ho
              simp only [Option.some.injEq, Prod.mk.injEq] at h
              obtain ⟨rfl, rfl, rfl⟩ := h
              exact .write b _ _ hw hb hu ho
            · cases h
          | false =>
            simp only [cond_false] at h
            split at h
            · rename_i v1 H1 ho
              simp only [Option.some.injEq, Prod.mk.injEq] at h
              obtain ⟨rfl, rfl, rfl⟩ := h
              exact .look b _ _ hw hb (by rw [hu]; intro r hr; cases hr) (by rw [hu]; exact ho)
            · cases h
        · rename_i u hne
          generalize hq : (isWriter o.op || List.any _ _) = q at h
          cases q with
          | true => cases h
          | false =>
            simp only [cond_false] at h
            split at h
            · rename_i v1 H1 ho
              simp only [Option.some.injEq, Prod.mk.injEq] at h
              obtain ⟨rfl, rfl, rfl⟩ := h
              refine .look b _ _ hw hb ?_ ho
              rw [Bool.or_eq_false_iff] at hq
              intro r hr
              have := hq.2
              rw [List.any_eq_false] at this
              simpa using this r hr
            · cases h
  · rename_i hw
    simp only [Option.some.injEq, Prod.mk.injEq] at h
    obtain ⟨rfl, rfl, rfl⟩ := h
    exact .skip hw
  · cases h

theorem Keep.bump (H : Heap) : Keep H H.bump := ⟨Nat.le_succ _, rfl, rfl, fun _ _ _ _ h => h, fun _ o _ h => ⟨o, h⟩⟩

/-- What a step of such a region keeps. -/
theorem keep_astep {C : Cfg} {self : Self} (hs : SelfKeep self) {ops : List Oper} {arr : Array Oper} {bs : List Nat} {o : Oper} {i : Nat} {fr : AFr} {H : Heap} {recs : List Rec} {v : Value} {H' : Heap} {recs' : List Rec}
    (hw : H.wmin ≤ H.next) (hrec : ∀ x ∈ recs, H.wmin ≤ x.lo ∧ x.hi ≤ H.next) (h : AStep C self ops arr bs o i fr H recs v H' recs') : Keep H H' ∧ ∀ x ∈ recs', H'.wmin ≤ x.lo ∧ x.hi ≤ H'.next := by
  have more : ∀ {H1 : Heap} (k : Keep H H1) (wr : Bool), ∀ x ∈ (⟨i, H.next, H1.next, wr⟩ : Rec) :: recs, H1.wmin ≤ x.lo ∧ x.hi ≤ H1.next := by
    intro H1 k wr x hx
    rw [k.wmin]
    rcases List.mem_cons.1 hx with hx | hx
    · subst hx; exact ⟨hw, Nat.le_refl _⟩
    · exact ⟨(hrec x hx).1, Nat.le_trans (hrec x hx).2 k.next⟩
  cases h with
  | skip => exact ⟨Keep.refl _, hrec⟩
  | pure => exact ⟨Keep.refl _, hrec⟩
  | write b v H1 _ _ _ ho =>
    have k1 : Keep H H1 := keep_oper hs hw ho
    exact ⟨k1.trans (Keep.bump H1), more (k1.trans (Keep.bump H1)) true⟩
  | look b v H1 _ _ _ ho =>
    have k0 := keep_oper hs (H := { H with wmin := H.next, hide := (unordered b recs).map (fun r => (r.lo, r.hi)) ++ H.hide }) (Nat.le_refl _) ho
    have k1 := (Keep.behind k0).trans (Keep.bump _)
    exact ⟨k1, more k1 false⟩

theorem keep_draw {C : Cfg} {self : Self} (hs : SelfKeep self) {ops : List Oper} {arr : Array Oper} {bs : List Nat} : ∀ {l : List Oper} {i : Nat} {fr : AFr} {H : Heap} {recs : List Rec} {r : AFr × Heap},
    H.wmin ≤ H.next → (∀ x ∈ recs, H.wmin ≤ x.lo ∧ x.hi ≤ H.next) → adraw C self ops arr bs l i fr H recs = some r → Keep H r.2 := by
  intro l
  induction l with
  | nil => intro i fr H recs r _ _ h; simp only [adraw, Option.some.injEq] at h; subst h; exact Keep.refl _
  | cons o rest ih =>
    intro i fr H recs r hw hrec h
    simp only [adraw] at h
    split at h
    · rename_i v H' recs' hst
      obtain ⟨k1, h1⟩ := keep_astep hs hw hrec (astep_spec hst)
      exact k1.trans (ih (k1.le hw) h1 h)
    · cases h

theorem keep_loopN {body : AFr → Heap → Option (AEx × AFr × Heap)} (hb : ∀ fr H r, H.wmin ≤ H.next → body fr H = some r → Keep H r.2.2) : ∀ (m : Nat) {fr : AFr} {H : Heap} {r : AEx × AFr × Heap}, H.wmin ≤ H.next → loopN body m fr H = some r → Keep H r.2.2 := by
  intro m
  induction m with
  | zero => intro fr H r _ h; cases h
  | succ m ih =>
    intro fr H r hw h
    simp only [loopN] at h
    split at h
    · rename_i h1
      have k1 := hb _ _ _ hw h1
      exact k1.trans (ih (k1.le hw) h)
    · exact hb _ _ _ hw h

theorem keep_step {C : Cfg} {self : Self} (hs : SelfKeep self) {bound : Nat} : SelfKeep (step C self bound) := by
  intro rd c fr H r hw h
  unfold step at h
  split at h
  · simp only [Option.some.injEq] at h; subst h; exact Keep.refl _
  · simp only [Option.some.injEq] at h; subst h; exact Keep.refl _
  · simp only [Option.some.injEq] at h; subst h; exact Keep.refl _
  · split at h
    · rename_i h1
      have k1 := hs _ _ _ _ _ hw h1
      exact k1.trans (hs _ _ _ _ _ (k1.le hw) h)
    · exact hs _ _ _ _ _ hw h
  · split at h
    · exact hs _ _ _ _ _ hw h
    · exact hs _ _ _ _ _ hw h
    · cases h
  · split at h
    · rename_i h1
      have k1 := hs _ _ _ _ _ hw h1
      generalize Nat.beq _ _ = q at h
      cases q <;> (simp only [cond_true, cond_false, Option.some.injEq] at h; subst h; exact k1)
    · exact hs _ _ _ _ _ hw h
  · exact keep_loopN (fun fr H r hw h => hs _ _ _ _ _ hw h) bound hw h
  · split at h
    · rename_i h1
      simp only [Option.some.injEq] at h
      subst h
      exact keep_ops hs hw h1
    · cases h
  · split at h
    · obtain ⟨_, h⟩ := cond_some h
      split at h
      · rename_i h1
        simp only [Option.some.injEq] at h
        subst h
        exact keep_draw hs hw (by intro x hx; cases hx) h1
      · cases h
    · cases h
  · split at h
    · simp only at h
      split at h
      · rename_i d H1 fr1 hd
        have k0 : Keep H H1 := by
          split at hd
          · simp only [Option.some.injEq, Prod.mk.injEq] at hd; obtain ⟨_, rfl, _⟩ := hd; exact Keep.push _ _
          · split at hd
            · simp only [Option.some.injEq, Prod.mk.injEq] at hd; obtain ⟨_, rfl, _⟩ := hd; exact Keep.refl _
            · cases hd
        have k1 := fun o => k0.trans (Keep.push H1 o)
        split at h
        · rename_i h2
          replace h2 := (cond_some h2).2
          have k2 := (k1 _).trans (keep_call hs ((k1 _).le hw) h2)
          split at h
          · split at h
            · cases h
            · obtain ⟨hm, h⟩ := cond_some h
              have k3 := fun o' => k2.trans (Keep.put _ o' (by assumption) (Nat.le_of_ble_eq_true hm))
              split at h
              · simp only [Option.some.injEq] at h; subst h; exact k3 _
              · exact (k3 _).trans (hs _ _ _ _ _ ((k3 _).le hw) h)
          · cases h
        · cases h
      · cases h
    · cases h
  · cases h

theorem keep_ev (C : Cfg) : ∀ n, SelfKeep (ev C n)
  | 0 => fun _ _ _ _ _ _ h => by cases h
  | n + 1 => keep_step (keep_ev C n)

end Go.Ev
