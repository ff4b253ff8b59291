/- SyIII: joined of SyZe, SyZf, SyZg, SyZh, SyZi, SyZj, SyZk, SyZl, SyTree, SyDen. -/
import Derived.Test.YtebkccfnilcfpaaGreatDoorSyIIb
import Derived.LoopNIn
import Derived.RangeFuncIn

/- Regions whose order is open: what the evaluator's walk in the text's order has looked at. -/
namespace Go.Sy
set_option linter.unusedVariables false
set_option linter.unusedSimpArgs false
open Go Go.RowKit

/-! ### Who comes before whom -/

theorem befores_fold {acc : List Nat} : ∀ {es : List Edge} {m0 m : Nat}, es.foldl (fun (m : Option Nat) e => match m, acc[e.on]? with
      | some m, some b => some (m ||| (2 ^ e.on) ||| b)
      | _, _ => none) (some m0) = some m →
    (∀ e ∈ es, e.on < acc.length) ∧ ∀ j, m.testBit j = true → m0.testBit j = true ∨ ∃ e ∈ es, j = e.on ∨ ∃ b, acc[e.on]? = some b ∧ b.testBit j = true := by
  intro es
  induction es with
  | nil => intro m0 m h; simp only [List.foldl_nil, Option.some.injEq] at h; subst h; exact ⟨by simp, fun j hj => .inl hj⟩
  | cons e r ih =>
    intro m0 m h
    rw [List.foldl_cons] at h
    cases hb : acc[e.on]? with
    | none =>
      rw [hb] at h
      have hn : ∀ es : List Edge, es.foldl (fun (m : Option Nat) e => match m, acc[e.on]? with
        | some m, some b => some (m ||| (2 ^ e.on) ||| b)
        | _, _ => none) none = none := by
        intro es
        induction es with
        | nil => rfl
        | cons e r ih => rw [List.foldl_cons]; exact ih
      rw [hn] at h
      cases h
    | some b =>
      rw [hb] at h
      obtain ⟨h1, h2⟩ := ih h
      refine ⟨fun x hx => ?_, fun j hj => ?_⟩
      · rcases List.mem_cons.1 hx with hx | hx
        · subst hx; exact (List.getElem?_eq_some_iff.1 hb).1
        · exact h1 x hx
      · rcases h2 j hj with h | ⟨x, hx, h⟩
        · rw [Nat.testBit_or, Nat.testBit_or, Bool.or_eq_true, Bool.or_eq_true] at h
          rcases h with (h | h) | h
          · exact .inl h
          · rw [Nat.testBit_two_pow] at h
            have h' : e.on = j := by simpa using h
            exact .inr ⟨e, List.mem_cons_self, .inl h'.symm⟩
          · exact .inr ⟨e, List.mem_cons_self, .inr ⟨b, hb, h⟩⟩
        · exact .inr ⟨x, List.mem_cons_of_mem _ hx, h⟩

theorem befores_fold2 {acc : List Nat} : ∀ {es : List Edge} {m0 m : Nat}, es.foldl (fun (m : Option Nat) e => match m, acc[e.on]? with
      | some m, some b => some (m ||| (2 ^ e.on) ||| b)
      | _, _ => none) (some m0) = some m →
    (∀ j, m0.testBit j = true → m.testBit j = true) ∧ ∀ e ∈ es, m.testBit e.on = true ∧ ∀ b, acc[e.on]? = some b → ∀ j, b.testBit j = true → m.testBit j = true := by
  intro es
  induction es with
  | nil => intro m0 m h; simp only [List.foldl_nil, Option.some.injEq] at h; subst h; exact ⟨fun _ h => h, by simp⟩
  | cons e r ih =>
    intro m0 m h
    rw [List.foldl_cons] at h
    cases hb : acc[e.on]? with
    | none =>
      rw [hb] at h
      have hn : ∀ es : List Edge, es.foldl (fun (m : Option Nat) e => match m, acc[e.on]? with
        | some m, some b => some (m ||| (2 ^ e.on) ||| b)
        | _, _ => none) none = none := by
        intro es
        induction es with
        | nil => rfl
        | cons e r ih => rw [List.foldl_cons]; exact ih
      rw [hn] at h
      cases h
    | some b =>
      rw [hb] at h
      obtain ⟨h1, h2⟩ := ih h
      have h3 : ∀ j, m0.testBit j = true ∨ e.on = j ∨ b.testBit j = true → m.testBit j = true := fun j hj => h1 j (by
        rw [Nat.testBit_or, Nat.testBit_or, Nat.testBit_two_pow]
        rcases hj with h | h | h
        · rw [h]; rfl
        · rw [decide_eq_true h]; simp
        · rw [h]; simp)
      refine ⟨fun j hj => h3 j (.inl hj), fun x hx => ?_⟩
      rcases List.mem_cons.1 hx with rfl | hx
      · exact ⟨h3 _ (.inr (.inl rfl)), fun b' hb' j hj => h3 j (.inr (.inr (by rw [hb] at hb'; cases hb'; exact hj)))⟩
      · exact h2 x hx

theorem befores_spec2 : ∀ {l : List Oper} {acc bs : List Nat}, befores l acc = some bs →
    (∀ k, k < acc.length → bs[k]? = acc[k]?) ∧ ∀ (i : Nat) (o : Oper), l[i]? = some o → ∃ b, bs[acc.length + i]? = some b ∧
      ∀ e ∈ o.after, Region.binds .any e = true → b.testBit e.on = true ∧ ∀ b', bs[e.on]? = some b' → ∀ j, b'.testBit j = true → b.testBit j = true := by
  intro l
  induction l with
  | nil => intro acc bs h; simp only [befores, Option.some.injEq] at h; subst h; exact ⟨fun _ _ => rfl, by simp⟩
  | cons o r ih =>
    intro acc bs h
    simp only [befores] at h
    split at h
    · rename_i m hm
      obtain ⟨h1, h2⟩ := ih h
      obtain ⟨g1, _⟩ := befores_fold hm
      obtain ⟨_, g2⟩ := befores_fold2 hm
      have hk : ∀ k, k < acc.length → bs[k]? = acc[k]? := fun k hk => by
        rw [h1 k (by simp; omega), List.getElem?_append_left hk]
      refine ⟨hk, fun i x hx => ?_⟩
      cases i with
      | zero =>
        simp only [List.getElem?_cons_zero, Option.some.injEq] at hx
        subst hx
        refine ⟨m, ?_, fun e he hb => ?_⟩
        · rw [Nat.add_zero, h1 acc.length (by simp)]
          simp
        · have hm := List.mem_filter.2 ⟨(by simpa using he : e ∈ o.after.toList), hb⟩
          refine ⟨(g2 e hm).1, fun b' hb' => (g2 e hm).2 b' ?_⟩
          rw [← hk e.on (g1 e hm)]
          exact hb'
      | succ i =>
        obtain ⟨b, q1, q2⟩ := h2 i x (by simpa using hx)
        simp only [List.length_append, List.length_cons, List.length_nil] at q1
        exact ⟨b, by rw [← q1]; congr 1; omega, q2⟩
    · cases h

theorem befores_spec : ∀ {l : List Oper} {acc bs : List Nat}, befores l acc = some bs →
    (∀ k, k < acc.length → bs[k]? = acc[k]?) ∧ ∀ (i : Nat) (o : Oper), l[i]? = some o → ∃ b, bs[acc.length + i]? = some b ∧ (∀ e ∈ o.after, Region.binds .any e = true → e.on < acc.length + i) ∧
      ∀ j, b.testBit j = true → ∃ e ∈ o.after, Region.binds .any e = true ∧ (j = e.on ∨ ∃ b', bs[e.on]? = some b' ∧ b'.testBit j = true) := by
  intro l
  induction l with
  | nil => intro acc bs h; simp only [befores, Option.some.injEq] at h; subst h; exact ⟨fun _ _ => rfl, by simp⟩
  | cons o r ih =>
    intro acc bs h
    simp only [befores] at h
    split at h
    · rename_i m hm
      obtain ⟨h1, h2⟩ := ih h
      obtain ⟨g1, g2⟩ := befores_fold hm
      have hk : ∀ k, k < acc.length → bs[k]? = acc[k]? := fun k hk => by
        rw [h1 k (by simp; omega), List.getElem?_append_left hk]
      refine ⟨hk, fun i x hx => ?_⟩
      cases i with
      | zero =>
        simp only [List.getElem?_cons_zero, Option.some.injEq] at hx
        subst hx
        refine ⟨m, ?_, fun e he hb => ?_, fun j hj => ?_⟩
        · rw [Nat.add_zero, h1 acc.length (by simp)]
          simp
        · exact g1 e (List.mem_filter.2 ⟨by simpa using he, hb⟩)
        · rcases g2 j hj with h | ⟨e, he, h⟩
          · simp at h
          · obtain ⟨he1, he2⟩ := List.mem_filter.1 he
            refine ⟨e, by simpa using he1, he2, h.imp id fun ⟨b, hb, hj⟩ => ⟨b, ?_, hj⟩⟩
            rw [hk e.on (g1 e he)]
            exact hb
      | succ i =>
        obtain ⟨b, q1, q2, q3⟩ := h2 i x (by simpa using hx)
        simp only [List.length_append, List.length_cons, List.length_nil] at q1 q2
        exact ⟨b, by rw [← q1]; congr 1; omega, fun e he hb => by have := q2 e he hb; omega, q3⟩
    · cases h

theorem apartAll_spec {ops : List Oper} {arr : Array Oper} {bs : List Nat} (h : apartAll ops arr bs = true) {i j : Nat} {oi oj : Oper} (hij : i < j) (hi : ops[i]? = some oi) (hj : ops[j]? = some oj) :
    (∃ b, bs[j]? = some b ∧ b.testBit i = true) ∨ oi.apart arr oj = true := by
  unfold apartAll at h
  have h1 := List.all_eq_true.1 h j (List.mem_range.2 (List.getElem?_eq_some_iff.1 hj).1)
  have h2 := List.all_eq_true.1 h1 i (List.mem_range.2 hij)
  rw [hi, hj] at h2
  split at h2
  · rename_i b e1 e2 e3
    cases e1; cases e2
    rw [Bool.or_eq_true] at h2
    exact h2.imp (fun h => ⟨b, e3, h⟩) id
  · cases h2

/-! ### The walk, step by step -/

structure St where
  fr : AFr
  H : Heap
  rc : List Rec

theorem draw_chain {C : Cfg} {self : Self} {tkm : Bool} {ops : List Oper} {arr : Array Oper} {bs : List Nat} : ∀ {l : List Oper} {i : Nat} {fr : AFr} {H : Heap} {recs : List Rec} {r : AFr × Heap}, adraw C self tkm ops arr bs l i fr H recs = some r →
    ∃ (S : Nat → St) (v : Nat → Value), S i = ⟨fr, H, recs⟩ ∧ (S (i + l.length)).fr = r.1 ∧ (S (i + l.length)).H = r.2 ∧ ∀ (k : Nat) (o : Oper), l[k]? = some o →
      AStep C self tkm ops arr bs o (i + k) (S (i + k)).fr (S (i + k)).H (S (i + k)).rc (v (i + k)) (S (i + k + 1)).H (S (i + k + 1)).rc ∧ (S (i + k + 1)).fr = (S (i + k)).fr.put o.dst (v (i + k)) := by
  intro l
  induction l with
  | nil =>
    intro i fr H recs r h
    simp only [adraw, Option.some.injEq] at h
    subst h
    exact ⟨fun _ => ⟨fr, H, recs⟩, fun _ => undef, rfl, rfl, rfl, by simp⟩
  | cons o rest ih =>
    intro i fr H recs r h
    simp only [adraw] at h
    split at h
    · rename_i v0 H' recs' hst
      obtain ⟨S, v, h1, h2, h3, h4⟩ := ih h
      have e : ∀ j, i < j → (fun j => if j = i then (⟨fr, H, recs⟩ : St) else S j) j = S j := fun j hj => if_neg (by omega)
      have ev : ∀ j, i < j → (fun j => if j = i then v0 else v j) j = v j := fun j hj => if_neg (by omega)
      refine ⟨fun j => if j = i then ⟨fr, H, recs⟩ else S j, fun j => if j = i then v0 else v j, if_pos rfl, ?_, ?_, ?_⟩
      · rw [e _ (by simp), ← h2, List.length_cons]; congr 2 <;> omega
      · rw [e _ (by simp), ← h3, List.length_cons]; congr 2 <;> omega
      · intro k x hx
        cases k with
        | zero =>
          simp only [List.getElem?_cons_zero, Option.some.injEq] at hx
          subst hx
          simp only [Nat.add_zero]
          rw [if_pos trivial, if_pos trivial, if_neg (show ¬ i + 1 = i by omega), h1]
          exact ⟨astep_spec hst, rfl⟩
        | succ k =>
          have := h4 k x (by simpa using hx)
          have e1 : i + (k + 1) = i + 1 + k := by omega
          simp only
          rw [e1, if_neg (show ¬ i + 1 + k = i by omega), if_neg (show ¬ i + 1 + k = i by omega), if_neg (show ¬ i + 1 + k + 1 = i by omega)]
          exact this
    · cases h

/-- What is known of the walk. -/
structure Walked (C : Cfg) (sf : Self) (tkm : Bool) (ops : Array Oper) (bs : List Nat) (S : Nat → St) (v : Nat → Value) : Prop where
  nil : (S 0).rc = []
  le : (S 0).H.wmin ≤ (S 0).H.next
  keep : SelfKeep sf
  st : ∀ (k : Nat) (o : Oper), ops[k]? = some o → AStep C sf tkm ops.toList ops bs o k (S k).fr (S k).H (S k).rc (v k) (S (k + 1)).H (S (k + 1)).rc
  put : ∀ (k : Nat) (o : Oper), ops[k]? = some o → (S (k + 1)).fr = (S k).fr.put o.dst (v k)
  edge : ∀ (k : Nat) (o : Oper), ops[k]? = some o → ∀ e ∈ o.after, Region.binds .any e = true → e.on < k
  bit : ∀ (k : Nat) (o : Oper) (b : Nat), ops[k]? = some o → bs[k]? = some b → ∀ j, b.testBit j = true → ∃ e ∈ o.after, Region.binds .any e = true ∧ (j = e.on ∨ ∃ b', bs[e.on]? = some b' ∧ b'.testBit j = true)
  apart : ∀ (i j : Nat) (oi oj : Oper), i < j → ops[i]? = some oi → ops[j]? = some oj → (∃ b, bs[j]? = some b ∧ b.testBit i = true) ∨ oi.apart ops oj = true
  closed : ∀ (k : Nat) (o : Oper), ops[k]? = some o → ∃ b, bs[k]? = some b ∧ ∀ e ∈ o.after, Region.binds .any e = true → b.testBit e.on = true ∧ ∀ b', bs[e.on]? = some b' → ∀ j, b'.testBit j = true → b.testBit j = true

/-- Number k has been written down as one that looked at memory. -/
def RecAt (S : Nat → St) (k : Nat) (wr : Bool) : Prop := ∃ tk, (S (k + 1)).rc = ⟨k, (S k).H.next, (S (k + 1)).H.next, wr, tk⟩ :: (S k).rc

theorem RecAt.not_both {S : Nat → St} {k : Nat} (h : RecAt S k true) (h' : RecAt S k false) : False := by
  obtain ⟨_, h⟩ := h
  obtain ⟨_, h'⟩ := h'
  rw [h] at h'
  simp at h'

theorem mem_unordered {b : Nat} : ∀ {l : List Rec} {x : Rec}, x ∈ l → b.testBit x.i = false → x ∈ unordered b l := by
  intro l
  induction l with
  | nil => intro x h; cases h
  | cons y t ih =>
    intro x h hb
    simp only [unordered]
    rcases List.mem_cons.1 h with h | h
    · subst h
      rw [hb]
      exact List.mem_cons_self
    · cases b.testBit y.i with
      | true => exact ih h hb
      | false => exact List.mem_cons_of_mem _ (ih h hb)

section
variable {C : Cfg} {self : Self} {tkm : Bool} {ops : Array Oper} {bs : List Nat} {S : Nat → St} {v : Nat → Value}

theorem Walked.keeps (d : Walked C self tkm ops bs S v) : ∀ k, k ≤ ops.size → Keep (S 0).H (S k).H ∧ ∀ x ∈ (S k).rc, (S k).H.wmin ≤ x.lo ∧ x.hi ≤ (S k).H.next := by
  intro k
  induction k with
  | zero => intro _; exact ⟨Keep.refl _, by rw [d.nil]; intro x hx; cases hx⟩
  | succ k ih =>
    intro hk
    obtain ⟨h1, h2⟩ := ih (by omega)
    obtain ⟨k1, k2⟩ := keep_astep d.keep (h1.le d.le) h2 (d.st k _ (Array.getElem?_eq_getElem (by omega)))
    exact ⟨h1.trans k1, k2⟩

theorem Walked.keep1 (d : Walked C self tkm ops bs S v) {k : Nat} (hk : k < ops.size) : Keep (S k).H (S (k + 1)).H := by
  obtain ⟨h1, h2⟩ := d.keeps k (by omega)
  exact (keep_astep d.keep (h1.le d.le) h2 (d.st k _ (Array.getElem?_eq_getElem hk))).1

theorem Walked.mono (d : Walked C self tkm ops bs S v) {i j : Nat} (hij : i ≤ j) (hj : j ≤ ops.size) : (S i).H.next ≤ (S j).H.next := by
  induction j with
  | zero => have : i = 0 := by omega
            subst this; exact Nat.le_refl _
  | succ j ih =>
    by_cases h : i = j + 1
    · subst h; exact Nat.le_refl _
    · exact Nat.le_trans (ih (by omega) (by omega)) (d.keep1 (by omega)).next

theorem Walked.rc_mono (d : Walked C self tkm ops bs S v) {i j : Nat} (hij : i ≤ j) (hj : j ≤ ops.size) {x : Rec} (hx : x ∈ (S i).rc) : x ∈ (S j).rc := by
  induction j with
  | zero => have : i = 0 := by omega
            subst this; exact hx
  | succ j ih =>
    by_cases h : i = j + 1
    · subst h; exact hx
    · have := ih (by omega) (by omega)
      have hs := d.st j _ (Array.getElem?_eq_getElem (by omega))
      generalize hr : (S (j + 1)).rc = rr at hs ⊢
      generalize hv : v j = vv at hs
      generalize hH : (S (j + 1)).H = HH at hs
      cases hs with
      | skip => exact this
      | pure => exact this
      | write => exact List.mem_cons_of_mem _ this
      | look => exact List.mem_cons_of_mem _ this

/-- A step that gives new names is written down. -/
theorem Walked.recd (d : Walked C self tkm ops bs S v) {k : Nat} (hk : k < ops.size) (h : (S k).H.next < (S (k + 1)).H.next) : ∃ wr, RecAt S k wr := by
  have hs := d.st k _ (Array.getElem?_eq_getElem hk)
  unfold RecAt
  generalize hr : (S (k + 1)).rc = rr at hs ⊢
  generalize hv : v k = vv at hs
  generalize hH : (S (k + 1)).H = HH at hs h ⊢
  cases hs with
  | skip => omega
  | pure => omega
  | write => exact ⟨true, _, rfl⟩
  | look => exact ⟨false, _, rfl⟩

/-- Of two that look at memory, the earlier a writer: the later is bound behind it. -/
theorem Walked.order (d : Walked C self tkm ops bs S v) {j k : Nat} {w2 : Bool} (hjk : j < k) (hk : k < ops.size) (hj : RecAt S j true) (hkr : RecAt S k w2) : ∃ b, bs[k]? = some b ∧ b.testBit j = true := by
  obtain ⟨t1, hj⟩ := hj
  obtain ⟨t2, hkr⟩ := hkr
  have hx : (⟨j, (S j).H.next, (S (j + 1)).H.next, true, t1⟩ : Rec) ∈ (S k).rc := d.rc_mono hjk (by omega) (by rw [hj]; exact List.mem_cons_self)
  have hs := d.st k _ (Array.getElem?_eq_getElem hk)
  generalize hr : (S (k + 1)).rc = rr at hs hkr
  generalize hv : v k = vv at hs
  generalize hH : (S (k + 1)).H = HH at hs hkr
  cases hs with
  | skip => simp at hkr
  | pure => simp at hkr
  | write b v0 H1 _ hb hu _ =>
    refine ⟨b, hb, ?_⟩
    cases hq : b.testBit j with
    | true => rfl
    | false =>
      have := (hu _ (mem_unordered (b := b) hx hq)).2
      simp [lateRec] at this
  | look b v0 H1 _ _ hb hu _ _ =>
    refine ⟨b, hb, ?_⟩
    cases hq : b.testBit j with
    | true => rfl
    | false =>
      have := hu _ (mem_unordered (b := b) hx hq)
      cases this

/-- Where no writer was, nothing old is another. -/
theorem Walked.still (d : Walked C self tkm ops bs S v) {s : Nat} {o : AObj} {b : Nat} : ∀ {i : Nat}, i ≤ ops.size → (∀ k, s ≤ k → k < i → ¬ RecAt S k true) → look0 (S i).H b = some o → ∀ {j : Nat}, s ≤ j → j ≤ i → b < (S j).H.next → look0 (S j).H b = some o := by
  intro i
  induction i with
  | zero => intro _ _ hl j _ hj _; have : j = 0 := by omega
            subst this; exact hl
  | succ i ih =>
    intro hi hno hl j hsj hji hb
    by_cases h : j = i + 1
    · subst h; exact hl
    · refine ih (by omega) (fun k h1 h2 => hno k h1 (by omega)) ?_ hsj (by omega) hb
      have hb' : b < (S i).H.next := Nat.lt_of_lt_of_le hb (d.mono (by omega) (by omega))
      have hs := d.st i _ (Array.getElem?_eq_getElem (by omega))
      have hn := hno i (by omega) (by omega)
      unfold RecAt at hn
      generalize hr : (S (i + 1)).rc = rr at hs hn
      generalize hv : v i = vv at hs
      generalize hH : (S (i + 1)).H = HH at hs hn hl
      cases hs with
      | skip => exact hl
      | pure => exact hl
      | write => exact absurd ⟨_, rfl⟩ hn
      | look bb v0 H1 _ _ _ _ ho _ => exact (keep_oper d.keep (H := { (S i).H with wmin := (S i).H.next, hide := (unordered bb (S i).rc).map (fun r => (r.lo, r.hi)) ++ (S i).H.hide }) (Nat.le_refl _) ho).keep (Nat.le_refl _) b o hb' hl

/-- Where a name comes from. -/
theorem Walked.find (d : Walked C self tkm ops bs S v) {s i : Nat} {o : AObj} {b : Nat} (hi : i ≤ ops.size) (hno : ∀ k, s ≤ k → k < i → ¬ RecAt S k true) (hsi : s ≤ i) (hl : look0 (S i).H b = some o) (hb : b < (S i).H.next) :
    (b < (S s).H.next ∧ look0 (S s).H b = some o) ∨ ∃ j, s ≤ j ∧ j < i ∧ (S j).H.next ≤ b ∧ b < (S (j + 1)).H.next ∧ look0 (S (j + 1)).H b = some o := by
  by_cases h : b < (S s).H.next
  · exact .inl ⟨h, d.still hi hno hl (Nat.le_refl _) hsi h⟩
  · right
    have : ∀ m, s + m ≤ i → b < (S (s + m)).H.next → ∃ j, s ≤ j ∧ j < s + m ∧ (S j).H.next ≤ b ∧ b < (S (j + 1)).H.next := by
      intro m
      induction m with
      | zero => intro _ h'; exact absurd h' h
      | succ m ih =>
        intro hm hb'
        by_cases h2 : b < (S (s + m)).H.next
        · obtain ⟨j, h3, h4, h5⟩ := ih (by omega) h2
          exact ⟨j, h3, by omega, h5⟩
        · exact ⟨s + m, by omega, by omega, by omega, hb'⟩
    obtain ⟨j, h1, h2, h3, h4⟩ := this (i - s) (by omega) (by rw [show s + (i - s) = i by omega]; exact hb)
    exact ⟨j, h1, by omega, h3, h4, d.still hi hno hl (by omega) (by omega) h4⟩

end

end Go.Sy

/- Regions whose order is open: what holds after some of the operations, in whatever order they were taken. -/
namespace Go.Sy
set_option linter.unusedVariables false
set_option linter.unusedSimpArgs false
open Go Go.RowKit

/-! ### What the world bears, told by a relation -/

structure PostL (NG : Knw) (base : Nat) (ρ0 : Rho) (H0 : Heap) (Lk : Nat → AObj → Prop) (w0 w : World) (ρ : Rho) : Prop where
  ext : Ext ρ0 ρ
  glob : Glob NG ρ
  dom : ∀ b o, Lk b o → ρ.dom b
  obj : ∀ b o, Lk b o → ObjRel ρ w b o
  own : ∀ b o, Lk b o → o.wr = true → base ≤ ρ.blk b
  sep : ∀ b b' o o', Lk b o → Lk b' o' → b ≠ b' → o.wr = true → ρ.blk b = ρ.blk b' → sameRoot o o' = true
  hb : base ≤ w.heap.size
  below : Below base w0 w
  chg : ∀ k, k < w0.heap.size → (∀ b o, look H0 b = some o → o.wr = true → H0.wmin ≤ b → ρ0.blk b ≠ k) → w.heap[k]? = w0.heap[k]?
  newb : ∀ b o, Lk b o → ¬ ρ0.dom b → w0.heap.size ≤ ρ.blk b ∨ (∃ b0 o0, look H0 b0 = some o0 ∧ o0.wr = true ∧ H0.wmin ≤ b0 ∧ ρ.blk b = ρ0.blk b0) ∨
    (o.isRow = true ∧ (ρ.blk b < base ∨ ∃ b0 o0, look H0 b0 = some o0 ∧ o0.isRow = true ∧ ρ.blk b = ρ0.blk b0))
  old : ∀ b o', Lk b o' → ρ0.dom b → ∃ o, look H0 b = some o ∧ (o'.wr = true → o.wr = true) ∧ o'.isRow = o.isRow
  rsep : ∀ b b' o o', Lk b o → Lk b' o' → o.wr = true → o'.isRow = true → ρ.blk b ≠ ρ.blk b'
  pos : 0 < base

section
variable {NG : Knw} {base : Nat} {ρ0 ρ1 ρ2 : Rho} {H0 H1 H2 : Heap} {Lk Lk' : Nat → AObj → Prop} {w0 w1 w2 : World}

theorem PostL.of (p : Post NG base ρ0 H0 H1 w0 w1 ρ1) : PostL NG base ρ0 H0 (fun b o => look H1 b = some o) w0 w1 ρ1 :=
  ⟨p.ext, p.rel.glob, p.rel.dom, p.rel.obj, p.rel.own, p.rel.sep, p.rel.hb, p.below, p.chg, p.newb, p.old, p.rel.rsep, p.rel.pos⟩

theorem PostL.sub (p : PostL NG base ρ0 H0 Lk w0 w1 ρ1) (h : ∀ b o, Lk' b o → Lk b o) : PostL NG base ρ0 H0 Lk' w0 w1 ρ1 :=
  ⟨p.ext, p.glob, fun b o ho => p.dom b o (h b o ho), fun b o ho => p.obj b o (h b o ho), fun b o ho => p.own b o (h b o ho), fun b b' o o' ho ho' => p.sep b b' o o' (h b o ho) (h b' o' ho'), p.hb, p.below, p.chg,
   fun b o ho => p.newb b o (h b o ho), fun b o ho => p.old b o (h b o ho), fun b b' o o' ho ho' => p.rsep b b' o o' (h b o ho) (h b' o' ho'), p.pos⟩

theorem PostL.rel (p : PostL NG base ρ0 H0 Lk w0 w1 ρ1) (h : ∀ b o, look H1 b = some o → Lk b o) (hlt : ∀ b o, look H1 b = some o → b < H1.next) (hh : ∀ x ∈ H1.hide, x.2 ≤ H1.next) : Rel NG base ρ1 H1 w1 :=
  ⟨p.glob, hh, hlt, fun b o ho => p.dom b o (h b o ho), fun b o ho => p.obj b o (h b o ho), fun b o ho => p.own b o (h b o ho), fun b b' o o' ho ho' => p.sep b b' o o' (h b o ho) (h b' o' ho'), p.hb, p.pos⟩

theorem PostL.post (p : PostL NG base ρ0 H0 Lk w0 w1 ρ1) (h : ∀ b o, look H1 b = some o → Lk b o) (hlt : ∀ b o, look H1 b = some o → b < H1.next) (hh : ∀ x ∈ H1.hide, x.2 ≤ H1.next) (hn : H0.next ≤ H1.next) (hm : H1.wmin = H0.wmin)
    (hd : ∀ b, ρ1.dom b → ρ0.dom b ∨ (H0.next ≤ b ∧ b < H1.next)) : Post NG base ρ0 H0 H1 w0 w1 ρ1 :=
  ⟨p.ext, p.rel h hlt hh, hd, hn, hm, p.below, p.chg, fun b o ho => p.newb b o (h b o ho), fun b o ho => p.old b o (h b o ho)⟩

/-- A writer is taken. -/
theorem PostL.trans (p : PostL NG base ρ0 H0 Lk w0 w1 ρ1) (h : ∀ b o, look H1 b = some o → Lk b o) (hm : H1.wmin = H0.wmin) (q : Post NG base ρ1 H1 H2 w1 w2 ρ2) :
    PostL NG base ρ0 H0 (fun b o => look H2 b = some o) w0 w2 ρ2 := by
  refine ⟨p.ext.trans q.ext, q.rel.glob, q.rel.dom, q.rel.obj, q.rel.own, q.rel.sep, q.rel.hb, p.below.trans q.below, fun k hk hno => ?_, fun b o ho hd => ?_, fun b o' ho hd => ?_, q.rel.rsep, p.pos⟩
  · rw [q.chg k (Nat.lt_of_lt_of_le hk p.below.size) ?_, p.chg k hk hno]
    intro b o ho hw hmm
    by_cases hd : ρ0.dom b
    · obtain ⟨o0, h0, h1, _⟩ := p.old b o (h b o ho) hd
      rw [p.ext.blk b hd]
      exact hno b o0 h0 (h1 hw) (by rw [← hm]; exact hmm)
    · rcases p.newb b o (h b o ho) hd with h | ⟨b0, o0, h0, h1, h2, h3⟩ | ⟨h, _⟩
      · omega
      · rw [h3]; exact hno b0 o0 h0 h1 h2
      · rw [AObj.isRow_wr h] at hw; cases hw
  · by_cases hd1 : ρ1.dom b
    · obtain ⟨o1, h1, _, hr1⟩ := q.old b o ho hd1
      rw [q.ext.blk b hd1]
      rcases p.newb b o1 (h b o1 h1) hd with h | h | ⟨h, h'⟩
      · exact .inl h
      · exact .inr (.inl h)
      · exact .inr (.inr ⟨hr1.trans h, h'⟩)
    · rcases q.newb b o ho hd1 with h' | ⟨b1, o1, h0, h1, h2, h3⟩ | ⟨hro, h'⟩
      · exact .inl (Nat.le_trans p.below.size h')
      · by_cases hd2 : ρ0.dom b1
        · obtain ⟨o0, h00, h01, _⟩ := p.old b1 o1 (h b1 o1 h0) hd2
          exact .inr (.inl ⟨b1, o0, h00, h01 h1, by rw [← hm]; exact h2, by rw [h3, p.ext.blk b1 hd2]⟩)
        · rw [h3]
          rcases p.newb b1 o1 (h b1 o1 h0) hd2 with h | h | ⟨h, _⟩
          · exact .inl h
          · exact .inr (.inl h)
          · rw [AObj.isRow_wr h] at h1; cases h1
      · rcases h' with h' | ⟨b1, o1, h0, h1, h3⟩
        · exact .inr (.inr ⟨hro, .inl h'⟩)
        · by_cases hd2 : ρ0.dom b1
          · obtain ⟨o0, h00, _, h01⟩ := p.old b1 o1 (h b1 o1 h0) hd2
            exact .inr (.inr ⟨hro, .inr ⟨b1, o0, h00, h01.symm.trans h1, by rw [h3, p.ext.blk b1 hd2]⟩⟩)
          · rw [h3]
            rcases p.newb b1 o1 (h b1 o1 h0) hd2 with h | h | ⟨_, h⟩
            · exact .inl h
            · exact .inr (.inl h)
            · exact .inr (.inr ⟨hro, h⟩)
  · obtain ⟨o1, h1, h2, h2'⟩ := q.old b o' ho (p.ext.dom b hd)
    obtain ⟨o0, h3, h4, h4'⟩ := p.old b o1 (h b o1 h1) hd
    exact ⟨o0, h3, fun h => h4 (h2 h), h2'.trans h4'⟩

/-- One that only looks is taken: what was there stays, its own is added. -/
theorem PostL.add (p : PostL NG base ρ0 H0 Lk w0 w1 ρ1) (hm : H1.wmin = H1.next) (hr : Rel NG base ρ1 H1 w1) (hsub : ∀ b o, look H1 b = some o → Lk b o) (q : Post NG base ρ1 H1 H2 w1 w2 ρ2) :
    PostL NG base ρ0 H0 (fun b o => Lk b o ∨ (H1.next ≤ b ∧ look H2 b = some o)) w0 w2 ρ2 := by
  have hheap : ∀ k, k < w1.heap.size → w2.heap[k]? = w1.heap[k]? := fun k hk => q.chg k hk fun b o ho _ hb => by
    have := hr.lt b o ho
    omega
  have hnew : ∀ b o, H1.next ≤ b → look H2 b = some o → ¬ ρ1.dom b := fun b o hb ho hd => by
    obtain ⟨o1, h1, _⟩ := q.old b o ho hd
    have := hr.lt b o1 h1
    omega
  have hfar : ∀ b o, H1.next ≤ b → look H2 b = some o → o.isRow = false → w1.heap.size ≤ ρ2.blk b := fun b o hb ho hn => by
    rcases q.newb b o ho (hnew b o hb ho) with h | ⟨b0, o0, h0, _, h2, _⟩ | ⟨h, _⟩
    · exact h
    · have := hr.lt b0 o0 h0
      omega
    · rw [h] at hn; cases hn
  have hrow : ∀ b o, H1.next ≤ b → look H2 b = some o → o.isRow = true → ∀ b' o', Lk b' o' → o'.wr = true → ρ1.blk b' ≠ ρ2.blk b := fun b o hb ho hn b' o' ho' hw' he => by
    rcases q.newb b o ho (hnew b o hb ho) with h | ⟨b0, o0, h0, _, h2, _⟩ | ⟨_, h | ⟨b0, o0, h0, h1, h2⟩⟩
    · have := (p.obj b' o' ho').lt
      omega
    · have := hr.lt b0 o0 h0
      omega
    · have := p.own b' o' ho' hw'
      omega
    · exact p.rsep b' b0 o' o0 ho' (hsub b0 o0 h0) hw' h1 (he.trans h2)
  have wrow : ∀ {o : AObj}, o.wr = true → o.isRow = false := fun {o} h => by
    cases hq : o.isRow with
    | false => rfl
    | true => rw [AObj.isRow_wr hq] at h; cases h
  refine ⟨p.ext.trans q.ext, q.rel.glob, ?_, ?_, ?_, ?_, q.rel.hb, p.below.trans q.below, ?_, ?_, ?_, ?_, p.pos⟩
  · rintro b o (h | ⟨_, h⟩)
    · exact q.ext.dom b (p.dom b o h)
    · exact q.rel.dom b o h
  · rintro b o (h | ⟨_, h⟩)
    · refine ((p.obj b o h).congr (hheap _ ?_)).mono (p.dom b o h) q.ext
      exact (p.obj b o h).lt
    · exact q.rel.obj b o h
  · rintro b o (h | ⟨_, h⟩) hw
    · rw [q.ext.blk b (p.dom b o h)]; exact p.own b o h hw
    · exact q.rel.own b o h hw
  · rintro b b' o o' (h | ⟨g, h⟩) (h' | ⟨g', h'⟩) hne hw he
    · rw [q.ext.blk b (p.dom b o h), q.ext.blk b' (p.dom b' o' h')] at he
      exact p.sep b b' o o' h h' hne hw he
    · rw [q.ext.blk b (p.dom b o h)] at he
      cases hq : o'.isRow with
      | true => exact absurd he (hrow b' o' g' h' hq b o h hw)
      | false =>
        have := (p.obj b o h).lt
        have := hfar b' o' g' h' hq
        omega
    · rw [q.ext.blk b' (p.dom b' o' h')] at he
      have := (p.obj b' o' h').lt
      have := hfar b o g h (wrow hw)
      omega
    · exact q.rel.sep b b' o o' h h' hne hw he
  · intro k hk hno
    rw [hheap k (Nat.lt_of_lt_of_le hk p.below.size), p.chg k hk hno]
  · rintro b o (h | ⟨g, h⟩) hd
    · rw [q.ext.blk b (p.dom b o h)]; exact p.newb b o h hd
    · rcases q.newb b o h (hnew b o g h) with h1 | ⟨b0, o0, h0, _, h2, _⟩ | ⟨hro, h1 | ⟨b0, o0, h0, h1, h2⟩⟩
      · exact .inl (Nat.le_trans p.below.size h1)
      · have := hr.lt b0 o0 h0
        omega
      · exact .inr (.inr ⟨hro, .inl h1⟩)
      · by_cases hd0 : ρ0.dom b0
        · obtain ⟨o1, g1, _, g2⟩ := p.old b0 o0 (hsub b0 o0 h0) hd0
          exact .inr (.inr ⟨hro, .inr ⟨b0, o1, g1, g2.symm.trans h1, by rw [h2, p.ext.blk b0 hd0]⟩⟩)
        · rw [h2]
          rcases p.newb b0 o0 (hsub b0 o0 h0) hd0 with k | k | ⟨_, k⟩
          · exact .inl k
          · exact .inr (.inl k)
          · exact .inr (.inr ⟨hro, k⟩)
  · rintro b o' (h | ⟨g, h⟩) hd
    · exact p.old b o' h hd
    · exact absurd (p.ext.dom b hd) (hnew b o' g h)
  · rintro b b' o o' (h | ⟨g, h⟩) (h' | ⟨g', h'⟩) hw hq he
    · rw [q.ext.blk b (p.dom b o h), q.ext.blk b' (p.dom b' o' h')] at he
      exact p.rsep b b' o o' h h' hw hq he
    · rw [q.ext.blk b (p.dom b o h)] at he
      exact hrow b' o' g' h' hq b o h hw he
    · rw [q.ext.blk b' (p.dom b' o' h')] at he
      have := (p.obj b' o' h').lt
      have := hfar b o g h (wrow hw)
      omega
    · exact q.rel.rsep b b' o o' h h' hw hq he

end

/-! ### Temporaries -/

/-- The frame after those of the first k operations that have been taken. -/
def frD (ops : Array Oper) (v : Nat → Value) (D : Nat → Bool) (fr : AFr) : Nat → AFr
  | 0 => fr
  | k + 1 => match ops[k]? with
    | some o => if D k then (frD ops v D fr k).put o.dst (v k) else frD ops v D fr k
    | none => frD ops v D fr k

theorem AFr.put_n (fr : AFr) (dst : Option Tmp) (v : Value) : (fr.put dst v).n = fr.n := by
  cases dst with
  | none => rfl
  | some d =>
    simp only [AFr.put]
    cases Nat.blt d fr.n <;> rfl
theorem AFr.put_marks (fr : AFr) (dst : Option Tmp) (v : Value) : (fr.put dst v).marks = fr.marks := by
  cases dst with
  | none => rfl
  | some d =>
    simp only [AFr.put]
    cases Nat.blt d fr.n <;> rfl

theorem AFr.put_get (fr : AFr) (hs : fr.n ≤ 1000000) (dst : Option Tmp) (v : Value) (t : Nat) : (fr.put dst v).tr.get t = if dst = some t ∧ t < fr.n then v else fr.tr.get t := by
  cases dst with
  | none => simp [AFr.put]
  | some d0 =>
    obtain ⟨d, rfl⟩ : ∃ d : Nat, d = d0 := ⟨d0, rfl⟩
    simp only [AFr.put]
    cases hd : Nat.blt d fr.n with
    | false =>
      have hge : fr.n ≤ d := blt_f hd
      simp only [cond_false]
      rw [if_neg]
      rintro ⟨h1, h2⟩
      simp only [Option.some.injEq] at h1
      subst h1
      omega
    | true =>
      have hlt : d < fr.n := blt_t hd
      simp only [cond_true]
      rw [Tr.get_set 20 _ _ _ _ (by have : (2 : Nat) ^ 20 = 1048576 := rfl; omega)]
      by_cases h : t = d
      · subst h
        rw [if_pos rfl, if_pos ⟨rfl, hlt⟩]
      · rw [if_neg h, if_neg]
        rintro ⟨h1, _⟩
        simp only [Option.some.injEq] at h1
        exact h h1.symm

section
variable {ops : Array Oper} {v : Nat → Value} {D D' : Nat → Bool} {fr : AFr}

theorem frD_n : ∀ k, (frD ops v D fr k).n = fr.n ∧ (frD ops v D fr k).marks = fr.marks := by
  intro k
  induction k with
  | zero => exact ⟨rfl, rfl⟩
  | succ k ih =>
    simp only [frD]
    split
    · split
      · rw [AFr.put_n, AFr.put_marks]; exact ih
      · exact ih
    · exact ih

theorem frD_congr : ∀ k, (∀ j, j < k → D j = D' j) → frD ops v D fr k = frD ops v D' fr k := by
  intro k
  induction k with
  | zero => intro _; rfl
  | succ k ih =>
    intro h
    simp only [frD]
    rw [ih fun j hj => h j (by omega), h k (by omega)]

/-- What was taken and does not set a temporary changes it not. -/
theorem frD_get_skip (hs : fr.n ≤ 1000000) {t i : Nat} : ∀ {m : Nat}, i ≤ m → (∀ j o, i ≤ j → j < m → ops[j]? = some o → D j = true → o.dst ≠ some t) → (frD ops v D fr m).tr.get t = (frD ops v D fr i).tr.get t := by
  intro m
  induction m with
  | zero => intro h _; have : i = 0 := by omega
            subst this; rfl
  | succ m ih =>
    intro h hj
    by_cases he : i = m + 1
    · subst he; rfl
    · rw [← ih (by omega) fun j o h1 h2 => hj j o h1 (by omega)]
      simp only [frD]
      split
      · rename_i o ho
        split
        · rename_i hD
          rw [AFr.put_get _ (by rw [(frD_n m).1]; exact hs), if_neg]
          rintro ⟨h1, _⟩
          exact hj m o (by omega) (by omega) ho hD h1
        · rfl
      · rfl

/-- Two sets that agree on who sets a temporary. -/
theorem frD_get_same (hs : fr.n ≤ 1000000) {t : Nat} : ∀ {m : Nat}, (∀ j o, j < m → ops[j]? = some o → o.dst = some t → D j = D' j) → (frD ops v D fr m).tr.get t = (frD ops v D' fr m).tr.get t := by
  intro m
  induction m with
  | zero => intro _; rfl
  | succ m ih =>
    intro hj
    have ih := ih fun j o h1 => hj j o (by omega)
    simp only [frD]
    split
    · rename_i o ho
      have hn := (frD_n (ops := ops) (v := v) (D := D) (fr := fr) m).1
      have hn' := (frD_n (ops := ops) (v := v) (D := D') (fr := fr) m).1
      by_cases hd : o.dst = some t
      · rw [hj m o (by omega) ho hd]
        split
        · rw [AFr.put_get _ (by rw [hn]; exact hs), AFr.put_get _ (by rw [hn']; exact hs), hn, hn', ih]
        · exact ih
      · have h1 : ∀ (f : AFr) x, f.n ≤ 1000000 → (f.put o.dst x).tr.get t = f.tr.get t := fun f x hf => by
          rw [AFr.put_get _ hf, if_neg fun h => hd h.1]
        have g1 := h1 (frD ops v D fr m) (v m) (by rw [hn]; exact hs)
        have g2 := h1 (frD ops v D' fr m) (v m) (by rw [hn']; exact hs)
        split <;> split
        · rw [g1, g2]; exact ih
        · rw [g1]; exact ih
        · rw [g2]; exact ih
        · exact ih
    · exact ih

end

theorem FrRel.congr {ρ : Rho} {fr fr' : AFr} {a : Act} (h : FrRel ρ fr a) (hn : fr'.n = fr.n) (hm : fr'.marks = fr.marks) (ht : ∀ t, fr'.tr.get t = fr.tr.get t) : FrRel ρ fr' a :=
  ⟨by rw [hn]; exact h.size, by rw [hn]; exact h.small, fun t v' hv => by rw [ht]; exact h.tmp t v' hv, fun t hge => by rw [ht]; exact h.out t (by rw [← hn]; exact hge), by rw [hm]; exact h.defers, by rw [hm]; exact h.marks⟩

theorem walked_fr {C : Cfg} {self : Self} {tkm : Bool} {ops : Array Oper} {bs : List Nat} {S : Nat → St} {v : Nat → Value} (d : Walked C self tkm ops bs S v) : ∀ k, k ≤ ops.size → frD ops v (fun _ => true) (S 0).fr k = (S k).fr := by
  intro k
  induction k with
  | zero => intro _; rfl
  | succ k ih =>
    intro hk
    have ho := Array.getElem?_eq_getElem (xs := ops) (i := k) (by omega)
    simp only [frD, ho, if_true]
    rw [ih (by omega), d.put k _ ho]

end Go.Sy

/- Regions whose order is open: each order leads to what the walk in the text's order has found. -/
namespace Go.Sy
set_option linter.unusedVariables false
set_option linter.unusedSimpArgs false
open Go Go.RowKit

theorem hidden_append : ∀ {l m : List (Nat × Nat)} {b : Nat}, hidden (l ++ m) b = false → hidden l b = false ∧ hidden m b = false := by
  intro l
  induction l with
  | nil => intro m b h; exact ⟨rfl, h⟩
  | cons p r ih =>
    intro m b h
    obtain ⟨lo, hi⟩ := p
    simp only [List.cons_append, hidden] at h ⊢
    cases hc : (Nat.ble lo b && Nat.blt b hi) with
    | true => rw [hc] at h; cases h
    | false => rw [hc] at h; exact ih h

theorem hidden_mem : ∀ {l : List (Nat × Nat)} {b lo hi : Nat}, (lo, hi) ∈ l → lo ≤ b → b < hi → hidden l b = true := by
  intro l
  induction l with
  | nil => intro b lo hi h; cases h
  | cons p r ih =>
    intro b lo hi h h1 h2
    obtain ⟨lo', hi'⟩ := p
    simp only [hidden]
    cases hc : (Nat.ble lo' b && Nat.blt b hi') with
    | true => rfl
    | false =>
      rcases List.mem_cons.1 h with h | h
      · simp only [Prod.mk.injEq] at h
        obtain ⟨rfl, rfl⟩ := h
        have e1 : Nat.ble lo b = true := Nat.ble_eq_true_of_le h1
        have e2 : Nat.blt b hi = true := Nat.ble_eq_true_of_le h2
        rw [e1, e2] at hc
        cases hc
      · exact ih h h1 h2

theorem memb_mem : ∀ {l : List Nat} {b : Nat}, memb l b = true → b ∈ l := by
  intro l
  induction l with
  | nil => intro b h; cases h
  | cons x r ih =>
    intro b h
    simp only [memb] at h
    cases hq : Nat.beq x b with
    | true => have := Nat.eq_of_beq_eq_true hq; subst this; exact List.mem_cons_self
    | false => rw [hq] at h; exact List.mem_cons_of_mem _ (ih h)

/-- What there is to see once some have been taken: what the last writer left; what each that looked has made. -/
def Lk (S : Nat → St) (N : Nat) (D : Nat → Bool) (s : Nat) (b : Nat) (o : AObj) : Prop :=
  (b < (S s).H.next ∧ look (S s).H b = some o) ∨ ∃ j, s ≤ j ∧ j < N ∧ D j = true ∧ (S j).H.next ≤ b ∧ b < (S (j + 1)).H.next ∧ look (S (j + 1)).H b = some o

structure Inv (NG : Knw) (base : Nat) (ops : Array Oper) (S : Nat → St) (v : Nat → Value) (ρ0 : Rho) (w0 : World) (D : Nat → Bool) (s : Nat) (ρ : Rho) (a : Act) (w : World) : Prop where
  hs : s ≤ ops.size
  closed : ∀ (k : Nat) (o : Oper), ops[k]? = some o → D k = true → ∀ e ∈ o.after, Region.binds .any e = true → D e.on = true
  all : ∀ j wr, j < s → RecAt S j wr → D j = true
  later : ∀ j wr, D j = true → RecAt S j wr → s ≤ j → j < ops.size → ∀ k, s ≤ k → k ≤ j → ¬ RecAt S k true
  post : PostL NG base ρ0 (S 0).H (Lk S ops.size D s) w0 w ρ
  names : ∀ b, ρ.dom b → ρ0.dom b ∨ ((S 0).H.next ≤ b ∧ (b < (S s).H.next ∨ ∃ j, D j = true ∧ s ≤ j ∧ j < ops.size ∧ (S j).H.next ≤ b ∧ b < (S (j + 1)).H.next))
  fr : FrRel ρ (frD ops v D (S 0).fr ops.size) a

section
variable {C : Cfg} {K : World → Prop} {base n lim : Nat} {self : Self} {tkm : Bool} {ops : Array Oper} {bs : List Nat} {S : Nat → St} {v : Nat → Value} {D : Nat → Bool}

/-- Whoever is bound to come before has been taken. -/
theorem Walked.bits (d : Walked C self tkm ops bs S v) (hc : ∀ (k : Nat) (o : Oper), ops[k]? = some o → D k = true → ∀ e ∈ o.after, Region.binds .any e = true → D e.on = true) : ∀ (k : Nat) (o : Oper) (b j : Nat), ops[k]? = some o →
    (∀ e ∈ o.after, Region.binds .any e = true → D e.on = true) → bs[k]? = some b → b.testBit j = true → D j = true := by
  intro k
  induction k using Nat.strongRecOn with
  | _ k ih =>
    intro o b j hk hE hb hj
    obtain ⟨e, he, hbi, h⟩ := d.bit k o b hk hb j hj
    rcases h with rfl | ⟨b', hb', hj'⟩
    · exact hE e he hbi
    · have hlt := d.edge k o hk e he hbi
      have hks := (Array.getElem?_eq_some_iff.1 hk).1
      have ho' := Array.getElem?_eq_getElem (xs := ops) (i := e.on) (by omega)
      exact ih e.on hlt _ b' j ho' (hc e.on _ ho' (hE e he hbi)) hb' hj'

theorem evalM_ok {NG : Knw} {ρ : Rho} {fr f2 : AFr} {a : Act} {looks : List Nat} (h : ∀ t ∈ looks, VR ρ (fr.tr.get t) (a.tmps.getD t undef)) (hf : FrRel ρ f2 a) (g : Glob NG ρ) : EvR ρ (fr.evalM NG looks) a := by
  intro x v hx
  cases x with
  | tmp t =>
    simp only [AFr.evalM] at hx
    cases hm : memb looks t with
    | false => rw [hm] at hx; cases hx
    | true =>
      rw [hm] at hx
      simp only [cond_true, Option.some.injEq] at hx
      subst hx
      exact conc_vr g (h t (memb_mem hm))
  | const c => exact hf.eval g (x := .const c) hx
  | «global» k => exact hf.eval g (x := .global k) hx
  | func f => exact hf.eval g (x := .func f) hx

theorem astep_inv {arr : Array Oper} {lops : List Oper} {o : Oper} {i : Nat} {fr : AFr} {H H' : Heap} {recs recs' : List Rec} {v0 : Value} (h : AStep C self tkm lops arr bs o i fr H recs v0 H' recs') :
    (awanted C.NG lops fr o = some false ∧ v0 = undef ∧ H' = H ∧ recs' = recs) ∨
    (awanted C.NG lops fr o = some true ∧ apure C.P C.NG (fr.evalM C.NG (looksOf arr o)) o.op = some v0 ∧ H' = H ∧ recs' = recs) ∨
    (∃ b H1, awanted C.NG lops fr o = some true ∧ bs[i]? = some b ∧ (∀ r ∈ unordered b recs, tkm = true ∧ lateRec lops bs b recs r = true) ∧ aoper C self (fr.evalM C.NG (looksOf arr o)) H o.op = some (v0, H1) ∧ H' = H1.bump ∧ recs' = ⟨i, H.next, H1.next + 1, true, false⟩ :: recs) ∨
    (∃ b H1 tk, awanted C.NG lops fr o = some true ∧ bs[i]? = some b ∧ (∀ r ∈ unordered b recs, r.wr = false) ∧
      aoper C self (fr.evalM C.NG (looksOf arr o)) { H with wmin := H.next, hide := (unordered b recs).map (fun r => (r.lo, r.hi)) ++ H.hide } o.op = some (v0, H1) ∧
      H' = { H1 with wmin := H.wmin, hide := H.hide, next := H1.next + 1 } ∧ recs' = ⟨i, H.next, H1.next + 1, false, tk⟩ :: recs ∧
      (tk = true → tkOf C (fr.evalM C.NG (looksOf arr o)) { H with wmin := H.next, hide := (unordered b recs).map (fun r => (r.lo, r.hi)) ++ H.hide } o.op = true)) := by
  cases h with
  | skip h => exact .inl ⟨h, rfl, rfl, rfl⟩
  | pure _ h h' => exact .inr (.inl ⟨h, h', rfl, rfl⟩)
  | write b _ H1 h1 h2 h3 h4 => exact .inr (.inr (.inl ⟨b, H1, h1, h2, h3, h4, rfl, rfl⟩))
  | look b _ H1 tk h1 h2 h3 h4 h5 => exact .inr (.inr (.inr ⟨b, H1, tk, h1, h2, h3, h4, rfl, rfl, h5⟩))

/-- One more is taken. -/
def also (D : Nat → Bool) (i : Nat) (k : Nat) : Bool := Nat.beq k i || D k

theorem also_self (D : Nat → Bool) (i : Nat) : also D i i = true := by simp [also]
theorem also_of {i k : Nat} (h : D k = true) : also D i k = true := by simp [also, h]
theorem also_inv {i k : Nat} (h : also D i k = true) : k = i ∨ D k = true := by
  simp only [also, Bool.or_eq_true] at h
  exact h.imp Nat.eq_of_beq_eq_true id
theorem also_ne {i k : Nat} (h : k ≠ i) : also D i k = D k := by
  have : Nat.beq k i = false := by
    cases hq : Nat.beq k i with
    | false => rfl
    | true => exact absurd (Nat.eq_of_beq_eq_true hq) h
  simp [also, this]

/-- Who is taken next sees in its temporaries what it saw in the text's order. -/
theorem Walked.sees (d : Walked C self tkm ops bs S v) (hc : ∀ (k : Nat) (o : Oper), ops[k]? = some o → D k = true → ∀ e ∈ o.after, Region.binds .any e = true → D e.on = true) (hs : (S 0).fr.n ≤ 1000000) {i : Nat} {o : Oper} (ho : ops[i]? = some o) (hD : D i = false)
    (hE : ∀ e ∈ o.after, Region.binds .any e = true → D e.on = true) {t : Nat} (ht : t ∈ o.looksAt ops) : (S i).fr.tr.get t = (frD ops v D (S 0).fr ops.size).tr.get t := by
  have hi := (Array.getElem?_eq_some_iff.1 ho).1
  rw [← walked_fr d i (by omega)]
  have e1 : (frD ops v D (S 0).fr ops.size).tr.get t = (frD ops v D (S 0).fr i).tr.get t := by
    refine frD_get_skip hs (by omega) fun j oj h1 h2 h3 h4 h5 => ?_
    by_cases hij : j = i
    · subst hij; rw [hD] at h4; cases h4
    · rcases d.apart i j o oj (by omega) ho h3 with ⟨b, hb, hbit⟩ | hap
      · have := d.bits hc j oj b i h3 (hc j oj h3 h4) hb hbit
        rw [hD] at this; cases this
      · exact (Oper.apart_spec hap).2.2 t h5 ht
  rw [e1]
  refine frD_get_same hs fun j oj h1 h2 h3 => ?_
  rcases d.apart j i oj o h1 h2 ho with ⟨b, hb, hbit⟩ | hap
  · exact (d.bits hc i o b j ho hE hb hbit).symm
  · exact absurd ht ((Oper.apart_spec hap).1 t h3)

/-- What it sets, it sets last. -/
theorem Walked.sets (d : Walked C self tkm ops bs S v) (hc : ∀ (k : Nat) (o : Oper), ops[k]? = some o → D k = true → ∀ e ∈ o.after, Region.binds .any e = true → D e.on = true) (hs : (S 0).fr.n ≤ 1000000) {i : Nat} {o : Oper} (ho : ops[i]? = some o) (hD : D i = false)
    {ρ : Rho} {a : Act} (hf : FrRel ρ ((frD ops v D (S 0).fr ops.size).put o.dst (v i)) a) : FrRel ρ (frD ops v (also D i) (S 0).fr ops.size) a := by
  have hi := (Array.getElem?_eq_some_iff.1 ho).1
  have hn := fun (D : Nat → Bool) k => frD_n (ops := ops) (v := v) (D := D) (fr := (S 0).fr) k
  refine hf.congr ?_ ?_ fun t => ?_
  · rw [AFr.put_n, (hn _ _).1, (hn _ _).1]
  · rw [AFr.put_marks, (hn _ _).2, (hn _ _).2]
  · rw [AFr.put_get _ (by rw [(hn _ _).1]; exact hs), (hn _ _).1]
    have key : ∀ m, i < m → m ≤ ops.size → (frD ops v (also D i) (S 0).fr m).tr.get t = if o.dst = some t ∧ t < (S 0).fr.n then v i else (frD ops v D (S 0).fr m).tr.get t := by
      intro m
      induction m with
      | zero => intro h; omega
      | succ m ih =>
        intro him hm
        by_cases he : i = m
        · subst he
          simp only [frD, ho, also_self, if_true, hD, Bool.false_eq_true, if_false]
          rw [frD_congr (D := also D i) (D' := D) i (fun j hj => also_ne (by omega)), AFr.put_get _ (by rw [(hn _ _).1]; exact hs), (hn _ _).1]
        · have ih := ih (by omega) (by omega)
          have hom := Array.getElem?_eq_getElem (xs := ops) (i := m) (by omega)
          simp only [frD, hom, also_ne (D := D) (i := i) (k := m) (by omega)]
          cases hDm : D m with
          | false => simpa using ih
          | true =>
            simp only [if_true]
            rw [AFr.put_get _ (by rw [(hn _ _).1]; exact hs), AFr.put_get _ (by rw [(hn _ _).1]; exact hs), (hn _ _).1, (hn _ _).1, ih]
            by_cases h1 : (ops[m]).dst = some t
            · have h2 : o.dst ≠ some t := fun h => by
                rcases d.apart i m o _ (by omega) ho hom with ⟨b, hb, hbit⟩ | hap
                · have := d.bits hc m _ b i hom (hc m _ hom hDm) hb hbit
                  rw [hD] at this; cases this
                · exact (Oper.apart_spec hap).2.1 t h h1
              rw [if_neg (fun h : o.dst = some t ∧ t < (S 0).fr.n => h2 h.1)]
              rw [if_neg (fun h : o.dst = some t ∧ t < (S 0).fr.n => h2 h.1)]
            · rw [if_neg (fun h => h1 h.1), if_neg (fun h : (ops[m]).dst = some t ∧ _ => h1 h.1)]
    exact key ops.size hi (Nat.le_refl _)

end

end Go.Sy

/- Regions whose order is open: soundness. -/
namespace Go.Sy
set_option linter.unusedVariables false
set_option linter.unusedSimpArgs false
open Go Go.RowKit

section
variable {C : Cfg} {K : World → Prop} {base n lim : Nat} {self : Self} {tkm : Bool} {ops : Array Oper} {bs : List Nat} {S : Nat → St} {v : Nat → Value} {D : Nat → Bool} {ρ0 ρ : Rho} {w0 w : World} {a : Act} {s i : Nat}

theorem Walked.low (d : Walked C self tkm ops bs S v) (rel0 : Rel C.NG base ρ0 (S 0).H w0) (hi : i ≤ ops.size) {b : Nat} {o : AObj} (h : look0 (S i).H b = some o) (hh : hidden (S 0).H.hide b = false) : b < (S i).H.next := by
  rcases Nat.lt_or_ge b (S i).H.next with h' | h'
  · exact h'
  · obtain ⟨o1, h1⟩ := (d.keeps i hi).1.top b o h' h
    have := rel0.lt b o1 (look_of0 hh h1)
    have := d.mono (Nat.zero_le i) hi
    omega

theorem Inv.see (d : Walked C self tkm ops bs S v) (rel0 : Rel C.NG base ρ0 (S 0).H w0) (inv : Inv C.NG base ops S v ρ0 w0 D s ρ a w) (hi : i ≤ ops.size) (hsi : s ≤ i) (hno : ∀ k, s ≤ k → k < i → ¬ RecAt S k true) {b : Nat} {o : AObj} (h : look0 (S i).H b = some o)
    (hh : hidden (S 0).H.hide b = false) (hD : ∀ j, s ≤ j → j < i → (S j).H.next ≤ b → b < (S (j + 1)).H.next → D j = true) : Lk S ops.size D s b o := by
  rcases d.find hi hno hsi h (d.low rel0 hi h hh) with ⟨h1, h2⟩ | ⟨j, h1, h2, h3, h4, h5⟩
  · refine .inl ⟨h1, look_of0 ?_ h2⟩
    rw [(d.keeps s inv.hs).1.hide]; exact hh
  · refine .inr ⟨j, h1, by omega, hD j h1 h2 h3 h4, h3, h4, look_of0 ?_ h5⟩
    rw [(d.keeps (j + 1) (by omega)).1.hide]; exact hh

theorem Inv.bit (d : Walked C self tkm ops bs S v) (inv : Inv C.NG base ops S v ρ0 w0 D s ρ a w) {k j b : Nat} (hk : k < ops.size) (hD : D k = true) (hb : bs[k]? = some b) (hj : b.testBit j = true) : D j = true :=
  d.bits inv.closed k _ b j (Array.getElem?_eq_getElem hk) (inv.closed k _ (Array.getElem?_eq_getElem hk) hD) hb hj

/-- What holds of whoever may come next. -/
structure Upc (C : Cfg) (base : Nat) (sf : Self) (tkm : Bool) (ops : Array Oper) (bs : List Nat) (S : Nat → St) (v : Nat → Value) (ρ0 : Rho) (w0 : World) (D : Nat → Bool) (s : Nat) (ρ : Rho) (a : Act) (w : World) (lim : Nat) (i : Nat) (o : Oper) : Prop where
  d : Walked C sf tkm ops bs S v
  rel0 : Rel C.NG base ρ0 (S 0).H w0
  hsm : (S 0).fr.n ≤ 1000000
  inv : Inv C.NG base ops S v ρ0 w0 D s ρ a w
  hoi : ops[i]? = some o
  hDi : D i = false
  hE : ∀ e ∈ o.after, Region.binds .any e = true → D e.on = true
  hroom : Room (S 0).H lim ρ0
  hlim : (S ops.size).H.next < lim

section
variable {o : Oper}

theorem Upc.lt (x : Upc C base self tkm ops bs S v ρ0 w0 D s ρ a w lim i o) : i < ops.size := (Array.getElem?_eq_some_iff.1 x.hoi).1

theorem Upc.see (x : Upc C base self tkm ops bs S v ρ0 w0 D s ρ a w lim i o) : ∀ t ∈ o.looksAt ops, VR ρ ((S i).fr.tr.get t) (a.tmps.getD t undef) := fun t ht => by
  rw [x.d.sees x.inv.closed x.hsm x.hoi x.hDi x.hE ht]
  exact x.inv.fr.get t

theorem Upc.ev (x : Upc C base self tkm ops bs S v ρ0 w0 D s ρ a w lim i o) : EvR ρ ((S i).fr.evalM C.NG (looksOf ops o)) a := evalM_ok x.see x.inv.fr x.inv.post.glob

theorem Upc.want (x : Upc C base self tkm ops bs S v ρ0 w0 D s ρ a w lim i o) {b} (h : awanted C.NG ops.toList (S i).fr o = some b) : Region.wanted o (yielded ops a.tmps) = b :=
  awanted_ok h x.inv.post.glob fun g want og t h1 h2 h3 => x.see t (List.mem_append_right _ (by rw [h1]; simp [h2, h3]))

theorem Upc.closed (x : Upc C base self tkm ops bs S v ρ0 w0 D s ρ a w lim i o) : ∀ (k : Nat) (o : Oper), ops[k]? = some o → also D i k = true → ∀ e ∈ o.after, Region.binds .any e = true → also D i e.on = true := by
  intro k o' hk' hD' e he hb
  rcases also_inv hD' with rfl | hD'
  · have := x.hoi; rw [this] at hk'; cases hk'; exact also_of (x.hE e he hb)
  · exact also_of (x.inv.closed k o' hk' hD' e he hb)

theorem Upc.quiet (x : Upc C base self tkm ops bs S v ρ0 w0 D s ρ a w lim i o) (hH : (S (i + 1)).H = (S i).H) (hrc : (S (i + 1)).rc = (S i).rc) (v' : Value) (hv : VR ρ (v i) v') : Inv C.NG base ops S v ρ0 w0 (also D i) s ρ (a.put o.dst v') w := by
  have inv := x.inv
  have hnr : ∀ wr, ¬ RecAt S i wr := fun wr ⟨_, h⟩ => by
    rw [hrc] at h
    have := congrArg List.length h
    simp at this
  refine ⟨inv.hs, x.closed, fun j wr h1 h2 => also_of (inv.all j wr h1 h2), fun j wr hD' hr h1 h2 => ?_, ?_, fun b hb => ?_, x.d.sets inv.closed x.hsm x.hoi x.hDi (inv.fr.put hv _)⟩
  · rcases also_inv hD' with rfl | hD'
    · exact absurd hr (hnr wr)
    · exact inv.later j wr hD' hr h1 h2
  · refine inv.post.sub ?_
    rintro b y (h | ⟨j, h1, h2, h3, h4, h5, h6⟩)
    · exact .inl h
    · rcases also_inv h3 with rfl | h3
      · rw [hH] at h5; omega
      · exact .inr ⟨j, h1, h2, h3, h4, h5, h6⟩
  · rcases inv.names b hb with h | ⟨h0, h | ⟨j, h1, h2⟩⟩
    · exact .inl h
    · exact .inr ⟨h0, .inl h⟩
    · exact .inr ⟨h0, .inr ⟨j, also_of h1, h2⟩⟩

theorem Upc.start (x : Upc C base self tkm ops bs S v ρ0 w0 D s ρ a w lim i o) {wr} (hr : RecAt S i wr) : s ≤ i ∧ (∀ k, s ≤ k → k < i → ¬ RecAt S k true) := by
  refine ⟨?_, fun k h1 h2 h3 => ?_⟩
  · rcases Nat.lt_or_ge i s with h | h
    · have := x.inv.all i wr h hr
      rw [x.hDi] at this; cases this
    · exact h
  · obtain ⟨b, hb, hbit⟩ := x.d.order h2 x.lt h3 hr
    have hD := x.d.bits x.inv.closed i o b k x.hoi x.hE hb hbit
    have := x.lt
    exact x.inv.later k true hD h3 h1 (by omega) k h1 (Nat.le_refl _) h3

theorem Upc.names (x : Upc C base self tkm ops bs S v ρ0 w0 D s ρ a w lim i o) : ∀ b, (S i).H.next ≤ b → b < (S (i + 1)).H.next → s ≤ i → ¬ ρ.dom b := by
  intro b h1 h2 hsi h3
  have hi := x.lt
  have d := x.d
  have m0 := d.mono (Nat.zero_le i) (by omega)
  rcases x.inv.names b h3 with h | ⟨_, h | ⟨j, h4, h5, h6, h7, h8⟩⟩
  · have := d.mono (i := i + 1) (j := ops.size) (by omega) (Nat.le_refl _)
    have := x.hlim
    exact x.hroom.free b (by omega) (by omega) h
  · have := d.mono hsi (by omega)
    omega
  · rcases Nat.lt_trichotomy j i with h | h | h
    · have := d.mono (i := j + 1) (j := i) (by omega) (by omega)
      omega
    · subst h; rw [x.hDi] at h4; cases h4
    · have := d.mono (i := i + 1) (j := j) (by omega) (by omega)
      omega

theorem Upc.hide (x : Upc C base self tkm ops bs S v ρ0 w0 D s ρ a w lim i o) : ∀ y ∈ (S i).H.hide, y.2 ≤ (S i).H.next := fun y hy => by
  have hi := x.lt
  obtain ⟨hkeep, _⟩ := x.d.keeps i (by omega)
  rw [hkeep.hide] at hy
  exact Nat.le_trans (x.rel0.hide y hy) (x.d.mono (Nat.zero_le i) (by omega))

/-- One that looks is taken. -/
theorem Upc.looks (x : Upc C base self tkm ops bs S v ρ0 w0 D s ρ a w lim i o) {b : Nat} {H1 : Heap} {tk : Bool} (hsk : SelfKeep self) (h2 : bs[i]? = some b) (h3 : ∀ r ∈ unordered b (S i).rc, r.wr = false)
    (h4 : aoper C self ((S i).fr.evalM C.NG (looksOf ops o)) { (S i).H with wmin := (S i).H.next, hide := (unordered b (S i).rc).map (fun r => (r.lo, r.hi)) ++ (S i).H.hide } o.op = some (v i, H1))
    (h5 : (S (i + 1)).H = { H1 with wmin := (S i).H.wmin, hide := (S i).H.hide, next := H1.next + 1 }) (h6 : (S (i + 1)).rc = ⟨i, (S i).H.next, H1.next + 1, false, tk⟩ :: (S i).rc) :
    Rel C.NG base ρ { (S i).H with wmin := (S i).H.next, hide := (unordered b (S i).rc).map (fun r => (r.lo, r.hi)) ++ (S i).H.hide } w ∧ s ≤ i ∧ (S (i + 1)).H.next = H1.next + 1 ∧
      ∀ v' w' ρ', VR ρ' (v i) v' → Post C.NG base ρ { (S i).H with wmin := (S i).H.next, hide := (unordered b (S i).rc).map (fun r => (r.lo, r.hi)) ++ (S i).H.hide } H1 w w' ρ' → Inv C.NG base ops S v ρ0 w0 (also D i) s ρ' (a.put o.dst v') w' := by
  have hi := x.lt
  have d := x.d
  have inv := x.inv
  have rel0 := x.rel0
  obtain ⟨hkeep, hrecs⟩ := d.keeps i (by omega)
  have hhide := x.hide
  have hrec : RecAt S i false := ⟨tk, by rw [h6, h5]⟩
  obtain ⟨hsi, hno⟩ := x.start hrec
  have hnext : (S (i + 1)).H.next = H1.next + 1 := by rw [h5]
  have k0 := keep_oper hsk (H := { (S i).H with wmin := (S i).H.next, hide := (unordered b (S i).rc).map (fun r => (r.lo, r.hi)) ++ (S i).H.hide }) (Nat.le_refl _) h4
  have hlow : ∀ x y, look { (S i).H with wmin := (S i).H.next, hide := (unordered b (S i).rc).map (fun r => (r.lo, r.hi)) ++ (S i).H.hide } x = some y →
      look0 (S i).H x = some y ∧ hidden ((unordered b (S i).rc).map (fun r => (r.lo, r.hi))) x = false ∧ hidden (S 0).H.hide x = false := fun x y hx => by
    obtain ⟨g1, g2, g3⟩ := look_some hx
    obtain ⟨g4, g5⟩ := hidden_append g1
    exact ⟨look_of (H := { (S i).H with hide := [] }) rfl g2 g3, g4, by rw [← hkeep.hide]; exact g5⟩
  have hsub : ∀ x y, look { (S i).H with wmin := (S i).H.next, hide := (unordered b (S i).rc).map (fun r => (r.lo, r.hi)) ++ (S i).H.hide } x = some y → Lk S ops.size D s x y := fun y z hx => by
    obtain ⟨g1, g2, g3⟩ := hlow y z hx
    refine inv.see d rel0 (by omega) hsi hno g1 g3 fun j h7 h8 h9 h10 => ?_
    obtain ⟨wr, tk', hr⟩ := d.recd (k := j) (by omega) (by omega)
    have hx : (⟨j, (S j).H.next, (S (j + 1)).H.next, wr, tk'⟩ : Rec) ∈ (S i).rc := d.rc_mono h8 (by omega) (by rw [hr]; exact List.mem_cons_self)
    cases hbit : b.testBit j with
    | true => exact d.bits inv.closed i o b j x.hoi x.hE h2 hbit
    | false =>
      have hm := mem_unordered (b := b) hx hbit
      have := hidden_mem (List.mem_map.2 ⟨_, hm, rfl⟩ : ((S j).H.next, (S (j + 1)).H.next) ∈ (unordered b (S i).rc).map (fun r => (r.lo, r.hi))) h9 h10
      rw [g2] at this; cases this
  have hrel : Rel C.NG base ρ { (S i).H with wmin := (S i).H.next, hide := (unordered b (S i).rc).map (fun r => (r.lo, r.hi)) ++ (S i).H.hide } w := by
    refine inv.post.rel hsub (fun x y hx => ?_) fun x hx => ?_
    · obtain ⟨g1, _, g3⟩ := hlow x y hx
      exact d.low rel0 (by omega) g1 g3
    · rcases List.mem_append.1 hx with hx | hx
      · obtain ⟨r, hr, rfl⟩ := List.mem_map.1 hx
        exact (hrecs r (unordered_sub hr)).2
      · exact hhide x hx
  refine ⟨hrel, hsi, hnext, fun v' w' ρ' hv q => ?_⟩
  refine ⟨inv.hs, x.closed, fun j wr h7 h8 => also_of (inv.all j wr h7 h8), fun j wr h7 h8 h9 h10 k h11 h12 h13 => ?_, ?_, fun y hy => ?_, d.sets inv.closed x.hsm x.hoi x.hDi ((inv.fr.mono q.ext).put hv _)⟩
  · rcases also_inv h7 with rfl | h7
    · by_cases hkj : k = j
      · subst hkj; exact RecAt.not_both h13 hrec
      · exact hno k h11 (by omega) h13
    · exact inv.later j wr h7 h8 h9 h10 k h11 h12 h13
  · refine (inv.post.add rfl hrel hsub q).sub ?_
    rintro x y (h | ⟨j, h7, h8, h9, h10, h11, h12⟩)
    · exact .inl (.inl h)
    · rcases also_inv h9 with rfl | h9
      · refine .inr ⟨h10, ?_⟩
        rw [h5] at h12
        obtain ⟨g1, g2, g3⟩ := look_some h12
        refine look_of ?_ g2 g3
        rw [k0.hide]
        refine (hidden_app (hidden_above fun p hp => ?_)).trans g1
        obtain ⟨r, hr, rfl⟩ := List.mem_map.1 hp
        exact Nat.le_trans (hrecs r (unordered_sub hr)).2 h10
      · exact .inl (.inr ⟨j, h7, h8, h9, h10, h11, h12⟩)
  · have m0 := d.mono (Nat.zero_le i) (by omega)
    rcases q.ndom y hy with h | ⟨h7, h8⟩
    · rcases inv.names y h with h | ⟨h0, h | ⟨j, g1, g2⟩⟩
      · exact .inl h
      · exact .inr ⟨h0, .inl h⟩
      · exact .inr ⟨h0, .inr ⟨j, also_of g1, g2⟩⟩
    · have h7' : (S i).H.next ≤ y := h7
      have h8' : y < H1.next := h8
      exact .inr ⟨by omega, .inr ⟨i, also_self D i, hsi, hi, h7', by omega⟩⟩

/-- May it be taken first? It looks at no memory. -/
def Tk (ops : Array Oper) (S : Nat → St) (i : Nat) : Prop := (∃ o, ops[i]? = some o ∧ isCall o.op = false) ∧ ((S (i + 1)).rc = (S i).rc ∨ (S (i + 1)).rc = ⟨i, (S i).H.next, (S (i + 1)).H.next, false, true⟩ :: (S i).rc)

theorem about_none {P : Program} {o : Oper} {a : Act} (h : isCall o.op = false) : ∀ w, o.about P w a.eval = none := by
  intro w
  unfold Oper.about
  split
  · rename_i c hc
    rw [hc] at h
    obtain ⟨callee, args, ts⟩ := c
    cases callee with
    | value f => simp [isCall] at h
    | invoke r m => simp [isCall] at h
    | builtin b =>
      simp only [resolve, Sem.run_pure]
      rfl
  · rfl

theorem Walked.before (d : Walked C self tkm ops bs S v) : ∀ {k b j : Nat}, k < ops.size → bs[k]? = some b → b.testBit j = true → j < k := by
  intro k
  induction k using Nat.strongRecOn with
  | _ k ih =>
    intro b j hk hb hj
    have hok := Array.getElem?_eq_getElem (xs := ops) (i := k) hk
    obtain ⟨e, he, hbi, h⟩ := d.bit k _ b hok hb j hj
    have hlt := d.edge k _ hok e he hbi
    rcases h with rfl | ⟨b', hb', hj'⟩
    · exact hlt
    · have := ih e.on hlt (by omega) hb' hj'
      omega

theorem Walked.trans (d : Walked C self tkm ops bs S v) : ∀ {j b' k bk m : Nat}, j < ops.size → bs[j]? = some b' → b'.testBit k = true → bs[k]? = some bk → bk.testBit m = true → b'.testBit m = true := by
  intro j
  induction j using Nat.strongRecOn with
  | _ j ih =>
    intro b' k bk m hj hb hk hbk hm
    have hoj := Array.getElem?_eq_getElem (xs := ops) (i := j) hj
    obtain ⟨e, he, hbi, h⟩ := d.bit j _ b' hoj hb k hk
    have hlt := d.edge j _ hoj e he hbi
    obtain ⟨b2, hb2, hcl⟩ := d.closed j _ hoj
    rw [hb] at hb2
    cases hb2
    rcases h with rfl | ⟨b3, hb3, hk3⟩
    · exact (hcl e he hbi).2 bk hbk m hm
    · exact (hcl e he hbi).2 b3 hb3 m (ih e.on hlt (by omega) hb3 hk3 hbk hm)

theorem isSl_call {op : Op} (h : isSl op = true) : isCall op = false := by
  unfold isSl at h
  split at h
  · rfl
  · rename_i c
    obtain ⟨callee, args, ts⟩ := c
    cases callee with
    | value f => simp at h
    | invoke r m => simp at h
    | builtin b => rfl
  · cases h

theorem Walked.callfree (d : Walked C self tkm ops bs S v) {j : Nat} {oj : Oper} (ho : ops[j]? = some oj) (h : (S (j + 1)).rc = ⟨j, (S j).H.next, (S (j + 1)).H.next, false, true⟩ :: (S j).rc) : isCall oj.op = false := by
  rcases astep_inv (d.st j oj ho) with ⟨_, _, _, h4⟩ | ⟨_, _, _, h4⟩ | ⟨_, _, _, _, _, _, _, h6⟩ | ⟨b, H1, tk, _, _, _, _, _, h6, h7⟩
  · rw [h4] at h
    have := congrArg List.length h
    simp at this
  · rw [h4] at h
    have := congrArg List.length h
    simp at this
  · rw [h6] at h; simp at h
  · rw [h6] at h
    simp at h
    have := h7 h.2
    simp only [tkOf, Bool.and_eq_true] at this
    exact isSl_call this.1

/-- Such a one yields the same in whatever world. -/
theorem Upc.take (x : Upc C base self tkm ops bs S v ρ0 w0 D s ρ a w lim i o) (hsk : SelfKeep self) (ht : Tk ops S i) :
    ∃ v', YieldsFenced C.P ops o v' a ∧ ∃ ρ', Inv C.NG base ops S v ρ0 w0 (also D i) s ρ' (a.put o.dst v') w := by
  obtain ⟨⟨o', ho', hcall⟩, htk⟩ := ht
  have : o' = o := Option.some.inj (ho'.symm.trans x.hoi)
  subst this
  have hab := about_none (P := C.P) (a := a) hcall
  rcases astep_inv (x.d.st i o' x.hoi) with ⟨h1, h2, h3, h4⟩ | ⟨h1, h2, h3, h4⟩ | ⟨b, H1, h1, h2, h3, h4, h5, h6⟩ | ⟨b, H1, tk, h1, h2, h3, h4, h5, h6, h7⟩
  · exact ⟨undef, ⟨.inr ⟨x.want h1, rfl⟩, hab⟩, ρ, x.quiet h3 h4 undef (by rw [h2]; exact VR.undef ρ)⟩
  · obtain ⟨hd, v', g1, g2⟩ := apure_ok (o := o') x.inv.post.glob x.ev h2
    exact ⟨v', ⟨.inl ⟨x.want h1, g2⟩, hab⟩, ρ, x.quiet h3 h4 v' g1⟩
  · rw [h6] at htk
    rcases htk with h | h
    · have := congrArg List.length h
      simp at this
    · simp at h
  · have htt : tk = true := by
      rw [h6] at htk
      rcases htk with h | h
      · have := congrArg List.length h
        simp at this
      · simp at h; exact h.2
    obtain ⟨hrel, hsi, hnext, fin⟩ := x.looks hsk h2 h3 h4 h5 h6
    have hk := h7 htt
    simp only [tkOf, Bool.and_eq_true, Option.isSome_iff_exists] at hk
    obtain ⟨hsl, r, hr⟩ := hk
    have hrr : r = (v i, H1) := by
      have h4' := h4
      unfold aoper at h4'
      rw [hr] at h4'
      exact Option.some.inj h4'
    subst hrr
    have hn : (S i).H.next ≤ H1.next := (keep_hop hr).next
    obtain ⟨v', ρ', g1, g2, g3⟩ := hpure_ok (o := o') hsl hrel x.ev (x.names _ (Nat.le_refl _) (by rw [hnext]; exact Nat.lt_succ_of_le hn) hsi) hr
    exact ⟨v', ⟨.inl ⟨x.want h1, g1⟩, hab⟩, ρ', fin v' w ρ' g2 g3⟩

theorem inv_step (ho : Ok C K base) (hs : SndSelf C K base self) (x : Upc C base self tkm ops bs S v ρ0 w0 D s ρ a w lim i o) (hK0 : K w0) (hwr : RecAt S i true → ∀ j wr, j < i → RecAt S j wr → D j = true) {ρr : Rho} {rd : Option Nat} {Q : Exit → Act → World → Prop} {Kn : Act → World → Prop}
    (hk : ∀ a' w' s' ρ', Inv C.NG base ops S v ρ0 w0 (also D i) s' ρ' a' w' → Kn a' w') : wpOpIn (fenceOf ρr rd) n C.P ops Q i Kn a w := by
  have hi := x.lt
  have d := x.d
  have inv := x.inv
  have rel0 := x.rel0
  have hoi := x.hoi
  have hKw : K w := ho.keep _ _ hK0 inv.post.below
  have hev := x.ev
  obtain ⟨hkeep, hrecs⟩ := d.keeps i (by omega)
  have hhide := x.hide
  unfold wpOpIn
  simp only [hoi]
  rcases astep_inv (d.st i o hoi) with ⟨h1, h2, h3, h4⟩ | ⟨h1, h2, h3, h4⟩ | ⟨b, H1, h1, h2, h3, h4, h5, h6⟩ | ⟨b, H1, tk, h1, h2, h3, h4, h5, h6, h7⟩
  · rw [if_neg (by rw [x.want h1]; simp)]
    exact ⟨about_ok, hk _ _ s ρ (x.quiet h3 h4 undef (by rw [h2]; exact VR.undef ρ))⟩
  · rw [if_pos (x.want h1)]
    exact apure_wp inv.post.glob hev h2 fun v' hv => hk _ _ s ρ (x.quiet h3 h4 v' hv)
  · -- a writer
    rw [if_pos (x.want h1)]
    have hrec : RecAt S i true := ⟨false, by rw [h6, h5]; rfl⟩
    have hwr := hwr hrec
    obtain ⟨hsi, hno⟩ := x.start hrec
    have hsub : ∀ x y, look (S i).H x = some y → Lk S ops.size D s x y := fun x y hx => by
      have hh : hidden (S 0).H.hide x = false := by rw [← hkeep.hide]; exact (look_some hx).1
      refine inv.see d rel0 (by omega) hsi hno (look0_of hx) hh fun j h7 h8 h9 h10 => ?_
      obtain ⟨wr, hr⟩ := d.recd (k := j) (by omega) (by omega)
      exact hwr j wr h8 hr
    have hrel : Rel C.NG base ρ (S i).H w := inv.post.rel hsub (fun x y hx => d.low rel0 (by omega) (look0_of hx) (by rw [← hkeep.hide]; exact (look_some hx).1)) hhide
    have hnext : (S (i + 1)).H.next = H1.next + 1 := by rw [h5]; rfl
    refine aoper_wp (lim := (S (i + 1)).H.next) ho hs d.keep hrel hKw hev ⟨fun b h1 h2 => x.names b h1 h2 hsi, hkeep.le d.le⟩ h4 (by rw [hnext]; exact Nat.lt_succ_self _) fun v' w' ρ' hv q => ?_
    have far : ∀ j wr, also D i j = true → RecAt S j wr → i + 1 ≤ j → j < ops.size → False := fun j wr h1 h2 h3 h4 => by
      have hD : D j = true := (also_inv h1).resolve_left (by omega)
      obtain ⟨b', hb', hbit⟩ := d.order (j := i) (k := j) (by omega) h4 hrec h2
      have := inv.bit d h4 hD hb' hbit
      rw [x.hDi] at this; cases this
    have farn : ∀ j b, also D i j = true → i + 1 ≤ j → j < ops.size → (S j).H.next ≤ b → b < (S (j + 1)).H.next → False := fun j b h1 h2 h3 h4 h5 => by
      obtain ⟨wr, hr⟩ := d.recd h3 (by omega)
      exact far j wr h1 hr h2 h3
    refine hk _ _ (i + 1) ρ' ⟨by omega, x.closed, fun j wr h7 h8 => ?_, fun j wr h7 h8 h9 h10 => (far j wr h7 h8 h9 h10).elim, ?_, fun b hb => ?_, d.sets inv.closed x.hsm hoi x.hDi ((inv.fr.mono q.ext).put hv _)⟩
    · by_cases hj : j = i
      · subst hj; exact also_self D j
      · exact also_of (hwr j wr (by omega) h8)
    · refine (inv.post.trans hsub hkeep.wmin q).sub ?_
      rintro x y (⟨_, h⟩ | ⟨j, h7, h8, h9, h10, h11, _⟩)
      · rw [h5] at h; exact h
      · exact (farn j x h9 h7 h8 h10 h11).elim
    · have m0 := d.mono (Nat.zero_le i) (by omega)
      rcases q.ndom b hb with h | ⟨h7, h8⟩
      · rcases inv.names b h with h | ⟨h0, h | ⟨j, g1, g2, g3, g4, g5⟩⟩
        · exact .inl h
        · have := d.mono (i := s) (j := i + 1) (by omega) (by omega)
          exact .inr ⟨h0, .inl (by omega)⟩
        · by_cases hj : j ≤ i
          · have := d.mono (i := j + 1) (j := i + 1) (by omega) (by omega)
            exact .inr ⟨h0, .inl (by omega)⟩
          · exact (farn j b (also_of g1) (by omega) g3 g4 g5).elim
      · have h8' : b < H1.next := h8
        exact .inr ⟨by omega, .inl (by omega)⟩
  · -- one that looks
    rw [if_pos (x.want h1)]
    obtain ⟨hrel, hsi, hnext, fin⟩ := x.looks d.keep h2 h3 h4 h5 h6
    exact aoper_wp (lim := (S (i + 1)).H.next) ho hs d.keep hrel hKw hev ⟨fun b h1 h2 => x.names b h1 h2 hsi, Nat.le_refl _⟩ h4 (by rw [hnext]; exact Nat.lt_succ_self _) fun v' w' ρ' hv q => hk _ _ s ρ' (fin v' w' ρ' hv q)

/-- Where none may be taken first any more, whoever a store may come before has been taken. -/
theorem Upc.late (x : Upc C base self tkm ops bs S v ρ0 w0 D s ρ a w lim i o) (hno : tkm = true → ∀ k ok, ops[k]? = some ok → D k = false → (∀ e ∈ ok.after, Region.binds .any e = true → D e.on = true) → ¬ Tk ops S k) (hrec : RecAt S i true) : ∀ j wr, j < i → RecAt S j wr → D j = true := by
  intro j wr hji hr
  have hi := x.lt
  have d := x.d
  have hoi := x.hoi
  obtain ⟨tkj, hr⟩ := hr
  have hx : (⟨j, (S j).H.next, (S (j + 1)).H.next, wr, tkj⟩ : Rec) ∈ (S i).rc := d.rc_mono hji (by omega) (by rw [hr]; exact List.mem_cons_self)
  rcases astep_inv (d.st i o hoi) with ⟨_, _, _, h4⟩ | ⟨_, _, _, h4⟩ | ⟨b, H1, h1, h2, h3, h4, h5, h6⟩ | ⟨b, H1, tk, h1, h2, h3, h4, h5, h6, h7⟩
  · obtain ⟨_, h⟩ := hrec
    rw [h4] at h
    have := congrArg List.length h
    simp at this
  · obtain ⟨_, h⟩ := hrec
    rw [h4] at h
    have := congrArg List.length h
    simp at this
  · cases hbit : b.testBit j with
    | true => exact d.bits x.inv.closed i o b j hoi x.hE h2 hbit
    | false =>
      obtain ⟨htkm, hl⟩ := h3 _ (mem_unordered (b := b) hx hbit)
      unfold lateRec at hl
      simp only [Bool.and_eq_true, Bool.not_eq_true'] at hl
      obtain ⟨⟨hl1, hl2⟩, hl3⟩ := hl
      subst hl1; subst hl2
      split at hl3
      · rename_i b' hb'
        simp only [Bool.and_eq_true, List.all_eq_true] at hl3
        obtain ⟨hq, hc⟩ := hl3
        cases hD : D j with
        | true => rfl
        | false =>
          exfalso
          -- the least of those that it waits for, and of itself, that has not been taken
          have key : ∀ m k, k ≤ m → D k = false → (k = j ∨ b'.testBit k = true) → k < ops.size → False := by
            intro m
            induction m using Nat.strongRecOn with
            | _ m ih =>
              intro k hkm hDk hkj hks
              have hok := Array.getElem?_eq_getElem (xs := ops) (i := k) hks
              obtain ⟨bk, hbk, hcl⟩ := d.closed k _ hok
              have hjs := Array.getElem?_eq_getElem (xs := ops) (i := j) (by omega)
              have hready : ∀ e ∈ (ops[k]).after, Region.binds .any e = true → D e.on = true := by
                intro e he hbi
                cases hDe : D e.on with
                | true => rfl
                | false =>
                  exfalso
                  have hlt := d.edge k _ hok e he hbi
                  refine ih e.on (by omega) e.on (Nat.le_refl _) hDe (.inr ?_) (by omega)
                  rcases hkj with rfl | hkj
                  · rw [hb'] at hbk
                    cases hbk
                    exact (hcl e he hbi).1
                  · obtain ⟨bj, hbj, _⟩ := d.closed j _ hjs
                    rw [hb'] at hbj
                    cases hbj
                    exact d.trans (by omega) hb' hkj hbk (hcl e he hbi).1
              have hnot := hno htkm k _ hok hDk hready
              -- so it looked at memory, or was a call: it comes before the store
              have hbit' : b.testBit k = true → False := fun h => by
                have := d.bits x.inv.closed i o b k hoi x.hE h2 h
                rw [hDk] at this; cases this
              rcases hkj with rfl | hkj
              · exact hnot ⟨⟨_, hok, d.callfree hok hr⟩, .inr hr⟩
              · have hki : k < i := by
                  have := d.before (by omega) hb' hkj
                  omega
                have hcall : isCall (ops[k]).op = false := by
                  have := hc k (List.mem_range.2 (by simpa using hks))
                  rw [Array.getElem?_toList, hok] at this
                  simp only [Bool.or_eq_true, Bool.not_eq_true'] at this
                  rcases this with (h | h) | h
                  · rw [hkj] at h; cases h
                  · exact h
                  · exact (hbit' h).elim
                rcases astep_inv (d.st k _ hok) with ⟨_, _, _, g4⟩ | ⟨_, _, _, g4⟩ | ⟨_, G1, _, _, _, _, g5, g6⟩ | ⟨_, G1, tk, _, _, _, _, g5, g6, _⟩
                · exact hnot ⟨⟨_, hok, hcall⟩, .inl g4⟩
                · exact hnot ⟨⟨_, hok, hcall⟩, .inl g4⟩
                · have hm : (⟨k, (S k).H.next, G1.next + 1, true, false⟩ : Rec) ∈ (S i).rc := d.rc_mono hki (by omega) (by rw [g6]; exact List.mem_cons_self)
                  have := hq _ hm
                  simp only [Bool.false_or, Bool.or_eq_true, Bool.not_eq_true'] at this
                  rcases this with h | h
                  · rw [hkj] at h; cases h
                  · exact hbit' h
                · cases tk with
                  | true => exact hnot ⟨⟨_, hok, hcall⟩, .inr (by rw [g6, g5])⟩
                  | false =>
                    have hm : (⟨k, (S k).H.next, G1.next + 1, false, false⟩ : Rec) ∈ (S i).rc := d.rc_mono hki (by omega) (by rw [g6]; exact List.mem_cons_self)
                    have := hq _ hm
                    simp only [Bool.false_or, Bool.or_eq_true, Bool.not_eq_true'] at this
                    rcases this with h | h
                    · rw [hkj] at h; cases h
                    · exact hbit' h
          exact key j j (Nat.le_refl _) hD (.inl rfl) (by omega)
      · cases hl3
  · obtain ⟨_, h⟩ := hrec
    rw [h6] at h
    simp at h
end

end

end Go.Sy

/- Regions whose order is open: the whole. -/
namespace Go.Sy
set_option linter.unusedVariables false
set_option linter.unusedSimpArgs false
open Go Go.RowKit

theorem count_set : ∀ {l : List Bool} {i : Nat}, l[i]? = some false → (l.set i true).count false + 1 = l.count false := by
  intro l
  induction l with
  | nil => intro i h; simp at h
  | cons x r ih =>
    intro i h
    cases i with
    | zero =>
      simp only [List.getElem?_cons_zero, Option.some.injEq] at h
      subst h
      simp [List.set, List.count_cons]
    | succ i =>
      have := ih (i := i) (by simpa using h)
      simp only [List.set, List.count_cons]
      omega

section
variable {C : Cfg} {K : World → Prop} {base n lim : Nat} {self : Self} {tkm : Bool} {ops : Array Oper} {bs : List Nat} {S : Nat → St} {v : Nat → Value} {ρ0 : Rho} {w0 : World}

theorem ready_nil (d : Walked C self tkm ops bs S v) {listed : Array Bool} (hsz : listed.size = ops.size) (h : Region.ready .any ops listed = []) : ∀ k, k < ops.size → listed.getD k false = true := by
  intro k
  induction k using Nat.strongRecOn with
  | _ k ih =>
    intro hk
    cases hq : listed.getD k false with
    | true => rfl
    | false =>
      have : k ∈ Region.ready .any ops listed := by
        rw [mem_ready]
        refine ⟨?_, ops[k], Array.getElem?_eq_getElem hk, fun e he hb => ?_⟩
        · rw [Array.getD_eq_getD_getElem?, Array.getElem?_eq_getElem (by omega)] at hq ⊢
          exact hq
        · have := d.edge k _ (Array.getElem?_eq_getElem hk) e he hb
          exact ih e.on this (by omega)
      rw [h] at this
      cases this

theorem freeAll_spec {ops : Array Oper} {bs : List Nat} (h : freeAll ops.toList ops bs = true) {i j : Nat} {oi oj : Oper} (hne : j ≠ i) (hi : ops[i]? = some oi) (hj : ops[j]? = some oj) :
    (∃ b, bs[i]? = some b ∧ b.testBit j = true) ∨ (∃ e ∈ oj.after, Region.binds .any e = true ∧ e.on = i) ∨ oi.apart ops oj = true := by
  have hi' := (Array.getElem?_eq_some_iff.1 hi).1
  have hj' := (Array.getElem?_eq_some_iff.1 hj).1
  have h1 := List.all_eq_true.1 (List.all_eq_true.1 h i (List.mem_range.2 (by simpa using hi'))) j (List.mem_range.2 (by simpa using hj'))
  rw [Array.getElem?_toList, Array.getElem?_toList, hi, hj, Bool.or_eq_true] at h1
  rcases h1 with h1 | h1
  · exact absurd (Nat.eq_of_beq_eq_true h1).symm hne
  · split at h1
    · rename_i a b c e1 e2 e3
      cases e1; cases e2
      rw [Bool.or_eq_true, Bool.or_eq_true] at h1
      rcases h1 with (h1 | h1) | h1
      · exact .inl ⟨_, e3, h1⟩
      · rw [List.any_eq_true] at h1
        obtain ⟨e, he, hh⟩ := h1
        simp only [Bool.and_eq_true] at hh
        exact .inr (.inl ⟨e, by simpa using he, hh.1, Nat.eq_of_beq_eq_true hh.2⟩)
      · exact .inr (.inr h1)
    · cases h1

theorem draw_any (ho : Ok C K base) (hs : SndSelf C K base self) (d : Walked C self tkm ops bs S v) (rel0 : Rel C.NG base ρ0 (S 0).H w0) (hK0 : K w0) (hsm : (S 0).fr.n ≤ 1000000) (hroom : Room (S 0).H lim ρ0) (hlim : (S ops.size).H.next < lim) {ρr : Rho} {rd : Option Nat}
    (htk : tkm = true → rd = none ∧ Region.noSelect ops = true ∧ freeAll ops.toList ops bs = true) {Q : Exit → Act → World → Prop} (hQp : ∀ c a w, ¬ Q (.panic c) a w) (hq : ∀ ρ' a' w', FrRel ρ' (S ops.size).fr a' → Post C.NG base ρ0 (S 0).H (S ops.size).H w0 w' ρ' → Q .normal a' w') :
    ∀ (fuel : Nat) (listed : Array Bool) (s : Nat) (ρ : Rho) (a : Act) (w : World), listed.toList.count false ≤ fuel → listed.size = ops.size → Inv C.NG base ops S v ρ0 w0 (fun k => listed.getD k false) s ρ a w →
      wpAnyIn (fenceOf ρr rd) n C.P .any ops Q fuel listed a w := by
  have fin : ∀ (listed : Array Bool) (s : Nat) (ρ : Rho) (a : Act) (w : World), listed.size = ops.size → Inv C.NG base ops S v ρ0 w0 (fun k => listed.getD k false) s ρ a w → Region.ready .any ops listed = [] → Q .normal a w := by
    intro listed s ρ a w hsz inv hr
    have hall := ready_nil d hsz hr
    refine hq ρ a w ?_ ?_
    · rw [← walked_fr d ops.size (Nat.le_refl _), ← frD_congr (D := fun k => listed.getD k false) (D' := fun _ => true) ops.size hall]
      exact inv.fr
    · obtain ⟨hkeep, _⟩ := d.keeps ops.size (Nat.le_refl _)
      have hno : ∀ k, s ≤ k → k < ops.size → ¬ RecAt S k true := fun k h1 h2 h3 => inv.later k true (hall k h2) h3 h1 h2 k h1 (Nat.le_refl _) h3
      have hh : ∀ b o, look (S ops.size).H b = some o → hidden (S 0).H.hide b = false := fun b o h => by rw [← hkeep.hide]; exact (look_some h).1
      refine inv.post.post (fun b o h => inv.see d rel0 (Nat.le_refl _) inv.hs hno (look0_of h) (hh b o h) fun j _ h2 _ _ => hall j h2) (fun b o h => d.low rel0 (Nat.le_refl _) (look0_of h) (hh b o h)) (fun x hx => ?_)
        hkeep.next hkeep.wmin fun b hb => ?_
      · rw [hkeep.hide] at hx
        exact Nat.le_trans (rel0.hide x hx) hkeep.next
      · rcases inv.names b hb with h | ⟨h0, h | ⟨j, _, _, h3, _, h5⟩⟩
        · exact .inl h
        · have := d.mono inv.hs (Nat.le_refl _)
          exact .inr ⟨h0, by omega⟩
        · have := d.mono (i := j + 1) (j := ops.size) (by omega) (Nat.le_refl _)
          exact .inr ⟨h0, by omega⟩
  intro fuel
  induction fuel with
  | zero =>
    intro listed s ρ a w hc hsz inv
    have hr : Region.ready .any ops listed = [] := by
      cases hr : Region.ready .any ops listed with
      | nil => rfl
      | cons i r =>
        have hm : i ∈ Region.ready .any ops listed := by rw [hr]; exact List.mem_cons_self
        obtain ⟨h1, o, h2, _⟩ := mem_ready.1 hm
        have hi := (Array.getElem?_eq_some_iff.1 h2).1
        have h3 : listed.toList[i]? = some false := by
          rw [Array.getElem?_toList]
          rw [Array.getD_eq_getD_getElem?, Array.getElem?_eq_getElem (by omega)] at h1
          rw [Array.getElem?_eq_getElem (by omega)]
          exact congrArg some h1
        have := count_set h3
        omega
    exact ⟨hr, fin listed s ρ a w hsz inv hr⟩
  | succ fuel ih =>
    intro listed s ρ a w hc hsz inv
    have next : ∀ {i : Nat} {o : Oper}, listed.getD i true = false → ops[i]? = some o → (∀ e ∈ o.after, Region.binds .any e = true → listed.getD e.on false = true) →
        Upc C base self tkm ops bs S v ρ0 w0 (fun k => listed.getD k false) s ρ a w lim i o ∧ listed[i]? = some false := fun {i o} h1 h2 h4 => by
      have hi := (Array.getElem?_eq_some_iff.1 h2).1
      have h5 : listed[i]? = some false := by
        rw [Array.getD_eq_getD_getElem?, Array.getElem?_eq_getElem (by omega)] at h1
        rw [Array.getElem?_eq_getElem (by omega)]
        exact congrArg some h1
      exact ⟨⟨d, rel0, hsm, inv, h2, by rw [Array.getD_eq_getD_getElem?, h5]; rfl, h4, hroom, hlim⟩, h5⟩
    have cont : ∀ {i : Nat} (a' : Act) (w' : World) (s' : Nat) (ρ' : Rho), i < ops.size → listed[i]? = some false → Inv C.NG base ops S v ρ0 w0 (also (fun k => listed.getD k false) i) s' ρ' a' w' →
        wpAnyIn (fenceOf ρr rd) n C.P .any ops Q fuel (listed.setIfInBounds i true) a' w' := fun {i} a' w' s' ρ' hi h5 inv' => by
      have h3 : listed.toList[i]? = some false := by rw [Array.getElem?_toList]; exact h5
      refine ih _ s' ρ' a' w' ?_ (by simpa using hsz) ?_
      · have := count_set h3
        rw [Array.toList_setIfInBounds]
        omega
      · have : also (fun k => listed.getD k false) i = fun k => (listed.setIfInBounds i true).getD k false := by
          funext k
          by_cases hk : k = i
          · subst hk
            rw [also_self, Array.getD_eq_getD_getElem?, Array.getElem?_setIfInBounds_self_of_lt (by omega)]
            rfl
          · rw [also_ne hk, getD_set_ne false (Ne.symm hk)]
        rw [← this]
        exact inv'
    by_cases hex : tkm = true ∧ ∃ i o, ops[i]? = some o ∧ listed.getD i true = false ∧ (∀ e ∈ o.after, Region.binds .any e = true → listed.getD e.on false = true) ∧ Tk ops S i
    · -- one that looks at no memory is taken first
      obtain ⟨htkm, i, o, h2, h1, h4, ht⟩ := hex
      obtain ⟨hrd, hsel, hfree⟩ := htk htkm
      subst hrd
      obtain ⟨nx, h5⟩ := next h1 h2 h4
      obtain ⟨v', hy, ρ', inv'⟩ := nx.take d.keep ht
      refine wpAnyIn_first rfl h2 (Region.noSelect_spec hsel) (fun c a w h => absurd h (hQp _ _ _)) fuel listed a w (fun j oj hj hne hun hnoe => ?_) (mem_ready.2 ⟨h1, o, h2, h4⟩) hy (cont _ _ s ρ' nx.lt h5 inv')
      rcases freeAll_spec hfree hne h2 hj with ⟨b, hb, hbit⟩ | ⟨e, he, hbi, heq⟩ | h
      · have := d.bits inv.closed i o b j h2 h4 hb hbit
        have hjs := (Array.getElem?_eq_some_iff.1 hj).1
        rw [Array.getD_eq_getD_getElem?, Array.getElem?_eq_getElem (by omega)] at this hun
        simp only [Option.getD_some] at this hun
        rw [this] at hun
        cases hun
      · exact absurd heq (hnoe e he hbi)
      · exact h
    · refine ⟨fin listed s ρ a w hsz inv, fun i hm => ?_⟩
      obtain ⟨h1, o, h2, h4⟩ := mem_ready.1 hm
      obtain ⟨nx, h5⟩ := next h1 h2 h4
      refine inv_step ho hs nx hK0 (fun hrec => nx.late (fun htkm k ok hk hDk hEk ht => hex ⟨htkm, k, ok, hk, ?_, hEk, ht⟩) hrec) fun a' w' s' ρ' inv' => cont a' w' s' ρ' nx.lt h5 inv'
      have hks := (Array.getElem?_eq_some_iff.1 hk).1
      rw [Array.getD_eq_getD_getElem?, Array.getElem?_eq_getElem (by omega)] at hDk ⊢
      exact hDk

end

theorem adraw_ok {C : Cfg} {K : World → Prop} {base n lim : Nat} {self : Self} (ho : Ok C K base) (hs : SndSelf C K base self) (hsk : SelfKeep self) {ρr : Rho} {rd : Option Nat} {tkm : Bool} {ops : Array Oper} {bs : List Nat} {r : AFr × Heap} {Q : Exit → Act → World → Prop}
    {fr : AFr} {H : Heap} {ρ : Rho} {a : Act} {w : World} (hb : befores ops.toList [] = some bs) (hap : apartAll ops.toList ops bs = true) (htk : tkm = true → rd = none ∧ Region.noSelect ops = true ∧ freeAll ops.toList ops bs = true) (hQp : ∀ c a w, ¬ Q (.panic c) a w) (h : adraw C self tkm ops.toList ops bs ops.toList 0 fr H [] = some r) (hr : Rel C.NG base ρ H w) (hK : K w) (hf : FrRel ρ fr a) (hroom : Room H lim ρ)
    (hlim : r.2.next < lim) (hq : ∀ ρ' a' w', FrRel ρ' r.1 a' → Post C.NG base ρ H r.2 w w' ρ' → Q .normal a' w') :
    wpAnyIn (fenceOf ρr rd) n C.P .any ops Q ops.size (Array.replicate ops.size false) a w := by
  obtain ⟨S, v, h1, h2, h3, h4⟩ := draw_chain h
  rw [Nat.zero_add, Array.length_toList] at h2 h3
  obtain ⟨_, hb2⟩ := befores_spec hb
  have e0 : (S 0).H = H := by rw [h1]
  have d : Walked C self tkm ops bs S v := by
    refine ⟨by rw [h1], by rw [e0]; exact hroom.le, hsk, fun k o hk => ?_, fun k o hk => ?_, fun k o hk => ?_, fun k o b hk hbk => ?_, fun i j oi oj hij hi hj => apartAll_spec hap hij (by rw [Array.getElem?_toList]; exact hi) (by rw [Array.getElem?_toList]; exact hj), fun k o hk => ?_⟩
    · have := (h4 k o (by rw [Array.getElem?_toList]; exact hk)).1
      simpa only [Nat.zero_add] using this
    · have := (h4 k o (by rw [Array.getElem?_toList]; exact hk)).2
      simpa only [Nat.zero_add] using this
    · obtain ⟨b, g1, g2, g3⟩ := hb2 k o (by rw [Array.getElem?_toList]; exact hk)
      simpa only [List.length_nil, Nat.zero_add] using g2
    · obtain ⟨b', g1, g2, g3⟩ := hb2 k o (by rw [Array.getElem?_toList]; exact hk)
      simp only [List.length_nil, Nat.zero_add] at g1
      rw [hbk] at g1
      cases g1
      exact g3
    · obtain ⟨b', g1, g2⟩ := (befores_spec2 hb).2 k o (by rw [Array.getElem?_toList]; exact hk)
      simp only [List.length_nil, Nat.zero_add] at g1
      exact ⟨b', g1, g2⟩
  have rel0 : Rel C.NG base ρ (S 0).H w := by rw [e0]; exact hr
  have hDf : ∀ k, (Array.replicate ops.size false).getD k false = false := fun k => by
    rw [Array.getD_eq_getD_getElem?, Array.getElem?_replicate]
    split <;> rfl
  refine draw_any ho hs d rel0 hK (by rw [h1]; exact hf.small) (by rw [e0]; exact hroom) (by rw [h3]; exact hlim) htk hQp (fun ρ' a' w' g1 g2 => hq ρ' a' w' (by rw [← h2]; exact g1) (by rw [e0, h3] at g2; exact g2)) ops.size _ 0 ρ a w ?_ (by simp) ?_
  · rw [Array.toList_replicate, List.count_replicate_self]
    exact Nat.le_refl _
  · refine ⟨Nat.zero_le _, fun k o _ hD => ?_, fun j wr hj => absurd hj (Nat.not_lt_zero _), fun j wr hD => ?_, (PostL.of (Post.refl rel0)).sub ?_, fun b hb => .inl hb, ?_⟩
    · have := hDf k
      first | (rw [show (Array.replicate ops.size false).getD k false = true from hD] at this; cases this) | (rw [show (Array.replicate ops.size false).getD j false = true from hD] at this; cases this)
    · have := hDf j
      first | (rw [show (Array.replicate ops.size false).getD k false = true from hD] at this; cases this) | (rw [show (Array.replicate ops.size false).getD j false = true from hD] at this; cases this)
    · rintro b o (⟨_, h⟩ | ⟨j, _, _, hD, _⟩)
      · exact h
      · have := hDf j
        rw [show (Array.replicate ops.size false).getD j false = true from hD] at this; cases this
    · have : frD ops v (fun k => (Array.replicate ops.size false).getD k false) (S 0).fr ops.size = (S 0).fr := by
        have : ∀ k, frD ops v (fun k => (Array.replicate ops.size false).getD k false) (S 0).fr k = (S 0).fr := by
          intro k
          induction k with
          | zero => rfl
          | succ k ih =>
            simp only [frD]
            rw [ih]
            split
            · rw [if_neg (by rw [hDf]; simp)]
            · rfl
        exact this _
      rw [this, h1]
      exact hf

end Go.Sy

/-! ### Small regions whose order is open: all orders tried -/
namespace Go.Sy
set_option linter.unusedVariables false
set_option linter.unusedSimpArgs false
open Go Go.RowKit

theorem areadyL_ok {ops : Array Oper} {listed : Array Bool} {m : Nat} (hs : listed.size = ops.size) (h : ∀ k, m.testBit k = listed.getD k false) : Region.ready .any ops listed = areadyL ops.toList m := by
  unfold Region.ready areadyL
  rw [Array.length_toList]
  refine List.filter_congr fun i hi => ?_
  have hi : i < ops.size := List.mem_range.1 hi
  have e1 : listed.getD i true = m.testBit i := by
    rw [h i, Array.getD_eq_getD_getElem?, Array.getD_eq_getD_getElem?, Array.getElem?_eq_getElem (by omega)]
    rfl
  rw [e1]
  congr 1
  rw [Array.getElem?_toList, Array.getElem?_eq_getElem hi]
  simp only [Option.map_some, Option.getD_some]
  have : (fun e : Edge => !Region.binds .any e || listed.getD e.on false) = fun e => !Region.binds .any e || m.testBit e.on := by
    funext e
    rw [h e.on]
  rw [this]
  simp

theorem aorders_next {C : Cfg} {self : Self} (hsk : SelfKeep self) {ops : List Oper} {r : AFr × Heap} : ∀ {fuel m : Nat} {fr : AFr} {H : Heap}, H.wmin ≤ H.next → aorders C self ops r fuel m fr H = true → H.next ≤ r.2.next := by
  intro fuel
  induction fuel with
  | zero =>
    intro m fr H _ h
    simp only [aorders, Bool.and_eq_true] at h
    rw [← stId_eq h.2]
    exact Nat.le_refl _
  | succ fuel ih =>
    intro m fr H hw h
    simp only [aorders] at h
    split at h
    · rw [← stId_eq h]
      exact Nat.le_refl _
    · rename_i hl
      obtain ⟨i, t, e⟩ : ∃ i t, areadyL ops m = i :: t := by
        cases e : areadyL ops m with
        | nil => exact (hl e).elim
        | cons i t => exact ⟨i, t, rfl⟩
      have h1 := List.all_eq_true.1 h i (by rw [e]; exact List.mem_cons_self)
      split at h1
      · split at h1
        · rename_i fr' H' ho
          have k := keep_ops hsk hw ho
          exact Nat.le_trans k.next (ih (k.le hw) h1)
        · cases h1
      · cases h1

theorem aorders_ok {C : Cfg} {K : World → Prop} {base n lim : Nat} {self : Self} (ho : Ok C K base) (hs : SndSelf C K base self) (hsk : SelfKeep self) {ρr : Rho} {rd : Option Nat} {ops : Array Oper} {r : AFr × Heap} {Q : Exit → Act → World → Prop} :
    ∀ {fuel m : Nat} {listed : Array Bool} {fr : AFr} {H : Heap} {ρ : Rho} {a : Act} {w : World}, aorders C self ops.toList r fuel m fr H = true → listed.size = ops.size → (∀ k, m.testBit k = listed.getD k false) →
      Rel C.NG base ρ H w → K w → FrRel ρ fr a → Room H lim ρ → r.2.next < lim → (∀ ρ' a' w', FrRel ρ' r.1 a' → Post C.NG base ρ H r.2 w w' ρ' → Q .normal a' w') →
      wpAnyIn (fenceOf ρr rd) n C.P .any ops Q fuel listed a w := by
  intro fuel
  induction fuel with
  | zero =>
    intro m listed fr H ρ a w h hz hm hr hK hf hroom hlim hq
    simp only [aorders, Bool.and_eq_true] at h
    have e := stId_eq h.2
    refine ⟨by rw [areadyL_ok hz hm]; exact List.isEmpty_iff.1 h.1, ?_⟩
    rw [← e] at hq
    exact hq ρ a w hf (Post.refl hr)
  | succ fuel ih =>
    intro m listed fr H ρ a w h hz hm hr hK hf hroom hlim hq
    simp only [aorders] at h
    unfold wpAnyIn
    rw [areadyL_ok hz hm]
    split at h
    · rename_i hl
      have e := stId_eq h
      rw [← e] at hq
      refine ⟨fun _ => hq ρ a w hf (Post.refl hr), fun i hi => ?_⟩
      rw [hl] at hi
      cases hi
    · rename_i hl
      refine ⟨fun he => absurd he hl, fun i hi => ?_⟩
      have h1 := List.all_eq_true.1 h i hi
      split at h1
      · rename_i o hoi
        rw [Array.getElem?_toList] at hoi
        have hil : i < listed.size := by rw [hz]; exact (Array.getElem?_eq_some_iff.1 hoi).1
        have hm' : ∀ k, (m ||| 2 ^ i).testBit k = (listed.setIfInBounds i true).getD k false := fun k => by
          rw [Nat.testBit_or, Nat.testBit_two_pow, hm k]
          by_cases hk : i = k
          · subst hk
            rw [Array.getD_eq_getD_getElem? (xs := listed.setIfInBounds i true), Array.getElem?_setIfInBounds_self_of_lt hil]
            simp
          · rw [getD_set_ne false hk]
            simp [hk]
        split at h1
        · rename_i fr' H' hop
          simp only [aops] at hop
          have hev : EvR ρ (fr.eval C.NG) a := fun x v hx => hf.eval hr.glob hx
          unfold wpOpIn
          simp only [hoi]
          split at hop
          · rename_i hw
            have hw' := awanted_ok (ρ := ρ) (a := a) hw hr.glob (fun _ _ _ t _ _ _ => hf.get t)
            rw [if_pos hw']
            split at hop
            · rename_i v hp
              simp only [Option.some.injEq, Prod.mk.injEq] at hop
              obtain ⟨rfl, rfl⟩ := hop
              refine apure_wp hr.glob hev hp fun v' hv => ?_
              exact ih h1 (by simpa using hz) hm' hr hK (hf.put hv _) hroom hlim hq
            · split at hop
              · rename_i v H2 hh
                simp only [Option.some.injEq, Prod.mk.injEq] at hop
                obtain ⟨rfl, rfl⟩ := hop
                have k1 := keep_oper hsk hroom.le hh
                have k2 := aorders_next hsk (k1.le hroom.le) h1
                refine aoper_wp ho hs hsk hr hK hev hroom hh (Nat.lt_of_le_of_lt k2 hlim) fun v' w' ρ' hv hp => ?_
                exact ih h1 (by simpa using hz) hm' hp.rel (ho.keep _ _ hK hp.below) ((hf.mono hp.ext).put hv _) (hp.room hroom) hlim fun ρ2 a2 w2 g1 g2 => hq ρ2 a2 w2 g1 (hp.trans g2)
              · cases hop
          · rename_i hw
            have hw' := awanted_ok (ρ := ρ) (a := a) hw hr.glob (fun _ _ _ t _ _ _ => hf.get t)
            rw [if_neg (by rw [hw']; simp)]
            simp only [Option.some.injEq, Prod.mk.injEq] at hop
            obtain ⟨rfl, rfl⟩ := hop
            exact ⟨about_ok, ih h1 (by simpa using hz) hm' hr hK (hf.put (VR.undef ρ) _) hroom hlim hq⟩
          · cases hop
        · cases h1
      · cases h1

theorem aany_ok {C : Cfg} {K : World → Prop} {base n lim : Nat} {self : Self} (ho : Ok C K base) (hs : SndSelf C K base self) (hsk : SelfKeep self) {ρr : Rho} {rd : Option Nat} {ops : Array Oper} {r : AFr × Heap} {Q : Exit → Act → World → Prop}
    {fr : AFr} {H : Heap} {ρ : Rho} {a : Act} {w : World} (h : aany C self ops.toList fr H = some r) (hr : Rel C.NG base ρ H w) (hK : K w) (hf : FrRel ρ fr a) (hroom : Room H lim ρ)
    (hlim : r.2.next < lim) (hq : ∀ ρ' a' w', FrRel ρ' r.1 a' → Post C.NG base ρ H r.2 w w' ρ' → Q .normal a' w') :
    wpAnyIn (fenceOf ρr rd) n C.P .any ops Q ops.size (Array.replicate ops.size false) a w := by
  unfold aany at h
  obtain ⟨_, h⟩ := cond_some h
  split at h
  · rename_i r' hr'
    obtain ⟨h1, h⟩ := cond_some h
    cases h
    rw [Array.length_toList] at h1
    refine aorders_ok ho hs hsk h1 (by simp) (fun k => ?_) hr hK hf hroom hlim hq
    rw [Nat.zero_testBit, Array.getD_eq_getD_getElem?, Array.getElem?_replicate]
    split <;> rfl
  · cases h

end Go.Sy

/- What the evaluator says of code holds of the machine. -/
namespace Go.Sy
set_option linter.unusedVariables false
set_option linter.unusedSimpArgs false
open Go Go.RowKit

/-- What is to be shown of code, told of where it leads. -/
def Goal (C : Cfg) (base : Nat) (ρ : Rho) (H : Heap) (w : World) (r : AEx × AFr × Heap) : Exit → Act → World → Prop :=
  fun e a' w' => e = r.1.toExit ∧ ∃ ρ', FrRel ρ' r.2.1 a' ∧ Post C.NG base ρ H r.2.2 w w' ρ'

theorem Goal.after {C : Cfg} {base : Nat} {ρ ρ1 : Rho} {H H1 : Heap} {w w1 : World} {r : AEx × AFr × Heap} {e : Exit} {a' : Act} {w' : World} (p : Post C.NG base ρ H H1 w w1 ρ1) (h : Goal C base ρ1 H1 w1 r e a' w') : Goal C base ρ H w r e a' w' := by
  obtain ⟨h1, ρ', h2, h3⟩ := h
  exact ⟨h1, ρ', h2, p.trans h3⟩

section
variable {C : Cfg} {K : World → Prop} {base bound : Nat} {self : Self} {rd : Option Nat} {fr : AFr} {H : Heap} {r : AEx × AFr × Heap}

/-- What code has in hand. -/
structure Hand (C : Cfg) (K : World → Prop) (base : Nat) (rd : Option Nat) (fr : AFr) (H : Heap) (lim : Nat) (ρ : Rho) (a : Act) (w : World) : Prop where
  rel : Rel C.NG base ρ H w
  k : K w
  fr : FrRel ρ fr a
  room : Room H lim ρ
  rd : ∀ l, rd = some l → ρ.dom l

theorem Hand.post {lim : Nat} {ρ ρ' : Rho} {a a' : Act} {w w' : World} {fr' : AFr} {H' : Heap} (ho : Ok C K base) (h : Hand C K base rd fr H lim ρ a w) (p : Post C.NG base ρ H H' w w' ρ') (hf : FrRel ρ' fr' a') : Hand C K base rd fr' H' lim ρ' a' w' :=
  ⟨p.rel, ho.keep _ _ h.k p.below, hf, p.room h.room, fun l hl => p.ext.dom l (h.rd l hl)⟩

theorem Hand.fence {lim : Nat} {ρ ρ' : Rho} {a a' : Act} {w w' : World} {H' : Heap} (h : Hand C K base rd fr H lim ρ a w) (p : Post C.NG base ρ H H' w w' ρ') : fenceOf ρ' rd = fenceOf ρ rd := fenceOf_ext p.ext h.rd

theorem SndSelf.go (hs : SndSelf C K base self) {loc : Loc} {c : Code} (hl : LocOk C loc c) (h : self loc rd c fr H = some r) {lim n : Nat} {ρ : Rho} {a : Act} {w : World} (hd : Hand C K base rd fr H lim ρ a w) (hlim : r.2.2.next < lim) :
    c.wpIn (fenceOf ρ rd) n C.P (Goal C base ρ H w r) a w := hs loc rd c fr H r hl h ρ a w lim n hd.rel hd.k hd.fr hd.room hlim hd.rd

theorem rounds_ok (ho : Ok C K base) (hs : SndSelf C K base self) (hsk : SelfKeep self) {loc : Loc} {c : Code} (hl : LocOk C loc c) {lim n : Nat} : ∀ (m : Nat) {fr : AFr} {H : Heap} {ρ : Rho} {a : Act} {w : World}, loopN (self loc rd c) m fr H = some r → Hand C K base rd fr H lim ρ a w → r.2.2.next < lim →
    Code.roundsIn (fenceOf ρ rd) n C.P c (Goal C base ρ H w r) m a w := by
  intro m
  induction m with
  | zero => intro fr H ρ a w h; cases h
  | succ m ih =>
    intro fr H ρ a w h hd hlim
    simp only [loopN] at h
    rw [roundsIn_succ]
    split at h
    · rename_i fr' H' h1
      have hk2 := keep_loopN (fun fr H r hw h => hsk _ _ _ _ _ _ hw h) m ((hsk _ _ _ _ _ _ hd.room.le h1).le hd.room.le) h
      refine wpIn_mono (hs.go hl h1 hd (Nat.lt_of_le_of_lt hk2.next hlim)) fun e a' w' g => ?_
      obtain ⟨he, ρ', hf, p⟩ := g
      subst he
      show Code.roundsIn (fenceOf ρ rd) n C.P c (Goal C base ρ H w r) m a' w'
      have := ih h (hd.post ho p hf) hlim
      rw [fenceOf_ext p.ext hd.rd] at this
      have mono : ∀ (m : Nat) (a : Act) (w0 : World) (Q Q' : Exit → Act → World → Prop), (∀ e a w, Q e a w → Q' e a w) → Code.roundsIn (fenceOf ρ rd) n C.P c Q m a w0 → Code.roundsIn (fenceOf ρ rd) n C.P c Q' m a w0 := by
        intro m
        induction m with
        | zero => intro _ _ _ _ _ h; exact h
        | succ m ih =>
          intro a w0 Q Q' hq h
          refine wpIn_mono h fun e a w hh => ?_
          cases e <;> first | exact ih _ _ _ _ hq hh | exact hq _ _ _ hh
      exact mono m _ _ _ _ (fun e a w g => g.after p) this
    · rename_i r' hne
      refine wpIn_mono (hs.go hl h hd hlim) fun e a' w' g => ?_
      obtain ⟨he, hrest⟩ := g
      obtain ⟨ex, fr', H'⟩ := r
      cases ex with
      | normal => exact absurd h (by intro h; exact hne fr' H' (by rw [h]))
      | ret => subst he; exact ⟨rfl, hrest⟩
      | exit id => subst he; exact ⟨rfl, hrest⟩

end

end Go.Sy

/- What the evaluator says of code holds of the machine: a range over a function; the whole. -/
namespace Go.Sy
set_option linter.unusedVariables false
set_option linter.unusedSimpArgs false
open Go Go.RowKit

section
variable {C : Cfg} {K : World → Prop} {base bound : Nat} {self : Self} {rd : Option Nat} {fr : AFr} {H : Heap} {r : AEx × AFr × Heap}

theorem acallF_enter {f : FuncId} {fn : Func} {c : Code} {args : List Value} {q : Value × Heap} (hfn : C.P.funcs[f]? = some fn) (hb : fn.body = some c) (h : acallF C self f args H = some q) (a : Array Value) (w : World) :
    (callFunc f a).run C.P w = .ok (.enter f a) w := by
  unfold acallF at h
  rw [hfn] at h
  simp only [hb] at h
  cases hn : (fn.name == "runtime.NumGoroutine") with
  | true => rw [hn] at h; cases h
  | false =>
    unfold callFunc
    simp only [program, Sem.run_bind, Sem.run, Result.andThen_ok, hfn, hn, Bool.false_eq_true, if_false, hb, Option.isNone_some]
    rfl

/-- A range over a function begins: where its deferred calls go. -/
theorem loopStart_ok {lim : Nat} {ρ : Rho} {a : Act} {w : World} {d : Nat} {H1 : Heap} {fr1 : AFr}
    (h : (match rd with
        | none => some (H.next, H.push .deferred, { fr with marks := H.next :: fr.marks })
        | some l => match look H l with
          | some (.loop _ _ _ _ _ _ _ d) => some (d, H, fr)
          | _ => none : Option (Nat × Heap × AFr)) = some (d, H1, fr1)) (hd : Hand C K base rd fr H lim ρ a w) (hlim : H.next < lim) :
    ∃ ρ1 w1 mark, Post C.NG base ρ H H1 w w1 ρ1 ∧ ρ1.dom d ∧ FrRel ρ1 fr1 { a with defers := mark ++ a.defers } ∧
      ∀ fn ps as bd, (Instr.enterLoop fn a.tmps ps as bd (fenceOf ρ rd).round).run C.P w = .ok (w1.heap.size, mark) (w1.alloc (.loop { state := .ready, pending := none, fn := fn, tmps := a.tmps, params := ps, assign := as, body := bd, defers := ρ1.blk d })) := by
  cases rd with
  | none =>
    simp only [Option.some.injEq, Prod.mk.injEq] at h
    obtain ⟨rfl, rfl, rfl⟩ := h
    have hp := Post.alloc (o := .deferred) (c := .deferred (some [])) hd.rel (hd.room.free H.next (Nat.le_refl _) hlim) 0 0 0 true (by
      show (w.alloc (.deferred (some []))).heap[(ρ.new H.next w.heap.size 0 0 0 true).blk H.next]? = _
      have : (ρ.new H.next w.heap.size 0 0 0 true).blk H.next = w.heap.size := if_pos rfl
      rw [this]
      exact heap_alloc_new w _)
    have hblk : (ρ.new H.next w.heap.size 0 0 0 true).blk H.next = w.heap.size := if_pos rfl
    refine ⟨_, _, [{ target := .collected w.heap.size, args := #[] }], hp, .inl rfl, ?_, fun fn ps as bd => ?_⟩
    · have hf := hd.fr.mono hp.ext
      refine ⟨hf.size, hf.small, hf.tmp, hf.out, ?_, ?_⟩
      · show _ :: a.defers = _
        rw [hf.defers, List.map_cons, hblk]
      · intro x hx
        rcases List.mem_cons.1 hx with hx | hx
        · subst hx; exact .inl rfl
        · exact hf.marks x hx
    · show (Instr.enterLoop fn a.tmps ps as bd none).run C.P w = _
      unfold Instr.enterLoop
      simp only [Sem.run_bind, run_newObj_alloc, Result.andThen_ok, Sem.run_pure, hblk]
  | some l =>
    simp only at h
    split at h
    · rename_i hl
      simp only [Option.some.injEq, Prod.mk.injEq] at h
      obtain ⟨rfl, rfl, rfl⟩ := h
      obtain ⟨lp, h0, _, _, _, _, _, h6, h7, _⟩ := hd.rel.obj l _ hl
      refine ⟨ρ, w, [], Post.refl hd.rel, h7, hd.fr, fun fn ps as bd => ?_⟩
      show (Instr.enterLoop fn a.tmps ps as bd (some (ρ.blk l))).run C.P w = _
      unfold Instr.enterLoop
      simp only [Sem.run_bind, run_getLoop h0, run_newObj_alloc, Result.andThen_ok, Sem.run_pure, h6]
    · cases h

theorem range_ok (ho : Ok C K base) (hs : SndSelf C K base self) (hsk : SelfKeep self) {f : Operand} {ps : Array Tmp} {as bd : Code} {loc : Loc} {bound : Nat} (h : step C self bound loc rd (.rangeFunc f ps as bd) fr H = some r) {lim n : Nat} {ρ : Rho} {a : Act} {w : World}
    (hd : Hand C K base rd fr H lim ρ a w) (hlim : r.2.2.next < lim) : (Code.rangeFunc f ps as bd).wpIn (fenceOf ρ rd) n C.P (Goal C base ρ H w r) a w := by
  have hkeep := keep_step (C := C) hsk (bound := bound) loc rd _ fr H r hd.room.le h
  simp only [step] at h
  split at h
  · rename_i fv hfv
    split at h
    · rename_i d H1 fr1 hst
      have hk1 : Keep H H1 := by
        split at hst
        · simp only [Option.some.injEq, Prod.mk.injEq] at hst; obtain ⟨_, rfl, _⟩ := hst; exact Keep.push _ _
        · split at hst
          · simp only [Option.some.injEq, Prod.mk.injEq] at hst; obtain ⟨_, rfl, _⟩ := hst; exact Keep.refl _
          · cases hst
      obtain ⟨ρ1, w1, mark, p1, hdd, hf1, henter⟩ := loopStart_ok hst hd (Nat.lt_of_le_of_lt hkeep.next hlim)
      split at h
      · rename_i v0 H2 hcall
        obtain ⟨hbod, hcall⟩ := cond_some hcall
        split at h
        · rename_i st p tr nn ps2 as2 bd2 d2 hl2
          split at h
          · cases h
          · rename_i hbusy
            obtain ⟨hm, h⟩ := cond_some h
            have hm' := Nat.le_of_ble_eq_true hm
            -- names
            have hkc := keep_call hsk ((hk1.trans (Keep.push H1 _)).le hd.room.le) hcall
            have hn2 : H2.next ≤ r.2.2.next := by
              clear hkeep
              split at h
              · simp only [Option.some.injEq] at h; subst h; exact Nat.le_refl _
              · have kput := fun o' => Keep.put (H := H2) (b := H1.next) _ o' hl2 hm'
                exact (hsk _ _ _ _ _ _ ((kput _).le ((hk1.trans (Keep.push H1 _)).trans hkc |>.le hd.room.le)) h).next
            have hn1 : H1.next < H2.next := Nat.lt_of_lt_of_le (Nat.lt_succ_self _) hkc.next
            have hd1 : Hand C K base rd fr1 H1 lim ρ1 { a with defers := mark ++ a.defers } w1 := hd.post ho p1 hf1
            have htr : FrRel ρ1 ⟨fr.tr, fr.n, []⟩ ⟨a.tmps, []⟩ := by
              have := hd.fr.mono p1.ext
              exact ⟨this.size, this.small, this.tmp, this.out, rfl, by simp⟩
            refine wpIn_rangeFunc fun fn _ => ?_
            -- the record
            have hnew : ¬ ρ1.dom H1.next := hd1.room.free H1.next (Nat.le_refl _) (by omega)
            have p2 := Post.alloc (o := .loop .ready none fr.tr fr.n ps as bd d)
              (c := .loop { state := .ready, pending := none, fn := fn, tmps := a.tmps, params := ps, assign := as, body := bd, defers := ρ1.blk d }) hd1.rel hnew 0 0 0 true (by
                have hb : (ρ1.new H1.next w1.heap.size 0 0 0 true).blk H1.next = w1.heap.size := if_pos rfl
                have e := Rho.ext_new hnew w1.heap.size 0 0 0 true
                refine ⟨{ state := .ready, pending := none, fn := fn, tmps := a.tmps, params := ps, assign := as, body := bd, defers := ρ1.blk d }, ?_, rfl, rfl, rfl, rfl, rfl, (e.blk d hdd).symm, e.dom d hdd, htr.mono e⟩
                rw [hb]; exact heap_alloc_new w1 _)
            have hd2 : Hand C K base rd fr1 _ lim _ { a with defers := mark ++ a.defers } _ := hd1.post ho p2 (hf1.mono p2.ext)
            have hblk : (ρ1.new H1.next w1.heap.size 0 0 0 true).blk H1.next = w1.heap.size := if_pos rfl
            have hdom : (ρ1.new H1.next w1.heap.size 0 0 0 true).dom H1.next := .inl rfl
            generalize ρ1.new H1.next w1.heap.size 0 0 0 true = ρ2 at p2 hd2 hblk hdom
            have p12 := p1.trans p2
            -- the call
            have hfv' : VR ρ2 fv (a.eval f) := (hd.fr.eval hd.rel.glob hfv).mono p12.ext
            have hy : VRs ρ2 [.func (.yield H1.next) #[] #[]] (#[Value.func (.yield w1.heap.size) #[] #[]]).toList := by
              refine VRs.cons ?_ (VRs.nil _)
              rw [← hblk]
              exact .func _ _ _ _ _ _ (.yield _ hdom) rfl (by simp) rfl (by simp)
            have hinv := acall_ok ho hs hsk hcall ρ2 _ lim (n - 1) _ _ hd2.rel hd2.k hfv' hy hd2.room (Nat.lt_of_le_of_lt hn2 hlim)
            generalize hfv2 : a.eval f = fv2 at hfv' hinv
            unfold bodied at hbod
            split at hbod
            · rename_i fid first cap _
              split at hbod
              · rename_i fnc hfnc
                obtain ⟨bodyc, hbodyc⟩ := Option.isSome_iff_exists.1 hbod
                cases hfv' with
                | func _ fn' _ first' _ cap' hfn hs1 hv1 hs2 hv2 =>
                  cases hfn with
                  | same =>
                    have henter2 := fun a w => acallF_enter hfnc hbodyc hcall a w
                    refine ⟨w1.heap.size, mark, w1.alloc (.loop { state := .ready, pending := none, fn := fn, tmps := a.tmps, params := ps, assign := as, body := bd, defers := ρ1.blk d }),
                      { target := .fn (.func fid) cap', args := first' ++ #[Value.func (.yield w1.heap.size) #[] #[]] }, w1.alloc (.loop { state := .ready, pending := none, fn := fn, tmps := a.tmps, params := ps, assign := as, body := bd, defers := ρ1.blk d }), fid,
                      (first' ++ #[Value.func (.yield w1.heap.size) #[] #[]]) ++ cap', _, henter fn ps as bd, ?_, fun _ _ => fenceOf_fn _ _ _, henter2 _ _, fun h => ?_, ?_⟩
                    · have e : Array.map a.eval #[Operand.const (Value.func (.yield w1.heap.size) #[] #[])] = #[Value.func (.yield w1.heap.size) #[] #[]] := by
                        rw [List.map_toArray]; rfl
                      simp only [resolve, hfv2, Deferred.ofValue, Sem.run_pure, e]
                    · cases rd <;> simp [fenceOf, Fence.wide, Fence.inRound] at h
                    · have hrun : (do let d ← Deferred.ofValue (.func (.func fid) first' cap') #[Value.func (.yield w1.heap.size) #[] #[]]; invoke d.target d.args : Sem Next).run C.P
                          (w1.alloc (.loop { state := .ready, pending := none, fn := fn, tmps := a.tmps, params := ps, assign := as, body := bd, defers := ρ1.blk d })) =
                          .ok (.enter fid ((first' ++ #[Value.func (.yield w1.heap.size) #[] #[]]) ++ cap')) (w1.alloc (.loop { state := .ready, pending := none, fn := fn, tmps := a.tmps, params := ps, assign := as, body := bd, defers := ρ1.blk d })) := by
                        simp only [Deferred.ofValue, Sem.run_bind, Sem.run_pure, Result.andThen_ok, invoke]
                        exact henter2 _ _
                      rw [hrun] at hinv
                      simp only [InvOk] at hinv
                      have hQ : CallsIn Fence.wide (n - 1) C.P fid ((first' ++ #[Value.func (.yield w1.heap.size) #[] #[]]) ++ cap') (w1.alloc (.loop { state := .ready, pending := none, fn := fn, tmps := a.tmps, params := ps, assign := as, body := bd, defers := ρ1.blk d }))
                          (rangePost (fenceOf ρ rd) n C.P w1.heap.size (Goal C base ρ H w r) { a with defers := mark ++ a.defers }) := by
                        refine CallsIn.mono hinv fun e w3 hh => ?_
                        obtain ⟨v', rfl, ρ3, _, p3⟩ := hh
                        have hb3 : ρ3.blk H1.next = w1.heap.size := (p3.ext.blk _ hdom).trans hblk
                        obtain ⟨lp, h0, hst2, hpend, p4⟩ := Post.putLoop (st' := .exhausted) (p' := p) p3.rel hl2 hm'
                        have hend : (Instr.endLoop w1.heap.size).run C.P w3 = .ok p { w3 with heap := w3.heap.setIfInBounds (ρ3.blk H1.next) (.loop { lp with state := .exhausted, pending := p }) } := by
                          rw [← hb3]
                          unfold Instr.endLoop
                          have hnb : (lp.state == LoopState.busy) = false := by
                            rw [hst2]
                            cases st <;> first | rfl | exact absurd rfl hbusy
                          simp only [Sem.run_bind, run_getLoop h0, Result.andThen_ok, hnb, Bool.false_eq_true, if_false, run_setLoop h0, Sem.run_pure, hpend]
                        have p34 := p3.trans p4
                        have hall := p12.trans p34
                        have hd3 : Hand C K base rd fr1 _ lim ρ3 { a with defers := mark ++ a.defers } _ := hd2.post ho p34 (hd2.fr.mono p34.ext)
                        refine ⟨p, _, hend, ?_⟩
                        cases p with
                        | none =>
                          simp only [Option.some.injEq] at h
                          subst h
                          exact ⟨rfl, ρ3, hd3.fr, hall⟩
                        | some c =>
                          simp only at h ⊢
                          have := hs.go (n := n) (loc := none) trivial h hd3 hlim
                          rw [fenceOf_ext hall.ext hd.rd] at this
                          exact wpIn_mono this fun e a' w' g => g.after hall
                      cases rd with
                      | none => exact hQ
                      | some l => exact hQ
              · cases hbod
            · cases hbod
        · cases h
      · cases h
    · cases h
  · cases h

theorem step_ok (ho : Ok C K base) (hs : SndSelf C K base self) (hsk : SelfKeep self) : SndSelf C K base (step C self bound) := by
  intro loc rd c fr H r hl h0 ρ a w lim n hrel hK hf hroom hlim hrd
  have hd : Hand C K base rd fr H lim ρ a w := ⟨hrel, hK, hf, hroom, hrd⟩
  show c.wpIn (fenceOf ρ rd) n C.P (Goal C base ρ H w r) a w
  have h := h0
  unfold step at h
  split at h
  · simp only [Option.some.injEq] at h; subst h
    exact wpIn_skip ⟨rfl, ρ, hf, Post.refl hrel⟩
  · simp only [Option.some.injEq] at h; subst h
    exact wpIn_ret ⟨rfl, ρ, hf, Post.refl hrel⟩
  · simp only [Option.some.injEq] at h; subst h
    exact wpIn_exit ⟨rfl, ρ, hf, Post.refl hrel⟩
  · -- seq
    refine wpIn_seq ?_
    split at h
    · rename_i fr' H' h1
      have hk1 := hsk _ _ _ _ _ _ hroom.le h1
      have hk2 := hsk _ _ _ _ _ _ (hk1.le hroom.le) h
      refine wpIn_mono (hs.go (hl.sub 0 (by decide) rfl) h1 hd (Nat.lt_of_le_of_lt hk2.next hlim)) fun e a' w' g => ?_
      obtain ⟨he, ρ', hf', p⟩ := g
      subst he
      have := hs.go (n := n) (hl.sub 1 (by decide) rfl) h (hd.post ho p hf') hlim
      rw [fenceOf_ext p.ext hrd] at this
      exact wpIn_mono this fun e a2 w2 g => g.after p
    · rename_i hne
      refine wpIn_mono (hs.go (hl.sub 0 (by decide) rfl) h hd hlim) fun e a' w' g => ?_
      obtain ⟨he, hrest⟩ := g
      obtain ⟨ex, fr', H'⟩ := r
      cases ex with
      | normal => exact absurd h (hne fr' H')
      | ret => subst he; exact ⟨rfl, hrest⟩
      | exit id => subst he; exact ⟨rfl, hrest⟩
  · -- cond
    split at h
    · rename_i u hx
      have hv := hf.eval hrel.glob hx
      generalize hz : a.eval _ = z at hv
      split at h
      · rename_i ht
        have := truth_vr hrel.glob ht hv
        subst this
        exact wpIn_cond hz (hs.go (hl.sub 0 (by decide) rfl) h hd hlim)
      · rename_i ht
        have := truth_vr hrel.glob ht hv
        subst this
        exact wpIn_cond hz (hs.go (hl.sub 1 (by decide) rfl) h hd hlim)
      · cases h
    · cases h
  · -- block
    rename_i id b
    refine wpIn_block ?_
    split at h
    · rename_i id' fr' H' h1
      have hlim1 : H'.next < lim := by
        revert h
        cases Nat.beq id' id <;> (intro h; simp only [cond_true, cond_false, Option.some.injEq] at h; subst h; exact hlim)
      refine wpIn_mono (hs.go (hl.sub 0 (by decide) rfl) h1 hd hlim1) fun e a' w' g => ?_
      obtain ⟨he, hrest⟩ := g
      subst he
      show if id' = id then _ else _
      cases hq : Nat.beq id' id with
      | true =>
        rw [hq] at h
        simp only [cond_true, Option.some.injEq] at h
        subst h
        rw [if_pos (Nat.eq_of_beq_eq_true hq)]
        exact ⟨rfl, hrest⟩
      | false =>
        rw [hq] at h
        simp only [cond_false, Option.some.injEq] at h
        subst h
        rw [if_neg (Nat.ne_of_beq_eq_false hq)]
        exact ⟨rfl, hrest⟩
    · rename_i hne
      refine wpIn_mono (hs.go (hl.sub 0 (by decide) rfl) h hd hlim) fun e a' w' g => ?_
      obtain ⟨he, hrest⟩ := g
      obtain ⟨ex, fr', H'⟩ := r
      cases ex with
      | normal => subst he; exact ⟨rfl, hrest⟩
      | ret => subst he; exact ⟨rfl, hrest⟩
      | exit id => exact absurd h (hne id fr' H')
  · -- loop
    split at h
    · rename_i q hq
      simp only [Option.some.injEq] at h
      subst h
      unfold aloop at hq
      split at hq
      · exact ho.lorc _ _ _ _ _ _ hl hq ρ a w lim n hrel hK hf hroom hlim hrd
      · cases hq
    · exact wpIn_loop_rounds bound (rounds_ok ho hs hsk (hl.sub 0 (by decide) rfl) bound h hd hlim)
  · -- a region in the text's order
    split at h
    · rename_i fr' H' h1
      simp only [Option.some.injEq] at h
      subst h
      exact wpIn_region_list (aops_ok ho hs hsk h1 hrel hK hf hroom hlim fun ρ' a' w' h2 h3 => ⟨rfl, ρ', h2, h3⟩)
    · cases h
  · -- a region whose order is open
    split at h
    · rename_i r1 h1
      simp only [Option.some.injEq] at h
      subst h
      have p0 := Post.drew hrel
      unfold aopen at h1
      split at h1
      · rename_i bs hb
        obtain ⟨hap, h1⟩ := cond_some h1
        exact wpIn_region_any ho.mixed (adraw_ok ho hs hsk hb hap (fun ht => by
          simp only [Bool.and_eq_true, Option.isNone_iff_eq_none] at ht
          exact ⟨ht.1.1, ht.1.2, ht.2⟩) (fun c a w h => by cases h.1) h1 p0.rel (ho.keep _ _ hK p0.below) hf hroom hlim fun ρ' a' w' h2 h3 => ⟨rfl, ρ', h2, p0.trans h3⟩)
      · cases h1
    · split at h
      · rename_i r1 h1
        simp only [Option.some.injEq] at h
        subst h
        have p0 := Post.drew hrel
        exact wpIn_region_any ho.mixed (aany_ok ho hs hsk h1 p0.rel (ho.keep _ _ hK p0.below) hf hroom hlim fun ρ' a' w' h2 h3 => ⟨rfl, ρ', h2, p0.trans h3⟩)
      · cases h
  · exact range_ok ho hs hsk h0 hd hlim
  · cases h

theorem ev_ok (ho : Ok C K base) : ∀ n, SndSelf C K base (ev C n)
  | 0 => fun _ _ _ _ _ _ _ h => by cases h
  | n + 1 => step_ok ho (ev_ok ho n) (keep_ev C n)

end

end Go.Sy

/- A run of the evaluator is a contract. -/
namespace Go.Sy
set_option linter.unusedVariables false
set_option linter.unusedSimpArgs false
open Go Go.RowKit

/-- A package-level variable as it is given: its number, its block's type, its cells. -/
abbrev Gv := Nat × TypeId × List Value

def heapOf (NG : Nat) : List Gv → Heap
  | [] => { next := NG, wmin := NG, tab := .nil, grp := .nil, hide := [] }
  | (g, t, cs) :: r => { heapOf NG r with tab := (heapOf NG r).tab.set g (.cells cs t true 1 g false), grp := (heapOf NG r).grp.set g [g] }

def rhoOf (w : World) (NG : Nat) (E : Env) : Rho where
  dom b := b < NG
  blk b := b
  off _ := 0
  tot b := match w.heap[b]? with
    | some (.cells cs _ _) => cs.size
    | _ => 0
  esz _ := 1
  rig _ := true
  hval _ := .slice none 0 0
  env := E

def GvOk (w : World) (x : Gv) : Prop := ∃ fr, w.heap[x.1]? = some (.cells x.2.2.toArray x.2.1 fr)

def Kof (l : List Gv) (X : Nat → World → Prop) (base : Nat) (w : World) : Prop := (∀ x ∈ l, x.1 < base ∧ GvOk w x) ∧ X base w

theorem Kof.keep {l : List Gv} {X : Nat → World → Prop} {base : Nat} (hX : ∀ base w w', X base w → Below base w w' → X base w') (w w' : World) (h : Kof l X base w) (hb : Below base w w') : Kof l X base w' := by
  refine ⟨fun x hx => ?_, hX base w w' h.2 hb⟩
  obtain ⟨h1, fr, h2⟩ := h.1 x hx
  exact ⟨h1, fr, by rw [hb.block x.1 h1]; exact h2⟩

theorem heapOf_plain (NG : Nat) : ∀ l : List Gv, (heapOf NG l).next = NG ∧ (heapOf NG l).wmin = NG ∧ (heapOf NG l).hide = []
  | [] => ⟨rfl, rfl, rfl⟩
  | (_, _, _) :: r => heapOf_plain NG r

theorem heapOf_look (NG : Nat) : ∀ {l : List Gv} {b : Nat} {o : AObj}, (heapOf NG l).tab.get b = some o → ∃ t cs, (b, t, cs) ∈ l ∧ o = .cells cs t true 1 b false := by
  intro l
  induction l with
  | nil => intro b o h; cases b <;> cases h
  | cons x r ih =>
    obtain ⟨g, t, cs⟩ := x
    intro b o h
    have h' : ((heapOf NG r).tab.set g (.cells cs t true 1 g false)).get b = some o := h
    rw [HT.get_set] at h'
    by_cases hb : b = g
    · subst hb
      rw [if_pos rfl] at h'
      cases h'
      exact ⟨t, cs, List.mem_cons_self, rfl⟩
    · rw [if_neg hb] at h'
      obtain ⟨t', cs', h1, h2⟩ := ih h'
      exact ⟨t', cs', List.mem_cons_of_mem _ h1, h2⟩

theorem rel_start {NG : Knw} {E : Env} (hE : FactsOk E NG.facts) (hF : E.fns = NG.fns) (hR : E.rows = NG.rows) (hV : RowsV NG) {base : Nat} {l : List Gv} {w : World} (hl : ∀ x ∈ l, x.1 < NG.n ∧ x.2.2.all (flat 40) = true) (hw : ∀ x ∈ l, GvOk w x) (hp : 0 < base) (hb : base ≤ w.heap.size) : Rel NG base (rhoOf w NG.n E) (heapOf NG.n l) w := by
  obtain ⟨hn, hm, hh⟩ := heapOf_plain NG.n l
  have key : ∀ b o, look (heapOf NG.n l) b = some o → ∃ t cs, (b, t, cs) ∈ l ∧ o = .cells cs t true 1 b false := fun b o h => heapOf_look NG.n (look_some h).2.1
  refine ⟨⟨fun _ h => h, fun _ _ => rfl, fun _ _ => rfl, hE, hF, hR, hV⟩, by rw [hh]; simp, ?_, ?_, ?_, ?_, ?_, hb, hp⟩
  · intro b o h
    obtain ⟨t, cs, h1, _⟩ := key b o h
    rw [hn]; exact (hl _ h1).1
  · intro b o h
    obtain ⟨t, cs, h1, _⟩ := key b o h
    exact (hl _ h1).1
  · intro b o h
    obtain ⟨t, cs, h1, rfl⟩ := key b o h
    obtain ⟨fr, h2⟩ := hw _ h1
    simp only at h2
    refine ⟨cs.toArray, fr, h2, ?_, rfl, rfl, by simp [rhoOf], fun _ => ⟨rfl, by simp⟩, fun i v hi => ⟨v, by simpa [rhoOf] using hi, ?_⟩, fun h => by cases h⟩
    · simp only [rhoOf, h2]
    · exact flat_refl _ 40 v (List.all_eq_true.1 (hl _ h1).2 v (List.mem_of_getElem? hi))
  · intro b o h hwr
    obtain ⟨t, cs, _, rfl⟩ := key b o h
    cases hwr
  · intro b b' o o' h _ _ hwr
    obtain ⟨t, cs, _, rfl⟩ := key b o h
    cases hwr

/-- What is asked of a configuration. -/
structure Good (C : Cfg) (l : List Gv) (X : Nat → World → Prop) : Prop where
  keepX : ∀ base w w', X base w → Below base w w' → X base w'
  pos : ∀ base w, X base w → 0 < w.heap.size
  mixed : C.P.follows .mixedOrders = true
  vars : ∀ x ∈ l, x.1 < C.NG.n ∧ x.2.2.all (flat 40) = true
  orc : ∀ f args v, C.orc f args = some v → ∀ ρ (args' : Array Value) w base, Glob C.NG ρ → VRs ρ args args'.toList → (∀ x ∈ l, GvOk w x) → X base w → base ≤ w.heap.size →
    Calls C.P f args' w fun e w' => ∃ v', e = .returned v' ∧ VR ρ v v' ∧ Below w.heap.size w w'
  orcG : ∀ f args H r, C.orcG f args H = some r → ∀ base, SndFn C (Kof l X base) base f args H r
  ext : ∀ f args v, C.ext f args = some v → args.all (flat 40) = true ∧ flat 40 v = true ∧ ∀ w, (callFunc f args.toArray).run C.P w = .ok (.value v) w
  rowv : RowsV C.NG
  rows : ∀ w base, X base w → ∀ r ∈ C.NG.rowS, RowIn C.NG.rows base w r
  lorc : ∀ base f p fr H r c, LocOk C (some (f, p)) (.loop c) → C.lorc f p fr H = some r → SndCode C (Kof l X base) base none (.loop c) fr H r

theorem orc_flat {P : Program} {f : FuncId} {args : List Value} {v : Value} (h1 : args.all (flat 40) = true) (h2 : flat 40 v = true) {w : World} (h : Calls P f args.toArray w fun e w' => e = .returned v ∧ Below w.heap.size w w')
    {ρ : Rho} {args' : Array Value} (hv : VRs ρ args args'.toList) : Calls P f args' w fun e w' => ∃ v', e = .returned v' ∧ VR ρ v v' ∧ Below w.heap.size w w' := by
  have := flats_eq h1 hv
  have ea : args' = args.toArray := by apply Array.ext'; simpa using this
  subst ea
  exact h.mono fun e w' ⟨he, hb⟩ => ⟨v, he, flat_refl ρ 40 v h2, hb⟩

theorem Good.ok {C : Cfg} {l : List Gv} {X : Nat → World → Prop} (h : Good C l X) (base : Nat) : Ok C (Kof l X base) base :=
  ⟨h.mixed, fun w w' => Kof.keep h.keepX w w', fun f args v hv ρ args' w g hvs hw hb => h.orc f args v hv ρ args' w base g hvs (fun x hx => (hw.1 x hx).2) hw.2 hb,
   fun f args H r hr => h.orcG f args H r hr base, fun w hw => h.rows w base hw.2, fun f p fr H r c hl hr => h.lorc base f p fr H r c hl hr, fun f args v hv => let ⟨h1, h2, h3⟩ := h.ext f args v hv; ⟨h1, h2, fun w _ => h3 w⟩⟩

def arun (C : Cfg) (n : Nat) (f : FuncId) (args : List Value) (H : Heap) : Option (Value × Heap) :=
  match C.P.funcs[f]? with
  | some fn => match fn.body with
    | some c => abody C (ev C n) f fn c args H
    | none => none
  | none => none

/-- What a run comes to, the heap behind it told. -/
theorem run_sym {C : Cfg} {l : List Gv} {X : Nat → World → Prop} (hg : Good C l X) {E : Env} (hE : FactsOk E C.NG.facts) (hF : E.fns = C.NG.fns) (hR : E.rows = C.NG.rows) {n : Nat} {f : FuncId} {args : List Value} {v : Value} {H' : Heap} (h : arun C n f args (heapOf C.NG.n l) = some (v, H')) {args' : Array Value}
    (ha : ∀ ρ : Rho, ρ.env = E → VRs ρ args args'.toList) {w : World} (hw : ∀ x ∈ l, GvOk w x) (hX : X w.heap.size w) :
    Calls C.P f args' w fun e w' => ∃ v', e = .returned v' ∧ ∃ ρ', ρ'.env = E ∧ VR ρ' v v' ∧ Post C.NG w.heap.size (rhoOf w C.NG.n E) (heapOf C.NG.n l) H' w w' ρ' := by
  unfold arun at h
  split at h
  · rename_i fn hfn
    split at h
    · rename_i c hb
      have hK : Kof l X w.heap.size w := ⟨fun x hx => ⟨by obtain ⟨fr, h1⟩ := hw x hx; exact (Array.getElem?_eq_some_iff.1 h1).1, hw x hx⟩, hX⟩
      have hrel := rel_start (base := w.heap.size) hE hF hR hg.rowv hg.vars hw (hg.pos _ w hX) (Nat.le_refl _)
      obtain ⟨hn, hm, _⟩ := heapOf_plain C.NG.n l
      have := abody_ok (ev_ok (hg.ok w.heap.size) n) hfn hb h (rhoOf w C.NG.n E) w (H'.next + 1) 0 args' hrel hK (ha _ rfl) ⟨fun b h1 _ h2 => by
        rw [hn] at h1
        have h2' : b < C.NG.n := h2
        omega, by rw [hn, hm]; exact Nat.le_refl _⟩ (Nat.lt_succ_self _)
      exact (callsIn_wide.1 this).mono fun e w' ⟨v', he, ρ', h1, h2⟩ => ⟨v', he, ρ', by rw [h2.ext.env]; rfl, h1, h2⟩
    · cases h
  · cases h

theorem flat_args {args : List Value} (ha : args.all (flat 40) = true) (ρ : Rho) : VRs ρ args args.toArray.toList := by
  refine ⟨by simp, fun i x y hx hy => ?_⟩
  have hxy : x = y := Option.some.inj (hx.symm.trans (by simpa using hy))
  subst hxy
  exact flat_refl _ 40 x (List.all_eq_true.1 ha x (List.mem_of_getElem? hx))

/-- The value a run comes to, reckoned. -/
theorem run_den {C : Cfg} {l : List Gv} {X : Nat → World → Prop} (hg : Good C l X) {E : Env} (hE : FactsOk E C.NG.facts) (hF : E.fns = C.NG.fns) (hR : E.rows = C.NG.rows) {n : Nat} {f : FuncId} {args : List Value} {v u : Value} {H' : Heap} (h : arun C n f args (heapOf C.NG.n l) = some (v, H')) {args' : Array Value}
    (ha : ∀ ρ : Rho, ρ.env = E → VRs ρ args args'.toList) (hu : den E 40 v = some u) {w : World} (hw : ∀ x ∈ l, GvOk w x) (hX : X w.heap.size w) :
    Calls C.P f args' w fun e w' => e = .returned u ∧ Below w.heap.size w w' :=
  (run_sym hg hE hF hR h ha hw hX).mono fun e w' ⟨v', he, ρ', h0, h1, h2⟩ => ⟨by rw [he, den_vr 40 (h0 ▸ hu) h1], h2.below⟩

def fns0 : Fns := ⟨fun _ _ => 0, fun _ _ => false, fun _ _ => ⟨#[]⟩, fun _ _ => .bool false, fun _ _ => []⟩
def rows0 : RowE := ⟨fun _ => .slice none 0 0, fun _ => []⟩
def env0 (F : Fns) (R : RowE) : Env := ⟨fun _ => 0, fun _ => false, fun _ => ⟨#[]⟩, fun _ => .bool false, F, R⟩

theorem run_flat {C : Cfg} {l : List Gv} {X : Nat → World → Prop} (hg : Good C l X) (hF : C.NG.facts = []) {n : Nat} {f : FuncId} {args : List Value} {v : Value} {H' : Heap} (h : arun C n f args (heapOf C.NG.n l) = some (v, H')) (ha : args.all (flat 40) = true) (hv : flat 40 v = true) {w : World} (hw : ∀ x ∈ l, GvOk w x) (hX : X w.heap.size w) :
    Calls C.P f args.toArray w fun e w' => e = .returned v ∧ Below w.heap.size w w' :=
  (run_sym hg (E := env0 C.NG.fns C.NG.rows) (by rw [hF]; intro p hp; cases hp) rfl rfl h (fun ρ _ => flat_args ha ρ) hw hX).mono fun e w' ⟨v', he, ρ', _, h1, h2⟩ => ⟨by rw [he, flat_eq h1 40 hv], h2.below⟩

def okT : Option (Value × Heap) → Bool
  | some (.bool true, _) => true
  | _ => false

theorem okT_spec {r : Option (Value × Heap)} (h : okT r = true) : ∃ H', r = some (.bool true, H') := by
  unfold okT at h
  split at h
  · exact ⟨_, rfl⟩
  · cases h

theorem run_true {C : Cfg} {l : List Gv} {X : Nat → World → Prop} (hg : Good C l X) (hF : C.NG.facts = []) {n : Nat} {f : FuncId} {args : List Value} (h : okT (arun C n f args (heapOf C.NG.n l)) = true) (ha : args.all (flat 40) = true) {w : World} (hw : ∀ x ∈ l, GvOk w x) (hX : X w.heap.size w) :
    Calls C.P f args.toArray w fun e w' => e = .returned (.bool true) ∧ Below w.heap.size w w' := by
  obtain ⟨H', h'⟩ := okT_spec h
  exact run_flat hg hF h' ha rfl hw hX

end Go.Sy

/- A run of the evaluator along a tree of decisions is a contract. -/
namespace Go.Sy
set_option linter.unusedVariables false
set_option linter.unusedSimpArgs false
open Go Go.RowKit

/-- Decisions, and what is handed back at their end. 'need': what is taken as known. -/
inductive Tree where
  | leaf (v : Value)
  | node (e : Value) (t f : Tree)
  | need (e : Value) (b : Bool) (t : Tree)

/-- What the tree hands back. -/
def Tree.val (E : Env) : Tree → Option Value
  | .leaf v => den E 40 v
  | .node e t f => match den E 40 e with
    | some (.bool b) => if b then t.val E else f.val E
    | _ => none
  | .need e b t => match den E 40 e with
    | some (.bool c) => if c = b then t.val E else none
    | _ => none

/-- The leaf at which an environment ends: what is known there. -/
inductive Tree.At (E : Env) : Tree → List (Value × Bool) → List (Value × Bool) → Value → Prop
  | leaf (v F) : Tree.At E (.leaf v) F F v
  | nodeT (e t f F G v) : den E 40 e = some (.bool true) → Tree.At E t ((e, true) :: F) G v → Tree.At E (.node e t f) F G v
  | nodeF (e t f F G v) : den E 40 e = some (.bool false) → Tree.At E f ((e, false) :: F) G v → Tree.At E (.node e t f) F G v
  | need (e b t F G v) : den E 40 e = some (.bool b) → Tree.At E t ((e, b) :: F) G v → Tree.At E (.need e b t) F G v

theorem Tree.at_of_val {E : Env} : ∀ {T : Tree} {u : Value} (F : List (Value × Bool)), T.val E = some u → FactsOk E F → ∃ G v, T.At E F G v ∧ FactsOk E G ∧ den E 40 v = some u := by
  intro T
  induction T with
  | leaf v => intro u F h hF; exact ⟨F, v, .leaf _ _, hF, h⟩
  | node e t f iht ihf =>
    intro u F h hF
    simp only [Tree.val] at h
    split at h
    · rename_i b he
      cases b with
      | true =>
        simp only [if_true] at h
        obtain ⟨G, v, h1, h2, h3⟩ := iht ((e, true) :: F) h (by intro p hp; rcases List.mem_cons.1 hp with rfl | hp; · exact he
                                                                · exact hF p hp)
        exact ⟨G, v, .nodeT _ _ _ _ _ _ he h1, h2, h3⟩
      | false =>
        simp only [Bool.false_eq_true, if_false] at h
        obtain ⟨G, v, h1, h2, h3⟩ := ihf ((e, false) :: F) h (by intro p hp; rcases List.mem_cons.1 hp with rfl | hp; · exact he
                                                                 · exact hF p hp)
        exact ⟨G, v, .nodeF _ _ _ _ _ _ he h1, h2, h3⟩
    · cases h
  | need e b t ih =>
    intro u F h hF
    simp only [Tree.val] at h
    split at h
    · rename_i c he
      split at h
      · rename_i hc
        subst hc
        obtain ⟨G, v, h1, h2, h3⟩ := ih ((e, c) :: F) h (by intro p hp; rcases List.mem_cons.1 hp with rfl | hp; · exact he
                                                            · exact hF p hp)
        exact ⟨G, v, .need _ _ _ _ _ _ he h1, h2, h3⟩
      · cases h
    · cases h

/-- Does a run that is told what is known come to what the tree says? -/
def vSame : Nat → Value → Value → Bool
  | 0, _, _ => false
  | n + 1, a, b => match a, b with
    | .tuple x, .tuple y => Nat.beq x.toList.length y.toList.length && (x.toList.zip y.toList).all fun p => vSame n p.1 p.2
    | .agg x, .agg y => Nat.beq x.toList.length y.toList.length && (x.toList.zip y.toList).all fun p => vSame n p.1 p.2
    | a, b => vEq 40 a b

def Tree.ok (run : List (Value × Bool) → Option Value) : Tree → List (Value × Bool) → Bool
  | .leaf v, F => match run F with
    | some u => vSame 40 u v
    | none => false
  | .node e t f, F => t.ok run ((e, true) :: F) && f.ok run ((e, false) :: F)
  | .need e b t, F => t.ok run ((e, b) :: F)

theorem Tree.ok_at {E : Env} {run : List (Value × Bool) → Option Value} : ∀ {T : Tree} {F G : List (Value × Bool)} {v : Value}, T.ok run F = true → T.At E F G v → ∃ u, run G = some u ∧ vSame 40 u v = true := by
  intro T
  induction T with
  | leaf w =>
    intro F G v h ha
    cases ha
    simp only [Tree.ok] at h
    split at h
    · rename_i u hu; exact ⟨u, hu, h⟩
    · cases h
  | node e t f iht ihf =>
    intro F G v h ha
    simp only [Tree.ok, Bool.and_eq_true] at h
    cases ha with
    | nodeT _ _ _ _ _ _ _ h2 => exact iht h.1 h2
    | nodeF _ _ _ _ _ _ _ h2 => exact ihf h.2 h2
  | need e b t ih =>
    intro F G v h ha
    simp only [Tree.ok] at h
    cases ha with
    | need _ _ _ _ _ _ _ h2 => exact ih h h2

theorem vSame_den {E : Env} : ∀ n {a b : Value}, vSame n a b = true → ∀ m, den E m a = den E m b := by
  intro n
  induction n with
  | zero => intro a b h; simp [vSame] at h
  | succ n ih =>
    intro a b h m
    cases m with
    | zero => rfl
    | succ m =>
      unfold vSame at h
      split at h
      · rename_i x y
        simp only [Bool.and_eq_true] at h
        obtain ⟨hl, hk⟩ := h
        simp only [den]
        rw [denL_congr (f := den E m) (g := den E m) (Nat.eq_of_beq_eq_true hl) fun p hp => ih (List.all_eq_true.1 hk p hp) m]
      · rename_i x y
        simp only [Bool.and_eq_true] at h
        obtain ⟨hl, hk⟩ := h
        simp only [den]
        rw [denL_congr (f := den E m) (g := den E m) (Nat.eq_of_beq_eq_true hl) fun p hp => ih (List.all_eq_true.1 hk p hp) m]
      · exact vEq_den 40 h (m + 1)

/-- What a function hands back, its decisions told by a tree. -/
theorem run_tree {P : Program} {FN : Fns} {rS : List (Nat × List Srt)} {R : RowE} {N : Nat} {C : List (Value × Bool) → Cfg} (hP : ∀ F, (C F).P = P) (hS : ∀ F, (C F).NG = ⟨N, F, FN, rS, R⟩) {l : List Gv} {X : Nat → World → Prop} (hg : ∀ F, Good (C F) l X) {n : Nat} {f : FuncId} {args : List Value}
    {T : Tree} {F0 : List (Value × Bool)} (h : T.ok (fun F => (arun (C F) n f args (heapOf N l)).map (·.1)) F0 = true) {E : Env} (hE : FactsOk E F0) (hF : E.fns = FN) (hR : E.rows = R) {u : Value} (hu : T.val E = some u) {args' : Array Value}
    (ha : ∀ ρ : Rho, ρ.env = E → VRs ρ args args'.toList) {w : World} (hw : ∀ x ∈ l, GvOk w x) (hX : X w.heap.size w) :
    Calls P f args' w fun e w' => e = .returned u ∧ Below w.heap.size w w' := by
  obtain ⟨G, v, h1, h2, h3⟩ := Tree.at_of_val F0 hu hE
  obtain ⟨x, hx, hs⟩ := Tree.ok_at h h1
  cases hr : arun (C G) n f args (heapOf N l) with
  | none => rw [hr] at hx; cases hx
  | some r =>
    rw [hr] at hx
    simp only [Option.map_some, Option.some.injEq] at hx
    subst hx
    have hr' : arun (C G) n f args (heapOf (C G).NG.n l) = some (r.1, r.2) := by rw [hS]; exact hr
    have := run_den (hg G) (by rw [hS]; exact h2) (by rw [hS]; exact hF) (by rw [hS]; exact hR) hr' ha (by rw [vSame_den 40 hs]; exact h3) hw hX
    rwa [hP] at this

/-! ### Contracts -/

def sortsOk : List (Option Srt) → List Value → Bool
  | [], [] => true
  | none :: r, _ :: l => sortsOk r l
  | some s :: r, x :: l => decide (sortOf x = some s) && sortsOk r l
  | _, _ => false

/-- Is it known? -/
def holds (S : Knw) (p : Value × Bool) : Bool :=
  match p.1 with
  | .func (.methodOf 31 _) ⟨[.int _ m, .int _ n]⟩ _ => decide (m < n) == p.2
  | e => match truth S e with
    | some b => b == p.2
    | none => false

theorem holds_vr {S : Knw} {ρ : Rho} (g : Glob S ρ) {e : Value} {b : Bool} {v : Value} (h : holds S (e, b) = true) (hv : VR ρ e v) : v = .bool b := by
  unfold holds at h
  simp only at h
  split at h
  · rename_i nm k m k' n c
    obtain ⟨vs, hvs, h3⟩ := hv.sym_invL
    obtain ⟨x0, l0, rfl, a0, r0⟩ := hvs.cons_inv
    obtain ⟨x1, l1, rfl, a1, r1⟩ := r0.cons_inv
    have := r1.nil_inv
    subst this
    cases a0
    cases a1
    simp only [interp] at h3
    obtain ⟨_, rfl⟩ := cond_none h3
    simp only [beq_iff_eq] at h
    rw [h]
  · split at h
    · rename_i q hq
      have := truth_vr g hq hv
      simp only [beq_iff_eq] at h
      rw [this, h]
    · cases h

theorem holds_lt {S : Knw} {ρ : Rho} (g : Glob S ρ) {a c : Value} {k : IntKind} {m n : Int} {b : Bool} (h : holds S (sv 31 [a, c], b) = true) (ha : VR ρ a (.int k m)) (hc : VR ρ c (.int k n)) : decide (m < n) = b := by
  have e31 : interp ρ.env 31 [.int k m, .int k n] = some (.bool (decide (m < n))) := by simp [interp]
  have := holds_vr g h (sv_vr (vr2 ha hc) e31)
  simpa using this

end Go.Sy

/- What reckoned values are: rules for simp. -/
namespace Go.Sy
set_option linter.unusedVariables false
set_option linter.unusedSimpArgs false
open Go Go.RowKit

/-- An environment by lists. -/
def mkE (F : Fns) (R : RowE) (is : List Int) (bs : List Bool) (ss : List ByteArray) (vs : Nat → Value) : Env where
  int i := is.getD i 0
  bool i := bs.getD i false
  str i := ss.getD i ⟨#[]⟩
  val := vs
  fns := F
  rows := R

theorem mk_int {F R is bs ss vs} (i : Nat) : (mkE F R is bs ss vs).int i = is.getD i 0 := rfl
theorem mk_bool {F R is bs ss vs} (i : Nat) : (mkE F R is bs ss vs).bool i = bs.getD i false := rfl
theorem mk_str {F R is bs ss vs} (i : Nat) : (mkE F R is bs ss vs).str i = ss.getD i ⟨#[]⟩ := rfl
theorem mk_fns {F R is bs ss vs} : (mkE F R is bs ss vs).fns = F := rfl
theorem getD_z {α : Type} (a : α) (l d) : (a :: l).getD 0 d = a := rfl
theorem getD_s {α : Type} (a : α) (l d) (n : Nat) : (a :: l).getD (n + 1) d = l.getD n d := rfl

section
variable {E : Env} {n : Nat}
theorem den_i (k m) : den E (n + 1) (.int k m) = some (.int k m) := rfl
theorem den_b (b) : den E (n + 1) (.bool b) = some (.bool b) := rfl
theorem den_s (s) : den E (n + 1) (.string s) = some (.string s) := rfl
theorem den_sv (t ks) : den E (n + 1) (sv t ks) = (denL (den E n) ks).bind (interp E t) := by
  simp only [den, sv]
  cases denL (den E n) ks <;> rfl
theorem den_t (cs : Array Value) : den E (n + 1) (.tuple cs) = (denL (den E n) cs.toList).bind fun vs => some (.tuple vs.toArray) := by
  simp only [den]
  cases denL (den E n) cs.toList <;> rfl
theorem den_ag (cs : Array Value) : den E (n + 1) (.agg cs) = (denL (den E n) cs.toList).bind fun vs => some (.agg vs.toArray) := by
  simp only [den]
  cases denL (den E n) cs.toList <;> rfl
theorem denL_nil (f : Value → Option Value) : denL f [] = some [] := rfl
theorem denL_cons (f : Value → Option Value) (x r) : denL f (x :: r) = (f x).bind fun v => (denL f r).bind fun l => some (v :: l) := by
  simp only [denL]
  cases f x <;> cases denL f r <;> rfl

theorem i0 (k i) : interp E 0 [.int k i] = some (.int k (E.int i.toNat)) := rfl
theorem i1 (k i) : interp E 1 [.int k i] = some (.bool (E.bool i.toNat)) := rfl
theorem i2 (k i) : interp E 2 [.int k i] = some (.string (E.str i.toNat)) := rfl
theorem i4 (k i r) : interp E 4 (.int k i :: r) = some (.int k (E.fns.int i.toNat r)) := rfl
theorem i5 (k i r) : interp E 5 (.int k i :: r) = some (.bool (E.fns.bool i.toNat r)) := rfl
theorem i6 (k i r) : interp E 6 (.int k i :: r) = some (.string (E.fns.str i.toNat r)) := rfl
theorem i8 (b) : interp E 8 [.bool b] = some (.bool (!b)) := rfl
theorem i10 (s : ByteArray) : interp E 10 [.string s] = some (.int .i64 s.size) := by simp [interp]
theorem i12 {s : ByteArray} {m : Nat} {b : UInt8} (k : IntKind) (h : s.data.toList[m]? = some b) : interp E 12 [.string s, .int k (m : Nat)] = some (.int .u8 b.toNat) := by
  show (match s.data.toList[m]? with | some b => some (Value.int .u8 b.toNat) | none => none) = _
  rw [h]
theorem i13 {s : ByteArray} {l h : Nat} (k k' : IntKind) (h1 : l ≤ h) (h2 : h ≤ s.size) : interp E 13 [.string s, .int k (l : Nat), .int k' (h : Nat)] = some (.string (bext s l h)) := by
  show (cond (Nat.ble l h && Nat.ble h s.data.toList.length) (some (Value.string (bext s l h))) none) = _
  rw [Nat.ble_eq_true_of_le h1, Nat.ble_eq_true_of_le (by simpa using h2)]; rfl
theorem i13z {s : ByteArray} {h : Nat} (k k' : IntKind) (h2 : h ≤ s.size) : interp E 13 [.string s, .int k 0, .int k' (h : Nat)] = some (.string (bext s 0 h)) := i13 (l := 0) k k' (Nat.zero_le _) h2
theorem bext_size {s : ByteArray} {l h : Nat} (h2 : h ≤ s.size) : (bext s l h).size = h - l := by
  show (((s.data.toList.drop l).take (h - l)).toArray).size = _
  simp; omega
theorem i14 (k x k' m) : interp E 14 [.int k x, .int k' m] = some (.int k (k.wrap m)) := rfl
theorem i15 (k x m) : interp E 15 [.int k x, .int k m] = some (.int k (k.wrap (-m))) := by simp [interp]
theorem i17 (k x m l) : interp E 17 [.int k x, .int k m, .int k l] = some (.int k (if l < m then l else m)) := by simp [interp]
theorem i18 (k x m l) : interp E 18 [.int k x, .int k m, .int k l] = some (.int k (if l > m then l else m)) := by simp [interp]
theorem i20 (k x m l) : interp E 20 [.int k x, .int k m, .int k l] = some (.int k (k.wrap (m + l))) := by simp [interp, iOp, aintop]
theorem i21 (k x m l) : interp E 21 [.int k x, .int k m, .int k l] = some (.int k (k.wrap (m - l))) := by simp [interp, iOp, aintop]
theorem i22 (k x m l) : interp E 22 [.int k x, .int k m, .int k l] = some (.int k (k.wrap (m * l))) := by simp [interp, iOp, aintop]
theorem i23 (k x m l) : interp E 23 [.int k x, .int k m, .int k l] = if l = 0 then none else some (.int k (k.wrap (m.tdiv l))) := by simp [interp, iOp, aintop]
theorem i24 (k x m l) : interp E 24 [.int k x, .int k m, .int k l] = if l = 0 then none else some (.int k (m.tmod l)) := by simp [interp, iOp, aintop]
theorem i30 (k m l) : interp E 30 [.int k m, .int k l] = some (.bool (decide (m = l))) := by simp [interp, Bool.beq_eq_decide_eq]
theorem i30s (s u : ByteArray) : interp E 30 [.string s, .string u] = some (.bool (decide (s = u))) := by
  simp only [interp, Option.some.injEq, Value.bool.injEq, bytesEq_eq]
  rw [Bool.eq_iff_iff]
  simp only [beq_iff_eq, decide_eq_true_eq, Array.toList_inj]
  exact ⟨fun h => ByteArray.ext h, fun h => by rw [h]⟩
theorem i30b (p q) : interp E 30 [.bool p, .bool q] = some (.bool (p == q)) := rfl
theorem i31 (k m l) : interp E 31 [.int k m, .int k l] = some (.bool (decide (m < l))) := by simp [interp]
theorem i33 (k k' a b c d) : interp E 33 [.int k a, .int k b, .int k' c, .int k' d] = some (.bool (decide (a = b) && decide (c = d))) := by simp [interp, eqPairs]; rfl

theorem val_leaf (v) : (Tree.leaf v).val E = den E 40 v := rfl
def pickB (o x y : Option Value) : Option Value := match o with
  | some (.bool b) => if b = true then x else y
  | _ => none
def wantB (b : Bool) (o x : Option Value) : Option Value := match o with
  | some (.bool c) => if c = b then x else none
  | _ => none
theorem val_node (e t f) : (Tree.node e t f).val E = pickB (den E 40 e) (t.val E) (f.val E) := rfl
theorem val_need (e b t) : (Tree.need e b t).val E = wantB b (den E 40 e) (t.val E) := rfl
theorem pick_b (b x y) : pickB (some (.bool b)) x y = if b = true then x else y := rfl
theorem want_b (b c x) : wantB b (some (.bool c)) x = if c = b then x else none := rfl
end

theorem wr64 {n : Int} (h1 : -9223372036854775808 ≤ n) (h2 : n ≤ 9223372036854775807) : IntKind.i64.wrap n = n := by
  simp only [IntKind.wrap, IntKind.signed, IntKind.bits, Bool.true_and, decide_eq_true_eq, show (2 : Int) ^ (64 - 1) = 9223372036854775808 from by decide, show (2 : Int) ^ 64 = 18446744073709551616 from by decide]
  split <;> omega
theorem wru {k : IntKind} {n : Int} (hs : k.signed = false) (h1 : 0 ≤ n) (h2 : n < 2 ^ k.bits) : k.wrap n = n := by
  simp only [IntKind.wrap, hs, Bool.false_and, Bool.false_eq_true, if_false]
  exact Int.emod_eq_of_lt h1 h2

theorem vr_int {ρ : Rho} {E : Env} (h : ρ.env = E) (k : IntKind) (i : Int) {m : Int} (hm : E.int i.toNat = m) : VR ρ (sv 0 [.int k i]) (.int k m) := by
  subst hm
  rw [← h]
  exact sv_vr (vr1 (.int k i)) rfl
theorem vr_str {ρ : Rho} {E : Env} (h : ρ.env = E) (k : IntKind) (i : Int) {m : ByteArray} (hm : E.str i.toNat = m) : VR ρ (sv 2 [.int k i]) (.string m) := by
  subst hm
  rw [← h]
  exact sv_vr (vr1 (.int k i)) rfl
theorem vr_bool {ρ : Rho} {E : Env} (h : ρ.env = E) (k : IntKind) (i : Int) {m : Bool} (hm : E.bool i.toNat = m) : VR ρ (sv 1 [.int k i]) (.bool m) := by
  subst hm
  rw [← h]
  exact sv_vr (vr1 (.int k i)) rfl

/-! ### Pieces of code -/

def anyV (t : Nat) : Value := sv 98 [.int .i64 t]

def allT : Nat → Tr
  | 0 => .nil
  | n + 1 => (allT n).set 20 n (anyV n)

def insT : List (Nat × Value) → Tr → Tr
  | [], t => t
  | (i, v) :: r, t => (insT r t).set 20 i v

/-- A frame of which these temporaries are known; the others bear whatever they bear. -/
def frCan (nt : Nat) (ins : List (Nat × Value)) : AFr := ⟨insT ins (allT nt), nt, []⟩

theorem allT_get : ∀ {n t : Nat}, n < 100000 → (allT n).get t = if t < n then anyV t else undef
  | 0, t, _ => by simp [allT, Tr.get]
  | n + 1, t, h => by
    simp only [allT]
    rw [Tr.get_set 20 _ _ _ _ (by omega), allT_get (by omega)]
    by_cases e : t = n
    · subst e; simp
    · rw [if_neg e]
      by_cases e2 : t < n
      · rw [if_pos e2, if_pos (by omega)]
      · rw [if_neg e2, if_neg (by omega)]

theorem insT_get : ∀ {ins : List (Nat × Value)} {tr : Tr} {t : Nat}, (∀ p ∈ ins, p.1 < 100000) → (insT ins tr).get t = match ins.find? (fun p => p.1 == t) with | some p => p.2 | none => tr.get t
  | [], tr, t, _ => rfl
  | (i, v) :: r, tr, t, h => by
    simp only [insT]
    rw [Tr.get_set 20 _ _ _ _ (by have := h (i, v) (by simp); simp at this; omega), insT_get (fun p hp => h p (List.mem_cons_of_mem _ hp))]
    by_cases e : t = i
    · subst e; simp
    · rw [if_neg e, List.find?_cons_of_neg (by simp; exact fun e' => e e'.symm)]

theorem insT_get' {ins : List (Nat × Value)} {tr : Tr} {t n : Nat} (hn : n ≤ 1000000) (h : ∀ p ∈ ins, p.1 < n) : (insT ins tr).get t = match ins.find? (fun p => p.1 == t) with | some p => p.2 | none => tr.get t := by
  induction ins with
  | nil => rfl
  | cons x r ih =>
    obtain ⟨i, v⟩ := x
    simp only [insT]
    rw [Tr.get_set 20 _ _ _ _ (by have := h (i, v) (by simp); simp at this; omega), ih (fun p hp => h p (List.mem_cons_of_mem _ hp))]
    by_cases e : t = i
    · subst e; simp
    · rw [if_neg e, List.find?_cons_of_neg (by simp; exact fun e' => e e'.symm)]

theorem frCan_rel {ρ : Rho} {nt : Nat} {ins : List (Nat × Value)} {a : Act} (hn : nt < 100000) (hi : ∀ p ∈ ins, p.1 < nt) (hs : a.tmps.size = nt) (hd : a.defers = []) (hE : ∀ t, ρ.env.val t = a.tmps.getD t undef)
    (hv : ∀ p ∈ ins, VR ρ p.2 (a.tmps.getD p.1 undef)) : FrRel ρ (frCan nt ins) a := by
  have hget : ∀ t, (frCan nt ins).tr.get t = match ins.find? (fun p => p.1 == t) with | some p => p.2 | none => if t < nt then anyV t else undef := fun t => by
    show (insT ins (allT nt)).get t = _
    rw [insT_get (fun p hp => by have := hi p hp; omega), allT_get hn]
  refine ⟨hs, by show nt ≤ 1000000; omega, fun t v' hv' => ?_, fun t ht => ?_, hd, by intro r hr; cases hr⟩
  · have htn : t < nt := by rw [← hs]; exact (Array.getElem?_eq_some_iff.1 hv').1
    have hg : a.tmps.getD t undef = v' := by rw [Array.getD_eq_getD_getElem?, hv']; rfl
    rw [hget]
    split
    · rename_i p hp
      have h1 := List.mem_of_find?_eq_some hp
      have h2 := List.find?_some hp
      simp only [beq_iff_eq] at h2
      have := hv p h1
      rw [h2, hg] at this
      exact this
    · rw [if_pos htn]
      exact sv_vr (vr1 (.int _ _)) (by simp only [interp]; rw [hE]; simpa using hg)
  · have ht' : nt ≤ t := ht
    rw [hget]
    split
    · rename_i p hp
      have h1 := List.mem_of_find?_eq_some hp
      have h2 := List.find?_some hp
      simp only [beq_iff_eq] at h2
      have := hi p h1
      omega
    · rw [if_neg (by omega)]

/-- Decisions in a piece of code; at their end: how it is left, what temporaries bear. -/
inductive CTree where
  | leaf (ex : AEx) (outs : List (Nat × Value))
  | node (e : Value) (t f : CTree)
  | need (e : Value) (b : Bool) (t : CTree)

def denO (E : Env) : List (Nat × Value) → Option (List (Nat × Value))
  | [] => some []
  | (t, e) :: r => (den E 40 e).bind fun v => (denO E r).bind fun l => some ((t, v) :: l)

def pickC {α : Type} (o : Option Value) (x y : Option α) : Option α := match o with
  | some (.bool b) => if b = true then x else y
  | _ => none
def wantC {α : Type} (b : Bool) (o : Option Value) (x : Option α) : Option α := match o with
  | some (.bool c) => if c = b then x else none
  | _ => none

def CTree.val (E : Env) : CTree → Option (AEx × List (Nat × Value))
  | .leaf ex outs => (denO E outs).bind fun l => some (ex, l)
  | .node e t f => pickC (den E 40 e) (t.val E) (f.val E)
  | .need e b t => wantC b (den E 40 e) (t.val E)

def exEq : AEx → AEx → Bool
  | .normal, .normal => true
  | .ret, .ret => true
  | .exit a, .exit b => Nat.beq a b
  | _, _ => false

theorem exEq_eq {a b : AEx} (h : exEq a b = true) : a = b := by
  cases a <;> cases b <;> simp [exEq] at h <;> first | rfl | (rw [h])

def hasT : List (Nat × Value) → Nat → Bool
  | [], _ => false
  | (i, _) :: r, t => cond (Nat.beq i t) true (hasT r t)

def leafOk (nt : Nat) (kills : List Nat) (ex : AEx) (outs : List (Nat × Value)) (r : AEx × AFr × Heap) : Bool :=
  exEq r.1 ex && Nat.beq r.2.1.n nt && r.2.1.marks.isEmpty && outs.all (fun p => vSame 40 (r.2.1.tr.get p.1) p.2) &&
    (List.range nt).all (fun t => memb kills t || hasT outs t || vEq 40 (r.2.1.tr.get t) (anyV t))

def CTree.ok (run : List (Value × Bool) → Option (AEx × AFr × Heap)) (nt : Nat) (kills : List Nat) : CTree → List (Value × Bool) → Bool
  | .leaf ex outs, F => match run F with
    | some r => leafOk nt kills ex outs r
    | none => false
  | .node e t f, F => t.ok run nt kills ((e, true) :: F) && f.ok run nt kills ((e, false) :: F)
  | .need e b t, F => t.ok run nt kills ((e, b) :: F)

theorem CTree.ok_val {E : Env} {run : List (Value × Bool) → Option (AEx × AFr × Heap)} {nt : Nat} {kills : List Nat} : ∀ {T : CTree} {F : List (Value × Bool)} {q : AEx × List (Nat × Value)}, T.ok run nt kills F = true → T.val E = some q → FactsOk E F →
    ∃ G outs r, FactsOk E G ∧ denO E outs = some q.2 ∧ run G = some r ∧ leafOk nt kills q.1 outs r = true := by
  intro T
  have hf : ∀ {e : Value} {b : Bool} {F : List (Value × Bool)}, den E 40 e = some (.bool b) → FactsOk E F → FactsOk E ((e, b) :: F) := fun he hF p hp => by
    rcases List.mem_cons.1 hp with rfl | hp
    · exact he
    · exact hF p hp
  induction T with
  | leaf ex outs =>
    intro F q h hv hF
    simp only [CTree.ok] at h
    split at h
    · rename_i r hr
      simp only [CTree.val] at hv
      cases hd : denO E outs with
      | none => rw [hd] at hv; cases hv
      | some l => rw [hd] at hv; cases hv; exact ⟨F, outs, r, hF, hd, hr, h⟩
    · cases h
  | node e t f iht ihf =>
    intro F q h hv hF
    simp only [CTree.ok, Bool.and_eq_true] at h
    simp only [CTree.val, pickC] at hv
    split at hv
    · rename_i b he
      cases b with
      | true => simp only [if_true] at hv; exact iht h.1 hv (hf he hF)
      | false => simp only [Bool.false_eq_true, if_false] at hv; exact ihf h.2 hv (hf he hF)
    · cases hv
  | need e b t ih =>
    intro F q h hv hF
    simp only [CTree.ok] at h
    simp only [CTree.val, wantC] at hv
    split at hv
    · rename_i c he
      split at hv
      · rename_i hc; subst hc; exact ih h hv (hf he hF)
      · cases hv
    · cases hv

theorem denO_get {E : Env} : ∀ {outs l : List (Nat × Value)}, denO E outs = some l → (∀ p ∈ l, ∃ e, (p.1, e) ∈ outs ∧ den E 40 e = some p.2) ∧ (∀ t, hasT outs t = hasT l t)
  | [], l, h => by simp only [denO, Option.some.injEq] at h; subst h; simp
  | (t, e) :: r, l, h => by
    simp only [denO] at h
    cases hd : den E 40 e with
    | none => rw [hd] at h; cases h
    | some v =>
      rw [hd] at h
      simp only [Option.bind_some] at h
      cases hr : denO E r with
      | none => rw [hr] at h; cases h
      | some q =>
        rw [hr] at h
        cases h
        obtain ⟨h1, h2⟩ := denO_get hr
        refine ⟨fun p hp => ?_, fun x => by simp only [hasT, h2]⟩
        rcases List.mem_cons.1 hp with rfl | hp
        · exact ⟨e, by simp, hd⟩
        · obtain ⟨e', h3, h4⟩ := h1 p hp
          exact ⟨e', List.mem_cons_of_mem _ h3, h4⟩

/-- What a piece of code does, its decisions told by a tree. -/
theorem run_ctree {P : Program} {FN : Fns} {rS : List (Nat × List Srt)} {R : RowE} {N : Nat} {C : List (Value × Bool) → Cfg} (hP : ∀ F, (C F).P = P) (hS : ∀ F, (C F).NG = ⟨N, F, FN, rS, R⟩) {l : List Gv} {X : Nat → World → Prop} (hg : ∀ F, Good (C F) l X)
    {m : Nat} {loc : Loc} {c : Code} (hloc : ∀ F, LocOk (C F) loc c) {nt : Nat} {ins : List (Nat × Value)} {kills : List Nat} {T : CTree} {F0 : List (Value × Bool)} (hn : nt < 100000) (hi : ∀ p ∈ ins, p.1 < nt)
    (h : T.ok (fun F => ev (C F) m loc none c (frCan nt ins) (heapOf N l)) nt kills F0 = true) {E : Env} (hE : FactsOk E F0) (hF : E.fns = FN) (hR : E.rows = R) {a : Act} {w : World} {ex : AEx} {outs : List (Nat × Value)} (hu : T.val E = some (ex, outs))
    (hs : a.tmps.size = nt) (hd : a.defers = []) (hval : ∀ t, E.val t = a.tmps.getD t undef) (hv : ∀ p ∈ ins, ∀ ρ : Rho, ρ.env = E → VR ρ p.2 (a.tmps.getD p.1 undef)) (hw : ∀ x ∈ l, GvOk w x) (hX : X w.heap.size w) (k : Nat) :
    c.wpIn Fence.wide k P (fun e a' w' => e = ex.toExit ∧ a'.tmps.size = nt ∧ a'.defers = [] ∧ (∀ p ∈ outs, a'.tmps.getD p.1 undef = p.2) ∧ (∀ t, t < nt → memb kills t = false → hasT outs t = false → a'.tmps.getD t undef = a.tmps.getD t undef) ∧ Below w.heap.size w w') a w := by
  obtain ⟨G, os, r, h1, h2, h3, h4⟩ := CTree.ok_val h hu hE
  have hgG := hg G
  have hK : Kof l X w.heap.size w := ⟨fun x hx => ⟨by obtain ⟨fr, h1⟩ := hw x hx; exact (Array.getElem?_eq_some_iff.1 h1).1, hw x hx⟩, hX⟩
  have hNG : (C G).NG = ⟨N, G, FN, rS, R⟩ := hS G
  have hrel := rel_start (NG := (C G).NG) (E := E) (base := w.heap.size) (by rw [hNG]; exact h1) (by rw [hNG]; exact hF) (by rw [hNG]; exact hR) hgG.rowv hgG.vars hw (hgG.pos _ w hX) (Nat.le_refl _)
  have hN : (C G).NG.n = N := by rw [hNG]
  obtain ⟨e1, e2, _⟩ := heapOf_plain N l
  have hfr : FrRel (rhoOf w (C G).NG.n E) (frCan nt ins) a := frCan_rel hn hi hs hd hval fun p hp => hv p hp _ rfl
  have hsnd := ev_ok (hgG.ok w.heap.size) m loc none c (frCan nt ins) (heapOf (C G).NG.n l) r (hloc G) (by rw [hN]; exact h3)
  have := hsnd (rhoOf w (C G).NG.n E) a w (r.2.2.next + 1) k hrel hK hfr ⟨fun b h1 _ h2 => by
      rw [hN, e1] at h1
      have h2' : b < (C G).NG.n := h2
      rw [hN] at h2'
      omega, by rw [hN, e1, e2]; exact Nat.le_refl _⟩ (Nat.lt_succ_self _) (by intro l hl; cases hl)
  rw [hP] at this
  refine wpIn_mono this fun e a' w' ⟨he, ρ', hf', hp⟩ => ?_
  simp only [leafOk, Bool.and_eq_true] at h4
  obtain ⟨⟨⟨⟨q1, q2⟩, q3⟩, q4⟩, q5⟩ := h4
  have hm : r.2.1.marks = [] := by
    cases hmm : r.2.1.marks with
    | nil => rfl
    | cons => rw [hmm] at q3; cases q3
  have hEnv : ρ'.env = E := by rw [hp.ext.env]; rfl
  obtain ⟨g1, g2⟩ := denO_get h2
  refine ⟨by rw [he, exEq_eq q1], by rw [hf'.size]; exact Nat.eq_of_beq_eq_true q2, by rw [hf'.defers, hm]; rfl, fun p hp' => ?_, fun t ht hk ho => ?_, hp.below⟩
  · obtain ⟨e', m1, m2⟩ := g1 p hp'
    have hsame := List.all_eq_true.1 q4 _ m1
    have hvr := hf'.get p.1
    simp only at hsame
    rw [← vSame_den 40 hsame] at m2
    exact den_vr 40 (by rw [hEnv]; exact m2) hvr
  · have hall := List.all_eq_true.1 q5 t (List.mem_range.2 ht)
    rw [hk, g2, ho] at hall
    simp only [Bool.or_self, Bool.false_or] at hall
    have hvr := hf'.get t
    have : den E 40 (r.2.1.tr.get t) = some (a.tmps.getD t undef) := by
      rw [vEq_den 40 hall]
      show (match denL (den E 39) [.int .i64 t] with | some vs => interp E 98 vs | none => none) = _
      simp only [denL, den, interp, Int.toNat_natCast, hval]
    exact den_vr 40 (by rw [hEnv]; exact this) hvr

end Go.Sy
