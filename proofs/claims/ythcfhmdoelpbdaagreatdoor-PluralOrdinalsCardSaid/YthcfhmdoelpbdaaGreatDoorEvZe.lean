/- Regions whose order is open: what the evaluator's walk in the text's order has looked at. -/
import Derived.Test.YthcfhmdoelpbdaaGreatDoorEvZd
namespace Go.Ev
set_option linter.unusedVariables false
set_option linter.unusedSimpArgs false
open Go Go.RowKit

/-! ### Who comes before whom -/

theorem befores_fold {acc : List Nat} : ∀ {es : List Edge} {m0 m : Nat}, es.foldl (fun (m : Option Nat) e => match m, acc[e.on]? with
      | some m, some b => some (m ||| (2 ^ e.on) ||| b)
      | _, _ => none) (some m0) = some m →
    (∀ e ∈ es, e.on < acc.length) ∧ ∀ j, m.testBit j = true → m0.testBit j = true ∨ ∃ e ∈ es, j = e.on ∨ ∃ b, acc[e.on]? = some b ∧ b.testBit j = true := by
  intro es
  induction es with
  | nil => intro m0 m h; simp only [List.foldl_nil, Option.some.injEq] at h; subst h; exact ⟨by simp, fun j hj => .inl hj⟩
  | cons e r ih =>
    intro m0 m h
    rw [List.foldl_cons] at h
    cases hb : acc[e.on]? with
    | none =>
      rw [hb] at h
      have hn : ∀ es : List Edge, es.foldl (fun (m : Option Nat) e => match m, acc[e.on]? with
        | some m, some b => some (m ||| (2 ^ e.on) ||| b)
        | _, _ => none) none = none := by
        intro es
        induction es with
        | nil => rfl
        | cons e r ih => rw [List.foldl_cons]; exact ih
      rw [hn] at h
      cases h
    | some b =>
      rw [hb] at h
      obtain ⟨h1, h2⟩ := ih h
      refine ⟨fun x hx => ?_, fun j hj => ?_⟩
      · rcases List.mem_cons.1 hx with hx | hx
        · subst hx; exact (List.getElem?_eq_some_iff.1 hb).1
        · exact h1 x hx
      · rcases h2 j hj with h | ⟨x, hx, h⟩
        · rw [Nat.testBit_or, Nat.testBit_or, Bool.or_eq_true, Bool.or_eq_true] at h
          rcases h with (h | h) | h
          · exact .inl h
          · rw [Nat.testBit_two_pow] at h
            have h' : e.on = j := by simpa using h
            exact .inr ⟨e, List.mem_cons_self, .inl h'.symm⟩
          · exact .inr ⟨e, List.mem_cons_self, .inr ⟨b, hb, h⟩⟩
        · exact .inr ⟨x, List.mem_cons_of_mem _ hx, h⟩

theorem befores_spec : ∀ {l : List Oper} {acc bs : List Nat}, befores l acc = some bs →
    (∀ k, k < acc.length → bs[k]? = acc[k]?) ∧ ∀ (i : Nat) (o : Oper), l[i]? = some o → ∃ b, bs[acc.length + i]? = some b ∧ (∀ e ∈ o.after, Region.binds .any e = true → e.on < acc.length + i) ∧
      ∀ j, b.testBit j = true → ∃ e ∈ o.after, Region.binds .any e = true ∧ (j = e.on ∨ ∃ b', bs[e.on]? = some b' ∧ b'.testBit j = true) := by
  intro l
  induction l with
  | nil => intro acc bs h; simp only [befores, Option.some.injEq] at h; subst h; exact ⟨fun _ _ => rfl, by simp⟩
  | cons o r ih =>
    intro acc bs h
    simp only [befores] at h
    split at h
    · rename_i m hm
      obtain ⟨h1, h2⟩ := ih h
      obtain ⟨g1, g2⟩ := befores_fold hm
      have hk : ∀ k, k < acc.length → bs[k]? = acc[k]? := fun k hk => by
        rw [h1 k (by simp; omega), List.getElem?_append_left hk]
      refine ⟨hk, fun i x hx => ?_⟩
      cases i with
      | zero =>
        simp only [List.getElem?_cons_zero, Option.some.injEq] at hx
        subst hx
        refine ⟨m, ?_, fun e he hb => ?_, fun j hj => ?_⟩
        · rw [Nat.add_zero, h1 acc.length (by simp)]
          simp
        · exact g1 e (List.mem_filter.2 ⟨by simpa using he, hb⟩)
        · rcases g2 j hj with h | ⟨e, he, h⟩
          · simp at h
          · obtain ⟨he1, he2⟩ := List.mem_filter.1 he
            refine ⟨e, by simpa using he1, he2, h.imp id fun ⟨b, hb, hj⟩ => ⟨b, ?_, hj⟩⟩
            rw [hk e.on (g1 e he)]
            exact hb
      | succ i =>
        obtain ⟨b, q1, q2, q3⟩ := h2 i x (by simpa using hx)
        simp only [List.length_append, List.length_cons, List.length_nil] at q1 q2
        exact ⟨b, by rw [← q1]; congr 1; omega, fun e he hb => by have := q2 e he hb; omega, q3⟩
    · cases h

theorem apartAll_spec {ops : List Oper} {arr : Array Oper} {bs : List Nat} (h : apartAll ops arr bs = true) {i j : Nat} {oi oj : Oper} (hij : i < j) (hi : ops[i]? = some oi) (hj : ops[j]? = some oj) :
    (∃ b, bs[j]? = some b ∧ b.testBit i = true) ∨ oi.apart arr oj = true := by
  unfold apartAll at h
  have h1 := List.all_eq_true.1 h j (List.mem_range.2 (List.getElem?_eq_some_iff.1 hj).1)
  have h2 := List.all_eq_true.1 h1 i (List.mem_range.2 hij)
  rw [hi, hj] at h2
  split at h2
  · rename_i b e1 e2 e3
    cases e1; cases e2
    rw [Bool.or_eq_true] at h2
    exact h2.imp (fun h => ⟨b, e3, h⟩) id
  · cases h2

/-! ### The walk, step by step -/

structure St where
  fr : AFr
  H : Heap
  rc : List Rec

theorem draw_chain {C : Cfg} {self : Self} {ops : List Oper} {arr : Array Oper} {bs : List Nat} : ∀ {l : List Oper} {i : Nat} {fr : AFr} {H : Heap} {recs : List Rec} {r : AFr × Heap}, adraw C self ops arr bs l i fr H recs = some r →
    ∃ (S : Nat → St) (v : Nat → Value), S i = ⟨fr, H, recs⟩ ∧ (S (i + l.length)).fr = r.1 ∧ (S (i + l.length)).H = r.2 ∧ ∀ (k : Nat) (o : Oper), l[k]? = some o →
      AStep C self ops arr bs o (i + k) (S (i + k)).fr (S (i + k)).H (S (i + k)).rc (v (i + k)) (S (i + k + 1)).H (S (i + k + 1)).rc ∧ (S (i + k + 1)).fr = (S (i + k)).fr.put o.dst (v (i + k)) := by
  intro l
  induction l with
  | nil =>
    intro i fr H recs r h
    simp only [adraw, Option.some.injEq] at h
    subst h
    exact ⟨fun _ => ⟨fr, H, recs⟩, fun _ => undef, rfl, rfl, rfl, by simp⟩
  | cons o rest ih =>
    intro i fr H recs r h
    simp only [adraw] at h
    split at h
    · rename_i v0 H' recs' hst
      obtain ⟨S, v, h1, h2, h3, h4⟩ := ih h
      have e : ∀ j, i < j → (fun j => if j = i then (⟨fr, H, recs⟩ : St) else S j) j = S j := fun j hj => if_neg (by omega)
      have ev : ∀ j, i < j → (fun j => if j = i then v0 else v j) j = v j := fun j hj => if_neg (by omega)
      refine ⟨fun j => if j = i then ⟨fr, H, recs⟩ else S j, fun j => if j = i then v0 else v j, if_pos rfl, ?_, ?_, ?_⟩
      · rw [e _ (by simp), ← h2, List.length_cons]; congr 2 <;> omega
      · rw [e _ (by simp), ← h3, List.length_cons]; congr 2 <;> omega
      · intro k x hx
        cases k with
        | zero =>
          simp only [List.getElem?_cons_zero, Option.some.injEq] at hx
          subst hx
          simp only [Nat.add_zero]
          rw [if_pos trivial, if_pos trivial, if_neg (show ¬ i + 1 = i by omega), h1]
          exact ⟨astep_spec hst, rfl⟩
        | succ k =>
          have := h4 k x (by simpa using hx)
          have e1 : i + (k + 1) = i + 1 + k := by omega
          simp only
          rw [e1, if_neg (show ¬ i + 1 + k = i by omega), if_neg (show ¬ i + 1 + k = i by omega), if_neg (show ¬ i + 1 + k + 1 = i by omega)]
          exact this
    · cases h

/-- What is known of the walk. -/
structure Walked (C : Cfg) (sf : Self) (ops : Array Oper) (bs : List Nat) (S : Nat → St) (v : Nat → Value) : Prop where
  nil : (S 0).rc = []
  le : (S 0).H.wmin ≤ (S 0).H.next
  keep : SelfKeep sf
  st : ∀ (k : Nat) (o : Oper), ops[k]? = some o → AStep C sf ops.toList ops bs o k (S k).fr (S k).H (S k).rc (v k) (S (k + 1)).H (S (k + 1)).rc
  put : ∀ (k : Nat) (o : Oper), ops[k]? = some o → (S (k + 1)).fr = (S k).fr.put o.dst (v k)
  edge : ∀ (k : Nat) (o : Oper), ops[k]? = some o → ∀ e ∈ o.after, Region.binds .any e = true → e.on < k
  bit : ∀ (k : Nat) (o : Oper) (b : Nat), ops[k]? = some o → bs[k]? = some b → ∀ j, b.testBit j = true → ∃ e ∈ o.after, Region.binds .any e = true ∧ (j = e.on ∨ ∃ b', bs[e.on]? = some b' ∧ b'.testBit j = true)
  apart : ∀ (i j : Nat) (oi oj : Oper), i < j → ops[i]? = some oi → ops[j]? = some oj → (∃ b, bs[j]? = some b ∧ b.testBit i = true) ∨ oi.apart ops oj = true

/-- Number k has been written down as one that looked at memory. -/
def RecAt (S : Nat → St) (k : Nat) (wr : Bool) : Prop := (S (k + 1)).rc = ⟨k, (S k).H.next, (S (k + 1)).H.next, wr⟩ :: (S k).rc

theorem RecAt.not_both {S : Nat → St} {k : Nat} (h : RecAt S k true) (h' : RecAt S k false) : False := by
  unfold RecAt at h h'
  rw [h] at h'
  simp at h'

theorem mem_unordered {b : Nat} : ∀ {l : List Rec} {x : Rec}, x ∈ l → b.testBit x.i = false → x ∈ unordered b l := by
  intro l
  induction l with
  | nil => intro x h; cases h
  | cons y t ih =>
    intro x h hb
    simp only [unordered]
    rcases List.mem_cons.1 h with h | h
    · subst h
      rw [hb]
      exact List.mem_cons_self
    · cases b.testBit y.i with
      | true => exact ih h hb
      | false => exact List.mem_cons_of_mem _ (ih h hb)

section
variable {C : Cfg} {self : Self} {ops : Array Oper} {bs : List Nat} {S : Nat → St} {v : Nat → Value}

theorem Walked.keeps (d : Walked C self ops bs S v) : ∀ k, k ≤ ops.size → Keep (S 0).H (S k).H ∧ ∀ x ∈ (S k).rc, (S k).H.wmin ≤ x.lo ∧ x.hi ≤ (S k).H.next := by
  intro k
  induction k with
  | zero => intro _; exact ⟨Keep.refl _, by rw [d.nil]; intro x hx; cases hx⟩
  | succ k ih =>
    intro hk
    obtain ⟨h1, h2⟩ := ih (by omega)
    obtain ⟨k1, k2⟩ := keep_astep d.keep (h1.le d.le) h2 (d.st k _ (Array.getElem?_eq_getElem (by omega)))
    exact ⟨h1.trans k1, k2⟩

theorem Walked.keep1 (d : Walked C self ops bs S v) {k : Nat} (hk : k < ops.size) : Keep (S k).H (S (k + 1)).H := by
  obtain ⟨h1, h2⟩ := d.keeps k (by omega)
  exact (keep_astep d.keep (h1.le d.le) h2 (d.st k _ (Array.getElem?_eq_getElem hk))).1

theorem Walked.mono (d : Walked C self ops bs S v) {i j : Nat} (hij : i ≤ j) (hj : j ≤ ops.size) : (S i).H.next ≤ (S j).H.next := by
  induction j with
  | zero => have : i = 0 := by omega
            subst this; exact Nat.le_refl _
  | succ j ih =>
    by_cases h : i = j + 1
    · subst h; exact Nat.le_refl _
    · exact Nat.le_trans (ih (by omega) (by omega)) (d.keep1 (by omega)).next

theorem Walked.rc_mono (d : Walked C self ops bs S v) {i j : Nat} (hij : i ≤ j) (hj : j ≤ ops.size) {x : Rec} (hx : x ∈ (S i).rc) : x ∈ (S j).rc := by
  induction j with
  | zero => have : i = 0 := by omega
            subst this; exact hx
  | succ j ih =>
    by_cases h : i = j + 1
    · subst h; exact hx
    · have := ih (by omega) (by omega)
      have hs := d.st j _ (Array.getElem?_eq_getElem (by omega))
      generalize hr : (S (j + 1)).rc = rr at hs ⊢
      generalize hv : v j = vv at hs
      generalize hH : (S (j + 1)).H = HH at hs
      cases hs with
      | skip => exact this
      | pure => exact this
      | write => exact List.mem_cons_of_mem _ this
      | look => exact List.mem_cons_of_mem _ this

/-- A step that gives new names is written down. -/
theorem Walked.recd (d : Walked C self ops bs S v) {k : Nat} (hk : k < ops.size) (h : (S k).H.next < (S (k + 1)).H.next) : ∃ wr, RecAt S k wr := by
  have hs := d.st k _ (Array.getElem?_eq_getElem hk)
  unfold RecAt
  generalize hr : (S (k + 1)).rc = rr at hs ⊢
  generalize hv : v k = vv at hs
  generalize hH : (S (k + 1)).H = HH at hs h ⊢
  cases hs with
  | skip => omega
  | pure => omega
  | write => exact ⟨true, rfl⟩
  | look => exact ⟨false, rfl⟩

/-- Of two that look at memory, one a writer: the later is bound behind the earlier. -/
theorem Walked.order (d : Walked C self ops bs S v) {j k : Nat} {w1 w2 : Bool} (hjk : j < k) (hk : k < ops.size) (hj : RecAt S j w1) (hkr : RecAt S k w2) (hw : w1 = true ∨ w2 = true) : ∃ b, bs[k]? = some b ∧ b.testBit j = true := by
  have hx : (⟨j, (S j).H.next, (S (j + 1)).H.next, w1⟩ : Rec) ∈ (S k).rc := d.rc_mono hjk (by omega) (by rw [hj]; exact List.mem_cons_self)
  have hs := d.st k _ (Array.getElem?_eq_getElem hk)
  unfold RecAt at hkr
  generalize hr : (S (k + 1)).rc = rr at hs hkr
  generalize hv : v k = vv at hs
  generalize hH : (S (k + 1)).H = HH at hs hkr
  cases hs with
  | skip => simp at hkr
  | pure => simp at hkr
  | write b v0 H1 _ hb hu _ =>
    refine ⟨b, hb, ?_⟩
    cases hq : b.testBit j with
    | true => rfl
    | false =>
      have := mem_unordered (b := b) hx hq
      rw [hu] at this
      cases this
  | look b v0 H1 _ hb hu _ =>
    refine ⟨b, hb, ?_⟩
    cases hq : b.testBit j with
    | true => rfl
    | false =>
      have := hu _ (mem_unordered (b := b) hx hq)
      simp only at this
      rw [this] at hw
      rcases hw with h | h
      · cases h
      · rw [h] at hkr; simp at hkr

/-- Where no writer was, nothing old is another. -/
theorem Walked.still (d : Walked C self ops bs S v) {s : Nat} {o : AObj} {b : Nat} : ∀ {i : Nat}, i ≤ ops.size → (∀ k, s ≤ k → k < i → ¬ RecAt S k true) → look0 (S i).H b = some o → ∀ {j : Nat}, s ≤ j → j ≤ i → b < (S j).H.next → look0 (S j).H b = some o := by
  intro i
  induction i with
  | zero => intro _ _ hl j _ hj _; have : j = 0 := by omega
            subst this; exact hl
  | succ i ih =>
    intro hi hno hl j hsj hji hb
    by_cases h : j = i + 1
    · subst h; exact hl
    · refine ih (by omega) (fun k h1 h2 => hno k h1 (by omega)) ?_ hsj (by omega) hb
      have hb' : b < (S i).H.next := Nat.lt_of_lt_of_le hb (d.mono (by omega) (by omega))
      have hs := d.st i _ (Array.getElem?_eq_getElem (by omega))
      have hn := hno i (by omega) (by omega)
      unfold RecAt at hn
      generalize hr : (S (i + 1)).rc = rr at hs hn
      generalize hv : v i = vv at hs
      generalize hH : (S (i + 1)).H = HH at hs hn hl
      cases hs with
      | skip => exact hl
      | pure => exact hl
      | write => exact absurd rfl hn
      | look bb v0 H1 _ _ _ ho => exact (keep_oper d.keep (H := { (S i).H with wmin := (S i).H.next, hide := (unordered bb (S i).rc).map (fun r => (r.lo, r.hi)) ++ (S i).H.hide }) (Nat.le_refl _) ho).keep (Nat.le_refl _) b o hb' hl

/-- Where a name comes from. -/
theorem Walked.find (d : Walked C self ops bs S v) {s i : Nat} {o : AObj} {b : Nat} (hi : i ≤ ops.size) (hno : ∀ k, s ≤ k → k < i → ¬ RecAt S k true) (hsi : s ≤ i) (hl : look0 (S i).H b = some o) (hb : b < (S i).H.next) :
    (b < (S s).H.next ∧ look0 (S s).H b = some o) ∨ ∃ j, s ≤ j ∧ j < i ∧ (S j).H.next ≤ b ∧ b < (S (j + 1)).H.next ∧ look0 (S (j + 1)).H b = some o := by
  by_cases h : b < (S s).H.next
  · exact .inl ⟨h, d.still hi hno hl (Nat.le_refl _) hsi h⟩
  · right
    have : ∀ m, s + m ≤ i → b < (S (s + m)).H.next → ∃ j, s ≤ j ∧ j < s + m ∧ (S j).H.next ≤ b ∧ b < (S (j + 1)).H.next := by
      intro m
      induction m with
      | zero => intro _ h'; exact absurd h' h
      | succ m ih =>
        intro hm hb'
        by_cases h2 : b < (S (s + m)).H.next
        · obtain ⟨j, h3, h4, h5⟩ := ih (by omega) h2
          exact ⟨j, h3, by omega, h5⟩
        · exact ⟨s + m, by omega, by omega, by omega, hb'⟩
    obtain ⟨j, h1, h2, h3, h4⟩ := this (i - s) (by omega) (by rw [show s + (i - s) = i by omega]; exact hb)
    exact ⟨j, h1, by omega, h3, h4, d.still hi hno hl (by omega) (by omega) h4⟩

end

end Go.Ev
