/- Regions whose order is open: each order leads to what the walk in the text's order has found. -/
import Derived.Test.YthcfhmdoelpbdaaGreatDoorEvZf
namespace Go.Ev
set_option linter.unusedVariables false
set_option linter.unusedSimpArgs false
open Go Go.RowKit

theorem hidden_append : ∀ {l m : List (Nat × Nat)} {b : Nat}, hidden (l ++ m) b = false → hidden l b = false ∧ hidden m b = false := by
  intro l
  induction l with
  | nil => intro m b h; exact ⟨rfl, h⟩
  | cons p r ih =>
    intro m b h
    obtain ⟨lo, hi⟩ := p
    simp only [List.cons_append, hidden] at h ⊢
    cases hc : (Nat.ble lo b && Nat.blt b hi) with
    | true => rw [hc] at h; cases h
    | false => rw [hc] at h; exact ih h

theorem hidden_mem : ∀ {l : List (Nat × Nat)} {b lo hi : Nat}, (lo, hi) ∈ l → lo ≤ b → b < hi → hidden l b = true := by
  intro l
  induction l with
  | nil => intro b lo hi h; cases h
  | cons p r ih =>
    intro b lo hi h h1 h2
    obtain ⟨lo', hi'⟩ := p
    simp only [hidden]
    cases hc : (Nat.ble lo' b && Nat.blt b hi') with
    | true => rfl
    | false =>
      rcases List.mem_cons.1 h with h | h
      · simp only [Prod.mk.injEq] at h
        obtain ⟨rfl, rfl⟩ := h
        have e1 : Nat.ble lo b = true := Nat.ble_eq_true_of_le h1
        have e2 : Nat.blt b hi = true := Nat.ble_eq_true_of_le h2
        rw [e1, e2] at hc
        cases hc
      · exact ih h h1 h2

theorem memb_mem : ∀ {l : List Nat} {b : Nat}, memb l b = true → b ∈ l := by
  intro l
  induction l with
  | nil => intro b h; cases h
  | cons x r ih =>
    intro b h
    simp only [memb] at h
    cases hq : Nat.beq x b with
    | true => have := Nat.eq_of_beq_eq_true hq; subst this; exact List.mem_cons_self
    | false => rw [hq] at h; exact List.mem_cons_of_mem _ (ih h)

/-- What there is to see once some have been taken: what the last writer left; what each that looked has made. -/
def Lk (S : Nat → St) (N : Nat) (D : Nat → Bool) (s : Nat) (b : Nat) (o : AObj) : Prop :=
  (b < (S s).H.next ∧ look (S s).H b = some o) ∨ ∃ j, s ≤ j ∧ j < N ∧ D j = true ∧ (S j).H.next ≤ b ∧ b < (S (j + 1)).H.next ∧ look (S (j + 1)).H b = some o

structure Inv (NG base : Nat) (ops : Array Oper) (S : Nat → St) (v : Nat → Value) (ρ0 : Rho) (w0 : World) (D : Nat → Bool) (s : Nat) (ρ : Rho) (a : Act) (w : World) : Prop where
  hs : s ≤ ops.size
  closed : ∀ (k : Nat) (o : Oper), ops[k]? = some o → D k = true → ∀ e ∈ o.after, Region.binds .any e = true → D e.on = true
  all : ∀ j wr, j < s → RecAt S j wr → D j = true
  later : ∀ j wr, D j = true → RecAt S j wr → s ≤ j → j < ops.size → ∀ k, s ≤ k → k ≤ j → ¬ RecAt S k true
  post : PostL NG base ρ0 (S 0).H (Lk S ops.size D s) w0 w ρ
  names : ∀ b, ρ.dom b → ρ0.dom b ∨ ((S 0).H.next ≤ b ∧ (b < (S s).H.next ∨ ∃ j, D j = true ∧ s ≤ j ∧ j < ops.size ∧ (S j).H.next ≤ b ∧ b < (S (j + 1)).H.next))
  fr : FrRel ρ (frD ops v D (S 0).fr ops.size) a

section
variable {C : Cfg} {K : World → Prop} {base n lim : Nat} {self : Self} {ops : Array Oper} {bs : List Nat} {S : Nat → St} {v : Nat → Value} {D : Nat → Bool}

/-- Whoever is bound to come before has been taken. -/
theorem Walked.bits (d : Walked C self ops bs S v) (hc : ∀ (k : Nat) (o : Oper), ops[k]? = some o → D k = true → ∀ e ∈ o.after, Region.binds .any e = true → D e.on = true) : ∀ (k : Nat) (o : Oper) (b j : Nat), ops[k]? = some o →
    (∀ e ∈ o.after, Region.binds .any e = true → D e.on = true) → bs[k]? = some b → b.testBit j = true → D j = true := by
  intro k
  induction k using Nat.strongRecOn with
  | _ k ih =>
    intro o b j hk hE hb hj
    obtain ⟨e, he, hbi, h⟩ := d.bit k o b hk hb j hj
    rcases h with rfl | ⟨b', hb', hj'⟩
    · exact hE e he hbi
    · have hlt := d.edge k o hk e he hbi
      have hks := (Array.getElem?_eq_some_iff.1 hk).1
      have ho' := Array.getElem?_eq_getElem (xs := ops) (i := e.on) (by omega)
      exact ih e.on hlt _ b' j ho' (hc e.on _ ho' (hE e he hbi)) hb' hj'

theorem evalM_ok {NG : Nat} {ρ : Rho} {fr f2 : AFr} {a : Act} {looks : List Nat} (h : ∀ t ∈ looks, VR ρ (fr.tr.get t) (a.tmps.getD t undef)) (hf : FrRel ρ f2 a) (g : Glob NG ρ) : EvR ρ (fr.evalM NG looks) a := by
  intro x v hx
  cases x with
  | tmp t =>
    simp only [AFr.evalM] at hx
    cases hm : memb looks t with
    | false => rw [hm] at hx; cases hx
    | true =>
      rw [hm] at hx
      simp only [cond_true, Option.some.injEq] at hx
      subst hx
      exact h t (memb_mem hm)
  | const c => exact hf.eval g (x := .const c) hx
  | «global» k => exact hf.eval g (x := .global k) hx
  | func f => exact hf.eval g (x := .func f) hx

theorem astep_inv {arr : Array Oper} {lops : List Oper} {o : Oper} {i : Nat} {fr : AFr} {H H' : Heap} {recs recs' : List Rec} {v0 : Value} (h : AStep C self lops arr bs o i fr H recs v0 H' recs') :
    (awanted lops fr o = some false ∧ v0 = undef ∧ H' = H ∧ recs' = recs) ∨
    (awanted lops fr o = some true ∧ apure C.P (fr.evalM C.NG (looksOf arr o)) o.op = some v0 ∧ H' = H ∧ recs' = recs) ∨
    (∃ b H1, awanted lops fr o = some true ∧ bs[i]? = some b ∧ unordered b recs = [] ∧ aoper C self (fr.evalM C.NG (looksOf arr o)) H o.op = some (v0, H1) ∧ H' = H1.bump ∧ recs' = ⟨i, H.next, H1.next + 1, true⟩ :: recs) ∨
    (∃ b H1, awanted lops fr o = some true ∧ bs[i]? = some b ∧ (∀ r ∈ unordered b recs, r.wr = false) ∧
      aoper C self (fr.evalM C.NG (looksOf arr o)) { H with wmin := H.next, hide := (unordered b recs).map (fun r => (r.lo, r.hi)) ++ H.hide } o.op = some (v0, H1) ∧
      H' = { H1 with wmin := H.wmin, hide := H.hide, next := H1.next + 1 } ∧ recs' = ⟨i, H.next, H1.next + 1, false⟩ :: recs) := by
  cases h with
  | skip h => exact .inl ⟨h, rfl, rfl, rfl⟩
  | pure _ h h' => exact .inr (.inl ⟨h, h', rfl, rfl⟩)
  | write b _ H1 h1 h2 h3 h4 => exact .inr (.inr (.inl ⟨b, H1, h1, h2, h3, h4, rfl, rfl⟩))
  | look b _ H1 h1 h2 h3 h4 => exact .inr (.inr (.inr ⟨b, H1, h1, h2, h3, h4, rfl, rfl⟩))

/-- One more is taken. -/
def also (D : Nat → Bool) (i : Nat) (k : Nat) : Bool := Nat.beq k i || D k

theorem also_self (D : Nat → Bool) (i : Nat) : also D i i = true := by simp [also]
theorem also_of {i k : Nat} (h : D k = true) : also D i k = true := by simp [also, h]
theorem also_inv {i k : Nat} (h : also D i k = true) : k = i ∨ D k = true := by
  simp only [also, Bool.or_eq_true] at h
  exact h.imp Nat.eq_of_beq_eq_true id
theorem also_ne {i k : Nat} (h : k ≠ i) : also D i k = D k := by
  have : Nat.beq k i = false := by
    cases hq : Nat.beq k i with
    | false => rfl
    | true => exact absurd (Nat.eq_of_beq_eq_true hq) h
  simp [also, this]

/-- Who is taken next sees in its temporaries what it saw in the text's order. -/
theorem Walked.sees (d : Walked C self ops bs S v) (hc : ∀ (k : Nat) (o : Oper), ops[k]? = some o → D k = true → ∀ e ∈ o.after, Region.binds .any e = true → D e.on = true) (hs : (S 0).fr.n ≤ 1000000) {i : Nat} {o : Oper} (ho : ops[i]? = some o) (hD : D i = false)
    (hE : ∀ e ∈ o.after, Region.binds .any e = true → D e.on = true) {t : Nat} (ht : t ∈ o.looksAt ops) : (S i).fr.tr.get t = (frD ops v D (S 0).fr ops.size).tr.get t := by
  have hi := (Array.getElem?_eq_some_iff.1 ho).1
  rw [← walked_fr d i (by omega)]
  have e1 : (frD ops v D (S 0).fr ops.size).tr.get t = (frD ops v D (S 0).fr i).tr.get t := by
    refine frD_get_skip hs (by omega) fun j oj h1 h2 h3 h4 h5 => ?_
    by_cases hij : j = i
    · subst hij; rw [hD] at h4; cases h4
    · rcases d.apart i j o oj (by omega) ho h3 with ⟨b, hb, hbit⟩ | hap
      · have := d.bits hc j oj b i h3 (hc j oj h3 h4) hb hbit
        rw [hD] at this; cases this
      · exact (Oper.apart_spec hap).2.2 t h5 ht
  rw [e1]
  refine frD_get_same hs fun j oj h1 h2 h3 => ?_
  rcases d.apart j i oj o h1 h2 ho with ⟨b, hb, hbit⟩ | hap
  · exact (d.bits hc i o b j ho hE hb hbit).symm
  · exact absurd ht ((Oper.apart_spec hap).1 t h3)

/-- What it sets, it sets last. -/
theorem Walked.sets (d : Walked C self ops bs S v) (hc : ∀ (k : Nat) (o : Oper), ops[k]? = some o → D k = true → ∀ e ∈ o.after, Region.binds .any e = true → D e.on = true) (hs : (S 0).fr.n ≤ 1000000) {i : Nat} {o : Oper} (ho : ops[i]? = some o) (hD : D i = false)
    {ρ : Rho} {a : Act} (hf : FrRel ρ ((frD ops v D (S 0).fr ops.size).put o.dst (v i)) a) : FrRel ρ (frD ops v (also D i) (S 0).fr ops.size) a := by
  have hi := (Array.getElem?_eq_some_iff.1 ho).1
  have hn := fun (D : Nat → Bool) k => frD_n (ops := ops) (v := v) (D := D) (fr := (S 0).fr) k
  refine hf.congr ?_ ?_ fun t => ?_
  · rw [AFr.put_n, (hn _ _).1, (hn _ _).1]
  · rw [AFr.put_marks, (hn _ _).2, (hn _ _).2]
  · rw [AFr.put_get _ (by rw [(hn _ _).1]; exact hs), (hn _ _).1]
    have key : ∀ m, i < m → m ≤ ops.size → (frD ops v (also D i) (S 0).fr m).tr.get t = if o.dst = some t ∧ t < (S 0).fr.n then v i else (frD ops v D (S 0).fr m).tr.get t := by
      intro m
      induction m with
      | zero => intro h; omega
      | succ m ih =>
        intro him hm
        by_cases he : i = m
        · subst he
          simp only [frD, ho, also_self, if_true, hD, Bool.false_eq_true, if_false]
          rw [frD_congr (D := also D i) (D' := D) i (fun j hj => also_ne (by omega)), AFr.put_get _ (by rw [(hn _ _).1]; exact hs), (hn _ _).1]
        · have ih := ih (by omega) (by omega)
          have hom := Array.getElem?_eq_getElem (xs := ops) (i := m) (by omega)
          simp only [frD, hom, also_ne (D := D) (i := i) (k := m) (by omega)]
          cases hDm : D m with
          | false => simpa using ih
          | true =>
            simp only [if_true]
            rw [AFr.put_get _ (by rw [(hn _ _).1]; exact hs), AFr.put_get _ (by rw [(hn _ _).1]; exact hs), (hn _ _).1, (hn _ _).1, ih]
            by_cases h1 : (ops[m]).dst = some t
            · have h2 : o.dst ≠ some t := fun h => by
                rcases d.apart i m o _ (by omega) ho hom with ⟨b, hb, hbit⟩ | hap
                · have := d.bits hc m _ b i hom (hc m _ hom hDm) hb hbit
                  rw [hD] at this; cases this
                · exact (Oper.apart_spec hap).2.1 t h h1
              rw [if_neg (fun h : o.dst = some t ∧ t < (S 0).fr.n => h2 h.1)]
              rw [if_neg (fun h : o.dst = some t ∧ t < (S 0).fr.n => h2 h.1)]
            · rw [if_neg (fun h => h1 h.1), if_neg (fun h : (ops[m]).dst = some t ∧ _ => h1 h.1)]
    exact key ops.size hi (Nat.le_refl _)

end

end Go.Ev
