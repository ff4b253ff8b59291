/- Regions whose order is open: what holds after some of the operations, in whatever order they were taken. -/
import Derived.Test.YthcfhmdoelpbdaaGreatDoorEvZe
namespace Go.Ev
set_option linter.unusedVariables false
set_option linter.unusedSimpArgs false
open Go Go.RowKit

/-! ### What the world bears, told by a relation -/

structure PostL (NG base : Nat) (ρ0 : Rho) (H0 : Heap) (Lk : Nat → AObj → Prop) (w0 w : World) (ρ : Rho) : Prop where
  ext : Ext ρ0 ρ
  glob : Glob NG ρ
  dom : ∀ b o, Lk b o → ρ.dom b
  obj : ∀ b o, Lk b o → ObjRel ρ w b o
  own : ∀ b o, Lk b o → o.wr = true → base ≤ ρ.blk b
  sep : ∀ b b' o o', Lk b o → Lk b' o' → b ≠ b' → o.wr = true → ρ.blk b = ρ.blk b' → sameRoot o o' = true
  hb : base ≤ w.heap.size
  below : Below base w0 w
  chg : ∀ k, k < w0.heap.size → (∀ b o, look H0 b = some o → o.wr = true → H0.wmin ≤ b → ρ0.blk b ≠ k) → w.heap[k]? = w0.heap[k]?
  newb : ∀ b o, Lk b o → ¬ ρ0.dom b → w0.heap.size ≤ ρ.blk b ∨ ∃ b0 o0, look H0 b0 = some o0 ∧ o0.wr = true ∧ H0.wmin ≤ b0 ∧ ρ.blk b = ρ0.blk b0
  old : ∀ b o', Lk b o' → ρ0.dom b → ∃ o, look H0 b = some o ∧ (o'.wr = true → o.wr = true)

section
variable {NG base : Nat} {ρ0 ρ1 ρ2 : Rho} {H0 H1 H2 : Heap} {Lk Lk' : Nat → AObj → Prop} {w0 w1 w2 : World}

theorem PostL.of (p : Post NG base ρ0 H0 H1 w0 w1 ρ1) : PostL NG base ρ0 H0 (fun b o => look H1 b = some o) w0 w1 ρ1 :=
  ⟨p.ext, p.rel.glob, p.rel.dom, p.rel.obj, p.rel.own, p.rel.sep, p.rel.hb, p.below, p.chg, p.newb, p.old⟩

theorem PostL.sub (p : PostL NG base ρ0 H0 Lk w0 w1 ρ1) (h : ∀ b o, Lk' b o → Lk b o) : PostL NG base ρ0 H0 Lk' w0 w1 ρ1 :=
  ⟨p.ext, p.glob, fun b o ho => p.dom b o (h b o ho), fun b o ho => p.obj b o (h b o ho), fun b o ho => p.own b o (h b o ho), fun b b' o o' ho ho' => p.sep b b' o o' (h b o ho) (h b' o' ho'), p.hb, p.below, p.chg,
   fun b o ho => p.newb b o (h b o ho), fun b o ho => p.old b o (h b o ho)⟩

theorem PostL.rel (p : PostL NG base ρ0 H0 Lk w0 w1 ρ1) (h : ∀ b o, look H1 b = some o → Lk b o) (hlt : ∀ b o, look H1 b = some o → b < H1.next) (hh : ∀ x ∈ H1.hide, x.2 ≤ H1.next) : Rel NG base ρ1 H1 w1 :=
  ⟨p.glob, hh, hlt, fun b o ho => p.dom b o (h b o ho), fun b o ho => p.obj b o (h b o ho), fun b o ho => p.own b o (h b o ho), fun b b' o o' ho ho' => p.sep b b' o o' (h b o ho) (h b' o' ho'), p.hb⟩

theorem PostL.post (p : PostL NG base ρ0 H0 Lk w0 w1 ρ1) (h : ∀ b o, look H1 b = some o → Lk b o) (hlt : ∀ b o, look H1 b = some o → b < H1.next) (hh : ∀ x ∈ H1.hide, x.2 ≤ H1.next) (hn : H0.next ≤ H1.next) (hm : H1.wmin = H0.wmin)
    (hd : ∀ b, ρ1.dom b → ρ0.dom b ∨ (H0.next ≤ b ∧ b < H1.next)) : Post NG base ρ0 H0 H1 w0 w1 ρ1 :=
  ⟨p.ext, p.rel h hlt hh, hd, hn, hm, p.below, p.chg, fun b o ho => p.newb b o (h b o ho), fun b o ho => p.old b o (h b o ho)⟩

/-- A writer is taken. -/
theorem PostL.trans (p : PostL NG base ρ0 H0 Lk w0 w1 ρ1) (h : ∀ b o, look H1 b = some o → Lk b o) (hm : H1.wmin = H0.wmin) (q : Post NG base ρ1 H1 H2 w1 w2 ρ2) :
    PostL NG base ρ0 H0 (fun b o => look H2 b = some o) w0 w2 ρ2 := by
  refine ⟨p.ext.trans q.ext, q.rel.glob, q.rel.dom, q.rel.obj, q.rel.own, q.rel.sep, q.rel.hb, p.below.trans q.below, fun k hk hno => ?_, fun b o ho hd => ?_, fun b o' ho hd => ?_⟩
  · rw [q.chg k (Nat.lt_of_lt_of_le hk p.below.size) ?_, p.chg k hk hno]
    intro b o ho hw hmm
    by_cases hd : ρ0.dom b
    · obtain ⟨o0, h0, h1⟩ := p.old b o (h b o ho) hd
      rw [p.ext.blk b hd]
      exact hno b o0 h0 (h1 hw) (by rw [← hm]; exact hmm)
    · rcases p.newb b o (h b o ho) hd with h | ⟨b0, o0, h0, h1, h2, h3⟩
      · omega
      · rw [h3]; exact hno b0 o0 h0 h1 h2
  · by_cases hd1 : ρ1.dom b
    · obtain ⟨o1, h1, _⟩ := q.old b o ho hd1
      rw [q.ext.blk b hd1]
      exact p.newb b o1 (h b o1 h1) hd
    · rcases q.newb b o ho hd1 with h' | ⟨b1, o1, h0, h1, h2, h3⟩
      · exact .inl (Nat.le_trans p.below.size h')
      · by_cases hd2 : ρ0.dom b1
        · obtain ⟨o0, h00, h01⟩ := p.old b1 o1 (h b1 o1 h0) hd2
          exact .inr ⟨b1, o0, h00, h01 h1, by rw [← hm]; exact h2, by rw [h3, p.ext.blk b1 hd2]⟩
        · rw [h3]; exact p.newb b1 o1 (h b1 o1 h0) hd2
  · obtain ⟨o1, h1, h2⟩ := q.old b o' ho (p.ext.dom b hd)
    obtain ⟨o0, h3, h4⟩ := p.old b o1 (h b o1 h1) hd
    exact ⟨o0, h3, fun h => h4 (h2 h)⟩

/-- One that only looks is taken: what was there stays, its own is added. -/
theorem PostL.add (p : PostL NG base ρ0 H0 Lk w0 w1 ρ1) (hm : H1.wmin = H1.next) (hr : Rel NG base ρ1 H1 w1) (q : Post NG base ρ1 H1 H2 w1 w2 ρ2) :
    PostL NG base ρ0 H0 (fun b o => Lk b o ∨ (H1.next ≤ b ∧ look H2 b = some o)) w0 w2 ρ2 := by
  have hheap : ∀ k, k < w1.heap.size → w2.heap[k]? = w1.heap[k]? := fun k hk => q.chg k hk fun b o ho _ hb => by
    have := hr.lt b o ho
    omega
  have hnew : ∀ b o, H1.next ≤ b → look H2 b = some o → ¬ ρ1.dom b := fun b o hb ho hd => by
    obtain ⟨o1, h1, _⟩ := q.old b o ho hd
    have := hr.lt b o1 h1
    omega
  have hfar : ∀ b o, H1.next ≤ b → look H2 b = some o → w1.heap.size ≤ ρ2.blk b := fun b o hb ho => by
    rcases q.newb b o ho (hnew b o hb ho) with h | ⟨b0, o0, h0, _, h2, _⟩
    · exact h
    · have := hr.lt b0 o0 h0
      omega
  refine ⟨p.ext.trans q.ext, q.rel.glob, ?_, ?_, ?_, ?_, q.rel.hb, p.below.trans q.below, ?_, ?_, ?_⟩
  · rintro b o (h | ⟨_, h⟩)
    · exact q.ext.dom b (p.dom b o h)
    · exact q.rel.dom b o h
  · rintro b o (h | ⟨_, h⟩)
    · refine ((p.obj b o h).congr (hheap _ ?_)).mono (p.dom b o h) q.ext
      exact (p.obj b o h).lt
    · exact q.rel.obj b o h
  · rintro b o (h | ⟨_, h⟩) hw
    · rw [q.ext.blk b (p.dom b o h)]; exact p.own b o h hw
    · exact q.rel.own b o h hw
  · rintro b b' o o' (h | ⟨g, h⟩) (h' | ⟨g', h'⟩) hne hw he
    · rw [q.ext.blk b (p.dom b o h), q.ext.blk b' (p.dom b' o' h')] at he
      exact p.sep b b' o o' h h' hne hw he
    · rw [q.ext.blk b (p.dom b o h)] at he
      have := (p.obj b o h).lt
      have := hfar b' o' g' h'
      omega
    · rw [q.ext.blk b' (p.dom b' o' h')] at he
      have := (p.obj b' o' h').lt
      have := hfar b o g h
      omega
    · exact q.rel.sep b b' o o' h h' hne hw he
  · intro k hk hno
    rw [hheap k (Nat.lt_of_lt_of_le hk p.below.size), p.chg k hk hno]
  · rintro b o (h | ⟨g, h⟩) hd
    · rw [q.ext.blk b (p.dom b o h)]; exact p.newb b o h hd
    · exact .inl (Nat.le_trans p.below.size (hfar b o g h))
  · rintro b o' (h | ⟨g, h⟩) hd
    · exact p.old b o' h hd
    · exact absurd (p.ext.dom b hd) (hnew b o' g h)

end

/-! ### Temporaries -/

/-- The frame after those of the first k operations that have been taken. -/
def frD (ops : Array Oper) (v : Nat → Value) (D : Nat → Bool) (fr : AFr) : Nat → AFr
  | 0 => fr
  | k + 1 => match ops[k]? with
    | some o => if D k then (frD ops v D fr k).put o.dst (v k) else frD ops v D fr k
    | none => frD ops v D fr k

theorem AFr.put_n (fr : AFr) (dst : Option Tmp) (v : Value) : (fr.put dst v).n = fr.n := by
  cases dst with
  | none => rfl
  | some d =>
    simp only [AFr.put]
    cases Nat.blt d fr.n <;> rfl
theorem AFr.put_marks (fr : AFr) (dst : Option Tmp) (v : Value) : (fr.put dst v).marks = fr.marks := by
  cases dst with
  | none => rfl
  | some d =>
    simp only [AFr.put]
    cases Nat.blt d fr.n <;> rfl

theorem AFr.put_get (fr : AFr) (hs : fr.n ≤ 1000000) (dst : Option Tmp) (v : Value) (t : Nat) : (fr.put dst v).tr.get t = if dst = some t ∧ t < fr.n then v else fr.tr.get t := by
  cases dst with
  | none => simp [AFr.put]
  | some d0 =>
    obtain ⟨d, rfl⟩ : ∃ d : Nat, d = d0 := ⟨d0, rfl⟩
    simp only [AFr.put]
    cases hd : Nat.blt d fr.n with
    | false =>
      have hge : fr.n ≤ d := blt_f hd
      simp only [cond_false]
      rw [if_neg]
      rintro ⟨h1, h2⟩
      simp only [Option.some.injEq] at h1
      subst h1
      omega
    | true =>
      have hlt : d < fr.n := blt_t hd
      simp only [cond_true]
      rw [Tr.get_set 20 _ _ _ _ (by have : (2 : Nat) ^ 20 = 1048576 := rfl; omega)]
      by_cases h : t = d
      · subst h
        rw [if_pos rfl, if_pos ⟨rfl, hlt⟩]
      · rw [if_neg h, if_neg]
        rintro ⟨h1, _⟩
        simp only [Option.some.injEq] at h1
        exact h h1.symm

section
variable {ops : Array Oper} {v : Nat → Value} {D D' : Nat → Bool} {fr : AFr}

theorem frD_n : ∀ k, (frD ops v D fr k).n = fr.n ∧ (frD ops v D fr k).marks = fr.marks := by
  intro k
  induction k with
  | zero => exact ⟨rfl, rfl⟩
  | succ k ih =>
    simp only [frD]
    split
    · split
      · rw [AFr.put_n, AFr.put_marks]; exact ih
      · exact ih
    · exact ih

theorem frD_congr : ∀ k, (∀ j, j < k → D j = D' j) → frD ops v D fr k = frD ops v D' fr k := by
  intro k
  induction k with
  | zero => intro _; rfl
  | succ k ih =>
    intro h
    simp only [frD]
    rw [ih fun j hj => h j (by omega), h k (by omega)]

/-- What was taken and does not set a temporary changes it not. -/
theorem frD_get_skip (hs : fr.n ≤ 1000000) {t i : Nat} : ∀ {m : Nat}, i ≤ m → (∀ j o, i ≤ j → j < m → ops[j]? = some o → D j = true → o.dst ≠ some t) → (frD ops v D fr m).tr.get t = (frD ops v D fr i).tr.get t := by
  intro m
  induction m with
  | zero => intro h _; have : i = 0 := by omega
            subst this; rfl
  | succ m ih =>
    intro h hj
    by_cases he : i = m + 1
    · subst he; rfl
    · rw [← ih (by omega) fun j o h1 h2 => hj j o h1 (by omega)]
      simp only [frD]
      split
      · rename_i o ho
        split
        · rename_i hD
          rw [AFr.put_get _ (by rw [(frD_n m).1]; exact hs), if_neg]
          rintro ⟨h1, _⟩
          exact hj m o (by omega) (by omega) ho hD h1
        · rfl
      · rfl

/-- Two sets that agree on who sets a temporary. -/
theorem frD_get_same (hs : fr.n ≤ 1000000) {t : Nat} : ∀ {m : Nat}, (∀ j o, j < m → ops[j]? = some o → o.dst = some t → D j = D' j) → (frD ops v D fr m).tr.get t = (frD ops v D' fr m).tr.get t := by
  intro m
  induction m with
  | zero => intro _; rfl
  | succ m ih =>
    intro hj
    have ih := ih fun j o h1 => hj j o (by omega)
    simp only [frD]
    split
    · rename_i o ho
      have hn := (frD_n (ops := ops) (v := v) (D := D) (fr := fr) m).1
      have hn' := (frD_n (ops := ops) (v := v) (D := D') (fr := fr) m).1
      by_cases hd : o.dst = some t
      · rw [hj m o (by omega) ho hd]
        split
        · rw [AFr.put_get _ (by rw [hn]; exact hs), AFr.put_get _ (by rw [hn']; exact hs), hn, hn', ih]
        · exact ih
      · have h1 : ∀ (f : AFr) x, f.n ≤ 1000000 → (f.put o.dst x).tr.get t = f.tr.get t := fun f x hf => by
          rw [AFr.put_get _ hf, if_neg fun h => hd h.1]
        have g1 := h1 (frD ops v D fr m) (v m) (by rw [hn]; exact hs)
        have g2 := h1 (frD ops v D' fr m) (v m) (by rw [hn']; exact hs)
        split <;> split
        · rw [g1, g2]; exact ih
        · rw [g1]; exact ih
        · rw [g2]; exact ih
        · exact ih
    · exact ih

end

theorem FrRel.congr {ρ : Rho} {fr fr' : AFr} {a : Act} (h : FrRel ρ fr a) (hn : fr'.n = fr.n) (hm : fr'.marks = fr.marks) (ht : ∀ t, fr'.tr.get t = fr.tr.get t) : FrRel ρ fr' a :=
  ⟨by rw [hn]; exact h.size, by rw [hn]; exact h.small, fun t v' hv => by rw [ht]; exact h.tmp t v' hv, fun t hge => by rw [ht]; exact h.out t (by rw [← hn]; exact hge), by rw [hm]; exact h.defers, by rw [hm]; exact h.marks⟩

theorem walked_fr {C : Cfg} {self : Self} {ops : Array Oper} {bs : List Nat} {S : Nat → St} {v : Nat → Value} (d : Walked C self ops bs S v) : ∀ k, k ≤ ops.size → frD ops v (fun _ => true) (S 0).fr k = (S k).fr := by
  intro k
  induction k with
  | zero => intro _; rfl
  | succ k ih =>
    intro hk
    have ho := Array.getElem?_eq_getElem (xs := ops) (i := k) (by omega)
    simp only [frD, ho, if_true]
    rw [ih (by omega), d.put k _ ho]

end Go.Ev
