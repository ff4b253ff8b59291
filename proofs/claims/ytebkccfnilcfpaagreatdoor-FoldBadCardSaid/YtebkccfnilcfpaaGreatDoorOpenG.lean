/- Slices that came in, as ones that are only read. -/
import Derived.Test.YtebkccfnilcfpaaGreatDoorSyCtr
import Derived.Test.YtebkccfnilcfpaaGreatDoorSyRow
import Derived.Deep.Fields
import Derived.Deep.Slices
import Derived.Deep.SlicePairs
import Derived.ChangeSlices
import Derived.Lib.SmallJoins
namespace Go.Proofs.YtebkccfnilcfpaaGreatDoor
open Go Go.Sy Go.ChangeShapes Go.WideShapes Go.RowKit Go.Deep

section
variable {H : Type} {enc : TypeId × Value → H} {P : Program} {w : World} {base : Nat} {spare : Nat → Bool} {held : Bool}
/-- a struct by value whose fields take one cell each: each field's own reading -/
theorem open_aggX {r : Reach} {b0 : Nat} {t : TypeId} {fs : Array Field} {v : Value} {d : DataW H} {p : List MemPlace} (hs : P.underlying t = some (.struct fs)) (hone : oneCellFields P fs = true) (hC : P.cellsOf t = fs.size)
    (hv : Value.okWide P w r b0 t v) (h : DataW.Trod enc P w base spare held t v d p) :
    ∃ (cs : Array Value) (n : Nat), v = .agg cs ∧ cs.size = fs.size ∧
      ∀ (j : Nat) (f : Field), fs[j]? = some f → ∃ c y, cs[j]? = some c ∧ DataW.trod enc P w base spare held n f.type [c] = some y := by
  obtain ⟨cs, rfl, hsz⟩ := okWide_struct hs hv
  obtain ⟨fuel, hf⟩ := h
  obtain ⟨ys, n, _, hx, _, hlen, hg⟩ := DataW.trod_struct hs hf
  refine ⟨cs, n, rfl, hsz.trans hC, fun j f hj => ?_⟩
  obtain ⟨ho, hk⟩ := hone_of hone j f hj
  have hjl : j < fs.size := (Array.getElem?_eq_some_iff.1 hj).1
  have hjc : j < cs.size := by omega
  have h1 := hg j f hj
  rw [ho, hk] at h1
  have h2 : (((Value.agg cs).cells.toList).drop j).take 1 = [cs[j]] := by
    show ((cs.toList).drop j).take 1 = _
    rw [List.drop_eq_getElem_cons (by simpa using hjc)]
    simp
  rw [h2] at h1
  have hys : ys[j]? = some (ys[j]'(by omega)) := List.getElem?_eq_getElem (by omega)
  exact ⟨_, _, Array.getElem?_eq_getElem hjc, h1.trans hys⟩

/-- a slice that is only read, as it lies in the world -/
def RowW (w : World) (v : Value) (srts : List Srt) (cells : List Value) : Prop :=
  ∃ a n c, v = .slice a n c ∧ cells.length = n * srts.length ∧ (∀ (j : Nat) v s, cells[j]? = some v → srts[j % srts.length]? = some s → HasS s v) ∧
    (0 < n → ∃ b o ccs el fr, a = some ⟨b, o, none⟩ ∧ b < w.heap.size ∧ w.heap[b]? = some (.cells ccs el fr) ∧ o + n * srts.length ≤ ccs.size ∧ ∀ j, j < n * srts.length → ccs[o + j]? = cells[j]?) ∧ n ≤ c

theorem addX (b o k : Nat) : (⟨b, o, none⟩ : Addr).add k = ⟨b, o + k, none⟩ := by
  unfold Addr.add
  split
  · simp_all
  · rfl

theorem lenX {α β : Type} (f g : α → β) (l : List α) : (l.flatMap fun p => [f p, g p]).length = l.length * 2 := by
  induction l with
  | nil => rfl
  | cons x r ih => rw [List.flatMap_cons, List.length_append, ih, List.length_cons]; simp only [List.length_cons, List.length_nil]; omega

theorem row_cells {a : Addr} {m : Nat} {cells : List Value} (hm : 0 < m) (hl : cells.length = m) (h : ∀ j, j < m → w.cell? (a.add j) = cells[j]?) :
    ∃ b o ccs el fr, (some a : Option Addr) = some ⟨b, o, none⟩ ∧ b < w.heap.size ∧ w.heap[b]? = some (.cells ccs el fr) ∧ o + m ≤ ccs.size ∧ ∀ j, j < m → ccs[o + j]? = cells[j]? := by
  obtain ⟨b, o, sp⟩ := a
  have h0 := h 0 hm
  have e0 : cells[0]? = some (cells[0]'(by omega)) := List.getElem?_eq_getElem (by omega)
  rw [e0] at h0
  have ha0 : (⟨b, o, sp⟩ : Addr).add 0 = ⟨b, o, sp⟩ := rfl
  rw [ha0] at h0
  unfold World.cell? at h0
  split at h0
  · rename_i ccs el fr hh
    have hsp : sp = none := by
      cases sp with
      | none => rfl
      | some => simp at h0
    subst hsp
    have hall : ∀ j, j < m → ccs[o + j]? = cells[j]? := fun j hj => by
      have := h j hj
      rw [← this, addX]
      unfold World.cell?
      simp only [hh]
      rfl
    refine ⟨b, o, ccs, el, fr, rfl, (Array.getElem?_eq_some_iff.1 hh).1, hh, ?_, hall⟩
    have := hall (m - 1) (by omega)
    rw [List.getElem?_eq_getElem (by omega : m - 1 < cells.length)] at this
    have := (Array.getElem?_eq_some_iff.1 this).1
    omega
  · cases h0

theorem open_rowI {n0 : Nat} {t e : TypeId} {k : IntKind} {v : Value} {x : DataW H × List MemPlace} (ht : P.underlying t = some (.slice e)) (he : P.underlying e = some (.int k)) (hc : P.cellsOf e = 1)
    (h : DataW.trod enc P w base spare held n0 t [v] = some x) : ∃ xs : List Int, RowW w v [.int k] (xs.map (Value.int k)) ∧ (∀ n ∈ xs, (Lit.int k n).wf = true) ∧ xs.length ≤ maxLen := by
  rcases open_ints ht he hc h with ⟨hv, _⟩ | ⟨a, len, cap, zs, hv, _, hl, hmx, hlen, _, hcell, hwf⟩
  · injection hv with hv
    exact ⟨[], ⟨none, 0, 0, hv, rfl, by simp, fun h => by omega, Nat.le_refl _⟩, by simp, by simp⟩
  · injection hv with hv
    have hzl : len ≤ zs.length := by rw [hlen]; split <;> omega
    refine ⟨zs.take len, ⟨some a, len, cap, hv, by simp; omega, fun j v s h1 h2 => ?_, fun hn => ?_, hl⟩, fun n hn => hwf n (List.mem_of_mem_take hn), by simp; omega⟩
    · have e1 : j % [Srt.int k].length = 0 := by simp [Nat.mod_one]
      rw [e1] at h2
      simp only [List.getElem?_cons_zero, Option.some.injEq] at h2
      subst h2
      rw [List.getElem?_map] at h1
      cases hq : (zs.take len)[j]? with
      | none => rw [hq] at h1; cases h1
      | some z => rw [hq] at h1; cases h1; exact ⟨z, rfl⟩
    · have hm : len * [Srt.int k].length = len := by simp
      rw [hm]
      refine row_cells hn (by simp; omega) fun j hj => ?_
      rw [hcell j (by omega), List.getElem?_map, List.getElem?_take_of_lt hj]
      simp [List.getD, List.getElem?_eq_getElem (show j < zs.length by omega)]

theorem open_rowP {n0 : Nat} {t e : TypeId} {k k' : IntKind} {f0 f1 : Field} {v : Value} {x : DataW H × List MemPlace} (ht : P.underlying t = some (.slice e)) (he : P.underlying e = some (.struct #[f0, f1]))
    (ce : P.cellsOf e = 2) (o0 : f0.offset = 0) (o1 : f1.offset = 1) (c0 : P.cellsOf f0.type = 1) (c1 : P.cellsOf f1.type = 1) (i0 : P.underlying f0.type = some (.int k)) (i1 : P.underlying f1.type = some (.int k'))
    (h : DataW.trod enc P w base spare held n0 t [v] = some x) : ∃ xs : List (Int × Int), RowW w v [.int k, .int k'] (xs.flatMap fun (p : Int × Int) => [Value.int k p.1, Value.int k' p.2]) ∧ (∀ p ∈ xs, (Lit.int k p.1).wf = true ∧ (Lit.int k' p.2).wf = true) ∧ xs.length ≤ maxLen := by
  rcases open_slice_pairs ht he ce o0 o1 c0 c1 h with ⟨hv, _⟩ | ⟨a, len, cap, m, q, V0, V1, D0, D1, P0, P1, hv, _, hl, hmx, hm, _, hcell⟩
  · injection hv with hv
    exact ⟨[], ⟨none, 0, 0, hv, rfl, by simp, fun h => by omega, Nat.le_refl _⟩, by simp, by simp⟩
  · injection hv with hv
    have hlm : len ≤ m := by rw [hm]; split <;> omega
    have each : ∀ i, i < m → ∃ q : Int × Int, w.cell? (a.add (i * 2)) = some (.int k q.1) ∧ w.cell? (a.add (i * 2 + 1)) = some (.int k' q.2) ∧ (Lit.int k q.1).wf = true ∧ (Lit.int k' q.2).wf = true := by
      intro i hi
      obtain ⟨h1, h2, h3, h4⟩ := hcell i hi
      obtain ⟨z0, e0, _, w0⟩ := DataW.trod_int i0 h3
      obtain ⟨z1, e1, _, w1⟩ := DataW.trod_int i1 h4
      injection e0 with e0
      injection e1 with e1
      exact ⟨(z0, z1), by rw [h1, e0], by rw [h2, e1], w0, w1⟩
    let f : Nat → Int × Int := fun i => if hi : i < m then Classical.choose (each i hi) else (0, 0)
    have hf : ∀ i, i < len → w.cell? (a.add (i * 2)) = some (.int k (f i).1) ∧ w.cell? (a.add (i * 2 + 1)) = some (.int k' (f i).2) ∧ (Lit.int k (f i).1).wf = true ∧ (Lit.int k' (f i).2).wf = true := by
      intro i hi
      have hi' : i < m := by omega
      simp only [f, dif_pos hi']
      exact Classical.choose_spec (each i hi')
    have hget : ∀ (j : Nat) (l : List (Int × Int)), (l.flatMap fun (p : Int × Int) => [Value.int k p.1, Value.int k' p.2])[j]? = (l[j / 2]?).map fun p => if j % 2 = 0 then Value.int k p.1 else Value.int k' p.2 := by
      intro j l
      induction l generalizing j with
      | nil => simp
      | cons p r ih =>
        match j with
        | 0 => simp
        | 1 => simp
        | j + 2 =>
          have e1 : (j + 2) / 2 = j / 2 + 1 := by omega
          have e2 : (j + 2) % 2 = j % 2 := by omega
          rw [e1, e2]
          simpa using ih j
    have hlen : (((List.range len).map f).flatMap fun (p : Int × Int) => [Value.int k p.1, Value.int k' p.2]).length = len * 2 := by
      rw [lenX, List.length_map, List.length_range]
    have hgr : ∀ i, i < len → ((List.range len).map f)[i]? = some (f i) := fun i hi => by rw [List.getElem?_map, List.getElem?_range hi]; rfl
    refine ⟨(List.range len).map f, ⟨some a, len, cap, hv, hlen, fun j v s h1 h2 => ?_, fun hn => ?_, hl⟩, fun p hp => ?_, by simp; omega⟩
    · rw [hget] at h1
      cases hq : ((List.range len).map f)[j / 2]? with
      | none => rw [hq] at h1; cases h1
      | some z =>
        rw [hq] at h1
        simp only [Option.map_some, Option.some.injEq] at h1
        have e1 : j % [Srt.int k, Srt.int k'].length = j % 2 := rfl
        rw [e1] at h2
        rcases (by omega : j % 2 = 0 ∨ j % 2 = 1) with e | e
        · rw [e] at h1 h2
          simp only [List.getElem?_cons_zero, Option.some.injEq, if_true] at h1 h2
          subst h2; exact ⟨_, h1.symm⟩
        · rw [e] at h1 h2
          simp only [List.getElem?_cons_succ, List.getElem?_cons_zero, Option.some.injEq] at h2
          rw [if_neg (by omega)] at h1
          subst h2; exact ⟨_, h1.symm⟩
    · have hm2 : len * [Srt.int k, Srt.int k'].length = len * 2 := rfl
      rw [hm2]
      refine row_cells (by omega) hlen fun j hj => ?_
      rw [hget, hgr (j / 2) (by omega)]
      simp only [Option.map_some]
      obtain ⟨g1, g2, _⟩ := hf (j / 2) (by omega)
      rcases (by omega : j % 2 = 0 ∨ j % 2 = 1) with e | e
      · rw [if_pos e, ← g1]
        congr 2
        omega
      · rw [if_neg (by omega), ← g2]
        congr 2
        omega
    · obtain ⟨i, hi, rfl⟩ := List.mem_map.1 hp
      obtain ⟨_, _, g3, g4⟩ := hf i (List.mem_range.1 hi)
      exact ⟨g3, g4⟩
end

theorem i9 {E : Env} (k) {i : Int} {a n c} (h : E.rows.v i.toNat = .slice a n c) : interp E 9 [.int k i] = some (.slice a n c) := by simp only [interp, h]
theorem i11 {E : Env} (a n c) : interp E 11 [.slice a n c] = some (.int .i64 (n : Nat)) := rfl
theorem i80 {E : Env} (k i) : interp E 80 [.int k i] = some (.agg (E.rows.cells i.toNat).toArray) := rfl

theorem rowW_len {w : World} {v : Value} {k : IntKind} {l : List Int} (h : RowW w v [.int k] (l.map (Value.int k))) : ∃ a c, v = .slice a l.length c := by
  obtain ⟨a, n, c, rfl, h2, _⟩ := h
  have : n = l.length := by simpa using h2.symm
  subst this
  exact ⟨a, c, rfl⟩
theorem rowW_lenP {w : World} {v : Value} {k k' : IntKind} {l : List (Int × Int)} (h : RowW w v [.int k, .int k'] (l.flatMap fun (p : Int × Int) => [Value.int k p.1, Value.int k' p.2])) : ∃ a c, v = .slice a l.length c := by
  obtain ⟨a, n, c, rfl, h2, _⟩ := h
  rw [lenX] at h2
  have : n = l.length := by simp only [List.length_cons, List.length_nil] at h2; omega
  subst this
  exact ⟨a, c, rfl⟩

theorem open_sliceI {H : Type} {enc : TypeId × Value → H} {P : Program} {w : World} {base : Nat} {spare : Nat → Bool} {held : Bool} {r : Reach} {b0 : Nat} {t e : TypeId} {k : IntKind} {v : Value} {d : DataW H} {ps : List MemPlace}
    (ht : P.underlying t = some (.slice e)) (he : P.underlying e = some (.int k)) (hc : P.cellsOf e = 1) (hv : Value.okWide P w r b0 t v) (h : DataW.Trod enc P w base spare held t v d ps) :
    ∃ xs : List Int, RowW w v [.int k] (xs.map (Value.int k)) ∧ ∀ n ∈ xs, (Lit.int k n).wf = true := by
  obtain ⟨a, len, cap, rfl⟩ := okWide_slice ht hv
  obtain ⟨fuel, hf⟩ := h
  obtain ⟨xs, h1, h2, _⟩ := open_rowI ht he hc (v := .slice a len cap) hf
  exact ⟨xs, h1, h2⟩
end Go.Proofs.YtebkccfnilcfpaaGreatDoor
