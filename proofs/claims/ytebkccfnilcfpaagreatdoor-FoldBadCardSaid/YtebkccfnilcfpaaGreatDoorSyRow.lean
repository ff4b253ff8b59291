/- SyRowX: joined of SyRow, SyOwn. -/
import Derived.Test.YtebkccfnilcfpaaGreatDoorSyIX

/- What slices hold: numbers, texts, pairs; the reckoning of operations on them. -/
namespace Go.Sy
set_option linter.unusedVariables false
set_option linter.unusedSimpArgs false
open Go Go.RowKit

def ints (k : IntKind) (l : List Int) : Value := .agg (l.map (Value.int k)).toArray
def strs (l : List ByteArray) : Value := .agg (l.map Value.string).toArray
def prs (k k' : IntKind) (l : List (Int × Int)) : Value := .agg (l.flatMap fun (p : Int × Int) => [Value.int k p.1, Value.int k' p.2]).toArray

theorem list_of_all {α : Type} {f : α → Value} : ∀ {l : List Value}, (∀ v ∈ l, ∃ x, v = f x) → ∃ q : List α, l = q.map f
  | [], _ => ⟨[], rfl⟩
  | v :: r, h => by
    obtain ⟨x, hx⟩ := h v (by simp)
    obtain ⟨q, hq⟩ := list_of_all (l := r) fun u hu => h u (by simp [hu])
    exact ⟨x :: q, by simp [hx, hq]⟩

theorem hasR_ints {k : IntKind} {v : Value} (h : HasR [.int k] v) : ∃ l, v = ints k l := by
  obtain ⟨cells, n, rfl, h1, h2⟩ := h
  obtain ⟨q, hq⟩ := list_of_all (f := Value.int k) (l := cells.toList) fun u hu => by
    obtain ⟨j, hj⟩ := List.getElem?_of_mem hu
    obtain ⟨m, hm⟩ := h2 j u (.int k) (by simpa using hj) (by simp [Nat.mod_one])
    exact ⟨m, hm⟩
  exact ⟨q, by simp only [ints, ← hq]⟩

theorem hasR_strs {v : Value} (h : HasR [.str] v) : ∃ l, v = strs l := by
  obtain ⟨cells, n, rfl, h1, h2⟩ := h
  obtain ⟨q, hq⟩ := list_of_all (f := Value.string) (l := cells.toList) fun u hu => by
    obtain ⟨j, hj⟩ := List.getElem?_of_mem hu
    obtain ⟨m, hm⟩ := h2 j u .str (by simpa using hj) (by simp [Nat.mod_one])
    exact ⟨m, hm⟩
  exact ⟨q, by simp only [strs, ← hq]⟩

theorem pairs_of_list {k k' : IntKind} : ∀ (n : Nat) {l : List Value}, l.length = n * 2 → (∀ (j : Nat) u, l[j]? = some u → (j % 2 = 0 → ∃ m, u = .int k m) ∧ (j % 2 = 1 → ∃ m, u = .int k' m)) → ∃ q : List (Int × Int), l = q.flatMap fun (p : Int × Int) => [Value.int k p.1, Value.int k' p.2]
  | 0, l, h, _ => ⟨[], by simpa using h⟩
  | n + 1, [], h, _ => by simp at h
  | n + 1, [a], h, _ => by simp at h; omega
  | n + 1, a :: b :: r, h, hs => by
    obtain ⟨x, hx⟩ := (hs 0 a rfl).1 rfl
    obtain ⟨y, hy⟩ := (hs 1 b rfl).2 rfl
    obtain ⟨q, hq⟩ := pairs_of_list n (l := r) (by simp at h; omega) fun j u hu => by
      have := hs (j + 2) u (by simpa using hu)
      exact ⟨fun h => this.1 (by omega), fun h => this.2 (by omega)⟩
    exact ⟨(x, y) :: q, by simp [hx, hy, hq]⟩

theorem hasR_prs {k k' : IntKind} {v : Value} (h : HasR [.int k, .int k'] v) : ∃ l, v = prs k k' l := by
  obtain ⟨cells, n, rfl, h1, h2⟩ := h
  obtain ⟨q, hq⟩ := pairs_of_list (k := k) (k' := k') n (l := cells.toList) (by simpa using h1) fun j u hu => by
    refine ⟨fun h => ?_, fun h => ?_⟩
    · exact h2 j u (.int k) (by simpa using hu) (by simp [h])
    · exact h2 j u (.int k') (by simpa using hu) (by simp [h])
  exact ⟨q, by simp only [prs, ← hq]⟩

theorem flat_len {k k' : IntKind} (l : List (Int × Int)) : (l.flatMap fun (p : Int × Int) => [Value.int k p.1, Value.int k' p.2]).length = l.length * 2 := by
  induction l with
  | nil => rfl
  | cons a r ih => simp [ih]; omega

theorem flat_get {k k' : IntKind} : ∀ {l : List (Int × Int)} {m : Nat} {p : Int × Int}, l[m]? = some p → (l.flatMap fun (p : Int × Int) => [Value.int k p.1, Value.int k' p.2])[m * 2]? = some (.int k p.1) ∧ (l.flatMap fun (p : Int × Int) => [Value.int k p.1, Value.int k' p.2])[m * 2 + 1]? = some (.int k' p.2)
  | [], m, p, h => by simp at h
  | a :: r, 0, p, h => by simp at h; subst h; simp
  | a :: r, m + 1, p, h => by
    obtain ⟨h1, h2⟩ := flat_get (k := k) (k' := k') (l := r) (m := m) (p := p) (by simpa using h)
    rw [show (m + 1) * 2 = m * 2 + 2 by omega, show m * 2 + 2 + 1 = m * 2 + 1 + 2 by omega]
    exact ⟨by simpa using h1, by simpa using h2⟩

section
variable {E : Env}
theorem i74i (k k' l) : interp E 74 [ints k l, .int k' 1] = some (.int .i64 (l.length : Int)) := by
  show some (Value.int .i64 (((l.map (Value.int k)).toArray.toList.length / 1 : Nat) : Int)) = _
  simp
theorem i74s (k' l) : interp E 74 [strs l, .int k' 1] = some (.int .i64 (l.length : Int)) := by
  show some (Value.int .i64 (((l.map Value.string).toArray.toList.length / 1 : Nat) : Int)) = _
  simp
theorem i74p (k k1 k' l) : interp E 74 [prs k k1 l, .int k' 2] = some (.int .i64 (l.length : Int)) := by
  show some (Value.int .i64 ((((l.flatMap fun (p : Int × Int) => [Value.int k p.1, Value.int k1 p.2])).toArray.toList.length / 2 : Nat) : Int)) = _
  simp only [flat_len]
  rw [Nat.mul_div_cancel _ (by omega)]
theorem i72i {k l} {m : Nat} {x : Int} (h : l[m]? = some x) (a k1 k2 k3) : interp E 72 [.int k a, ints k l, .int k1 (m : Int), .int k2 1, .int k3 0] = some (.int k x) := by
  show (match (l.map (Value.int k)).toArray.toList[m * 1 + 0]? with | some (.int k' n) => cond (decide (k' = k)) (some (Value.int k n)) none | _ => none) = _
  simp only [Nat.mul_one, Nat.add_zero, List.getElem?_map, h, Option.map_some, decide_true, cond_true]
theorem i72i0 {k l} {x : Int} (h : l[0]? = some x) (a k1 k2 k3) : interp E 72 [.int k a, ints k l, .int k1 0, .int k2 1, .int k3 0] = some (.int k x) := i72i (m := 0) h a k1 k2 k3
theorem i73s {l : List ByteArray} {m : Nat} {x : ByteArray} (h : l[m]? = some x) (k1 k2 k3) : interp E 73 [strs l, .int k1 (m : Int), .int k2 1, .int k3 0] = some (.string x) := by
  show (match (l.map Value.string).toArray.toList[m * 1 + 0]? with | some (.string u) => some (Value.string u) | _ => none) = _
  simp only [Nat.mul_one, Nat.add_zero, List.getElem?_map, h, Option.map_some]
theorem i72p0 {k k' l} {m : Nat} {x : Int × Int} (h : l[m]? = some x) (a k1 k2 k3) : interp E 72 [.int k a, prs k k' l, .int k1 (m : Int), .int k2 2, .int k3 0] = some (.int k x.1) := by
  show (match ((l.flatMap fun (p : Int × Int) => [Value.int k p.1, Value.int k' p.2])).toArray.toList[m * 2 + 0]? with | some (.int k'' n) => cond (decide (k'' = k)) (some (Value.int k n)) none | _ => none) = _
  simp only [Nat.add_zero, (flat_get h).1, decide_true, cond_true]
theorem i72p1 {k k' l} {m : Nat} {x : Int × Int} (h : l[m]? = some x) (a k1 k2 k3) : interp E 72 [.int k' a, prs k k' l, .int k1 (m : Int), .int k2 2, .int k3 1] = some (.int k' x.2) := by
  show (match ((l.flatMap fun (p : Int × Int) => [Value.int k p.1, Value.int k' p.2])).toArray.toList[m * 2 + 1]? with | some (.int k'' n) => cond (decide (k'' = k')) (some (Value.int k' n)) none | _ => none) = _
  simp only [(flat_get h).2, decide_true, cond_true]
theorem i76i (k l x) : interp E 76 [ints k l, .int k x] = some (ints k (l ++ [x])) := by
  show some (Value.agg ((l.map (Value.int k)).toArray.toList ++ [Value.int k x]).toArray) = _
  simp [ints]
theorem i76s (l x) : interp E 76 [strs l, .string x] = some (strs (l ++ [x])) := by
  show some (Value.agg ((l.map Value.string).toArray.toList ++ [Value.string x]).toArray) = _
  simp [strs]
theorem i76p (k k' l x y) : interp E 76 [prs k k' l, .int k x, .int k' y] = some (prs k k' (l ++ [(x, y)])) := by
  show some (Value.agg ((l.flatMap fun (p : Int × Int) => [Value.int k p.1, Value.int k' p.2]).toArray.toList ++ [Value.int k x, Value.int k' y]).toArray) = _
  simp [prs]
theorem i77i (k l l') : interp E 77 [ints k l, ints k l'] = some (ints k (l ++ l')) := by
  show some (Value.agg ((l.map (Value.int k)).toArray.toList ++ (l'.map (Value.int k)).toArray.toList).toArray) = _
  simp [ints]
theorem i77s (l l') : interp E 77 [strs l, strs l'] = some (strs (l ++ l')) := by
  show some (Value.agg ((l.map Value.string).toArray.toList ++ (l'.map Value.string).toArray.toList).toArray) = _
  simp [strs]
theorem i77p (k k' l l') : interp E 77 [prs k k' l, prs k k' l'] = some (prs k k' (l ++ l')) := by
  show some (Value.agg ((l.flatMap fun (p : Int × Int) => [Value.int k p.1, Value.int k' p.2]).toArray.toList ++ (l'.flatMap fun (p : Int × Int) => [Value.int k p.1, Value.int k' p.2]).toArray.toList).toArray) = _
  simp [prs]
theorem i75i {k l} {a b : Nat} (h1 : a ≤ b) (h2 : b ≤ l.length) (k1 k2 k3) : interp E 75 [ints k l, .int k1 (a : Int), .int k2 (b : Int), .int k3 1] = some (ints k ((l.drop a).take (b - a))) := by
  show (cond (Nat.ble a b && Nat.ble (b * 1) (l.map (Value.int k)).toArray.toList.length) (some (Value.agg ((((l.map (Value.int k)).toArray.toList.drop (a * 1)).take (b * 1 - a * 1)).toArray))) none) = _
  rw [Nat.ble_eq_true_of_le h1, Nat.ble_eq_true_of_le (by simpa using h2)]
  simp [ints, List.map_drop, List.map_take]
theorem i75s {l} {a b : Nat} (h1 : a ≤ b) (h2 : b ≤ l.length) (k1 k2 k3) : interp E 75 [strs l, .int k1 (a : Int), .int k2 (b : Int), .int k3 1] = some (strs ((l.drop a).take (b - a))) := by
  show (cond (Nat.ble a b && Nat.ble (b * 1) (l.map Value.string).toArray.toList.length) (some (Value.agg ((((l.map Value.string).toArray.toList.drop (a * 1)).take (b * 1 - a * 1)).toArray))) none) = _
  rw [Nat.ble_eq_true_of_le h1, Nat.ble_eq_true_of_le (by simpa using h2)]
  simp [strs, List.map_drop, List.map_take]
theorem i98 (k i) : interp E 98 [.int k i] = some (E.val i.toNat) := rfl
theorem i81 (k f r) : interp E 81 (.int k f :: r) = some (.agg (E.fns.lst f.toNat r).toArray) := rfl
theorem flat_drop {k k' : IntKind} : ∀ (l : List (Int × Int)) (n : Nat), (l.flatMap fun (p : Int × Int) => [Value.int k p.1, Value.int k' p.2]).drop (n * 2) = (l.drop n).flatMap fun (p : Int × Int) => [Value.int k p.1, Value.int k' p.2]
  | l, 0 => by simp
  | [], n + 1 => by simp
  | a :: r, n + 1 => by
    rw [show (n + 1) * 2 = n * 2 + 2 by omega]
    simpa using flat_drop r n
theorem flat_take {k k' : IntKind} : ∀ (l : List (Int × Int)) (n : Nat), (l.flatMap fun (p : Int × Int) => [Value.int k p.1, Value.int k' p.2]).take (n * 2) = (l.take n).flatMap fun (p : Int × Int) => [Value.int k p.1, Value.int k' p.2]
  | l, 0 => by simp
  | [], n + 1 => by simp
  | a :: r, n + 1 => by
    rw [show (n + 1) * 2 = n * 2 + 2 by omega]
    simpa using flat_take r n
theorem i75p {k k' l} {a b : Nat} (h1 : a ≤ b) (h2 : b ≤ l.length) (k1 k2 k3) : interp E 75 [prs k k' l, .int k1 (a : Int), .int k2 (b : Int), .int k3 2] = some (prs k k' ((l.drop a).take (b - a))) := by
  show (cond (Nat.ble a b && Nat.ble (b * 2) (l.flatMap fun (p : Int × Int) => [Value.int k p.1, Value.int k' p.2]).toArray.toList.length) (some (Value.agg ((((l.flatMap fun (p : Int × Int) => [Value.int k p.1, Value.int k' p.2]).toArray.toList.drop (a * 2)).take (b * 2 - a * 2)).toArray))) none) = _
  rw [Nat.ble_eq_true_of_le h1, Nat.ble_eq_true_of_le (by simp only [flat_len]; omega)]
  simp only [Bool.and_self, cond_true, prs, Option.some.injEq, Value.agg.injEq]
  rw [flat_drop, show b * 2 - a * 2 = (b - a) * 2 by omega, flat_take]
end

/-! ### Names of leaves -/
section
variable {FN : Fns} {V : Nat → Value} {nt : Nat} {ls : List Value}
theorem envL_int {i : Nat} {k : IntKind} {n : Int} (h : ls[i]? = some (.int k n)) : (envL FN V nt ls).int i = n := by simp only [envL, h]
theorem envL_bool {i : Nat} {b : Bool} (h : ls[i]? = some (.bool b)) : (envL FN V nt ls).bool i = b := by simp only [envL, h]
theorem envL_str {i : Nat} {s : ByteArray} (h : ls[i]? = some (.string s)) : (envL FN V nt ls).str i = s := by simp only [envL, h]
theorem envL_val {i : Nat} {v : Value} (h : ls[i]? = some v) : (envL FN V nt ls).val (1000000 + i) = v := by
  simp only [envL]
  rw [if_neg (by omega), show 1000000 + i - 1000000 = i by omega, List.getD_eq_getElem?_getD, h]
  rfl
theorem envL_fns : (envL FN V nt ls).fns = FN := rfl
end

theorem asked_facts {E : Env} {ws : List (Value × Bool)} {d : Option Value} {q : Bool} (h : Asked E ws d q) {e : Value} {b c : Bool} (hm : (e, b) ∈ ws) (hd : den E 40 e = some (.bool c)) : c = b := by
  have := h.1 _ hm _ hd
  simpa using this
theorem asked_dec {E : Env} {ws : List (Value × Bool)} {e : Value} {q c : Bool} (h : Asked E ws (some e) q) (hd : den E 40 e = some (.bool c)) : c = q := by
  have := h.2 e rfl _ hd
  simpa using this

end Go.Sy

namespace Go.Sy
open Go
/-- Names of a pattern: numbers, truths, texts, slices, boxes. -/
def lfi (k : IntKind) (l : Nat) : Value := sv 0 [.int k (l : Int)]
def lfb (l : Nat) : Value := sv 1 [.int .i64 (l : Int)]
def lfs (l : Nat) : Value := sv 2 [.int .i64 (l : Int)]
def nmR (i : Nat) : Value := sv 70 [.int .i64 ((20 + i : Nat) : Int)]
def nmB (i : Nat) : Value := .pointer (some ⟨20 + i, 0, none⟩)
end Go.Sy

/- Contracts of functions that work upon one slice of one's own, out of laws about worlds. -/
namespace Go.Sy
set_option linter.unusedVariables false
set_option linter.unusedSimpArgs false
open Go Go.RowKit

def Rho.envs (ρ : Rho) (E : Env) (hv : Nat → Value) : Rho := { ρ with env := E, hval := hv }

theorem Glob.envs {N : Nat} {F F' : List (Value × Bool)} {FN : Fns} {ρ : Rho} {E : Env} {hv : Nat → Value} (h : Glob ⟨N, F, FN, [], rows0⟩ ρ) (hF : FactsOk E F') (h1 : E.fns = FN) (h2 : E.rows = rows0) : Glob ⟨N, F', FN, [], rows0⟩ (ρ.envs E hv) :=
  ⟨h.dom, h.blk, h.off, hF, h1, h2, fun r hr => by cases hr⟩

/-- One object is another now; the world goes on. -/
theorem Rel.one {N nt base : Nat} {FN : Fns} {gv : List Gv} {ρ : Rho} {w w' : World} {o o' : PObj} {E : Env} {hv : Nat → Value} (hgv : ∀ x ∈ gv, x.1 < N ∧ x.2.2.all (flat 40) = true) (hw : ∀ x ∈ gv, x.1 < base ∧ GvOk w' x) (hr : Rel ⟨N, [], FN, [], rows0⟩ base ρ (canH nt (heapOf N gv) [o]) w)
    (hb : Below base w w') (h1 : E.fns = FN) (h2 : E.rows = rows0) (hwr : o'.wr = true → o.wr = true) (ho : ObjRel (ρ.envs E hv) w' N (o'.can nt N)) : Rel ⟨N, [], FN, [], rows0⟩ base (ρ.envs E hv) (canH nt (heapOf N gv) [o']) w' := by
  obtain ⟨p1, p2, p3⟩ := heapOf_plain N gv
  obtain ⟨q1, q2, q3⟩ := canH_plain (nt := nt) (l := [o']) (H := heapOf N gv)
  obtain ⟨r1, r2⟩ := heapOf_lt N fun x hx => (hgv x hx).1
  have hlook : ∀ {b x}, look (canH nt (heapOf N gv) [o']) b = some x → (∃ t cs, (b, t, cs) ∈ gv ∧ x = .cells cs t true 1 b false ∧ look (canH nt (heapOf N gv) [o]) b = some x) ∨ (b = N ∧ x = o'.can nt N) := fun {b x} h => by
    have hp : ∀ (y : PObj) b, look (canH nt (heapOf N gv) [y]) b = if b = N then some (y.can nt N) else look (heapOf N gv) b := fun y b => by
      show look ((heapOf N gv).push (y.can nt (heapOf N gv).next)) b = _
      rw [look_push r1, p1]
    rw [hp] at h
    split at h
    · rename_i e; cases h; exact .inr ⟨e, rfl⟩
    · rename_i e
      obtain ⟨t, cs, g1, g2⟩ := heapOf_look N (look_some h).2.1
      exact .inl ⟨t, cs, g1, g2, by rw [hp, if_neg e]; exact h⟩
  have hold : look (canH nt (heapOf N gv) [o]) N = some (o.can nt N) := by
    have := canH_get (nt := nt) (l := [o]) r1 (i := 0) (p := o) rfl
    rw [p1] at this
    exact this
  refine ⟨hr.glob.envs (fun p hp => by cases hp) h1 h2, fun p hp => (by rw [q3, p3] at hp; cases hp), fun b x h => ?_, fun b x h => ?_, fun b x h => ?_, fun b x h hx => ?_, fun b b' x x' h h' hne hx he => ?_, Nat.le_trans hr.hb hb.size, hr.pos⟩
  · rw [q1, p1]
    rcases hlook h with ⟨t, cs, g1, _⟩ | ⟨rfl, _⟩
    · have := (hgv _ g1).1; simp only at this; omega
    · simp
  · rcases hlook h with ⟨t, cs, g1, _, g3⟩ | ⟨rfl, _⟩
    · exact hr.dom _ _ g3
    · exact hr.dom _ _ hold
  · rcases hlook h with ⟨t, cs, g1, rfl, g3⟩ | ⟨rfl, rfl⟩
    · obtain ⟨ccs, fr, k1, k2⟩ := hr.obj _ _ g3
      have hbn : b < N := (hgv _ g1).1
      have hblk : ρ.blk b = b := hr.glob.blk b hbn
      obtain ⟨fr', k3⟩ := (hw _ g1).2
      have hbb := (hw _ g1).1
      simp only at k3 hbb
      have hsame := hb.block b hbb
      rw [hblk, ← hsame, k3] at k1
      cases k1
      refine ⟨_, _, by show w'.heap[ρ.blk b]? = _; rw [hblk]; exact k3, ⟨k2.tot, k2.rig, k2.esz, k2.len, k2.full, fun i v hi => ?_, k2.free⟩⟩
      refine ⟨v, ?_, flat_refl _ 40 v (List.all_eq_true.1 (hgv _ g1).2 v (List.mem_of_getElem? hi))⟩
      show cs.toArray[ρ.off b + i]? = _
      rw [hr.glob.off b hbn, Nat.zero_add]
      simpa using hi
    · exact ho
  · rcases hlook h with ⟨t, cs, _, rfl, _⟩ | ⟨rfl, rfl⟩
    · cases hx
    · rw [PObj.can_wr] at hx
      exact hr.own b _ hold (by rw [PObj.can_wr]; exact hwr hx)
  · exfalso
    rcases hlook h with ⟨t, cs, _, rfl, _⟩ | ⟨rfl, rfl⟩
    · cases hx
    · rw [PObj.can_wr] at hx
      rcases hlook h' with ⟨t, cs, g1, rfl, g3⟩ | ⟨rfl, _⟩
      · have hbn : b' < b := (hgv _ g1).1
        have he' : ρ.blk b = ρ.blk b' := he
        rw [hr.glob.blk b' hbn] at he'
        have k1 := hr.own b _ hold (by rw [PObj.can_wr]; exact hwr hx)
        have k2 := (hw _ g1).1
        simp only at k2
        omega
      · exact hne rfl

/-- What stands in a pattern of one slice of one's own. -/
theorem own_at {N base : Nat} {FN : Fns} {gv : List Gv} {ρ : Rho} {w : World} {V : Nat → Value} {srts : List Srt} {el : TypeId} {ls : List Value} (hgv : ∀ x ∈ gv, x.1 < N) (he : ρ.env = envL FN V 0 ls) (hr : Rel ⟨N, [], FN, [], rows0⟩ base ρ (canH 0 (heapOf N gv) [.own srts el 0]) w) {v : Value} (hv : VR ρ (sv 70 [.int .i64 ((N : Nat) : Int)]) v) (hl : 0 < ls.length) :
    ∃ o n c cells ccs fr, v = .slice (some ⟨ρ.blk N, o, none⟩) n c ∧ ρ.hval N = v ∧ ls[0]? = some (.agg cells) ∧ cells.size = n * srts.length ∧ (∀ (j : Nat) v s, cells[j]? = some v → srts[j % srts.length]? = some s → HasS s v) ∧
      w.heap[ρ.blk N]? = some (.cells ccs el fr) ∧ o + c * srts.length ≤ ccs.size ∧ (∀ j, j < n * srts.length → ccs[o + j]? = cells[j]?) ∧ n ≤ c ∧ (∀ k, o ≤ k → k < ccs.size → ¬(fr.1 ≤ k ∧ k < fr.2)) ∧ base ≤ ρ.blk N := by
  obtain ⟨r1, _⟩ := heapOf_lt N hgv
  obtain ⟨p1, _, _⟩ := heapOf_plain N gv
  have hold : look (canH 0 (heapOf N gv) [.own srts el 0]) N = some (PObj.can 0 N (.own srts el 0)) := by
    have := canH_get (nt := 0) (l := [.own srts el 0]) r1 (i := 0) (p := .own srts el 0) rfl
    rw [p1] at this
    exact this
  obtain ⟨o, n, c, cells, ccs, fr, h1, h2, h3, h4, h5, h6, h7, h8, h9⟩ := hr.obj _ _ hold
  have hv' : v = ρ.hval N := by
    cases hv with
    | func _ _ _ _ _ _ hf => cases hf with | same _ _ hn => simp [named] at hn
    | sym _ _ _ _ _ _ _ _ h3 => simp [interp] at h3
    | row _ _ _ _ a' n' c' hd hvv hp => exact hvv.symm
  have hspec : ls[0]? = some (.agg cells) := by
    obtain ⟨vs, g1, g2⟩ := h2.sym_invL
    obtain ⟨y, r, rfl, hy, hrr⟩ := g1.cons_inv
    rw [hrr.nil_inv] at g2
    cases hy
    simp only [interp, he, envL, Int.toNat_natCast, Option.some.injEq] at g2
    rw [if_neg (by omega), show 1000000 + 0 - 1000000 = 0 from rfl, List.getD_eq_getElem?_getD, List.getElem?_eq_getElem hl] at g2
    simp only [Option.getD_some] at g2
    rw [List.getElem?_eq_getElem hl, g2]
  exact ⟨o, n, c, cells, ccs, fr, by rw [hv', h1], hv'.symm, hspec, h3, h4, h5, h6, h7, h8, h9, hr.own _ _ hold rfl⟩

/-- Something is done upon the one slice, where it lies. -/
theorem own_put {N base : Nat} {FN : Fns} {gv : List Gv} {ρ : Rho} {w w' : World} {V : Nat → Value} {srts : List Srt} {el : TypeId} (hgv : ∀ x ∈ gv, x.1 < N ∧ x.2.2.all (flat 40) = true) (hw : ∀ x ∈ gv, x.1 < base ∧ GvOk w' x) (hr : Rel ⟨N, [], FN, [], rows0⟩ base ρ (canH 0 (heapOf N gv) [.own srts el 0]) w)
    (hb : Below base w w') (hother : ∀ k, k < w.heap.size → k ≠ ρ.blk N → w'.heap[k]? = w.heap[k]?) (nb : Nat) (hv : Nat → Value) (hnb : nb = 0 ∨ hv N = ρ.hval N) {o n c : Nat} {cells ccs : Array Value} {fr : Nat × Nat} (h1 : hv N = .slice (some ⟨ρ.blk N, o, none⟩) n c) (hle : nb ≤ 1) (h3 : cells.size = n * srts.length) (h4 : ∀ (j : Nat) v s, cells[j]? = some v → srts[j % srts.length]? = some s → HasS s v)
    (h5 : w'.heap[ρ.blk N]? = some (.cells ccs el fr)) (h6 : o + c * srts.length ≤ ccs.size) (h7 : ∀ j, j < n * srts.length → ccs[o + j]? = cells[j]?) (h8 : n ≤ c) (h9 : ∀ k, o ≤ k → k < ccs.size → ¬(fr.1 ≤ k ∧ k < fr.2)) :
    Rel ⟨N, [], FN, [], rows0⟩ base (ρ.envs (envL FN V 0 [.agg cells]) hv) (canH 0 (heapOf N gv) [.own srts el 0]) w' ∧ PEff N nb base ρ (ρ.envs (envL FN V 0 [.agg cells]) hv) [.own srts el 0] [.own srts el 0] w w' := by
  refine ⟨Rel.one hgv hw hr hb rfl rfl id ⟨o, n, c, cells, ccs, fr, h1, ?_, h3, h4, h5, h6, h7, h8, h9⟩, ⟨hb, fun q hq hno => hother q hq ?_, fun j o' ho => ?_, fun i hi => ⟨rfl, rfl, rfl, rfl, rfl, ?_⟩⟩⟩
  · refine sv_vr (vr1 (.int _ _)) ?_
    simp only [interp, Rho.envs, envL, Int.toNat_natCast]
    rfl
  · intro e
    exact hno 0 _ rfl rfl e.symm
  · cases j with
    | zero => exact .inr (.inl ⟨0, _, rfl, rfl, rfl⟩)
    | succ j => simp at ho
  · have : i = 0 := by omega
    subst this
    rcases hnb with h | h
    · omega
    · exact h

/-- A call that speaks of no memory and leaves the world as it was. -/
theorem fsem_lit {P : Program} {N base : Nat} {gv : List Gv} {K : World → Prop} {FN : Fns} {c : FCtr} {v : Value} (ho : c.objs = []) (hl : c.nl = 0) (hout : ∀ q, c.out q = ⟨[v], [], []⟩) (hv : flat 40 v = true) (ha : c.args.all (flat 40) = true)
    (h : ∀ w, K w → Calls P c.f c.args.toArray w fun e w' => e = .returned v ∧ w' = w) : FSem P N gv K base FN c := by
  intro V ls ρ args' w q hK hlen hleaf henv hdom hrel hargs hask
  have hargs' : args' = c.args.toArray := by
    apply Array.ext'
    apply List.ext_getElem?
    intro i
    rcases Nat.lt_or_ge i c.args.length with hi | hi
    · have h1 := List.getElem?_eq_getElem hi
      obtain ⟨y, hy, hvy⟩ := hargs.get h1
      rw [hy, show (c.args.toArray.toList)[i]? = c.args[i]? from rfl, h1, flat_eq hvy 40 (List.all_eq_true.1 ha _ (List.getElem_mem hi))]
    · rw [List.getElem?_eq_none (by rw [← hargs.1]; exact hi), List.getElem?_eq_none hi]
  rw [hargs']
  refine (h w hK).mono fun e w' ⟨he, hw⟩ => ⟨v, he, V, [], ρ, ?_, ?_, ?_, ?_, ?_⟩
  · rw [henv]
    rw [hl] at hlen
    rw [List.length_eq_zero_iff.1 hlen]
  · rw [hout, hw]
    rw [ho] at hrel
    exact hrel
  · rw [hout]; exact VRs.cons (flat_refl ρ 40 v hv) (VRs.nil _)
  · rw [hout]; rfl
  · rw [hout, hw, ho]; exact PEff.refl

end Go.Sy
