/- Rows of texts; texts put together. -/
import Derived.Test.YtebkccfnilcfpaaGreatDoorSyCtrH
namespace Go.Proofs.YtebkccfnilcfpaaGreatDoor
set_option linter.unusedVariables false
set_option linter.unusedSimpArgs false
open Go Go.Sy Go.RowKit

/-- Texts in a row, cell by cell. -/
theorem rowIs_strs {ρ : Rho} {w : World} {spec x : Value} (h : RowIs ρ w [.str] spec x) : ∃ a c l, x = .slice a l.length c ∧ VR ρ spec (strs l) ∧ l.length ≤ c ∧
    (0 < l.length → ∃ b o, a = some ⟨b, o, none⟩ ∧ b < w.heap.size ∧ ∀ (j : Nat) y, l[j]? = some y → w.cell? ⟨b, o + j, none⟩ = some (.string y)) := by
  obtain ⟨a, n, c, cells, rfl, h2, h3, h4, h5, h6⟩ := h
  obtain ⟨l, hl⟩ := hasR_strs ⟨cells, n, rfl, h3, h4⟩
  have hsz : cells.size = l.length := by injection hl with hl; rw [hl]; simp
  have hn : n = l.length := by simp at h3; omega
  subst hn
  refine ⟨a, c, l, rfl, by rw [← hl]; exact h2, h6, fun h0 => ?_⟩
  obtain ⟨b, o, ccs, el, fr, e1, e2, e3, e4⟩ := h5 h0
  refine ⟨b, o, e1, (Array.getElem?_eq_some_iff.1 e2).1, fun j y hy => ?_⟩
  have hj : j < l.length := (List.getElem?_eq_some_iff.1 hy).1
  have := e4 j (by simpa using hj)
  unfold World.cell?
  simp only [e2]
  injection hl with hl
  rw [this, hl]
  simp [hy]

theorem leafRs {ρ : Rho} {w : World} {srts : List Srt} {s : Srt} {vs l' : List Value} (h : LeafR ρ w [.row srts, .sc s] vs l') : ∃ a b x y, vs = [a, b] ∧ l' = [x, y] ∧ RowIs ρ w srts a x ∧ VR ρ b y ∧ HasS s y := by
  match vs, l', h with
  | [], _, h => exact h.elim
  | [_], [], h => exact h.elim
  | [_], [_], h => exact h.2.elim
  | [_], _ :: _ :: _, h => exact h.2.elim
  | _ :: _ :: _, [], h => exact h.elim
  | _ :: _ :: _, [_], h => exact h.2.elim
  | [a, b], [x, y], h => exact ⟨a, b, x, y, rfl, rfl, h.1, h.2.1.1, h.2.1.2⟩
  | [a, b], x :: y :: z :: r, h => exact h.2.2.elim
  | a :: b :: c :: r, [x, y], h => exact h.2.2.elim
  | a :: b :: c :: r, x :: y :: z :: r', h => exact h.2.2.elim

def cat (a b : ByteArray) : ByteArray := ⟨(a.data.toList ++ b.data.toList).toArray⟩
theorem cat_size (a b : ByteArray) : (cat a b).size = a.size + b.size := by
  show (a.data.toList ++ b.data.toList).toArray.size = _
  simp
theorem cat_list (a b : ByteArray) : (cat a b).data.toList = a.data.toList ++ b.data.toList := by simp [cat]

theorem i41c {E : Env} {a b : ByteArray} (h : a.size + b.size < 4611686018427387904) : interp E 41 [.string a, .string b] = some (.bool true) := by
  have e : a.data.toList.length + b.data.toList.length = a.size + b.size := by simp
  have hb : Nat.blt (a.size + b.size) 4611686018427387904 = true := by rw [Nat.blt_eq]; exact h
  simp only [interp, e, hb]
theorem i40c {E : Env} {a b : ByteArray} (h : a.size + b.size < 4611686018427387904) : interp E 40 [.string a, .string b] = some (.string (cat a b)) := by
  have e : a.data.toList.length + b.data.toList.length = a.size + b.size := by simp
  have hb : Nat.blt (a.size + b.size) 4611686018427387904 = true := by rw [Nat.blt_eq]; exact h
  simp only [interp, astrop, e, hb, cond_true]
  rfl
end Go.Proofs.YtebkccfnilcfpaaGreatDoor
