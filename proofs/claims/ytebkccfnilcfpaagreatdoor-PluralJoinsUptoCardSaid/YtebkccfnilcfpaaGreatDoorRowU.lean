/- For statements with a bound on what comes in: the witness; a slice of texts, its bulk. -/
import Derived.Test.YtebkccfnilcfpaaGreatDoorRowSh
import Derived.Test.YtebkccfnilcfpaaGreatDoorOpenS
import Derived.Deep.DeepHandedRow
import Derived.Lay
import Derived.Lib.Join
namespace Go.Proofs.YtebkccfnilcfpaaGreatDoor
set_option linter.unusedVariables false
set_option linter.unusedSimpArgs false
open Go.ChangeShapes Go.WideShapes Go.ChangeAt Go.RowKit

theorem witness_row_shaped {H : Type} {enc : TypeId × Value → H} {C : Checked} {os : Os} {f : FuncId} {fn : Func} {s : OpenSpec} {conds : List PathCond} {apart : Bool} {laid : List (String × DataW Unit)} (w0 : World) (args : Array Value) (hos : w0.os = os)
    (hsh : (w0.forCall (fun _ _ => 0) ⟨#[], args, []⟩).Shaped C.prog) (hok : Input.okWideB C.prog (w0.forCall (fun _ _ => 0) ⟨#[], args, []⟩) f ⟨#[], args, []⟩ = true)
    (hrow : s.preRow enc C.prog fn conds apart laid (w0.forCall (fun _ _ => 0) ⟨#[], args, []⟩).memory args) :
    ∃ (w : World) (tape : Tape) (i : Input), w.os = os ∧ (w.forCall tape i).Shaped C.prog ∧ i.vars = [] ∧ Input.okWide C.prog (w.forCall tape i) .any w.heap.size f i ∧
      s.preRow enc C.prog fn conds apart laid (w.forCall tape i).memory i.args ∧ ({} : Assume).holds C.prog (lone (Frame.enter C.prog f i.args .normal) [] (w.forCall tape i)) :=
  ⟨w0, fun _ _ => 0, ⟨#[], args, []⟩, hos, hsh, rfl, (Input.okWide_of_okWideB hok).2, hrow, by
    simp only [Assume.holds]
    exact ⟨by simp, by simp, fun h => by simp at h, by simp, by simp⟩⟩

section
variable {H : Type} {enc : TypeId × Value → H} {P : Program} {w : World} {base : Nat} {spare : Nat → Bool} {held : Bool}

theorem open_sliceS {r : Reach} {b0 : Nat} {t e : TypeId} {v : Value} {d : DataW H} {ps : List MemPlace} (ht : P.underlying t = some (.slice e)) (he : P.underlying e = some .string) (hc : P.cellsOf e = 1)
    (hv : Value.okWide P w r b0 t v) (h : DataW.Trod enc P w base spare held t v d ps) : ∃ xs : List ByteArray, RowW w v [.str] (xs.map Value.string) ∧
      ((xs = [] ∧ d = .nil) ∨ ∃ sp, d = .slice (xs.map fun s => .lit (.string s.data.toList)) sp) := by
  obtain ⟨a, len, cap, rfl⟩ := okWide_slice ht hv
  obtain ⟨fuel, hf⟩ := h
  exact open_rowS ht he hc (v := .slice a len cap) hf
end

theorem bulk_texts {H : Type} : ∀ xs : List ByteArray, Lib.lens (xs.map (·.data.toList)) ≤ Rows.uptoBulkAll (xs.map fun s => (DataW.lit (H := H) (.string s.data.toList)))
  | [] => Nat.le_refl _
  | x :: r => by
    have := bulk_texts (H := H) r
    simp only [List.map_cons, Rows.uptoBulkAll, Rows.uptoBulk, Lib.lens, List.sum_cons] at this ⊢
    omega
end Go.Proofs.YtebkccfnilcfpaaGreatDoor
