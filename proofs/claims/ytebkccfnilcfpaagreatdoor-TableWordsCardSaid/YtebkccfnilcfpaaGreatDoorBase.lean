/- What every walk of this seat leans on: the tables that a world must hold, small words for endings. -/
import Derived.Test.YtebkccfnilcfpaaGreatDoorProg
import Derived.Test.YtebkccfnilcfpaaGreatDoorShelf
import Derived.WalkKit
import Derived.WalkSpells
import Derived.WalkLawsBesides
import Derived.WalkSmall
import Derived.KernelRfl
import Derived.Lib.LaidTab
import Derived.Lib.AppendIntMem
import Derived.Lib.Itoa
import Derived.Lib.Hide
import Derived.Deep.QuietTactic
import Derived.BigQuiet
namespace Go.Proofs.YtebkccfnilcfpaaGreatDoor
open Go.RowKit Go.Proofs

theorem ret_int {k : IntKind} {a b : Int} (h : a = b) : Ending.returned (.int k a) = .returned (.int k b) := by rw [h]
theorem ret_bool {a b : Bool} (h : a = b) : Ending.returned (.bool a) = .returned (.bool b) := by rw [h]
theorem ret_str {a b : ByteArray} (h : a = b) : Ending.returned (.string a) = .returned (.string b) := by rw [h]
theorem ret_str_l {a b : List UInt8} (h : a = b) : Ending.returned (.string ⟨a.toArray⟩) = .returned (.string ⟨b.toArray⟩) := by rw [h]

theorem ba_append (a b : List UInt8) : (⟨a.toArray⟩ : ByteArray) ++ ⟨b.toArray⟩ = ⟨(a ++ b).toArray⟩ := by
  apply ByteArray.ext
  simp

def monthsTab : List Int := [31, 28, 31, 30, 31, 30, 31, 31, 30, 31, 30, 31]

/-- What a world holds of the package-level tables. -/
structure Std (w : World) : Prop where
  months : Lib.TabIs Tryz.prog w "kalends/civil.months" .i64 monthsTab
  pow : Lib.TabIs Tryz.prog w "internal/strconv.uint64pow10" .u64 Lib.pow10Tab

theorem Std.below {w w' : World} (h : Std w) (hb : Below w.heap.size w w') : Std w' :=
  ⟨Lib.tabBelow_of_tabIs h.months w' hb, Lib.tabBelow_of_tabIs h.pow w' hb⟩

theorem months_global : Tryz.prog.globalNamed "kalends/civil.months" = some 4 := by kernel_rfl

theorem Std.month {w : World} (h : Std w) (k : Nat) (hk : k < 12) : w.cell? ⟨4, k, none⟩ = some (.int .i64 (monthsTab.getD k 0)) :=
  h.months.cell months_global k hk

theorem Below.of_eq {B : Nat} {w w' : World} (h : w = w') : Below B w w' := h ▸ Below.refl B w

/-- the old cells and marks behind a 'Below' -/
theorem bcell {W w1 : World} (hb : Below W.heap.size W w1) : (∀ b o, b < W.heap.size → w1.cell? ⟨b, o, none⟩ = W.cell? ⟨b, o, none⟩) ∧ (∀ b o, b < W.heap.size → w1.frozen? ⟨b, o, none⟩ = W.frozen? ⟨b, o, none⟩) :=
  ⟨fun b o h => hb.cell (p := ⟨b, o, none⟩) h, fun b o h => hb.frozen (p := ⟨b, o, none⟩) h⟩

end Go.Proofs.YtebkccfnilcfpaaGreatDoor
