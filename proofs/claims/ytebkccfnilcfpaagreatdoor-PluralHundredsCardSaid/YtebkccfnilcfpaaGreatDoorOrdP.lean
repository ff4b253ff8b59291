/- Ordinals: what the package's Ordinal hands back (for seats without chapter 7's own). -/
import Derived.Test.YtebkccfnilcfpaaGreatDoorPluO
namespace Go.Proofs.YtebkccfnilcfpaaGreatDoor
set_option linter.unusedVariables false
set_option linter.unusedSimpArgs false
open Go.RowKit Go.Proofs

/-- A number's digits, as a text. -/
def digT (n : Int) : ByteArray := ⟨(Lib.itoa n).toArray⟩
/-- An ordinal. -/
def ordT (k n : Int) : ByteArray := digT n ++ ⟨(sufP k n).toArray⟩

theorem digT_size (n : Int) (h0 : 0 ≤ n) (h1 : n ≤ 1000000000000) : (digT n).size ≤ 30 := by
  have hl := Lib.itoa_length_le n (by omega) (by omega)
  show (Lib.itoa n).toArray.size ≤ 30
  simp; omega

theorem ordP_any (k n : Int) (w : World) (hs : Std w) (h0 : 0 ≤ n) (h1 : n ≤ 1000000000000) :
    Calls Tryz.prog 23 #[.int .i64 k, .int .i64 n] w fun e w' => e = .returned (.string (ordT k n)) ∧ Below w.heap.size w w' :=
  ord_any k n (digT n) w (dig_any n w hs h0 h1) (digT_size n h0 h1) h0 h1

theorem ordT_eq (k n : Int) : ordT k n = ⟨(Lib.itoa n ++ sufP k n).toArray⟩ := by unfold ordT digT; rw [ba_append]

theorem sufP_head (k n : Int) : ∃ c r, sufP k n = c :: r ∧ ((c.toNat : Int) < 48 ∨ 57 < (c.toNat : Int)) := by
  unfold sufP
  repeat' split
  all_goals exact ⟨_, _, rfl, by decide⟩

theorem digits_bd (u : Nat) : ∀ c ∈ Lib.decDigits u, 48 ≤ c.toNat ∧ c.toNat ≤ 57 := by
  induction u using Nat.strongRecOn with
  | _ u ih =>
    obtain ⟨X, h0, h1, h2⟩ := dec_last u
    have hd : ∀ d, d < 10 → 48 ≤ (UInt8.ofNat (48 + d)).toNat ∧ (UInt8.ofNat (48 + d)).toNat ≤ 57 := by decide
    intro c hc
    rw [h0] at hc
    rcases List.mem_append.1 hc with hc | hc
    · by_cases hu : 10 ≤ u
      · rw [h1 hu] at hc; exact ih (u / 10) (by omega) c hc
      · rw [h2 (by omega)] at hc; cases hc
    · rw [List.mem_singleton.1 hc]; exact hd _ (Nat.mod_lt _ (by omega))

end Go.Proofs.YtebkccfnilcfpaaGreatDoor
