/- The evaluator at this program: what it is told. -/
import Derived.Test.YtebkccfnilcfpaaGreatDoorSyIII
import Derived.Test.YtebkccfnilcfpaaGreatDoorBase
import Derived.Lib.IndexEntry
import Derived.Lib.Bytealg
namespace Go.Proofs.YtebkccfnilcfpaaGreatDoor
set_option linter.unusedVariables false
set_option linter.unusedSimpArgs false
open Go Go.Sy Go.RowKit

/-! ### Search, in words that a kernel reads fast -/

def preF : List UInt8 → List UInt8 → Bool
  | [], _ => true
  | a :: x, b :: y => cond (Nat.beq a.toNat b.toNat) (preF x y) false
  | _ :: _, [] => false
def bumpF : Int → Int
  | .ofNat n => .ofNat (n + 1)
  | .negSucc _ => -1
def idxSF (t : List UInt8) : List UInt8 → Int
  | [] => cond t.isEmpty 0 (-1)
  | b :: r => cond (preF t (b :: r)) 0 (bumpF (idxSF t r))
def idxBF (c : Nat) : List UInt8 → Int
  | [] => -1
  | b :: r => cond (Nat.beq b.toNat c) 0 (bumpF (idxBF c r))
def cntBF (c : Nat) : List UInt8 → Nat
  | [] => 0
  | b :: r => cond (Nat.beq b.toNat c) (cntBF c r + 1) (cntBF c r)

theorem beqF (a b : UInt8) : Nat.beq a.toNat b.toNat = (a == b) := by
  cases h : Nat.beq a.toNat b.toNat with
  | true => have := Nat.eq_of_beq_eq_true h; rw [UInt8.toNat_inj] at this; subst this; simp
  | false =>
    have := Nat.ne_of_beq_eq_false h
    symm
    rw [beq_eq_false_iff_ne]
    intro e; subst e; exact this rfl

theorem preF_eq : ∀ (a b : List UInt8), preF a b = a.isPrefixOf b
  | [], _ => by simp [preF]
  | _ :: _, [] => by simp [preF]
  | a :: x, b :: y => by
    simp only [preF, List.isPrefixOf, preF_eq x y, beqF]
    cases a == b <;> rfl

theorem bumpF_eq {x : Int} (h : -1 ≤ x) : bumpF x = if x == -1 then -1 else x + 1 := by
  cases x with
  | ofNat n =>
    have : ((Int.ofNat n) == (-1 : Int)) = false := by rw [beq_eq_false_iff_ne]; intro h; cases h
    rw [this]; rfl
  | negSucc n =>
    have : n = 0 := by omega
    subst this; rfl

theorem idxSF_eq (t : List UInt8) : ∀ l, idxSF t l = Lib.index l t
  | [] => by simp only [idxSF, Lib.index]; cases t.isEmpty <;> rfl
  | b :: r => by
    simp only [idxSF, Lib.index, preF_eq, idxSF_eq t r, bumpF_eq (Lib.index_ge r t)]
    cases List.isPrefixOf t (b :: r) <;> rfl

theorem idxBF_eq (c : UInt8) : ∀ l, idxBF c.toNat l = Lib.indexByte l c
  | [] => rfl
  | b :: r => by
    simp only [idxBF, Lib.indexByte, idxBF_eq c r, bumpF_eq (Lib.indexByte_ge r c), beqF]
    cases b == c <;> rfl

theorem cntBF_eq (c : UInt8) : ∀ l, cntBF c.toNat l = Lib.countByte l c
  | [] => rfl
  | b :: r => by
    unfold Lib.countByte
    rw [List.count_cons]
    simp only [cntBF, beqF]
    have := cntBF_eq c r
    unfold Lib.countByte at this
    rw [this]
    cases b == c <;> rfl

theorem toU8 (c : Int) : c.toNat.toUInt8.toNat = c.toNat % 256 := by simp

/-! ### What the evaluator is told -/

def orcC (f : FuncId) (l : List Value) : Option Value :=
  cond (Nat.beq f 111) (match l with
    | [.string s, .int .i64 (.ofNat n)] => cond (Nat.ble n 1000 && Nat.ble s.size 1000) (some (.string ⟨(Lib.repeatL s.data.toList n).toArray⟩)) none
    | _ => none)
  (cond (Nat.beq f 117) (match l with
    | [.string s, .string t] => cond (Nat.ble s.size 100000) (some (.int .i64 (idxSF t.data.toList s.data.toList))) none
    | _ => none) none)

def extC (f : FuncId) (l : List Value) : Option Value :=
  cond (Nat.beq f 149) (match l with
    | [.string s, .int .u8 c] => some (.int .i64 (idxBF (c.toNat % 256) s.data.toList))
    | _ => none)
  (cond (Nat.beq f 116) (match l with
    | [.string s, .int .u8 c] => some (.int .i64 (cntBF (c.toNat % 256) s.data.toList))
    | _ => none) none)

/-- What else a world holds: some number is MaxLen. -/
def HasMax (base : Nat) (w : World) : Prop := 3 < base ∧ ∃ m, w.cell? ⟨3, 0, none⟩ = some (.int .i64 m)

theorem condE {α : Type} {b : Bool} {x : Option α} {y : α} (h : cond b x none = some y) : b = true ∧ x = some y := Go.Sy.cond_some h

theorem orcC_ok (f : FuncId) (args : List Value) (v : Value) (h : orcC f args = some v) : args.all (flat 40) = true ∧ flat 40 v = true ∧ ∀ w base, HasMax base w → Calls Tryz.prog f args.toArray w fun e w' => e = .returned v ∧ Below w.heap.size w w' := by
  unfold orcC at h
  cases hq : Nat.beq f 111 with
  | true =>
    have := Nat.eq_of_beq_eq_true hq
    subst this
    rw [hq] at h
    simp only [cond_true] at h
    split at h
    · rename_i s n
      obtain ⟨hc, h⟩ := condE h
      cases h
      simp only [Bool.and_eq_true] at hc
      have h1 := Nat.le_of_ble_eq_true hc.1
      have h2 := Nat.le_of_ble_eq_true hc.2
      refine ⟨rfl, rfl, fun w base _ => ?_⟩
      exact Tryz.strings_Repeat s n w (by omega) (Nat.le_trans (Nat.mul_le_mul h2 h1) (by decide))
    · cases h
  | false =>
    rw [hq] at h
    simp only [cond_false] at h
    cases hq2 : Nat.beq f 117 with
    | false => rw [hq2] at h; cases h
    | true =>
      have := Nat.eq_of_beq_eq_true hq2
      subst this
      rw [hq2] at h
      simp only [cond_true] at h
      split at h
      · rename_i s t
        obtain ⟨hc, h⟩ := condE h
        cases h
        refine ⟨rfl, rfl, fun w base hX => ?_⟩
        obtain ⟨_, m, hm⟩ := hX
        have h1 := Nat.le_of_ble_eq_true hc
        refine (Tryz.stringslite_Index s t m w (by omega) hm).mono fun e w' ⟨h1, h2⟩ => ?_
        rw [h1, h2, idxSF_eq]
        exact ⟨rfl, Below.refl _ _⟩
      · cases h

theorem extC_ok (f : FuncId) (args : List Value) (v : Value) (h : extC f args = some v) : args.all (flat 40) = true ∧ flat 40 v = true ∧ ∀ w, (callFunc f args.toArray).run Tryz.prog w = .ok (.value v) w := by
  unfold extC at h
  cases hq : Nat.beq f 149 with
  | true =>
    have := Nat.eq_of_beq_eq_true hq
    subst this
    rw [hq] at h
    simp only [cond_true] at h
    split at h
    · rename_i s c
      cases h
      refine ⟨rfl, rfl, fun w => ?_⟩
      show (callFunc 149 #[.string s, .int .u8 c]).run Tryz.prog w = _
      rw [run_callFunc_extern Tryz.func149 (by kernel_rfl) (by kernel_rfl) (by kernel_rfl) (e := Extern.BytealgIndexByte.indexByte) (by kernel_rfl), Lib.run_indexByteString, ← idxBF_eq, toU8]
      rfl
    · cases h
  | false =>
    rw [hq] at h
    simp only [cond_false] at h
    cases hq2 : Nat.beq f 116 with
    | false => rw [hq2] at h; cases h
    | true =>
      have := Nat.eq_of_beq_eq_true hq2
      subst this
      rw [hq2] at h
      simp only [cond_true] at h
      split at h
      · rename_i s c
        cases h
        refine ⟨rfl, rfl, fun w => ?_⟩
        show (callFunc 116 #[.string s, .int .u8 c]).run Tryz.prog w = _
        rw [run_callFunc_extern Tryz.func116 (by kernel_rfl) (by kernel_rfl) (by kernel_rfl) (e := Extern.BytealgCount.count) (by kernel_rfl), Lib.run_countString, ← cntBF_eq, toU8]
        rfl
      · cases h

end Go.Proofs.YtebkccfnilcfpaaGreatDoor
