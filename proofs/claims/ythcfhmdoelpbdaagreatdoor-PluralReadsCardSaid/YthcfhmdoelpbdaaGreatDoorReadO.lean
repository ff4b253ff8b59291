/- An ordinal begins with its number's digits. -/
import Derived.Test.YthcfhmdoelpbdaaGreatDoorReadL
namespace Go.Proofs.YthcfhmdoelpbdaaGreatDoor
set_option linter.unusedVariables false
set_option linter.unusedSimpArgs false
open Go.RowKit Go.Proofs

theorem ordT_eq (k n : Int) : ordT k n = ⟨(Lib.itoa n ++ sufP k n).toArray⟩ := by unfold ordT digT; rw [ba_append]

theorem sufP_head (k n : Int) : ∃ c r, sufP k n = c :: r ∧ ((c.toNat : Int) < 48 ∨ 57 < (c.toNat : Int)) := by
  unfold sufP
  repeat' split
  all_goals exact ⟨_, _, rfl, by decide⟩

theorem sufP_len (k n : Int) : (sufP k n).length ≤ 2 := by
  unfold sufP
  repeat' split
  all_goals decide

theorem get_list (l : List UInt8) (j : Nat) (h : j < (⟨l.toArray⟩ : ByteArray).size) : (⟨l.toArray⟩ : ByteArray)[j] = l[j]'(by have h' : j < l.toArray.size := h; simpa using h') := rfl

theorem lead_ord (k n : Int) (h0 : 0 ≤ n) : Lead (ordT k n) (Lib.itoa n).length := by
  obtain ⟨u, rfl⟩ := Int.eq_ofNat_of_zero_le h0
  rw [ordT_eq, Lib.itoa_nonneg]
  obtain ⟨c, r, hc, hb⟩ := sufP_head k u
  refine ⟨?_, fun j h hj => ?_, fun h => ?_⟩
  · show _ ≤ (Lib.decDigits u ++ sufP k u).toArray.size
    simp
  · rw [get_list]
    rw [List.getElem_append_left hj]
    have := digits_bd u _ (List.getElem_mem hj)
    omega
  · rw [get_list]
    have : (Lib.decDigits u ++ sufP k u)[(Lib.decDigits u).length]'(by rw [List.length_append, hc]; simp) = c := by
      simp [hc]
    rw [this]; exact hb

theorem ext_list {a b : ByteArray} (h : a.data.toList = b.data.toList) : a = b := by
  apply ByteArray.ext
  exact Array.toList_inj.1 h

theorem extract_ord (k n : Int) : (ordT k n).extract 0 (Lib.itoa n).length = digT n := by
  apply ext_list
  rw [Lib.extract_data, ordT_eq]
  simp [digT]

/-- Read at an ordinal of some style. -/
def readI (o k x m : Int) : Value := if x ≤ m ∧ ordT o x = ordT k x then .tuple #[.int .i64 x, .bool true] else .tuple #[.int .i64 0, .bool false]

theorem readO_any (o k m x : Int) (w : World) (hs : Std w) (x1 : 1 ≤ x) (x2 : x ≤ 1000000000000) :
    Calls Tryz.prog 18 #[.int .i64 o, .string (ordT k x), .int .i64 m] w fun e w' => e = .returned (readI o k x m) ∧ Below w.heap.size w w' := by
  have hl := lead_ord k x (by omega)
  have HA : AtoiIs ((ordT k x).extract 0 (Lib.itoa x).length) x := by rw [extract_ord]; exact atoiIs_any x (by omega) x2
  have hsz : (ordT k x).size ≤ 1000 := by
    rw [ordT_eq]
    have := Lib.itoa_length_le x (by omega) (by omega)
    have := sufP_len k x
    show (Lib.itoa x ++ sufP k x).toArray.size ≤ 1000
    simp; omega
  unfold readI
  by_cases hm : x ≤ m
  · by_cases he : ordT o x = ordT k x
    · rw [if_pos ⟨hm, he⟩]
      exact read_yes o m x _ _ w hs hsz hl HA x1 x2 hm he
    · rw [if_neg (fun h => he h.2)]
      refine read_other o m x _ _ w hs hsz hl HA x1 x2 hm (fun h => he (ext_list ?_))
      rwa [Lib.toList_data, Lib.toList_data] at h
  · rw [if_neg (fun h => hm h.1)]
    exact read_more o m x _ _ w hs hsz hl HA x1 x2 (by omega)

theorem readS_yes (k m x : Int) (w : World) (hs : Std w) (x1 : 1 ≤ x) (x2 : x ≤ 1000000000000) (hm : x ≤ m) :
    Calls Tryz.prog 18 #[.int .i64 k, .string (ordT k x), .int .i64 m] w fun e w' => e = .returned (.tuple #[.int .i64 x, .bool true]) ∧ Below w.heap.size w w' := by
  have := readO_any k k m x w hs x1 x2
  rwa [show readI k k x m = .tuple #[.int .i64 x, .bool true] from if_pos ⟨hm, rfl⟩] at this

theorem readS_no (k m x : Int) (w : World) (hs : Std w) (x1 : 1 ≤ x) (x2 : x ≤ 1000000000000) (hm : ¬ x ≤ m) :
    Calls Tryz.prog 18 #[.int .i64 k, .string (ordT k x), .int .i64 m] w fun e w' => e = .returned (.tuple #[.int .i64 0, .bool false]) ∧ Below w.heap.size w w' := by
  have := readO_any k k m x w hs x1 x2
  rwa [show readI k k x m = .tuple #[.int .i64 0, .bool false] from if_neg (fun h => hm h.1)] at this
end Go.Proofs.YthcfhmdoelpbdaaGreatDoor
