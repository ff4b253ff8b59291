/- kalendslaw10.runes: what it comes to. -/
import Derived.Test.YtebkccfnilcfpaaGreatDoorRunC
namespace Go.Proofs.YtebkccfnilcfpaaGreatDoor
set_option linter.unusedVariables false
set_option linter.unusedSimpArgs false
open Go Go.Sy Go.RowKit

section
variable {E : Env} {s : ByteArray} {i : Nat}

theorem rS_d (h0 : E.str 0 = s) (m : Nat) : den E (m + 2) rS = some (.string s) := by simp only [rS, den_i, den_sv, denL_cons, denL_nil, Option.bind_some, i2, Int.reduceToNat, h0]
theorem rI_d (h1 : E.int 1 = (i : Int)) (m : Nat) : den E (m + 2) rI = some (.int .i64 (i : Int)) := by simp only [rI, den_i, den_sv, denL_cons, denL_nil, Option.bind_some, i0, Int.reduceToNat, h1]
theorem rN_d (h0 : E.str 0 = s) (m : Nat) : den E (m + 3) rN = some (.int .i64 (s.size : Int)) := by simp only [rN, den_sv, denL_cons, denL_nil, rS_d h0, Option.bind_some, i10]
theorem rP_d (h1 : E.int 1 = (i : Int)) (hi : i ≤ 1099511627776) {k : Nat} (hk : k ≤ 4) (m : Nat) : den E (m + 3) (rP k) = some (.int .i64 ((i + k : Nat) : Int)) := by
  cases k with
  | zero => exact rI_d h1 (m + 1)
  | succ k =>
    simp (disch := omega) only [rP, den_i, den_sv, denL_cons, denL_nil, rI_d h1, Option.bind_some, i20, wr64]
    rw [show (i : Int) + ((k + 1 : Nat) : Int) = ((i + (k + 1) : Nat) : Int) by omega]
theorem rB_d (h0 : E.str 0 = s) (h1 : E.int 1 = (i : Int)) (hs : s.size ≤ 1099511627776) {k : Nat} (hk : k ≤ 4) (hl : i + k < s.size) (m : Nat) : den E (m + 4) (rB k) = some (.int .u8 ((s.data.toList.getD (i + k) 0).toNat : Int)) := by
  have hg : s.data.toList[i + k]? = some (s.data.toList.getD (i + k) 0) := by
    rw [List.getD_eq_getElem?_getD, List.getElem?_eq_getElem (by simpa using hl)]
    rfl
  simp only [rB, den_sv, denL_cons, denL_nil, rS_d h0, rP_d h1 (by omega) hk, Option.bind_some]
  exact i12 .i64 hg

theorem rLen_v (h0 : E.str 0 = s) (h1 : E.int 1 = (i : Int)) (hs : s.size ≤ 1099511627776) (hi : i ≤ s.size) {k : Nat} (hk : k ≤ 4) (R T : HTree) : (rLen k R T).val E = if i + k ≤ s.size then T.val E else R.val E := by
  simp only [rLen, HTree.val, den_sv (n := 39), denL_cons, denL_nil, rN_d h0, rP_d h1 (by omega) hk, Option.bind_some, i31, pickC, decide_eq_true_eq]
  by_cases h : i + k ≤ s.size
  · rw [if_pos h, if_neg (by omega)]
  · rw [if_neg h, if_pos (by omega)]

theorem rBy_v (h0 : E.str 0 = s) (h1 : E.int 1 = (i : Int)) (hs : s.size ≤ 1099511627776) {k : Nat} (hk : k ≤ 4) (hl : i + k < s.size) (lo hi : Nat) (R T : HTree) :
    (rBy k lo hi R T).val E = if lo ≤ (s.data.toList.getD (i + k) 0).toNat ∧ (s.data.toList.getD (i + k) 0).toNat ≤ hi then T.val E else R.val E := by
  have e1 : ¬ (((i + k : Nat) : Int) < 0) := by omega
  have e2 : ((i + k : Nat) : Int) < (s.size : Int) := by omega
  simp only [rBy, HTree.val, den_i, den_sv (n := 39), denL_cons, denL_nil, rN_d h0, rP_d h1 (by omega) hk, rB_d h0 h1 hs hk hl, Option.bind_some, i31, pickC, wantC, e1, e2, decide_false, decide_true, if_true, ↓reduceIte, decide_eq_true_eq]
  generalize (s.data.toList.getD (i + k) 0).toNat = b
  by_cases c : lo ≤ b ∧ b ≤ hi
  · rw [if_pos c, if_neg (by omega), if_neg (by omega)]
  · rw [if_neg c]
    by_cases d : (b : Int) < (lo : Int)
    · rw [if_pos d]
    · rw [if_neg d, if_pos (by omega)]

theorem rnT_v (h0 : E.str 0 = s) (h1 : E.int 1 = (i : Int)) (hs : s.size ≤ 1099511627776) (hi : i ≤ s.size) (R : HTree) (O : Nat → HTree) (D : HTree) :
    (rnT R O D).val E = if i < s.size then (if okL (s.data.toList.drop i) = 0 then R.val E else (O (okL (s.data.toList.drop i))).val E) else D.val E := by
  by_cases hl : i < s.size
  · rw [if_pos hl, okL_at, show s.data.toList.length = s.size by simp]
    have e1 : ¬ ((i : Int) < 0) := by omega
    have e2 : (i : Int) < (s.size : Int) := by omega
    have dB : ∀ m, den E (m + 4) (rB 0) = some (.int .u8 ((s.data.toList.getD i 0).toNat : Int)) := rB_d h0 h1 hs (k := 0) (by omega) (by omega)
    have L := fun k (hk : k ≤ 4) T => rLen_v h0 h1 hs hi (k := k) hk R T
    have B := fun k (hk : k ≤ 4) (hl : i + k < s.size) lo hi T => rBy_v h0 h1 hs (k := k) hk hl lo hi R T
    have four : ∀ lo hi, (rFour lo hi R O).val E = if 4 ≤ s.size - i ∧ lo ≤ (s.data.toList.getD (i + 1) 0).toNat ∧ (s.data.toList.getD (i + 1) 0).toNat ≤ hi ∧ 128 ≤ (s.data.toList.getD (i + 2) 0).toNat ∧ (s.data.toList.getD (i + 2) 0).toNat ≤ 191 ∧
        128 ≤ (s.data.toList.getD (i + 3) 0).toNat ∧ (s.data.toList.getD (i + 3) 0).toNat ≤ 191 then (O 4).val E else R.val E := fun lo hi => by
      unfold rFour
      rw [L 4 (by omega)]
      by_cases c : i + 4 ≤ s.size
      · rw [if_pos c, B 1 (by omega) (by omega), B 2 (by omega) (by omega), B 3 (by omega) (by omega)]
        repeat' split
        all_goals first | rfl | (exfalso; omega)
      · rw [if_neg c, if_neg (by omega)]
    have three : ∀ lo hi, (rThree lo hi R O).val E = if 3 ≤ s.size - i ∧ lo ≤ (s.data.toList.getD (i + 1) 0).toNat ∧ (s.data.toList.getD (i + 1) 0).toNat ≤ hi ∧ 128 ≤ (s.data.toList.getD (i + 2) 0).toNat ∧ (s.data.toList.getD (i + 2) 0).toNat ≤ 191 then (O 3).val E else R.val E := fun lo hi => by
      unfold rThree
      rw [L 3 (by omega)]
      by_cases c : i + 3 ≤ s.size
      · rw [if_pos c, B 1 (by omega) (by omega), B 2 (by omega) (by omega)]
        repeat' split
        all_goals first | rfl | (exfalso; omega)
      · rw [if_neg c, if_neg (by omega)]
    have two : (rTwo R O).val E = if 2 ≤ s.size - i ∧ 128 ≤ (s.data.toList.getD (i + 1) 0).toNat ∧ (s.data.toList.getD (i + 1) 0).toNat ≤ 191 then (O 2).val E else R.val E := by
      unfold rTwo
      rw [L 2 (by omega)]
      by_cases c : i + 2 ≤ s.size
      · rw [if_pos c, B 1 (by omega) (by omega)]
        repeat' split
        all_goals first | rfl | (exfalso; omega)
      · rw [if_neg c, if_neg (by omega)]
    have lt : ∀ n : Nat, den E 40 (rLt n) = some (.bool (decide (((s.data.toList.getD i 0).toNat : Int) < (n : Int)))) := fun n => by simp only [rLt, den_i, den_sv (n := 39), denL_cons, denL_nil, dB, Option.bind_some, i31]
    have gt : ∀ n : Nat, den E 40 (rGt n) = some (.bool (decide ((n : Int) < ((s.data.toList.getD i 0).toNat : Int)))) := fun n => by simp only [rGt, den_i, den_sv (n := 39), denL_cons, denL_nil, dB, Option.bind_some, i31]
    have eq : ∀ n : Nat, den E 40 (rEq n) = some (.bool (decide (((s.data.toList.getD i 0).toNat : Int) = (n : Int)))) := fun n => by simp only [rEq, den_i, den_sv (n := 39), denL_cons, denL_nil, dB, Option.bind_some, i30]
    simp only [rnT, HTree.val, den_i, den_sv (n := 39), denL_cons, denL_nil, rN_d h0, rI_d h1, Option.bind_some, i31, e1, e2, decide_true, decide_false, pickC, wantC, if_true, ↓reduceIte, lt, gt, eq, four, three, two, L 1 (by omega)]
    unfold okN
    generalize (s.data.toList.getD i 0).toNat = b0
    generalize (s.data.toList.getD (i + 1) 0).toNat = b1
    generalize (s.data.toList.getD (i + 2) 0).toNat = b2
    generalize (s.data.toList.getD (i + 3) 0).toNat = b3
    simp only [decide_eq_true_eq, decide_eq_false_iff_not]
    by_cases c0 : b0 < 128
    · rw [if_pos (show (b0 : Int) < ((128 : Nat) : Int) by omega), if_pos c0, if_pos (by omega), if_neg (by omega)]
    rw [if_neg (show ¬ (b0 : Int) < ((128 : Nat) : Int) by omega), if_neg c0]
    by_cases c1 : b0 < 194
    · rw [if_pos (show (b0 : Int) < ((194 : Nat) : Int) by omega), if_pos c1, if_pos rfl, if_pos (show (b0 : Int) < ((224 : Nat) : Int) by omega), if_pos (show (b0 : Int) < ((240 : Nat) : Int) by omega)]
    rw [if_neg (show ¬ (b0 : Int) < ((194 : Nat) : Int) by omega), if_neg c1]
    by_cases c2 : b0 ≤ 223
    · rw [if_neg (show ¬ ((223 : Nat) : Int) < (b0 : Int) by omega), if_pos c2]
      repeat' split
      all_goals first | rfl | (exfalso; omega)
    rw [if_pos (show ((223 : Nat) : Int) < (b0 : Int) by omega), if_neg c2, if_pos (show ¬ (b0 : Int) < ((224 : Nat) : Int) by omega)]
    by_cases c3 : b0 ≤ 239
    · rw [if_neg (show ¬ ((239 : Nat) : Int) < (b0 : Int) by omega), if_pos c3]
      by_cases q1 : b0 = 224
      · rw [if_pos (show (b0 : Int) = ((224 : Nat) : Int) by omega), if_pos (show ¬ (b0 : Int) = ((237 : Nat) : Int) by omega), if_pos q1, if_neg (show ¬ b0 = 237 by omega)]
        repeat' split
        all_goals first | rfl | (exfalso; omega)
      · rw [if_neg (show ¬ (b0 : Int) = ((224 : Nat) : Int) by omega), if_neg q1]
        by_cases q2 : b0 = 237
        · rw [if_pos (show (b0 : Int) = ((237 : Nat) : Int) by omega), if_pos q2]
          repeat' split
          all_goals first | rfl | (exfalso; omega)
        · rw [if_neg (show ¬ (b0 : Int) = ((237 : Nat) : Int) by omega), if_neg q2]
          repeat' split
          all_goals first | rfl | (exfalso; omega)
    rw [if_pos (show ((239 : Nat) : Int) < (b0 : Int) by omega), if_neg c3, if_pos (show ¬ (b0 : Int) < ((240 : Nat) : Int) by omega)]
    by_cases c4 : b0 ≤ 244
    · rw [if_neg (show ¬ ((244 : Nat) : Int) < (b0 : Int) by omega), if_pos c4]
      by_cases q1 : b0 = 240
      · rw [if_pos (show (b0 : Int) = ((240 : Nat) : Int) by omega), if_pos (show ¬ (b0 : Int) = ((244 : Nat) : Int) by omega), if_pos q1, if_neg (show ¬ b0 = 244 by omega)]
        repeat' split
        all_goals first | rfl | (exfalso; omega)
      · rw [if_neg (show ¬ (b0 : Int) = ((240 : Nat) : Int) by omega), if_neg q1]
        by_cases q2 : b0 = 244
        · rw [if_pos (show (b0 : Int) = ((244 : Nat) : Int) by omega), if_pos q2]
          repeat' split
          all_goals first | rfl | (exfalso; omega)
        · rw [if_neg (show ¬ (b0 : Int) = ((244 : Nat) : Int) by omega), if_neg q2]
          repeat' split
          all_goals first | rfl | (exfalso; omega)
    · rw [if_pos (show ((244 : Nat) : Int) < (b0 : Int) by omega), if_neg c4, if_pos rfl]
  · rw [if_neg hl]
    have e2 : ¬ (i : Int) < (s.size : Int) := by omega
    simp only [rnT, HTree.val, den_sv (n := 39), denL_cons, denL_nil, rN_d h0, rI_d h1, Option.bind_some, i31, e2, decide_false, pickC, Bool.false_eq_true, ↓reduceIte]
end
end Go.Proofs.YtebkccfnilcfpaaGreatDoor
