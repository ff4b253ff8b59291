/- Days' texts come in the order of the days; a text tells its day. -/
import Derived.Test.YtbldfkkpnngeeaaDoorTxt
import GoSem.Op.String
namespace Go.Proofs.YtbldfkkpnngeeaaDoor

theorem bl_app : ∀ (a b c d : List UInt8), a.length = b.length → Op.bytesLess (a ++ c) (b ++ d) = (Op.bytesLess a b || (a == b && Op.bytesLess c d))
  | [], [], c, d, _ => by simp [Op.bytesLess]
  | x :: a, y :: b, c, d, h => by
    have := bl_app a b c d (by simpa using h)
    simp only [List.cons_append, Op.bytesLess, this]
    by_cases e : x = y
    · subst e
      cases Op.bytesLess a b <;> simp
    · have hxy : (x == y) = false := by simpa using e
      have hl : (x :: a == y :: b) = false := by simp [e]
      rw [hxy, hl]
      simp
  | [], _ :: _, _, _, h => by simp at h
  | _ :: _, [], _, _, h => by simp at h

theorem digit_lt (a b : Nat) : (UInt8.ofNat (48 + a % 10) < UInt8.ofNat (48 + b % 10)) ↔ a % 10 < b % 10 := by
  rw [UInt8.lt_iff_toNat_lt]
  simp only [UInt8.toNat_ofNat']
  omega
theorem digit_eq (a b : Nat) : (UInt8.ofNat (48 + a % 10) = UInt8.ofNat (48 + b % 10)) ↔ a % 10 = b % 10 := by
  rw [← UInt8.toNat_inj]
  simp only [UInt8.toNat_ofNat']
  omega

theorem dgs_inj (k : Nat) : ∀ a b : Nat, a < 10 ^ k → b < 10 ^ k → (dgs a k = dgs b k ↔ a = b) := by
  induction k with
  | zero => intro a b ha hb; simp at ha hb; simp [dgs, ha, hb]
  | succ k ih =>
    intro a b ha hb
    rw [Nat.pow_succ] at ha hb
    simp only [dgs]
    constructor
    · intro h
      obtain ⟨h1, h2⟩ := List.append_inj h (by simp [dgs_length])
      have e1 := (ih (a / 10) (b / 10) (by omega) (by omega)).1 h1
      have e2 := (digit_eq a b).1 (by simpa using h2)
      omega
    · rintro rfl; rfl

theorem bl_dgs (k : Nat) : ∀ a b : Nat, a < 10 ^ k → b < 10 ^ k → Op.bytesLess (dgs a k) (dgs b k) = decide (a < b) := by
  induction k with
  | zero => intro a b ha hb; simp at ha hb; simp [dgs, ha, hb, Op.bytesLess]
  | succ k ih =>
    intro a b ha hb
    rw [Nat.pow_succ] at ha hb
    simp only [dgs]
    rw [bl_app _ _ _ _ (by simp [dgs_length]), ih _ _ (by omega) (by omega)]
    have hi := dgs_inj k (a / 10) (b / 10) (by omega) (by omega)
    have hd := digit_lt a b
    rw [Bool.eq_iff_iff]
    simp only [Op.bytesLess, Bool.or_eq_true, Bool.and_eq_true, decide_eq_true_eq, beq_iff_eq, hi, hd, Bool.and_false, Bool.or_false]
    omega

theorem num_lt {y m d y' m' d' : Int} (h : isDate y m d = true) (h' : isDate y' m' d' = true) :
    numI y m d < numI y' m' d' ↔ (y < y' ∨ (y = y' ∧ (m < m' ∨ (m = m' ∧ d < d')))) := by
  have b := num_bd h
  have b' := num_bd h'
  simp only [isDate, decide_eq_true_eq] at h h'
  obtain ⟨h1, h2, h3, h4, h5, h6⟩ := h
  obtain ⟨_, _, k3, k4, k5, k6⟩ := h'
  have c := cum_succ y m h3 h4
  have c' := cum_succ y' m' k3 k4
  rcases Int.lt_trichotomy y y' with l | rfl | l
  · have := ahead_mono (a := y + 1) (b := y') (by omega)
    constructor <;> intro _ <;> first | exact .inl l | omega
  · unfold numI at *
    rcases Int.lt_trichotomy m m' with l | rfl | l
    · have := cum_mono y (a := m + 1) (b := m') (by omega)
      constructor <;> intro _ <;> omega
    · constructor <;> intro _ <;> omega
    · have := cum_mono y (a := m' + 1) (b := m) (by omega)
      constructor <;> intro _ <;> omega
  · have := ahead_mono (a := y' + 1) (b := y) (by omega)
    constructor <;> intro _ <;> omega

theorem text_less {n n' : Int} (h : isDay n = true) (h' : isDay n' = true) : Op.bytesLess (textL n) (textL n') = decide (n < n') := by
  rw [textL_eq h, textL_eq h']
  obtain ⟨d1, d2⟩ := date_is h
  obtain ⟨e1, e2⟩ := date_is h'
  have hn := num_lt d1 e1
  rw [d2, e2] at hn
  unfold textD
  generalize yearI n = Y at *
  generalize monthI n = M at *
  generalize mdayI n = D at *
  generalize yearI n' = Y' at *
  generalize monthI n' = M' at *
  generalize mdayI n' = D' at *
  have lb := long_bd Y M
  have lb' := long_bd Y' M'
  simp only [isDate, decide_eq_true_eq] at d1 e1
  simp only [List.append_assoc]
  rw [bl_app _ _ _ _ (by simp [dgs_length]), bl_app _ _ _ _ (by simp), bl_app _ _ _ _ (by simp [dgs_length]), bl_app _ _ _ _ (by simp)]
  have p4 : Y.toNat < 10 ^ 4 ∧ Y'.toNat < 10 ^ 4 := by omega
  have p2 : M.toNat < 10 ^ 2 ∧ M'.toNat < 10 ^ 2 := by omega
  have p1 : D.toNat < 10 ^ 2 ∧ D'.toNat < 10 ^ 2 := by omega
  rw [bl_dgs 4 _ _ p4.1 p4.2, bl_dgs 2 _ _ p2.1 p2.2, bl_dgs 2 _ _ p1.1 p1.2]
  have i4 := dgs_inj 4 _ _ p4.1 p4.2
  have i2 := dgs_inj 2 _ _ p2.1 p2.2
  rw [Bool.eq_iff_iff]
  simp only [Op.bytesLess, Bool.or_eq_true, Bool.and_eq_true, decide_eq_true_eq, beq_iff_eq, i4, i2, hn, UInt8.lt_irrefl, decide_false, Bool.false_or, beq_self_eq_true, Bool.and_false, Bool.or_false, true_and]
  omega

theorem text_inj {n n' : Int} (h : isDay n = true) (h' : isDay n' = true) (e : textL n = textL n') : n = n' := by
  have h1 := text_less h h'
  have h2 := text_less h' h
  rw [e] at h1 h2
  have e0 : Op.bytesLess (textL n') (textL n') = false := by rw [text_less h' h']; simp
  rw [e0] at h1 h2
  have a1 := of_decide_eq_false h1.symm
  have a2 := of_decide_eq_false h2.symm
  omega
end Go.Proofs.YtbldfkkpnngeeaaDoor
