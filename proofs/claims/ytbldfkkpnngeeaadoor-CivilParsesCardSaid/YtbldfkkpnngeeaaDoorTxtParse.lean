/- Which texts are days' texts: plain lists of bytes. -/
import Derived.Test.YtbldfkkpnngeeaaDoorTxtOrd
namespace Go.Proofs.YtbldfkkpnngeeaaDoor

theorem parse_dgs (k : Nat) : ∀ (n acc : Nat) (r : List UInt8), n < 10 ^ k → acc * 10 ^ k + n < 1000000000000000000 → Lib.parseUint10 acc (dgs n k ++ r) = Lib.parseUint10 (acc * 10 ^ k + n) r := by
  induction k with
  | zero => intro n acc r h _; simp at h; simp [dgs, h]
  | succ k ih =>
    intro n acc r h h2
    rw [Nat.pow_succ] at h h2 ⊢
    simp only [dgs, List.append_assoc]
    have hq : acc * 10 ^ k + n / 10 < 1000000000000000000 := by
      have : acc * (10 ^ k * 10) = 10 * (acc * 10 ^ k) := by rw [← Nat.mul_assoc]; omega
      omega
    rw [ih (n / 10) acc _ (by omega) hq]
    have e : acc * (10 ^ k * 10) = 10 * (acc * 10 ^ k) := by rw [← Nat.mul_assoc]; omega
    rw [e] at h2 ⊢
    generalize acc * 10 ^ k = A at *
    simp only [List.cons_append, List.nil_append, Lib.parseUint10]
    have hd : (UInt8.ofNat (48 + n % 10)).toNat = 48 + n % 10 := by simp only [UInt8.toNat_ofNat']; omega
    rw [hd, if_pos (by omega), if_neg (by omega), if_neg (by omega)]
    congr 1
    omega

theorem atoi_dgs (k n : Nat) (h : n < 10 ^ (k + 1)) (hk : n < 1000000000000000000) : Lib.atoiAll (dgs n (k + 1)) = .ok (n : Int) := by
  have hp := parse_dgs (k + 1) n 0 [] h (by omega)
  simp only [List.append_nil, Nat.zero_mul, Nat.zero_add, Lib.parseUint10] at hp
  rw [dgs_front] at hp ⊢
  have hd : (UInt8.ofNat (48 + n / 10 ^ k % 10)).toNat = 48 + n / 10 ^ k % 10 := by simp only [UInt8.toNat_ofNat']; omega
  rw [Lib.atoiAll_plain _ _ (by omega) (by omega)]
  simp only [Lib.parseMag, List.cons_ne_nil, if_false, hp, Lib.signless]
  rw [if_neg (by omega)]

/-- few bytes never overflow -/
theorem parse_short : ∀ (l : List UInt8) (acc j : Nat), acc < 10 ^ j → j + l.length ≤ 18 → Lib.parseUint10 acc l ≠ .range
  | [], _, _, _, _ => by simp [Lib.parseUint10]
  | c :: r, acc, j, h, hl => by
    simp only [List.length_cons] at hl
    have hj : 10 ^ j ≤ 10 ^ 17 := Nat.pow_le_pow_right (by omega) (by omega)
    simp only [Lib.parseUint10]
    split
    · rw [if_neg (by omega), if_neg (by omega)]
      exact parse_short r _ (j + 1) (by rw [Nat.pow_succ]; omega) (by omega)
    · simp

theorem atoi_short {l : List UInt8} (h : l.length ≤ 18) : Lib.atoiAll l ≠ .range := by
  match l with
  | [] => simp [Lib.atoiAll]
  | c :: r =>
    have hm : ∀ x : List UInt8, x.length ≤ 18 → Lib.parseMag x ≠ .range := by
      intro x hx
      unfold Lib.parseMag
      split
      · simp
      · exact parse_short x 0 0 (by simp) (by omega)
    have hb : ∀ (x : List UInt8) (u : Nat), x.length ≤ 18 → Lib.parseMag x = .ok u → u < 1000000000000000000 := by
      intro x u hx hu
      unfold Lib.parseMag at hu
      split at hu
      · cases hu
      · have gen : ∀ (x : List UInt8) (acc j u : Nat), acc < 10 ^ j → j + x.length ≤ 18 → Lib.parseUint10 acc x = .ok u → u < 10 ^ 18 := by
          intro x
          induction x with
          | nil =>
            intro acc j u h1 h2 h3
            simp only [Lib.parseUint10] at h3
            injection h3 with h3
            subst h3
            have : 10 ^ j ≤ 10 ^ 18 := Nat.pow_le_pow_right (by omega) (by simpa using h2)
            omega
          | cons c r ih =>
            intro acc j u h1 h2 h3
            simp only [Lib.parseUint10] at h3
            split at h3
            · split at h3
              · cases h3
              · split at h3
                · cases h3
                · exact ih _ (j + 1) u (by rw [Nat.pow_succ]; omega) (by simp at h2; omega) h3
            · cases h3
        exact gen x 0 0 u (by simp) (by omega) hu
    simp only [Lib.atoiAll]
    have hx : (if c.toNat = 43 ∨ c.toNat = 45 then r else c :: r).length ≤ 18 := by split <;> simp at h ⊢ <;> omega
    generalize (if c.toNat = 43 ∨ c.toNat = 45 then r else c :: r) = x at *
    have h1 := hm x hx
    have h2 := hb x
    cases hp : Lib.parseMag x
    case ok u =>
      have := h2 u hx hp
      simp only
      rw [if_neg (by omega), if_neg (by omega)]
      simp
    case range => exact absurd hp h1
    simp

/-- the parts of a day's text -/
theorem text_parts {n : Int} (h : isDay n = true) : (textL n).length = 10 ∧ (textL n)[4]? = some 45 ∧ (textL n)[7]? = some 45
    ∧ Lib.atoiAll ((textL n).take 4) = .ok (yearI n) ∧ Lib.atoiAll (((textL n).drop 5).take 2) = .ok (monthI n) ∧ Lib.atoiAll ((textL n).drop 8) = .ok (mdayI n) := by
  have hd := (date_is h).1
  have hm := long_bd (yearI n) (monthI n)
  rw [textL_eq h]
  unfold textD
  simp only [isDate, decide_eq_true_eq] at hd
  generalize yearI n = Y at *
  generalize monthI n = M at *
  generalize mdayI n = D at *
  have ly := dgs_length Y.toNat 4
  have lm := dgs_length M.toNat 2
  have ld := dgs_length D.toNat 2
  have ay := atoi_dgs 3 Y.toNat (by omega) (by omega)
  have am := atoi_dgs 1 M.toNat (by omega) (by omega)
  have ad := atoi_dgs 1 D.toNat (by omega) (by omega)
  rw [show ((Y.toNat : Nat) : Int) = Y by omega] at ay
  rw [show ((M.toNat : Nat) : Int) = M by omega] at am
  rw [show ((D.toNat : Nat) : Int) = D by omega] at ad
  simp only [Nat.reduceAdd] at ay am ad
  generalize dgs Y.toNat 4 = a at *
  generalize dgs M.toNat 2 = b at *
  generalize dgs D.toNat 2 = c at *
  match a, ly with
  | [a0, a1, a2, a3], _ =>
    match b, lm with
    | [b0, b1], _ =>
      match c, ld with
      | [c0, c1], _ => exact ⟨rfl, rfl, rfl, ay, am, ad⟩
end Go.Proofs.YtbldfkkpnngeeaaDoor
