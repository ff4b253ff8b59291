/- Plain: where a text is no UTF-8, its letters, its small letters: by the law's words and by the library's. -/
import Derived.Test.YtebkccfnilcfpaaGreatDoorProg
import Derived.Lib.MapLaws
import Derived.KernelRfl
namespace Go.Proofs.YtebkccfnilcfpaaGreatDoor
set_option linter.unusedVariables false
set_option linter.unusedSimpArgs false
open Go Go.Lib

theorem ba_ext {a b : ByteArray} (h : a.data.toList = b.data.toList) : a = b := ByteArray.ext (Array.toList_inj.1 h)

/-! ### The first letter -/

/-- How many bytes the first letter has, by the law; 0: it is none. -/
def okN (n b0 b1 b2 b3 : Nat) : Nat :=
  if b0 < 128 then 1
  else if b0 < 194 then 0
  else if b0 ≤ 223 then (if 2 ≤ n ∧ 128 ≤ b1 ∧ b1 ≤ 191 then 2 else 0)
  else if b0 ≤ 239 then (if 3 ≤ n ∧ (if b0 = 224 then 160 else 128) ≤ b1 ∧ b1 ≤ (if b0 = 237 then 159 else 191) ∧ 128 ≤ b2 ∧ b2 ≤ 191 then 3 else 0)
  else if b0 ≤ 244 then (if 4 ≤ n ∧ (if b0 = 240 then 144 else 128) ≤ b1 ∧ b1 ≤ (if b0 = 244 then 143 else 191) ∧ 128 ≤ b2 ∧ b2 ≤ 191 ∧ 128 ≤ b3 ∧ b3 ≤ 191 then 4 else 0)
  else 0

theorem okN_dec (n b0 b1 b2 b3 : Nat) (h0 : b0 < 256) (h1 : b1 < 256) (h2 : b2 < 256) (h3 : b3 < 256) :
    ((decodeN n b0 b1 b2 b3).1 = 65533 ∧ (decodeN n b0 b1 b2 b3).2 = 1 ∧ okN n b0 b1 b2 b3 = 0) ∨ (¬ ((decodeN n b0 b1 b2 b3).1 = 65533 ∧ (decodeN n b0 b1 b2 b3).2 = 1) ∧ okN n b0 b1 b2 b3 = (decodeN n b0 b1 b2 b3).2) := by
  unfold okN
  by_cases c0 : b0 < 128
  · right
    rw [if_pos c0, decodeN_ascii _ _ _ _ _ c0]
    exact ⟨fun h => by simp only at h; omega, rfl⟩
  rw [if_neg c0]
  by_cases c1 : b0 < 194
  · left
    rw [if_pos c1]
    unfold decodeN
    rw [if_neg c0]
    repeat' split
    all_goals first | exact ⟨rfl, rfl, rfl⟩ | (exfalso; omega)
  rw [if_neg c1]
  by_cases c2 : b0 ≤ 223
  · rw [if_pos c2]
    unfold decodeN
    rw [if_neg c0]
    by_cases d : 2 ≤ n ∧ 128 ≤ b1 ∧ b1 ≤ 191
    · right
      rw [if_pos d, if_pos (by omega), if_pos (by omega)]
      exact ⟨fun h => by simp only at h; omega, rfl⟩
    · left
      rw [if_neg d]
      repeat' split
      all_goals first | exact ⟨rfl, rfl, rfl⟩ | (exfalso; omega)
  rw [if_neg c2]
  by_cases c3 : b0 ≤ 239
  · rw [if_pos c3]
    unfold decodeN
    rw [if_neg c0, if_neg (by omega)]
    by_cases d : 3 ≤ n ∧ (if b0 = 224 then 160 else 128) ≤ b1 ∧ b1 ≤ (if b0 = 237 then 159 else 191) ∧ 128 ≤ b2 ∧ b2 ≤ 191
    · right
      rw [if_pos d]
      split at d <;> split at d
      all_goals first
        | (exfalso; omega)
        | (rw [if_pos (by omega), if_pos (by omega)]; exact ⟨fun h => by simp only at h; omega, rfl⟩)
    · left
      rw [if_neg d]
      split at d <;> split at d
      all_goals (repeat' split)
      all_goals first | exact ⟨rfl, rfl, rfl⟩ | (exfalso; omega)
  rw [if_neg c3]
  by_cases c4 : b0 ≤ 244
  · rw [if_pos c4]
    unfold decodeN
    rw [if_neg c0, if_neg (by omega), if_neg (by omega)]
    by_cases d : 4 ≤ n ∧ (if b0 = 240 then 144 else 128) ≤ b1 ∧ b1 ≤ (if b0 = 244 then 143 else 191) ∧ 128 ≤ b2 ∧ b2 ≤ 191 ∧ 128 ≤ b3 ∧ b3 ≤ 191
    · right
      rw [if_pos d]
      split at d <;> split at d
      all_goals first
        | (exfalso; omega)
        | (rw [if_pos (by omega), if_pos (by omega)]; exact ⟨fun h => by simp only at h; omega, rfl⟩)
    · left
      rw [if_neg d]
      split at d <;> split at d
      all_goals (repeat' split)
      all_goals first | exact ⟨rfl, rfl, rfl⟩ | (exfalso; omega)
  · left
    rw [if_neg c4]
    unfold decodeN
    rw [if_neg c0, if_neg (by omega), if_neg (by omega)]
    repeat' split
    all_goals first | exact ⟨rfl, rfl, rfl⟩ | (exfalso; omega)

def okL (l : List UInt8) : Nat := okN l.length (l.getD 0 0).toNat (l.getD 1 0).toNat (l.getD 2 0).toNat (l.getD 3 0).toNat

theorem okL_dec (l : List UInt8) : ((decodeL l).1 = 65533 ∧ (decodeL l).2 = 1 ∧ okL l = 0) ∨ (¬ ((decodeL l).1 = 65533 ∧ (decodeL l).2 = 1) ∧ okL l = (decodeL l).2) := by
  rw [decodeL_N]
  exact okN_dec _ _ _ _ _ (UInt8.toNat_lt _) (UInt8.toNat_lt _) (UInt8.toNat_lt _) (UInt8.toNat_lt _)

theorem okL_le {l : List UInt8} (h : l ≠ []) : okL l ≤ l.length := by
  rcases okL_dec l with ⟨_, _, e⟩ | ⟨_, e⟩
  · omega
  · rw [e]; exact decodeL_le l h

/-- .. at a place of a text: what the law asks, byte by byte. -/
theorem okL_at (l : List UInt8) (i : Nat) : okL (l.drop i) = okN (l.length - i) (l.getD i 0).toNat (l.getD (i + 1) 0).toNat (l.getD (i + 2) 0).toNat (l.getD (i + 3) 0).toNat := by
  unfold okL
  simp only [List.length_drop, getD_dropU, Nat.add_zero]

/-! ### A text's letters -/

def lettersF : Nat → List UInt8 → List (List UInt8)
  | 0, _ => []
  | n + 1, l => if l = [] then [] else if okL l = 0 then [] else l.take (okL l) :: lettersF n (l.drop (okL l))
def badF : Nat → List UInt8 → Option Nat
  | 0, _ => none
  | n + 1, l => if l = [] then none else if okL l = 0 then some 0 else (badF n (l.drop (okL l))).map (· + okL l)

def letters (l : List UInt8) : List (List UInt8) := lettersF l.length l
def bad (l : List UInt8) : Option Nat := badF l.length l

theorem lettersF_more : ∀ (n m : Nat) (l : List UInt8), l.length ≤ n → l.length ≤ m → lettersF n l = lettersF m l
  | 0, 0, _, _, _ => rfl
  | 0, m + 1, l, h, _ => by rw [List.length_eq_zero_iff.1 (Nat.le_zero.1 h)]; simp [lettersF]
  | n + 1, 0, l, _, h => by rw [List.length_eq_zero_iff.1 (Nat.le_zero.1 h)]; simp [lettersF]
  | n + 1, m + 1, l, h1, h2 => by
    simp only [lettersF]
    split
    · rfl
    · split
      · rfl
      · rename_i hne h0
        have : 0 < l.length := List.length_pos_iff.2 hne
        rw [lettersF_more n m _ (by simp; omega) (by simp; omega)]

theorem badF_more : ∀ (n m : Nat) (l : List UInt8), l.length ≤ n → l.length ≤ m → badF n l = badF m l
  | 0, 0, _, _, _ => rfl
  | 0, m + 1, l, h, _ => by rw [List.length_eq_zero_iff.1 (Nat.le_zero.1 h)]; simp [badF]
  | n + 1, 0, l, _, h => by rw [List.length_eq_zero_iff.1 (Nat.le_zero.1 h)]; simp [badF]
  | n + 1, m + 1, l, h1, h2 => by
    simp only [badF]
    split
    · rfl
    · split
      · rfl
      · rename_i hne h0
        have : 0 < l.length := List.length_pos_iff.2 hne
        rw [badF_more n m _ (by simp; omega) (by simp; omega)]

theorem letters_nil : letters [] = [] := rfl
theorem bad_nil : bad [] = none := rfl

theorem okL_ne {l : List UInt8} (h0 : okL l = 0) : l ≠ [] := by
  intro e
  subst e
  exact absurd h0 (by decide)

theorem letters_stop {l : List UInt8} (h0 : okL l = 0) : letters l = [] := by
  cases l with
  | nil => rfl
  | cons b r => unfold letters; rw [List.length_cons, lettersF, if_neg (by simp), if_pos h0]

theorem bad_stop {l : List UInt8} (hne : l ≠ []) (h0 : okL l = 0) : bad l = some 0 := by
  cases l with
  | nil => exact absurd rfl hne
  | cons b r => unfold bad; rw [List.length_cons, badF, if_neg (by simp), if_pos h0]

theorem letters_step {l : List UInt8} (hne : l ≠ []) (h0 : okL l ≠ 0) : letters l = l.take (okL l) :: letters (l.drop (okL l)) := by
  have hl : 0 < l.length := List.length_pos_iff.2 hne
  obtain ⟨n, hn⟩ : ∃ n, l.length = n + 1 := ⟨l.length - 1, by omega⟩
  unfold letters
  rw [hn, lettersF, if_neg hne, if_neg h0, lettersF_more n _ _ (by simp; omega) (Nat.le_refl _)]

theorem bad_step {l : List UInt8} (hne : l ≠ []) (h0 : okL l ≠ 0) : bad l = (bad (l.drop (okL l))).map (· + okL l) := by
  have hl : 0 < l.length := List.length_pos_iff.2 hne
  obtain ⟨n, hn⟩ : ∃ n, l.length = n + 1 := ⟨l.length - 1, by omega⟩
  unfold bad
  rw [hn, badF, if_neg hne, if_neg h0, badF_more n _ _ (by simp; omega) (Nat.le_refl _)]

/-- As Go has it. -/
def badI (l : List UInt8) : Int := match bad l with
  | some i => (i : Int)
  | none => -1

/-! ### A letter stays one, whatever follows -/

def valN (k b0 b1 b2 b3 : Nat) : Nat :=
  if k = 1 then b0 else if k = 2 then b0 % 32 * 64 + b1 % 64 else if k = 3 then b0 % 16 * 4096 + b1 % 64 * 64 + b2 % 64 else b0 % 8 * 262144 + b1 % 64 * 4096 + b2 % 64 * 64 + b3 % 64

theorem okN_val {n b0 b1 b2 b3 : Nat} (h0 : b0 < 256) (h1 : b1 < 256) (h2 : b2 < 256) (h3 : b3 < 256) (hk : okN n b0 b1 b2 b3 ≠ 0) : decodeN n b0 b1 b2 b3 = (valN (okN n b0 b1 b2 b3) b0 b1 b2 b3, okN n b0 b1 b2 b3) := by
  rcases okN_dec n b0 b1 b2 b3 h0 h1 h2 h3 with ⟨_, _, e⟩ | ⟨hv, e⟩
  · exact absurd e hk
  · rcases decodeN_shape n b0 b1 b2 b3 with ⟨c, e2⟩ | ⟨_, _, _, _, e2⟩ | ⟨_, _, _, _, _, _, e2⟩ | ⟨_, _, _, _, _, _, _, e2⟩ | e2
    · rw [e2] at e; rw [e2, e]; simp [valN]
    · rw [e2] at e; rw [e2, e]; simp [valN]
    · rw [e2] at e; rw [e2, e]; simp [valN]
    · rw [e2] at e; rw [e2, e]; simp [valN]
    · rw [e2] at hv; exact absurd ⟨rfl, rfl⟩ hv

theorem okN_same {n n' k b0 b1 b2 b3 c1 c2 c3 : Nat} (hk : okN n b0 b1 b2 b3 = k) (hk0 : k ≠ 0) (hn : k ≤ n') (e1 : 1 < k → c1 = b1) (e2 : 2 < k → c2 = b2) (e3 : 3 < k → c3 = b3) : okN n' b0 c1 c2 c3 = k := by
  unfold okN at hk ⊢
  by_cases q0 : b0 < 128
  · rw [if_pos q0] at hk ⊢; exact hk
  rw [if_neg q0] at hk ⊢
  by_cases q1 : b0 < 194
  · rw [if_pos q1] at hk; omega
  rw [if_neg q1] at hk ⊢
  by_cases q2 : b0 ≤ 223
  · rw [if_pos q2] at hk ⊢
    split at hk
    · rename_i hc
      subst hk
      have := e1 (by omega)
      subst this
      rw [if_pos (by omega)]
    · omega
  rw [if_neg q2] at hk ⊢
  by_cases q3 : b0 ≤ 239
  · rw [if_pos q3] at hk ⊢
    generalize (if b0 = 224 then 160 else 128) = lo at hk ⊢
    generalize (if b0 = 237 then 159 else 191) = hi at hk ⊢
    split at hk
    · rename_i hc
      subst hk
      have := e1 (by omega)
      subst this
      have := e2 (by omega)
      subst this
      rw [if_pos ⟨hn, hc.2⟩]
    · omega
  rw [if_neg q3] at hk ⊢
  by_cases q4 : b0 ≤ 244
  · rw [if_pos q4] at hk ⊢
    generalize (if b0 = 240 then 144 else 128) = lo at hk ⊢
    generalize (if b0 = 244 then 143 else 191) = hi at hk ⊢
    split at hk
    · rename_i hc
      subst hk
      have := e1 (by omega)
      subst this
      have := e2 (by omega)
      subst this
      have := e3 (by omega)
      subst this
      rw [if_pos ⟨hn, hc.2⟩]
    · omega
  · rw [if_neg q4] at hk; omega

theorem okN_le4 (n b0 b1 b2 b3 : Nat) : okN n b0 b1 b2 b3 ≤ 4 := by
  unfold okN
  repeat' split
  all_goals omega

/-- A letter of a number: so many bytes, so decoded, whatever follows. -/
structure Letter (x : List UInt8) (c : Nat) : Prop where
  pos : 0 < x.length
  ok : ∀ r, okL (x ++ r) = x.length
  dec : ∀ r, decodeL (x ++ r) = (c, x.length)
  val : ¬ (c = 65533 ∧ x.length = 1)

theorem letter_take {l : List UInt8} (hne : l ≠ []) (h0 : okL l ≠ 0) : Letter (l.take (okL l)) (decodeL l).1 := by
  have hle := okL_le hne
  have hx : (l.take (okL l)).length = okL l := by simp; omega
  have hg : ∀ r k, k < okL l → (l.take (okL l) ++ r).getD k 0 = l.getD k 0 := fun r k hk => by
    simp only [List.getD_eq_getElem?_getD]
    rw [List.getElem?_append_left (by omega), List.getElem?_take, if_pos hk]
  have ok : ∀ r, okL (l.take (okL l) ++ r) = okL l := fun r => by
    show okN _ _ _ _ _ = okL l
    rw [hg r 0 (by omega)]
    exact okN_same (n := l.length) (b1 := (l.getD 1 0).toNat) (b2 := (l.getD 2 0).toNat) (b3 := (l.getD 3 0).toNat) rfl h0 (by rw [List.length_append, hx]; omega) (fun h => by rw [hg r 1 h]) (fun h => by rw [hg r 2 h]) (fun h => by rw [hg r 3 h])
  have hv : ∀ m : List UInt8, okL m ≠ 0 → decodeL m = (valN (okL m) (m.getD 0 0).toNat (m.getD 1 0).toNat (m.getD 2 0).toNat (m.getD 3 0).toNat, okL m) := fun m hm => by
    rw [decodeL_N]
    exact okN_val (UInt8.toNat_lt _) (UInt8.toNat_lt _) (UInt8.toNat_lt _) (UInt8.toNat_lt _) hm
  have dec : ∀ r, decodeL (l.take (okL l) ++ r) = decodeL l := fun r => by
    rw [hv _ (by rw [ok r]; exact h0), hv _ h0, ok r, hg r 0 (by omega)]
    have h4 : okL l ≤ 4 := okN_le4 _ _ _ _ _
    have h5 : okL l = 1 ∨ okL l = 2 ∨ okL l = 3 ∨ okL l = 4 := by omega
    rcases h5 with h5 | h5 | h5 | h5
    · simp [valN, h5]
    · rw [hg r 1 (by omega)]; simp [valN, h5]
    · rw [hg r 1 (by omega), hg r 2 (by omega)]; simp [valN, h5]
    · rw [hg r 1 (by omega), hg r 2 (by omega), hg r 3 (by omega)]
  have hd2 : (decodeL l).2 = okL l := by rw [hv _ h0]
  refine ⟨by omega, fun r => by rw [ok r, hx], fun r => by rw [dec r, hx, ← hd2], ?_⟩
  rcases okL_dec l with ⟨_, _, e⟩ | ⟨hq, e⟩
  · exact absurd e h0
  · rw [hx, e]; exact hq

/-- All letters are ones. -/
theorem letters_all : ∀ (n : Nat) (l : List UInt8), l.length ≤ n → ∀ x ∈ letters l, ∃ c, Letter x c
  | 0, l, h, x, hx => by
    rw [List.length_eq_zero_iff.1 (Nat.le_zero.1 h)] at hx
    cases hx
  | n + 1, l, h, x, hx => by
    by_cases hne : l = []
    · subst hne; cases hx
    by_cases h0 : okL l = 0
    · rw [letters_stop h0] at hx; cases hx
    · rw [letters_step hne h0] at hx
      rcases List.mem_cons.1 hx with rfl | hx
      · exact ⟨_, letter_take hne h0⟩
      · have : 0 < l.length := List.length_pos_iff.2 hne
        exact letters_all n _ (by simp; omega) x hx

theorem bad_letter {x r : List UInt8} {c : Nat} (h : Letter x c) : bad (x ++ r) = (bad r).map (· + x.length) := by
  have hne : x ++ r ≠ [] := fun e => by
    have h1 := congrArg List.length e
    have h2 := h.pos
    rw [List.length_append, List.length_nil] at h1
    omega
  rw [bad_step hne (by rw [h.ok r]; have := h.pos; omega), h.ok r, List.drop_left]

theorem letters_letter {x r : List UInt8} {c : Nat} (h : Letter x c) : letters (x ++ r) = x :: letters r := by
  have hne : x ++ r ≠ [] := fun e => by
    have h1 := congrArg List.length e
    have h2 := h.pos
    rw [List.length_append, List.length_nil] at h1
    omega
  rw [letters_step hne (by rw [h.ok r]; have := h.pos; omega), h.ok r, List.drop_left, List.take_left]

/-- A text that is none bad is its letters. -/
theorem letters_join : ∀ (n : Nat) (l : List UInt8), l.length ≤ n → bad l = none → (letters l).flatten = l
  | 0, l, h, _ => by
    rw [List.length_eq_zero_iff.1 (Nat.le_zero.1 h)]
    rfl
  | n + 1, l, h, hb => by
    by_cases hne : l = []
    · subst hne; rfl
    by_cases h0 : okL l = 0
    · rw [bad_stop hne h0] at hb; cases hb
    · rw [bad_step hne h0] at hb
      have : 0 < l.length := List.length_pos_iff.2 hne
      rw [letters_step hne h0, List.flatten_cons, letters_join n _ (by simp; omega) (by simpa using hb), List.take_append_drop]

/-- What is put together out of letters. -/
theorem bad_flatten : ∀ (L : List (List UInt8)) (r : List UInt8), (∀ x ∈ L, ∃ c, Letter x c) → bad (L.flatten ++ r) = (bad r).map (· + L.flatten.length)
  | [], r, _ => by simp
  | x :: L, r, h => by
    obtain ⟨c, hc⟩ := h x List.mem_cons_self
    rw [List.flatten_cons, List.append_assoc, bad_letter hc, bad_flatten L r fun y hy => h y (List.mem_cons_of_mem _ hy)]
    cases bad r <;> simp <;> omega

/-! ### Small letters -/

def smallF (tbl : Nat → Option Nat) : Nat → List UInt8 → List UInt8
  | 0, _ => []
  | n + 1, l => if l = [] then [] else (match tbl (decodeL l).1 with
    | some x => encodeRune x
    | none => l.take (decodeL l).2) ++ smallF tbl n (l.drop (decodeL l).2)

def small (tbl : Nat → Option Nat) (l : List UInt8) : List UInt8 := smallF tbl l.length l

theorem smallF_more {tbl : Nat → Option Nat} : ∀ (n m : Nat) (l : List UInt8), l.length ≤ n → l.length ≤ m → smallF tbl n l = smallF tbl m l
  | 0, 0, _, _, _ => rfl
  | 0, m + 1, l, h, _ => by rw [List.length_eq_zero_iff.1 (Nat.le_zero.1 h)]; simp [smallF]
  | n + 1, 0, l, _, h => by rw [List.length_eq_zero_iff.1 (Nat.le_zero.1 h)]; simp [smallF]
  | n + 1, m + 1, l, h1, h2 => by
    simp only [smallF]
    split
    · rfl
    · rename_i hne
      have : 0 < l.length := List.length_pos_iff.2 hne
      have := decodeL_width l
      rw [smallF_more n m _ (by simp; omega) (by simp; omega)]

theorem small_nil {tbl : Nat → Option Nat} : small tbl [] = [] := rfl

theorem small_step {tbl : Nat → Option Nat} {l : List UInt8} (hne : l ≠ []) : small tbl l = (match tbl (decodeL l).1 with
    | some x => encodeRune x
    | none => l.take (decodeL l).2) ++ small tbl (l.drop (decodeL l).2) := by
  have hl : 0 < l.length := List.length_pos_iff.2 hne
  have := decodeL_width l
  obtain ⟨n, hn⟩ : ∃ n, l.length = n + 1 := ⟨l.length - 1, by omega⟩
  unfold small
  rw [hn, smallF, if_neg hne, smallF_more n _ _ (by simp; omega) (Nat.le_refl _)]

/-- One letter, small. -/
def low (tbl : Nat → Option Nat) (x : List UInt8) : List UInt8 := match tbl (decodeL x).1 with
  | some y => encodeRune y
  | none => x

theorem small_letter {tbl : Nat → Option Nat} {x r : List UInt8} {c : Nat} (h : Letter x c) : small tbl (x ++ r) = low tbl x ++ small tbl r := by
  have hne : x ++ r ≠ [] := fun e => by
    have h1 := congrArg List.length e
    have h2 := h.pos
    rw [List.length_append, List.length_nil] at h1
    omega
  have e1 : decodeL x = (c, x.length) := by have := h.dec []; rwa [List.append_nil] at this
  rw [small_step hne, h.dec r]
  simp only [List.drop_left, List.take_left]
  unfold low
  rw [e1]

theorem small_flatten {tbl : Nat → Option Nat} : ∀ (L : List (List UInt8)) (r : List UInt8), (∀ x ∈ L, ∃ c, Letter x c) → small tbl (L.flatten ++ r) = (L.map (low tbl)).flatten ++ small tbl r
  | [], r, _ => by simp
  | x :: L, r, h => by
    obtain ⟨c, hc⟩ := h x List.mem_cons_self
    rw [List.flatten_cons, List.append_assoc, small_letter hc, small_flatten L r fun y hy => h y (List.mem_cons_of_mem _ hy)]
    simp
end Go.Proofs.YtebkccfnilcfpaaGreatDoor
