/- Plain: what small letters do to texts of letters. -/
import Derived.Test.YtebkccfnilcfpaaGreatDoorSmlW
namespace Go.Proofs.YtebkccfnilcfpaaGreatDoor
set_option linter.unusedVariables false
set_option linter.unusedSimpArgs false
open Go Go.Lib

/-! ### The table -/

def lowOk (p : Int × Int) : Bool :=
  let x := encodeRune p.1
  let y := encodeRune p.2
  decide (y.length = x.length) && decide (okL y = y.length) && decide ((decodeL y).1 = p.2.toNat) && decide (tO p.2 = none) && decide (0 < y.length) && decide (0 ≤ p.1) && decide (0 ≤ p.2)

theorem tbl_ok : tblL.all lowOk = true := by decide +kernel

theorem tO_mem {c y : Int} (h : tO c = some y) : (c, y) ∈ tblL := by
  unfold tO at h
  obtain ⟨p, hp, rfl⟩ := Option.map_eq_some_iff.1 h
  have h1 := List.mem_of_find?_eq_some hp
  have h2 := List.find?_some hp
  simp only [beq_iff_eq] at h2
  rw [← h2]
  exact h1

theorem tblN_some {c y : Nat} (h : tblN c = some y) : ∃ p ∈ tblL, p.1 = (c : Int) ∧ p.2 = (y : Int) := by
  unfold tblN at h
  obtain ⟨z, hz, rfl⟩ := Option.map_eq_some_iff.1 h
  have := tO_bd hz
  exact ⟨_, tO_mem hz, rfl, by simp; omega⟩

theorem letter_self {x : List UInt8} (h0 : x ≠ []) (h : okL x = x.length) : Letter x (decodeL x).1 := by
  have hp : 0 < x.length := List.length_pos_iff.2 h0
  have := letter_take h0 (by omega)
  rwa [h, List.take_length] at this

theorem letter_enc {x : List UInt8} {c : Nat} (h : Letter x c) : encodeRune (c : Int) = x := by
  have hd := h.dec []
  rw [List.append_nil] at hd
  have hne : x ≠ [] := List.length_pos_iff.1 h.pos
  have := encode_decode x hne (by rw [hd]; exact h.val)
  rw [hd] at this
  simpa using this

theorem letter_code {x : List UInt8} {c : Nat} (h : Letter x c) : decodeL x = (c, x.length) := by
  have hd := h.dec []
  rwa [List.append_nil] at hd

/-- A letter's small one is a letter, as long, and its own small one. -/
theorem low_letter {x : List UInt8} {c : Nat} (h : Letter x c) : ∃ d, Letter (low tblN x) d ∧ (low tblN x).length = x.length ∧ low tblN (low tblN x) = low tblN x := by
  have hd := letter_code h
  unfold low
  rw [hd]
  simp only
  cases ht : tblN c with
  | none =>
    simp only
    rw [hd]
    simp only [ht]
    exact ⟨c, h, trivial, trivial⟩
  | some y =>
    simp only
    obtain ⟨p, hp, e1, e2⟩ := tblN_some ht
    have hok := List.all_eq_true.1 tbl_ok p hp
    unfold lowOk at hok
    simp only [Bool.and_eq_true, decide_eq_true_eq] at hok
    obtain ⟨⟨⟨⟨⟨⟨k1, k2⟩, k3⟩, k4⟩, k5⟩, k6⟩, k7⟩ := hok
    rw [e1, letter_enc h] at k1
    rw [e2] at k1 k2 k3 k4 k5
    have hl := letter_self (List.length_pos_iff.1 k5) k2
    have hc2 := letter_code hl
    rw [hc2]
    have hy : (decodeL (encodeRune (y : Int))).1 = y := by rw [k3]; simp
    rw [hy] at hl
    refine ⟨y, hl, k1, ?_⟩
    rw [hy]
    have : tblN y = none := by unfold tblN; rw [k4]; rfl
    rw [this]

theorem lows_all {L : List (List UInt8)} (h : ∀ x ∈ L, ∃ c, Letter x c) : ∀ x ∈ L.map (low tblN), ∃ c, Letter x c := by
  intro x hx
  obtain ⟨y, hy, rfl⟩ := List.mem_map.1 hx
  obtain ⟨c, hc⟩ := h y hy
  obtain ⟨d, hd, _⟩ := low_letter hc
  exact ⟨d, hd⟩

/-! ### Texts of letters -/

theorem good_letters {l : List UInt8} (h : bad l = none) : (∀ x ∈ letters l, ∃ c, Letter x c) ∧ (letters l).flatten = l := ⟨letters_all _ l (Nat.le_refl _), letters_join _ l (Nat.le_refl _) h⟩

theorem small_good {l : List UInt8} (h : bad l = none) : small tblN l = ((letters l).map (low tblN)).flatten := by
  obtain ⟨h1, h2⟩ := good_letters h
  have := small_flatten (tbl := tblN) (letters l) [] h1
  rw [List.append_nil, h2, small_nil, List.append_nil] at this
  exact this

theorem bad_letters {L : List (List UInt8)} (h : ∀ x ∈ L, ∃ c, Letter x c) : bad L.flatten = none := by
  have := bad_flatten L [] h
  rw [List.append_nil, bad_nil] at this
  simpa using this

theorem small_bad {l : List UInt8} (h : bad l = none) : bad (small tblN l) = none := by
  rw [small_good h]
  exact bad_letters (lows_all (good_letters h).1)

theorem small_len {l : List UInt8} (h : bad l = none) : (small tblN l).length = l.length := by
  rw [small_good h]
  conv => rhs; rw [← (good_letters h).2]
  have key : ∀ L : List (List UInt8), (∀ x ∈ L, ∃ c, Letter x c) → (L.map (low tblN)).flatten.length = L.flatten.length := by
    intro L
    induction L with
    | nil => intro _; rfl
    | cons x L ih =>
      intro hL
      obtain ⟨c, hc⟩ := hL x List.mem_cons_self
      obtain ⟨_, _, e, _⟩ := low_letter hc
      simp only [List.map_cons, List.flatten_cons, List.length_append]
      rw [e, ih fun y hy => hL y (List.mem_cons_of_mem _ hy)]
  exact key _ (good_letters h).1

theorem small_twice {l : List UInt8} (h : bad l = none) : small tblN (small tblN l) = small tblN l := by
  rw [small_good h]
  have hl := lows_all (good_letters h).1
  have := small_flatten (tbl := tblN) ((letters l).map (low tblN)) [] hl
  rw [List.append_nil, small_nil, List.append_nil] at this
  rw [this]
  congr 1
  rw [List.map_map]
  refine List.map_congr_left fun x hx => ?_
  obtain ⟨c, hc⟩ := (good_letters h).1 x hx
  obtain ⟨_, _, _, e⟩ := low_letter hc
  exact e

/-! ### One behind the other -/

theorem bad_join {a b : List UInt8} (h : bad a = none) : bad (a ++ b) = (bad b).map (· + a.length) := by
  obtain ⟨h1, h2⟩ := good_letters h
  have := bad_flatten (letters a) b h1
  rwa [h2] at this

theorem small_join {a b : List UInt8} (h : bad a = none) : small tblN (a ++ b) = small tblN a ++ small tblN b := by
  obtain ⟨h1, h2⟩ := good_letters h
  have := small_flatten (tbl := tblN) (letters a) b h1
  rw [h2] at this
  rw [this, small_good h]

theorem bad_le {l : List UInt8} {k : Nat} (h : bad l = some k) : k < l.length := by
  have key : ∀ (n : Nat) (l : List UInt8) (k : Nat), l.length ≤ n → bad l = some k → k < l.length := by
    intro n
    induction n with
    | zero =>
      intro l k h0 h
      rw [List.length_eq_zero_iff.1 (Nat.le_zero.1 h0)] at h
      cases h
    | succ n ih =>
      intro l k hn h
      by_cases hne : l = []
      · subst hne; cases h
      have hl : 0 < l.length := List.length_pos_iff.2 hne
      by_cases h0 : okL l = 0
      · rw [bad_stop hne h0] at h; cases h; exact hl
      · rw [bad_step hne h0] at h
        obtain ⟨j, hj, rfl⟩ := Option.map_eq_some_iff.1 h
        have := ih _ j (by simp; omega) hj
        simp at this
        omega
  exact key _ l k (Nat.le_refl _) h
end Go.Proofs.YtebkccfnilcfpaaGreatDoor
