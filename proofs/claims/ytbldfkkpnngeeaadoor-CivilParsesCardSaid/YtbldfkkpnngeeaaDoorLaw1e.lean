/- The walk of CivilParses. -/
import Derived.Test.YtbldfkkpnngeeaaDoorLaw1d
namespace Go.Proofs.YtbldfkkpnngeeaaDoor
set_option linter.unusedVariables false
open Go.RowKit Go.Proofs

/-- a text too long -/
theorem parses_long (s : ByteArray) (hl : s.size ≤ 9223372036854775807) (h : 30 < s.size) (w : World) (hs : Std w) :
    Calls Tryd.prog 11 #[.string s] w fun e w' => e = .returned (.bool true) ∧ Below w.heap.size w w' := by
  go_enter Tryd.func11, Tryd.ntmps11
  go_wp2_with (go_at_call 15; refine (awake1_any _ hs).mono ?_; rintro e w1 ⟨rfl, hb⟩)
  go_ret
  exact ⟨rfl, hb⟩

/-- no day's text, of another length -/
theorem parses_short (l : List UInt8) (h1 : l.length ≤ 30) (h2 : l.length ≠ 10) (h : ∀ n, isDay n = true → textL n ≠ l) (w : World) (hs : Std w) (hE : ErrStd w) :
    Calls Tryd.prog 11 #[.string ⟨l.toArray⟩] w fun e w' => e = .returned (.bool true) ∧ Below w.heap.size w w' := by
  have P := parse_no l (by omega) h
  have h3 : l.length < 10 ∨ 10 < l.length := by omega
  clear h h2
  rcases h3 with h3 | h3
  all_goals
    go_enter Tryd.func11, Tryd.ntmps11
    go_wp2_with (go_at_call 15; refine (awake1_any _ hs).mono ?_; rintro e w1 ⟨rfl, hb⟩)
    refine (P _ (hs.below hb) (hE.below hb)).mono ?_
    rintro e w2 ⟨rfl, hb2⟩
    go_wp2
    go_ret
    exact ⟨by first | rfl | simp, hb.trans (hb2.mono hb.size)⟩

/-- a day's text -/
theorem parses_day (d : Int) (hd : isDay d = true) (w : World) (hs : Std w) (hE : ErrStd w) :
    Calls Tryd.prog 11 #[.string ⟨(textL d).toArray⟩] w fun e w' => e = .returned (.bool true) ∧ Below w.heap.size w w' := by
  have H := Lib.hid hd
  have QL := dateL_yes d
  have PY := parse_yes d
  have HS := Lib.hid (textD_digits hd)
  have L := textL_len hd
  have hdd := (date_is hd).1
  have lb := long_bd (yearI d) (monthI d)
  simp only [isDay, decide_eq_true_eq] at hd
  simp only [isDate, decide_eq_true_eq] at hdd
  have L1 : (textL d).length ≤ 10 := by omega
  have L2 : 10 ≤ (textL d).length := by omega
  clear L
  generalize textL d = l at *
  generalize yearI d = Y at *
  generalize monthI d = M at *
  generalize mdayI d = K at *
  have G1 := digits_any Y 4
  have G2 := digits_any M 2
  have G3 := digits_any K 2
  rw [show (4 : Int).toNat = 4 from rfl] at G1
  rw [show (2 : Int).toNat = 2 from rfl] at G2 G3
  have l1 := dgs_len_le Y.toNat 4 (by omega)
  have l2 := dgs_len_le M.toNat 2 (by omega)
  have l3 := dgs_len_le K.toNat 2 (by omega)
  generalize dgs Y.toNat 4 = q1 at *
  generalize dgs M.toNat 2 = q2 at *
  generalize dgs K.toNat 2 = q3 at *
  have hba := ba_append
  go_enter Tryd.func11, Tryd.ntmps11
  go_wp2_with (go_at_call 15; refine (awake1_any _ hs).mono ?_; rintro e w1 ⟨rfl, hb⟩)
  refine (PY H.out _ (hs.below hb) (hE.below hb)).mono ?_
  rintro e w2 ⟨rfl, hb2⟩
  have hb12 := hb.trans (hb2.mono hb.size)
  go_wp2_with fail
  refine (QL _ H.out).mono ?_
  rintro e w3 ⟨rfl, hb3⟩
  have hb13 := hb12.trans (hb3.mono hb12.size)
  clear hb hb2 hb3 hb12
  go_wp2_with fail
  refine (G1 _ (by omega) (by omega) (by omega) (by omega)).mono ?_
  rintro e w4 ⟨rfl, hb4⟩
  have hb14 := hb13.trans (hb4.mono hb13.size)
  go_wp2_with fail
  refine (G2 _ (by omega) (by omega) (by omega) (by omega)).mono ?_
  rintro e w5 ⟨rfl, hb5⟩
  have hb15 := hb14.trans (hb5.mono hb14.size)
  go_wp2_with fail
  refine (G3 _ (by omega) (by omega) (by omega) (by omega)).mono ?_
  rintro e w6 ⟨rfl, hb6⟩
  have hb16 := hb15.trans (hb6.mono hb15.size)
  clear hb13 hb4 hb14 hb5 hb15 hb6
  go_wp2
  go_ret
  exact ⟨ret_bool (by rw [HS.out]; simp), hb16⟩

end Go.Proofs.YtbldfkkpnngeeaaDoor
