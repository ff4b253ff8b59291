/- The walks of civil.Parse. -/
import Derived.Test.YtbldfkkpnngeeaaDoorCivL
import Derived.Test.YtbldfkkpnngeeaaDoorTxtParse
import Derived.Lib.SmallJoins
namespace Go.Proofs.YtbldfkkpnngeeaaDoor
set_option linter.unusedVariables false
open Go.RowKit Go.Proofs

/-- What a world holds of strconv's two errors. -/
structure ErrStd (w : World) : Prop where
  syn : ∃ ev, w.cell? ⟨1, 0, none⟩ = some ev ∧ (ev = .nilIface ∨ ∃ te pe, ev = .iface te pe)

theorem cell_lt {w : World} {b o : Nat} {v : Value} (h : w.cell? ⟨b, o, none⟩ = some v) : b < w.heap.size := by
  unfold World.cell? at h
  split at h
  · rename_i h'; exact (Array.getElem?_eq_some_iff.1 h').1
  · cases h

theorem ErrStd.below {w w' : World} (h : ErrStd w) (hb : Below w.heap.size w w') : ErrStd w' := by
  obtain ⟨ev, h1, h2⟩ := h.syn
  exact ⟨ev, (hb.cell (p := ⟨_, 0, none⟩) (cell_lt h1)).trans h1, h2⟩

/-- how strconv.Atoi ends at few bytes -/
def AtoiPost (l : List UInt8) (v : Int) (er : Value) : Prop :=
  (er = .nilIface ∧ Lib.atoiAll l = .ok v) ∨ ((∃ p, er = .iface 116 p) ∧ (∀ v', Lib.atoiAll l ≠ .ok v') ∧ v = 0)

theorem atoi_ok (l : List UInt8) (v : Int) (h : Lib.atoiAll l = .ok v) (hl : l.length ≤ 18) (w : World) :
    Calls Tryd.prog 39 #[.string ⟨l.toArray⟩] w fun e w' => e = .returned (.tuple #[.int .i64 v, .nilIface]) ∧ Below w.heap.size w w' :=
  (Tryd.strconv_Atoi_ok ⟨l.toArray⟩ (by show l.toArray.size ≤ _; simp; omega) v (by simpa using h) w).mono fun e w' ⟨he, hw⟩ => ⟨he, by
    rcases hw with rfl | ⟨t, rfl⟩
    · exact Below.refl _ _
    · exact Joins.below_bytesWorld _ _ _ _ (Nat.le_refl _)⟩

theorem atoi_any (l : List UInt8) (hl : l.length ≤ 18) (w : World) (hE : ErrStd w) :
    Calls Tryd.prog 39 #[.string ⟨l.toArray⟩] w fun e w' => ∃ v er, e = .returned (.tuple #[.int .i64 v, er]) ∧ AtoiPost l v er ∧ Below w.heap.size w w' := by
  cases h : Lib.atoiAll l
  case ok v => exact (atoi_ok l v h hl w).mono fun e w' ⟨he, hb⟩ => ⟨v, _, he, .inl ⟨rfl, h⟩, hb⟩
  case range => exact absurd h (atoi_short hl)
  obtain ⟨ev, h1, h2⟩ := hE.syn
  refine (Tryd.strconv_Atoi_syntax ⟨l.toArray⟩ (by show l.toArray.size ≤ _; simp; omega) (show Lib.atoiAll (l.toArray.toList) = Lib.atoiAll [] from h) ev w h1 h2).mono ?_
  rintro e w' ⟨n, he, _, _, hb⟩
  exact ⟨0, _, he, .inr ⟨⟨_, rfl⟩, fun v' => by rw [h]; simp, rfl⟩, hb⟩
theorem of_any (y m d : Int) (w : World) (hs : Std w) (hm : -9223372036854775808 ≤ m) (hm' : m ≤ 9223372036854775807) :
    Calls Tryd.prog 20 #[.int .i64 y, .int .i64 m, .int .i64 d] w fun e w' => ∃ n b, e = .returned (.tuple #[.int .i64 n, .bool b]) ∧ Hid (b = isDate y m d ∧ (b = true → n = numI y m d)) ∧ w = w' := by
  cases h : isDate y m d
  · exact (of_no y m d w hs hm hm' h).mono fun e w' ⟨he, hw⟩ => ⟨_, _, he, ⟨rfl, fun k => by cases k⟩, hw⟩
  · exact (of_yes y m d w hs h).mono fun e w' ⟨he, hw⟩ => ⟨_, _, he, ⟨rfl, fun _ => rfl⟩, hw⟩

theorem ba_take (l : List UInt8) (a b : Nat) : (⟨l.toArray⟩ : ByteArray).extract a b = ⟨((l.drop a).take (b - a)).toArray⟩ := by
  apply ByteArray.ext
  simp [ByteArray.data_extract, List.extract_toArray]

theorem parse_no_len (l : List UInt8) (hl : l.length ≤ 9223372036854775807) (h : l.length ≠ 10) (w : World) :
    Calls Tryd.prog 31 #[.string ⟨l.toArray⟩] w fun e w' => e = .returned (.tuple #[.int .i64 0, .bool false]) ∧ w = w' := by
  go_enter Tryd.func31, Tryd.ntmps31
  go_wp2
  go_ret2
  exact ⟨rfl, rfl⟩

theorem parse_yes (n : Int) (h : isDay n = true) (w : World) (hs : Std w) (hE : ErrStd w) :
    Calls Tryd.prog 31 #[.string ⟨(textL n).toArray⟩] w fun e w' => e = .returned (.tuple #[.int .i64 n, .bool true]) ∧ Below w.heap.size w w' := by
  obtain ⟨t1, t2, t3, t4, t5, t6⟩ := text_parts h
  obtain ⟨d1, d2⟩ := date_is h
  have lb := long_bd (yearI n) (monthI n)
  have d3 := d1
  simp only [isDate, decide_eq_true_eq] at d3
  have T := text_yes n
  have O := of_yes (yearI n) (monthI n) (mdayI n)
  rw [d2] at O
  generalize yearI n = Y at *
  generalize monthI n = M at *
  generalize mdayI n = D at *
  generalize textL n = l at *
  match l, t1 with
  | [c0, c1, c2, c3, c4, c5, c6, c7, c8, c9], _ =>
    simp only [List.getElem?_cons_succ, List.getElem?_cons_zero, Option.some.injEq] at t2 t3
    subst t2 t3
    have A1 := atoi_ok [c0, c1, c2, c3] _ t4 (by simp)
    have A2 := atoi_ok [c5, c6] _ t5 (by simp)
    have A3 := atoi_ok [c8, c9] _ t6 (by simp)
    have D1 := Lib.hid d1
    have H := Lib.hid h
    clear h d1 d2 t4 t5 t6
    go_enter Tryd.func31, Tryd.ntmps31
    go_wp2_with fail
    refine (A1 _).mono ?_
    rintro e w1 ⟨rfl, hb1⟩
    go_wp2_with fail
    refine (A2 _).mono ?_
    rintro e w2 ⟨rfl, hb2⟩
    have hb12 := hb1.trans (hb2.mono hb1.size)
    go_wp2_with fail
    refine (A3 _).mono ?_
    rintro e w3 ⟨rfl, hb3⟩
    have hb13 := hb12.trans (hb3.mono hb12.size)
    have hs3 := hs.below hb13
    clear hb1 hb2 hb12 hb3
    go_wp2_with fail
    refine (O _ hs3 D1.out).mono ?_
    rintro e w4 ⟨rfl, rfl⟩
    go_wp2_with fail
    refine (T _ hs3 H.out).mono ?_
    rintro e w4 ⟨p, rfl, HP, hl, hb4⟩
    obtain rfl : p = _ := HP.out
    clear HP
    go_wp2
    go_ret2
    exact ⟨rfl, hb13.trans (hb4.mono hb13.size)⟩
theorem byte_ne {c d : UInt8} (h : c ≠ d) : (c.toNat : Int) < d.toNat ∨ (d.toNat : Int) < c.toNat := by
  have : c.toNat ≠ d.toNat := fun k => h (UInt8.toNat_inj.1 k)
  omega

theorem parse_no_dash (s : ByteArray) (l1 : s.size ≤ 10) (l2 : 10 ≤ s.size) (h : s[4] ≠ 45 ∨ s[7] ≠ 45) (w : World) :
    Calls Tryd.prog 31 #[.string s] w fun e w' => e = .returned (.tuple #[.int .i64 0, .bool false]) ∧ w = w' := by
  by_cases hc : s[4] = 45
  · have h4 : (s[4].toNat : Int) ≤ 45 ∧ (45 : Int) ≤ s[4].toNat := by rw [hc]; decide
    have h7 : (s[7].toNat : Int) < 45 ∨ (45 : Int) < s[7].toNat := byte_ne (d := 45) (h.resolve_left (fun k => k hc))
    clear h hc
    rcases h7 with h7 | h7
    all_goals
      go_enter Tryd.func31, Tryd.ntmps31
      go_wp2
      go_ret2
      exact ⟨rfl, rfl⟩
  · have h7 : (s[4].toNat : Int) < 45 ∨ (45 : Int) < s[4].toNat := byte_ne (d := 45) hc
    clear h hc
    rcases h7 with h7 | h7
    all_goals
      go_enter Tryd.func31, Tryd.ntmps31
      go_wp2
      go_ret2
      exact ⟨rfl, rfl⟩

theorem atoiPost_bd {l : List UInt8} {v : Int} {er : Value} (h : AtoiPost l v er) : -9223372036854775808 ≤ v ∧ v ≤ 9223372036854775807 := by
  rcases h with ⟨_, h⟩ | ⟨_, _, rfl⟩
  · exact Lib.atoiAll_bounds h
  · omega

set_option maxHeartbeats 400000 in
theorem parse_no_day (c0 c1 c2 c3 c5 c6 c8 c9 : UInt8) (h : ∀ n, isDay n = true → textL n ≠ [c0, c1, c2, c3, 45, c5, c6, 45, c8, c9]) (w : World) (hs : Std w) (hE : ErrStd w) :
    Calls Tryd.prog 31 #[.string ⟨[c0, c1, c2, c3, 45, c5, c6, 45, c8, c9].toArray⟩] w fun e w' => e = .returned (.tuple #[.int .i64 0, .bool false]) ∧ Below w.heap.size w w' := by
  have A1 := atoi_any [c0, c1, c2, c3] (by simp)
  have A2 := atoi_any [c5, c6] (by simp)
  have A3 := atoi_any [c8, c9] (by simp)
  have H := Lib.hid h
  clear h
  go_enter Tryd.func31, Tryd.ntmps31
  go_wp2_with fail
  refine (A1 _ hE).mono ?_
  rintro e w1 ⟨v1, er1, rfl, P1, hb1⟩
  go_wp2_with fail
  refine (A2 _ (hE.below hb1)).mono ?_
  rintro e w2 ⟨v2, er2, rfl, P2, hb2⟩
  have hb12 := hb1.trans (hb2.mono hb1.size)
  go_wp2_with fail
  refine (A3 _ (hE.below hb12)).mono ?_
  rintro e w3 ⟨v3, er3, rfl, P3, hb3⟩
  have hb13 := hb12.trans (hb3.mono hb12.size)
  have hs3 := hs.below hb13
  clear hb1 hb2 hb12 hb3
  have bd := atoiPost_bd P2
  go_wp2_with fail
  refine (of_any _ _ _ _ hs3 bd.1 bd.2).mono ?_
  rintro e w4 ⟨n, b, rfl, HO, rfl⟩
  rcases P1.symm with ⟨⟨p1, rfl⟩, _⟩ | ⟨rfl, _⟩
  · go_wp2
    go_ret2
    exact ⟨rfl, hb13⟩
  rcases P2.symm with ⟨⟨p1, rfl⟩, _⟩ | ⟨rfl, _⟩
  · go_wp2
    go_ret2
    exact ⟨rfl, hb13⟩
  rcases P3.symm with ⟨⟨p1, rfl⟩, _⟩ | ⟨rfl, _⟩
  · go_wp2
    go_ret2
    exact ⟨rfl, hb13⟩
  cases b
  · go_wp2
    go_ret2
    exact ⟨rfl, hb13⟩
  · have hd : isDay n = true := by
      rw [HO.out.2 rfl]
      exact num_day HO.out.1.symm
    have HN := Lib.hid (H.out n hd)
    have T := text_yes n _ hs3 hd
    clear hd
    go_wp2_with fail
    refine T.mono ?_
    rintro e w4 ⟨p, rfl, HP, hl, hb4⟩
    have hne : (p == [c0, c1, c2, c3, 45, c5, c6, 45, c8, c9]) = false := by
      rw [HP.out]
      simpa using HN.out
    have hne2 : (p != [c0, c1, c2, c3, 45, c5, c6, 45, c8, c9]) = true := by simp [bne, hne]
    go_wp2
    go_ret2
    exact ⟨rfl, hb13.trans (hb4.mono hb13.size)⟩

/-- what civil.Parse answers at a text that is no day's -/
theorem parse_no (l : List UInt8) (hl : l.length ≤ 9223372036854775807) (h : ∀ n, isDay n = true → textL n ≠ l) (w : World) (hs : Std w) (hE : ErrStd w) :
    Calls Tryd.prog 31 #[.string ⟨l.toArray⟩] w fun e w' => e = .returned (.tuple #[.int .i64 0, .bool false]) ∧ Below w.heap.size w w' := by
  by_cases h10 : l.length = 10
  · match l, h10 with
    | [c0, c1, c2, c3, c4, c5, c6, c7, c8, c9], _ =>
      by_cases hc : c4 = 45 ∧ c7 = 45
      · obtain ⟨rfl, rfl⟩ := hc
        exact parse_no_day c0 c1 c2 c3 c5 c6 c8 c9 h w hs hE
      · refine (parse_no_dash ⟨[c0, c1, c2, c3, c4, c5, c6, c7, c8, c9].toArray⟩ (Nat.le_refl 10) (Nat.le_refl 10) ?_ w).mono fun e w' ⟨he, hw⟩ => ⟨he, Below.of_eq hw⟩
        show c4 ≠ 45 ∨ c7 ≠ 45
        exact (Classical.em (c4 = 45)).elim (fun k => .inr fun k2 => hc ⟨k, k2⟩) .inl
  · exact (parse_no_len l hl h10 w).mono fun e w' ⟨he, hw⟩ => ⟨he, Below.of_eq hw⟩
end Go.Proofs.YtbldfkkpnngeeaaDoor
