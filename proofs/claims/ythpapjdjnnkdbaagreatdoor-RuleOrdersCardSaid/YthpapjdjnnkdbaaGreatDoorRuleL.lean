/- The walks of rule's lists. -/
import Derived.Test.YthpapjdjnnkdbaaGreatDoorRuleW
namespace Go.Proofs.YthpapjdjnnkdbaaGreatDoor
set_option linter.unusedVariables false
set_option linter.unusedSimpArgs false
open Go.RowKit Go.Proofs

theorem add_blk (a : Addr) (i : Nat) : (a.add i).block = a.block := by unfold Addr.add; split <;> rfl

/-- a slice of ints that reads as a list (nil too) -/
structure SlI (w : World) (A : Option Addr) (n : Nat) (xs : List Int) : Prop where
  len : xs.length = n
  small : n ≤ 4611686018427387904
  cells : 0 < n → ∃ ad, A = some ad ∧ ad.block < w.heap.size ∧ ∀ k, k < n → w.cell? (ad.add k) = some (.int .i64 (xs.getD k 0))

theorem SlI.below {w w' : World} {A : Option Addr} {n : Nat} {xs : List Int} (h : SlI w A n xs) (hb : Below w.heap.size w w') : SlI w' A n xs :=
  ⟨h.len, h.small, fun hn => by
    obtain ⟨ad, e, hl, hc⟩ := h.cells hn
    exact ⟨ad, e, Nat.lt_of_lt_of_le hl hb.size, fun k hk => (hb.cell (p := ad.add k) (by rw [add_blk]; exact hl)).trans (hc k hk)⟩⟩

/-- a slice of weekdays that reads as a list of pairs (nil too) -/
structure SlN (w : World) (A : Option Addr) (n : Nat) (xs : List (Int × Int)) : Prop where
  len : xs.length = n
  small : n ≤ 4611686018427387904
  cells : 0 < n → ∃ ad, A = some ad ∧ ad.block < w.heap.size ∧ ∀ k, k < n → w.cell? (ad.add (k * 2)) = some (.int .i64 (xs.getD k (0, 0)).1) ∧ w.cell? (ad.add (k * 2 + 1)) = some (.int .i64 (xs.getD k (0, 0)).2)

theorem SlN.below {w w' : World} {A : Option Addr} {n : Nat} {xs : List (Int × Int)} (h : SlN w A n xs) (hb : Below w.heap.size w w') : SlN w' A n xs :=
  ⟨h.len, h.small, fun hn => by
    obtain ⟨ad, e, hl, hc⟩ := h.cells hn
    exact ⟨ad, e, Nat.lt_of_lt_of_le hl hb.size, fun k hk => ⟨(hb.cell (p := ad.add (k * 2)) (by rw [add_blk]; exact hl)).trans (hc k hk).1, (hb.cell (p := ad.add (k * 2 + 1)) (by rw [add_blk]; exact hl)).trans (hc k hk).2⟩⟩⟩

theorem getD_some {α : Type} {l : List α} {k : Nat} {d : α} (h : k < l.length) : l[k]? = some (l.getD k d) := by
  simp [List.getD, List.getElem?_eq_getElem h]

set_option maxHeartbeats 1000000 in
theorem list_month (A : Option Addr) (n cap : Nat) (xs : List Int) (w : World) (hA : SlI w A n xs) :
    Calls Tryz.prog 38 #[.slice A n cap, .func (.func 39) #[] #[], .func (.func 14) #[] #[]] w fun e w' => e = .returned (.int .i64 (chkList mayMonth cmpI xs)) ∧ w = w' := by
  have hs := hA.small
  have HL := Lib.hid hA.len
  by_cases hbig : 64 < n
  · have HR : Hid (chkList mayMonth cmpI xs = 2) := by show _ = _; rw [chkList, if_pos (by have := HL.out; omega)]
    go_enter Tryz.func38, Tryz.ntmps38
    go_wp2
    go_ret
    exact ⟨ret_int HR.out.symm, rfl⟩
  · have HR : Hid (chkList mayMonth cmpI xs = chkFrom mayMonth cmpI (ahead? xs 0) (xs.drop 0)) := by show _ = _; rw [chkList, if_neg (by have := HL.out; omega)]; rfl
    have HA := Lib.hid hA.cells
    clear hA
    generalize HG : chkList mayMonth cmpI xs = g at *
    clear HG
    go_enter Tryz.func38, Tryz.ntmps38
    go_wp2
    go_loop [14] (fun i => ∃ k : Nat, k ≤ n ∧ i = .int .i64 k ∧ Hid (g = chkFrom mayMonth cmpI (ahead? xs k) (xs.drop k))) (fun i => n - (intOf i).toNat)
    case atStart => exact ⟨0, Nat.zero_le _, rfl, HR⟩
    case round =>
      obtain ⟨k, hk, rfl, HK⟩ := hrel
      by_cases hlt : k < n
      · obtain ⟨ad, rfl, hbl, hc⟩ := HA.out (by omega)
        have hk1 := hc k hlt
        have HX := Lib.hid (getD_some (l := xs) (k := k) (d := 0) (by have := HL.out; omega))
        obtain ⟨x, hx⟩ : ∃ x, x = xs.getD k 0 := ⟨_, rfl⟩
        rw [← hx] at hk1 HX
        clear hx
        cases hm : mayMonth x
        · have HM := Lib.hid hm
          clear hc
          go_wp2_with (go_at_call 39; refine (month_any x _).mono ?_; rintro e w' ⟨rfl, rfl⟩)
          go_ret
          exact ⟨ret_int (by rw [HK.out, chk_range HX.out HM.out]), rfl⟩
        · have HM := Lib.hid hm
          by_cases hz : k = 0
          · have hz' : k ≤ 0 := by omega
            clear hc hz
            go_wp2_with (go_at_call 39; refine (month_any x _).mono ?_; rintro e w' ⟨rfl, rfl⟩)
            go_round
            case rel => exact ⟨k + 1, by omega, by go_num, by show _ = _; rw [HK.out, chk_first' hz' HX.out HM.out]⟩
            case measure => simp [intOf]; omega
          · have hz' : 1 ≤ k := by omega
            clear hz
            have hj1 := hc (k - 1) (by omega)
            have HY := Lib.hid (getD_some (l := xs) (k := k - 1) (d := 0) (by have := HL.out; omega))
            obtain ⟨y, hy⟩ : ∃ y, y = xs.getD (k - 1) 0 := ⟨_, rfl⟩
            rw [← hy] at hj1 HY
            clear hy hc
            have hbd := cmpI_bd y x
            by_cases ho : 0 ≤ cmpI y x
            · go_wp2_with (first | (go_at_call 39; refine (month_any x _).mono ?_; rintro e w' ⟨rfl, rfl⟩) | (go_at_call 14; refine (compare_any y x _).mono ?_; rintro e w' ⟨rfl, rfl⟩))
              go_ret
              exact ⟨ret_int (by rw [HK.out, chk_order' hz' HX.out HY.out HM.out ho]), rfl⟩
            · go_wp2_with (first | (go_at_call 39; refine (month_any x _).mono ?_; rintro e w' ⟨rfl, rfl⟩) | (go_at_call 14; refine (compare_any y x _).mono ?_; rintro e w' ⟨rfl, rfl⟩))
              go_round
              case rel => exact ⟨k + 1, by omega, by go_num, by show _ = _; rw [HK.out, chk_next' hz' HX.out HY.out HM.out (by omega)]⟩
              case measure => simp [intOf]; omega
      · have HE : Hid (g = 0) := by show _ = _; rw [HK.out, chk_end (by have := HL.out; omega)]
        go_wp2
        go_ret
        exact ⟨ret_int HE.out.symm, rfl⟩

set_option maxHeartbeats 1000000 in
theorem list_near (A : Option Addr) (n cap : Nat) (xs : List Int) (w : World) (hA : SlI w A n xs) (m : Int) (b : Nat) (h0 : 0 ≤ m) (h1 : m ≤ 1000) (hcm : w.cell? ⟨b, 0, none⟩ = some (.int .i64 m)) :
    Calls Tryz.prog 38 #[.slice A n cap, .func (.func 66) #[] #[.pointer (some ⟨b, 0, none⟩)], .func (.func 14) #[] #[]] w fun e w' => e = .returned (.int .i64 (chkList (mayNear m) cmpI xs)) ∧ w = w' := by
  have hs := hA.small
  have HL := Lib.hid hA.len
  by_cases hbig : 64 < n
  · have HR : Hid (chkList (mayNear m) cmpI xs = 2) := by show _ = _; rw [chkList, if_pos (by have := HL.out; omega)]
    go_enter Tryz.func38, Tryz.ntmps38
    go_wp2
    go_ret
    exact ⟨ret_int HR.out.symm, rfl⟩
  · have HR : Hid (chkList (mayNear m) cmpI xs = chkFrom (mayNear m) cmpI (ahead? xs 0) (xs.drop 0)) := by show _ = _; rw [chkList, if_neg (by have := HL.out; omega)]; rfl
    have HA := Lib.hid hA.cells
    clear hA
    generalize HG : chkList (mayNear m) cmpI xs = g at *
    clear HG
    go_enter Tryz.func38, Tryz.ntmps38
    go_wp2
    go_loop [14] (fun i => ∃ k : Nat, k ≤ n ∧ i = .int .i64 k ∧ Hid (g = chkFrom (mayNear m) cmpI (ahead? xs k) (xs.drop k))) (fun i => n - (intOf i).toNat)
    case atStart => exact ⟨0, Nat.zero_le _, rfl, HR⟩
    case round =>
      obtain ⟨k, hk, rfl, HK⟩ := hrel
      by_cases hlt : k < n
      · obtain ⟨ad, rfl, hbl, hc⟩ := HA.out (by omega)
        have hk1 := hc k hlt
        have HX := Lib.hid (getD_some (l := xs) (k := k) (d := 0) (by have := HL.out; omega))
        obtain ⟨x, hx⟩ : ∃ x, x = xs.getD k 0 := ⟨_, rfl⟩
        rw [← hx] at hk1 HX
        clear hx
        cases hm : (mayNear m) x
        · have HM := Lib.hid hm
          clear hc
          go_wp2_with (go_at_call 66; refine (nearF_any x m b _ h0 h1 hcm).mono ?_; rintro e w' ⟨rfl, rfl⟩)
          go_ret
          exact ⟨ret_int (by rw [HK.out, chk_range HX.out HM.out]), rfl⟩
        · have HM := Lib.hid hm
          by_cases hz : k = 0
          · have hz' : k ≤ 0 := by omega
            clear hc hz
            go_wp2_with (go_at_call 66; refine (nearF_any x m b _ h0 h1 hcm).mono ?_; rintro e w' ⟨rfl, rfl⟩)
            go_round
            case rel => exact ⟨k + 1, by omega, by go_num, by show _ = _; rw [HK.out, chk_first' hz' HX.out HM.out]⟩
            case measure => simp [intOf]; omega
          · have hz' : 1 ≤ k := by omega
            clear hz
            have hj1 := hc (k - 1) (by omega)
            have HY := Lib.hid (getD_some (l := xs) (k := k - 1) (d := 0) (by have := HL.out; omega))
            obtain ⟨y, hy⟩ : ∃ y, y = xs.getD (k - 1) 0 := ⟨_, rfl⟩
            rw [← hy] at hj1 HY
            clear hy hc
            have hbd := cmpI_bd y x
            by_cases ho : 0 ≤ cmpI y x
            · go_wp2_with (first | (go_at_call 66; refine (nearF_any x m b _ h0 h1 hcm).mono ?_; rintro e w' ⟨rfl, rfl⟩) | (go_at_call 14; refine (compare_any y x _).mono ?_; rintro e w' ⟨rfl, rfl⟩))
              go_ret
              exact ⟨ret_int (by rw [HK.out, chk_order' hz' HX.out HY.out HM.out ho]), rfl⟩
            · go_wp2_with (first | (go_at_call 66; refine (nearF_any x m b _ h0 h1 hcm).mono ?_; rintro e w' ⟨rfl, rfl⟩) | (go_at_call 14; refine (compare_any y x _).mono ?_; rintro e w' ⟨rfl, rfl⟩))
              go_round
              case rel => exact ⟨k + 1, by omega, by go_num, by show _ = _; rw [HK.out, chk_next' hz' HX.out HY.out HM.out (by omega)]⟩
              case measure => simp [intOf]; omega
      · have HE : Hid (g = 0) := by show _ = _; rw [HK.out, chk_end (by have := HL.out; omega)]
        go_wp2
        go_ret
        exact ⟨ret_int HE.out.symm, rfl⟩
end Go.Proofs.YthpapjdjnnkdbaaGreatDoor
