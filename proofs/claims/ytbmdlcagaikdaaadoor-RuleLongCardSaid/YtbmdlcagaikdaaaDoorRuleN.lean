/- The walk of rule's list of weekdays. -/
import Derived.Test.YtbmdlcagaikdaaaDoorRuleL
namespace Go.Proofs.YtbmdlcagaikdaaaDoor
set_option linter.unusedVariables false
set_option linter.unusedSimpArgs false
open Go.RowKit Go.Proofs

theorem getD_some2 {l : List (Int × Int)} {k : Nat} {N D : Int} (h : k < l.length) (h1 : (l.getD k (0, 0)).1 = N) (h2 : (l.getD k (0, 0)).2 = D) : l[k]? = some (N, D) := by
  rw [getD_some (d := (0, 0)) h, ← h1, ← h2]

set_option maxHeartbeats 1000000 in
theorem list_nth (A : Option Addr) (n cap : Nat) (xs : List (Int × Int)) (m : Int) (b : Nat) (w : World) (hA : SlN w A n xs) (h0 : 0 ≤ m) (h1 : m ≤ 1000) (hcm : w.cell? ⟨b, 0, none⟩ = some (.int .i64 m)) (hbm : b < w.heap.size) :
    Calls Tryd.prog 32 #[.slice A n cap, .func (.func 33) #[] #[.pointer (some ⟨b, 0, none⟩)], .func (.func 34) #[] #[]] w
      fun e w' => e = .returned (.int .i64 (chkList (mayNth m) cmpN xs)) ∧ Below w.heap.size w w' := by
  have hs := hA.small
  have HL := Lib.hid hA.len
  by_cases hbig : 64 < n
  · have HR : Hid (chkList (mayNth m) cmpN xs = 2) := by show _ = _; rw [chkList, if_pos (by have := HL.out; omega)]
    go_enter Tryd.func32, Tryd.ntmps32
    go_wp2
    go_ret
    exact ⟨ret_int HR.out.symm, Below.refl _ _⟩
  · have HR : Hid (chkList (mayNth m) cmpN xs = chkFrom (mayNth m) cmpN (ahead? xs 0) (xs.drop 0)) := by show _ = _; rw [chkList, if_neg (by have := HL.out; omega)]; rfl
    have HA := Lib.hid hA
    clear hA
    generalize HG : chkList (mayNth m) cmpN xs = g at *
    clear HG
    go_enter Tryd.func32, Tryd.ntmps32
    go_wp2
    go_loopw [14] (fun i wr => ∃ k : Nat, k ≤ n ∧ i = .int .i64 k ∧ Hid (g = chkFrom (mayNth m) cmpN (ahead? xs k) (xs.drop k)) ∧ Below w.heap.size w wr) (fun i _ => n - (intOf i).toNat)
    case atStart => exact ⟨0, Nat.zero_le _, rfl, HR, Below.refl _ _⟩
    case round =>
      obtain ⟨k, hk, rfl, HK, hb⟩ := hrel
      by_cases hlt : k < n
      · obtain ⟨ad, rfl, hbl, hc⟩ := (HA.out.below hb).cells (by omega)
        have hcm' := (hb.cell (p := ⟨b, 0, none⟩) hbm).trans hcm
        have hbm' : b < wr.heap.size := Nat.lt_of_lt_of_le hbm hb.size
        clear hcm
        obtain ⟨N, hN⟩ : ∃ x, (xs.getD k (0, 0)).1 = x := ⟨_, rfl⟩
        obtain ⟨D, hD⟩ : ∃ x, (xs.getD k (0, 0)).2 = x := ⟨_, rfl⟩
        have HX := Lib.hid (getD_some2 (l := xs) (k := k) (by have := HL.out; omega) hN hD)
        obtain ⟨hk1, hk2⟩ := hc k hlt
        rw [hN] at hk1
        rw [hD] at hk2
        clear hN hD
        rw [← Addr.add_add] at hk2
        have hk3 : wr.cell? ⟨(ad.add (k * 2)).block, (ad.add (k * 2)).off + 1, none⟩ = some (.int .i64 D) := hk2
        have hcm2 : (wr.alloc (.cells #[.int .i64 N, .int .i64 D] 34)).cell? ⟨b, 0, none⟩ = some (.int .i64 m) := (((Below.refl wr.heap.size wr).alloc (Nat.le_refl _) _).cell (p := ⟨b, 0, none⟩) hbm').trans hcm'
        have hbm2 : b < (wr.alloc (.cells #[.int .i64 N, .int .i64 D] 34)).heap.size := by simp; omega
        have C1 := nthF_any N D m b _ h0 h1 hcm2 hbm2
        have HB1 := Lib.hid (((Below.refl wr.heap.size wr).alloc (Nat.le_refl _) (.cells #[.int .i64 N, .int .i64 D] 34)))
        clear hcm' hcm2 hbm2
        cases hm : mayNth m (N, D)
        · have HM := Lib.hid hm
          clear hc
          rw [hm] at C1
          clear hm
          go_wp2_with fail
          refine C1.mono ?_
          rintro e w1 ⟨rfl, hb1⟩
          go_wp2
          go_ret
          exact ⟨ret_int (by rw [HK.out, chk_range HX.out HM.out]), hb.trans ((HB1.out.trans (hb1.mono (by simp))).mono hb.size)⟩
        · have HM := Lib.hid hm
          rw [hm] at C1
          clear hm
          by_cases hz : k = 0
          · have hz' : k ≤ 0 := by omega
            clear hc hz
            have hg : decide (0 < k) = false := by simp; omega
            go_wp2_with fail
            refine C1.mono ?_
            rintro e w1 ⟨rfl, hb1⟩
            go_wp2
            go_quiet (fail)
            go_wp2
            go_roundw
            case rel => exact ⟨k + 1, by omega, by go_num, by show _ = _; rw [HK.out, chk_first' hz' HX.out HM.out], hb.trans (below_drewN ((HB1.out.trans (hb1.mono (by simp))).mono hb.size) _)⟩
            case measure => simp [intOf]; omega
          · have hz' : 1 ≤ k := by omega
            clear hz
            obtain ⟨N', hN⟩ : ∃ x, (xs.getD (k - 1) (0, 0)).1 = x := ⟨_, rfl⟩
            obtain ⟨D', hD⟩ : ∃ x, (xs.getD (k - 1) (0, 0)).2 = x := ⟨_, rfl⟩
            have HY := Lib.hid (getD_some2 (l := xs) (k := k - 1) (by have := HL.out; omega) hN hD)
            obtain ⟨hj1, hj2⟩ := hc (k - 1) (by omega)
            rw [hN] at hj1
            rw [hD] at hj2
            rw [← Addr.add_add] at hj2
            have hj3 : wr.cell? ⟨(ad.add ((k - 1) * 2)).block, (ad.add ((k - 1) * 2)).off + 1, none⟩ = some (.int .i64 D') := hj2
            clear hN hD hc hj2
            have hbd := cmpN_bd (N', D') (N, D)
            have HO := Lib.hid (order_any N' D' N D)
            have hg : decide (0 < k) = true := by simp; omega
            have e1 : IntKind.i64.wrap (↑k - 1) = ↑k - 1 := IntWalk.i64_in _ (by omega)
            have e2 : (0 : Int) ≤ ↑k - 1 := by omega
            have e3 : (↑k - 1 : Int) < n := by omega
            have e4 : ((↑k : Int) - 1).toNat = k - 1 := by omega
            have e5 : (1 : Int) ≤ ↑k := by omega
            have e6 : (↑k : Int) < ↑n + 1 := by omega
            have e7 : (↑k : Int) ≤ ↑n := by omega
            have e8 : k - 1 < n := by omega
            have e9 : (0 : Int) < ↑k := by omega
            have HC1 := Lib.hid (chk_order' (may := mayNth m) (ord := cmpN) hz' HX.out HY.out HM.out)
            have HC2 := Lib.hid (chk_next' (may := mayNth m) (ord := cmpN) hz' HX.out HY.out HM.out)
            have hbb : (ad.add ((k - 1) * 2)).block < wr.heap.size := by rw [add_blk]; exact hbl
            generalize cmpN (N', D') (N, D) = c at *
            by_cases ho : 0 ≤ c
            · go_wp2_with fail
              refine C1.mono ?_
              rintro e w1 ⟨rfl, hb1⟩
              have hbw := HB1.out.trans (hb1.mono (by simp))
              have p1 := (hbw.cell (p := ad.add ((k - 1) * 2)) hbb).trans hj1
              have p2 := (hbw.cell (p := ⟨(ad.add ((k - 1) * 2)).block, (ad.add ((k - 1) * 2)).off + 1, none⟩) hbb).trans hj3
              obtain ⟨hcc, hff⟩ := bcell hb1
              have q1 : w1.cell? ⟨wr.heap.size, 0, none⟩ = some (.int .i64 N) := by rw [hcc _ _ (by simp)]; go_simp
              have q2 : w1.cell? ⟨wr.heap.size, 1, none⟩ = some (.int .i64 D) := by rw [hcc _ _ (by simp)]; go_simp
              clear hcc hff
              go_wp2
              go_region_held3 (fun w' => w'.cell? (ad.add ((k - 1) * 2)) = some (.int .i64 N') ∧ w'.cell? ⟨(ad.add ((k - 1) * 2)).block, (ad.add ((k - 1) * 2)).off + 1, none⟩ = some (.int .i64 D') ∧ w'.cell? ⟨wr.heap.size, 0, none⟩ = some (.int .i64 N) ∧ w'.cell? ⟨wr.heap.size, 1, none⟩ = some (.int .i64 D))
                (first | go_keep | (exact ⟨(hb2.cell (p := ad.add ((k - 1) * 2)) (Nat.lt_of_lt_of_le hbb hbw.size)).trans p1, (hb2.cell (p := ⟨(ad.add ((k - 1) * 2)).block, (ad.add ((k - 1) * 2)).off + 1, none⟩) (Nat.lt_of_lt_of_le hbb hbw.size)).trans p2, (hb2.cell (p := ⟨wr.heap.size, 0, none⟩) (Nat.lt_of_lt_of_le (by simp) hb1.size)).trans q1, (hb2.cell (p := ⟨wr.heap.size, 1, none⟩) (Nat.lt_of_lt_of_le (by simp) hb1.size)).trans q2⟩))
                ((first | (go_at_call 34; refine (HO.out _).mono ?_; rintro e w2 ⟨rfl, hb2⟩)))
              go_wp2
              go_ret
              exact ⟨ret_int (by rw [HK.out, HC1.out ho]), hb.trans ((hbw.drew.trans (hb2.mono hbw.size)).mono hb.size)⟩
            · go_wp2_with fail
              refine C1.mono ?_
              rintro e w1 ⟨rfl, hb1⟩
              have hbw := HB1.out.trans (hb1.mono (by simp))
              have p1 := (hbw.cell (p := ad.add ((k - 1) * 2)) hbb).trans hj1
              have p2 := (hbw.cell (p := ⟨(ad.add ((k - 1) * 2)).block, (ad.add ((k - 1) * 2)).off + 1, none⟩) hbb).trans hj3
              obtain ⟨hcc, hff⟩ := bcell hb1
              have q1 : w1.cell? ⟨wr.heap.size, 0, none⟩ = some (.int .i64 N) := by rw [hcc _ _ (by simp)]; go_simp
              have q2 : w1.cell? ⟨wr.heap.size, 1, none⟩ = some (.int .i64 D) := by rw [hcc _ _ (by simp)]; go_simp
              clear hcc hff
              go_wp2
              go_region_held3 (fun w' => w'.cell? (ad.add ((k - 1) * 2)) = some (.int .i64 N') ∧ w'.cell? ⟨(ad.add ((k - 1) * 2)).block, (ad.add ((k - 1) * 2)).off + 1, none⟩ = some (.int .i64 D') ∧ w'.cell? ⟨wr.heap.size, 0, none⟩ = some (.int .i64 N) ∧ w'.cell? ⟨wr.heap.size, 1, none⟩ = some (.int .i64 D))
                (first | go_keep | (exact ⟨(hb2.cell (p := ad.add ((k - 1) * 2)) (Nat.lt_of_lt_of_le hbb hbw.size)).trans p1, (hb2.cell (p := ⟨(ad.add ((k - 1) * 2)).block, (ad.add ((k - 1) * 2)).off + 1, none⟩) (Nat.lt_of_lt_of_le hbb hbw.size)).trans p2, (hb2.cell (p := ⟨wr.heap.size, 0, none⟩) (Nat.lt_of_lt_of_le (by simp) hb1.size)).trans q1, (hb2.cell (p := ⟨wr.heap.size, 1, none⟩) (Nat.lt_of_lt_of_le (by simp) hb1.size)).trans q2⟩))
                ((first | (go_at_call 34; refine (HO.out _).mono ?_; rintro e w2 ⟨rfl, hb2⟩)))
              go_wp2
              go_roundw
              case rel => exact ⟨k + 1, by omega, by go_num, by show _ = _; rw [HK.out, HC2.out (by omega)], hb.trans ((hbw.drew.trans (hb2.mono hbw.size)).mono hb.size)⟩
              case measure => simp [intOf]; omega
      · have HE : Hid (g = 0) := by show _ = _; rw [HK.out, chk_end (by have := HL.out; omega)]
        go_wp2
        go_ret
        exact ⟨ret_int HE.out.symm, hb⟩
end Go.Proofs.YtbmdlcagaikdaaaDoor
