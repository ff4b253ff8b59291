/- fold.Bad, at any text. -/
import Derived.Test.YtebkccfnilcfpaaGreatDoorSmlW
namespace Go.Proofs.YtebkccfnilcfpaaGreatDoor
set_option linter.unusedVariables false
set_option linter.unusedSimpArgs false
open Go Go.Sy Go.RowKit

set_option maxHeartbeats 1000000 in
set_option maxRecDepth 100000 in
theorem fbad_any (s : ByteArray) (w : World) (hw : Wld w) (hs : s.size ≤ 1099511627776) :
    Calls Tryz.prog 26 #[.string s] w fun e w' => e = .returned (.int .i64 (badI s.data.toList)) ∧ Below w.heap.size w w' := by
  go_enter Tryz.func26, Tryz.ntmps26
  go_wp2
  go_loopw [3] (fun i wr => ∃ (p : Nat), i = .int .i64 p ∧ p ≤ s.size ∧ Hid (bad s.data.toList = (bad (s.data.toList.drop p)).map (· + p)) ∧ Below w.heap.size w wr) (fun i _ => s.size - (intOf i).toNat)
  case atStart => exact ⟨0, rfl, Nat.zero_le _, Lib.hid (by simp), Below.refl _ _⟩
  case round =>
    obtain ⟨p, rfl, hp, hb, hbr⟩ := hrel
    have hwr := hw.below hbr
    by_cases hlt : p < s.size
    · have hwd := Lib.decodeL_width (s.data.toList.drop p)
      have hne : s.data.toList.drop p ≠ [] := by
        intro e0
        have := congrArg List.length e0
        simp at this
        omega
      have hle := Lib.decodeL_le _ hne
      have hru := Lib.decodeL_rune (s.data.toList.drop p)
      have hok := okL_dec (s.data.toList.drop p)
      have hst := fun h => bad_stop hne h
      have hnx := fun h => bad_step hne h
      have hln : (s.data.toList.drop p).length = s.size - p := by simp
      rw [hln] at hle
      have hde := decGo_at s p hlt
      obtain ⟨c, hc⟩ : ∃ c, (Lib.decodeL (s.data.toList.drop p)).1 = c := ⟨_, rfl⟩
      obtain ⟨n, hn⟩ : ∃ n, (Lib.decodeL (s.data.toList.drop p)).2 = n := ⟨_, rfl⟩
      rw [hn] at hwd hle
      rw [hc] at hru
      rw [hc, hn] at hok
      go_wp2_with (go_at_call 43; refine (Tryz.utf8_DecodeRuneInString _ _ hwr.u8).mono ?_)
      rintro e w2 ⟨rfl, hb2⟩
      rw [hde, hc, hn]
      have hbr2 : Below w.heap.size w w2 := hbr.trans (hb2.mono hbr.size)
      rcases hok with ⟨rfl, rfl, h0⟩ | ⟨hv, h0⟩
      · have hfin : badI s.data.toList = (p : Int) := by
          unfold badI
          rw [hb.out, hst h0]
          simp
        clear hde hc hn hst hnx h0 hb
        go_wp2
        go_ret
        exact ⟨ret_int hfin.symm, hbr2⟩
      · have hstep : Hid (bad s.data.toList = (bad (s.data.toList.drop (p + n))).map (· + (p + n))) := Lib.hid (by
          rw [hb.out, hnx (by omega), h0, List.drop_drop]
          cases bad (s.data.toList.drop (p + n)) with
          | none => rfl
          | some k => simp only [Option.map_some]; rw [show k + n + p = k + (p + n) by omega])
        clear hde hc hn hst hnx h0 hb
        by_cases hc : c = 65533
        · subst hc
          have hn2 : ¬ ((n : Int) < 2) := by omega
          go_wp2
          go_roundw
          case rel => exact ⟨p + n, by go_num, by omega, hstep, hbr2⟩
          case measure => simp [intOf]; omega
        · have bc : ((c : Int) == 65533) = false := by rw [beq_eq_false_iff_ne]; omega
          go_wp2
          go_roundw
          case rel => exact ⟨p + n, by go_num, by omega, hstep, hbr2⟩
          case measure => simp [intOf]; omega
    · obtain rfl : p = s.size := by omega
      have hfin : badI s.data.toList = -1 := by
        unfold badI
        rw [hb.out, List.drop_eq_nil_of_le (by simp), bad_nil]
        rfl
      go_wp2
      go_ret
      exact ⟨ret_int hfin.symm, hbr⟩
end Go.Proofs.YtebkccfnilcfpaaGreatDoor
