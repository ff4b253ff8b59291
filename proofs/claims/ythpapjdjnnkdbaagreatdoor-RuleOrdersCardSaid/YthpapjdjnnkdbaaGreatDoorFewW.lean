/- The walk of kalendslaw02.few. -/
import Derived.Test.YthpapjdjnnkdbaaGreatDoorRuleL
import Derived.Test.YthpapjdjnnkdbaaGreatDoorRuleMk
import Derived.Laws.AppendOwn
import Derived.Maps.AppendAt
import Derived.Lib.OwnBridge
namespace Go.Proofs.YthpapjdjnnkdbaaGreatDoor
set_option linter.unusedVariables false
set_option linter.unusedSimpArgs false
open Go.RowKit Go.Proofs

theorem info_int : (Tryz.prog.info? 3).map (fun i => (i.zero, i.size, i.bytes)) = some (some (.int .i64 0), 1, 8) := by kernel_rfl

theorem contains_own {base : Nat} {v : Value} {l : List Int} {w : World} (h : w.ownsRow base 3 1 v l.length (l.map (Value.int .i64))) (x : Int) (hl : l.length ≤ 1000000) :
    Calls Tryz.prog 30 #[v, .int .i64 x] w fun e w' => e = .returned (.bool (decide (x ∈ l))) ∧ w = w' := by
  have hx : decide (x ∈ l) = l.contains x := by simp
  by_cases h0 : l.length = 0
  · have hl0 : l = [] := List.length_eq_zero_iff.1 h0
    subst hl0
    rcases h.2 with ⟨rfl, _⟩ | ⟨g, cap, cur, rfl, _⟩
    · exact (Tryz.slices_Contains_int_empty none 0 x w).mono fun e w' ⟨he, hw⟩ => ⟨by simpa using he, hw.symm⟩
    · exact (Tryz.slices_Contains_int_empty _ cap x w).mono fun e w' ⟨he, hw⟩ => ⟨by simpa using he, hw.symm⟩
  · obtain ⟨g, cap, rfl⟩ : ∃ g cap, v = .slice (some ⟨g, 0, none⟩) l.length cap := by
      rcases h.2 with ⟨_, hz⟩ | ⟨g, cap, _, rfl, _⟩
      · omega
      · exact ⟨g, cap, rfl⟩
    refine (Tryz.slices_Contains_int g 0 l.length cap l x w (Nat.le_refl _) (by omega) ?_).mono fun e w' ⟨he, hw⟩ => ⟨?_, hw.symm⟩
    · intro j hj
      rw [Nat.zero_add, h.cellAt j (by omega), List.getElem?_map, getD_some (d := 0) hj]
      rfl
    · rw [he, List.take_length, hx]

theorem sort_own {base : Nat} {v : Value} {l : List Int} {w : World} (h : w.ownsRow base 3 1 v l.length (l.map (Value.int .i64))) (hl : l.length ≤ 1000000) (hb : base ≤ w.heap.size) :
    Calls Tryz.prog 15 #[v] w fun e w' => e = .returned (.tuple #[]) ∧ w'.ownsRow base 3 1 v l.length ((l.mergeSort fun x y => decide (x ≤ y)).map (Value.int .i64)) ∧ Below base w w' := by
  by_cases hv : v = .slice none 0 0
  · subst hv
    have h0 : l.length = 0 := by
      rcases h.2 with ⟨_, hz⟩ | ⟨g, cap, cur, e0, _⟩
      · exact hz
      · cases e0
    have hl0 : l = [] := List.length_eq_zero_iff.1 h0
    subst hl0
    refine (Tryz.slices_Sort_int_none none 0 w).mono fun e w' ⟨he, hw⟩ => ⟨he, ?_, Below.of_eq hw.symm⟩
    rw [hw]
    simpa using h
  · obtain ⟨g, cap, rfl, hbg, hlt, hn, hm, _, hH⟩ := Lib.holds_of_ownsRow h hv
    refine (Tryz.slices_Sort_int g 0 cap l w hH hlt (by omega)).mono fun e w' ⟨he, n, os, hw⟩ => ⟨he, ?_, ?_⟩
    · have h1 := Lib.ownsRow_putRow (q := n) (k := l.length) (ys := l.mergeSort fun x y => decide (x ≤ y)) h (List.length_mergeSort _) (Nat.le_refl _)
      rw [List.take_of_length_le (by rw [List.length_mergeSort]; exact Nat.le_refl _)] at h1
      rw [hw]
      exact Lib.ownsRow_grow h1 0 os
    · rw [hw]
      have h1 : Below base w (Sort.putRow (Value.int .i64) (Sort.ahead w n) g 0 (l.mergeSort fun x y => decide (x ≤ y)).toArray) := Lib.below_putRow (Below.refl _ _) hbg
      exact h1.trans (Lib.below_grow base _ (Nat.le_trans hb h1.size) 0 os)

theorem compact_own {base : Nat} {v : Value} {l : List Int} {w : World} (h : w.ownsRow base 3 1 v l.length (l.map (Value.int .i64))) (hl : l.length ≤ 1000000) :
    Calls Tryz.prog 16 #[v] w fun e w' => ∃ v', e = .returned v' ∧ w'.ownsRow base 3 1 v' (Lib.compact l).length ((Lib.compact l).map (Value.int .i64)) ∧ Below base w w' := by
  by_cases hv : v = .slice none 0 0
  · subst hv
    have h0 : l.length = 0 := by
      rcases h.2 with ⟨_, hz⟩ | ⟨g, cap, cur, e0, _⟩
      · exact hz
      · cases e0
    have hl0 : l = [] := List.length_eq_zero_iff.1 h0
    subst hl0
    refine (Tryz.slices_Compact_int_empty none 0 w).mono fun e w' ⟨he, hw⟩ => ⟨_, he, ?_, Below.of_eq hw.symm⟩
    rw [hw]
    exact h
  · obtain ⟨g, cap, rfl, hbg, hlt, hn, hm, _, hH⟩ := Lib.holds_of_ownsRow h hv
    have hcl := compact_len l
    refine (Tryz.slices_Compact_int g 0 cap l w hH (by omega) hn).mono fun e w' ⟨he, q, hw⟩ => ⟨_, he, ?_, ?_⟩
    · have h1 := Lib.ownsRow_putRow (q := q) (k := (Lib.compact l).length) (ys := Lib.compact l ++ List.replicate (l.length - (Lib.compact l).length) 0) h (by simp; omega) hcl
      rw [List.take_left] at h1
      rw [hw]
      exact h1
    · rw [hw]
      exact Lib.below_putRow (Below.refl _ _) hbg

theorem SlI.of_own {base : Nat} {w : World} {v : Value} {l : List Int} (h : w.ownsRow base 3 1 v l.length (l.map (Value.int .i64))) (hl : l.length ≤ 1000000) : ∃ A c, v = .slice A l.length c ∧ SlI w A l.length l := by
  rcases h.2 with ⟨rfl, hz⟩ | ⟨g, cap, cur, rfl, hb, hg, _⟩
  · have hl0 : l = [] := List.length_eq_zero_iff.1 hz
    subst hl0
    exact ⟨none, 0, rfl, ⟨rfl, by omega, fun h => by simp at h⟩⟩
  · refine ⟨_, cap, rfl, ⟨rfl, by omega, fun hn => ⟨_, rfl, (Array.getElem?_eq_some_iff.1 hg).1, fun k hk => ?_⟩⟩⟩
    have e : (⟨g, 0, none⟩ : Addr).add k = ⟨g, k, none⟩ := by
      unfold Addr.add
      split
      · rename_i h0; subst h0; rfl
      · simp
    rw [e, h.cellAt k (by omega), List.getElem?_map, getD_some (d := 0) hk]
    rfl

theorem own_block {base : Nat} {e : TypeId} {size : Nat} {v : Value} {n : Nat} {xs : List Value} {w : World} (h : w.ownsRow base e size v n xs) (k : Nat) (hk : v.ownBlock = some k) : base ≤ k := by
  rcases h.2 with ⟨rfl, _⟩ | ⟨g, cap, cur, rfl, hb, _⟩
  · simp [Value.ownBlock] at hk
  · simp [Value.ownBlock] at hk
    omega

theorem fewU_len (most : Int) (h0 : 0 ≤ most) (l : List Int) : (fewU most l).length ≤ l.length := by
  have := (fewU_inv most h0 l [] (by simp) (by simp)).2.2
  rw [List.length_nil, Nat.zero_add] at this
  exact this

set_option maxRecDepth 100000 in
set_option maxHeartbeats 1000000 in
/-- few's loop: what has been gathered -/
theorem fewLoop_any (A : Option Addr) (n c : Nat) (xs : List Int) (most : Int) (w : World) (hA : SlI w A n xs) (hn : n ≤ 1000) (h0 : 0 ≤ most) (h1 : most ≤ 1000) :
    Calls Tryz.prog 17 #[.slice A n c, .int .i64 most] w fun e w' => ∃ A' n' c', e = .returned (.slice A' n' c') ∧ SlI w' A' n' (fewL most xs) ∧ n' ≤ n ∧ Below w.heap.size w w' := by
  obtain ⟨i0, hi0, hz0, hz1, hz2⟩ := info_parts info_int
  have HA := Lib.hid hA
  clear hA
  go_enter Tryz.func17, Tryz.ntmps17
  go_wp2
  go_loopw [5, 10] (fun v i wr => ∃ (k : Nat) (l : List Int), k ≤ n ∧ i = .int .i64 k ∧ Hid (l = fewU most (xs.take k)) ∧ l.length ≤ k ∧ wr.ownsRow w.heap.size 3 1 v l.length (l.map (Value.int .i64)) ∧ Below w.heap.size w wr) (fun _ i _ => n - (intOf i).toNat)
  case atStart => exact ⟨0, [], Nat.zero_le _, rfl, rfl, by simp, World.ownsRow_nil _ _ _ _, Below.refl _ _⟩
  case round =>
    obtain ⟨k, l, hk, rfl, HL, hlk, hown, hb⟩ := hrel
    by_cases hlt : k < n
    · obtain ⟨ad, rfl, hbl, hc⟩ := (HA.out.below hb).cells (by omega)
      have hk1 := hc k hlt
      have HX := Lib.hid (getD_some (l := xs) (k := k) (d := 0) (by have := HA.out.len; omega))
      obtain ⟨x, hx⟩ : ∃ x, x = xs.getD k 0 := ⟨_, rfl⟩
      rw [← hx] at hk1 HX
      clear hx hc
      have HS : Hid (fewU most (xs.take (k + 1)) = if x.tmod (most + 1) ≠ 0 ∧ ¬ (x.tmod (most + 1) ∈ l) then l ++ [x.tmod (most + 1)] else l) := by
        show _ = _
        rw [List.take_add_one, HX.out]
        show fewU most (List.take k xs ++ [x]) = _
        rw [fewU_snoc, ← HL.out]
      obtain ⟨y, hy⟩ : ∃ y, x.tmod (most + 1) = y := ⟨_, rfl⟩
      rw [hy] at HS
      by_cases hy0 : y = 0
      · subst hy0
        go_wp2
        go_roundw
        case rel => exact ⟨k + 1, l, by omega, by go_num, by show _ = _; rw [HS.out, if_neg (by simp)], by omega, hown, hb⟩
        case measure => first | (simp [intOf]; done) | (simp [intOf]; omega)
      · have hne : (y != 0) = true := by rw [bne_iff_ne]; exact hy0
        have CO := contains_own hown y (by omega)
        have HY0 := Lib.hid hy0
        clear hy0
        cases hm : decide (y ∈ l)
        · have HM := Lib.hid hm
          rw [hm] at CO
          clear hm
          go_wp2_with fail
          refine CO.mono ?_
          rintro e w' ⟨rfl, rfl⟩
          have hbz := hb.size
          go_wp2_with (at_builtin; refine wpList_append_own _ rfl _ _ 36 rfl w.heap.size 3 i0 (.int .i64 0) 1 8 Tryz.underlying36 hi0 hz0 hz1 hz2 rfl (by decide) _ _ _ rfl (hown.alloc _) ⟨wr.heap.size, 0, none⟩ 1 1 [.int .i64 y] rfl rfl (cell_one_new _ _ _) (by simp [Value.oneCell']) (by simp only [maxLen]; omega) (by omega) (by simp; omega) ?_; intro v1 w1 hown1 hgrow1 _)
          go_roundw
          case rel => exact ⟨k + 1, l ++ [y], by omega, by go_num, by show _ = _; rw [HS.out, if_pos ⟨HY0.out, of_decide_eq_false HM.out⟩], by simp; omega, by simpa using hown1, (hb.alloc hbz _).grown hgrow1 (by simp; omega) (own_block hown)⟩
          case measure => first | (simp [intOf]; done) | (simp [intOf]; omega)
        · have HM := Lib.hid hm
          rw [hm] at CO
          clear hm
          go_wp2_with fail
          refine CO.mono ?_
          rintro e w' ⟨rfl, rfl⟩
          go_wp2
          go_roundw
          case rel => exact ⟨k + 1, l, by omega, by go_num, by show _ = _; rw [HS.out, if_neg (fun h => h.2 (of_decide_eq_true HM.out))], by omega, hown, hb⟩
          case measure => first | (simp [intOf]; done) | (simp [intOf]; omega)
    · have HE : Hid (l = fewU most xs) := by show _ = _; rw [HL.out, List.take_of_length_le (by have := HA.out.len; omega)]
      have SO := sort_own hown (by omega) hb.size
      go_wp2_with fail
      refine SO.mono ?_
      rintro e w1 ⟨rfl, hown1, hb1⟩
      have hl1 : (l.mergeSort fun x y => decide (x ≤ y)).length = l.length := List.length_mergeSort _
      have hown2 := hown1
      rw [← hl1] at hown2
      obtain ⟨A', c', hv', hS⟩ := SlI.of_own hown2 (by omega)
      have HL1 := Lib.hid hl1
      have HV := Lib.hid hv'
      clear hl1 hv' hown2
      go_wp2
      go_ret
      refine ⟨A', (l.mergeSort fun x y => decide (x ≤ y)).length, c', by rw [← HV.out]; rfl, ?_, by have := HL1.out; omega, hb.trans hb1⟩
      rw [fewL, ← HE.out]
      exact hS
end Go.Proofs.YthpapjdjnnkdbaaGreatDoor
