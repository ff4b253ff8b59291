/- The walk of CivilParses: no day, ten bytes. -/
import Derived.Test.YtbldfkkpnngeeaaDoorLaw1e
namespace Go.Proofs.YtbldfkkpnngeeaaDoor
set_option linter.unusedVariables false
open Go.RowKit Go.Proofs

/-- all bytes are digits; their number -/
def allD (l : List UInt8) : Prop := ∀ c ∈ l, 48 ≤ c.toNat ∧ c.toNat ≤ 57
def valD (l : List UInt8) : Nat := l.foldl (fun a c => 10 * a + (c.toNat - 48)) 0
theorem valD_snoc (l : List UInt8) (c : UInt8) : valD (l ++ [c]) = 10 * valD l + (c.toNat - 48) := by simp [valD, List.foldl_append]
theorem allD_snoc {l : List UInt8} {c : UInt8} (h : allD l) (h1 : 48 ≤ c.toNat) (h2 : c.toNat ≤ 57) : allD (l ++ [c]) := by
  intro d hd
  rcases List.mem_append.1 hd with hd | hd
  · exact h d hd
  · simp only [List.mem_singleton] at hd; subst hd; exact ⟨h1, h2⟩
theorem take_snoc' {l : List UInt8} {j : Nat} {c : UInt8} (h : l[j]? = some c) : l.take (j + 1) = l.take j ++ [c] := by
  obtain ⟨hj, hc⟩ := List.getElem?_eq_some_iff.1 h
  rw [List.take_succ_eq_append_getElem hj, hc]

theorem fold_bd : ∀ (l : List UInt8) (acc n : Nat), acc < 10 ^ n → allD l → l.foldl (fun a c => 10 * a + (c.toNat - 48)) acc < 10 ^ (n + l.length) := by
  intro l
  induction l with
  | nil => intro acc n h _; simpa using h
  | cons c r ih =>
    intro acc n h hd
    have h2 := hd c (by simp)
    have h3 := ih (10 * acc + (c.toNat - 48)) (n + 1) (by rw [Nat.pow_succ]; omega) fun d hm => hd d (List.mem_cons_of_mem _ hm)
    simpa [Nat.add_assoc, Nat.add_comm 1] using h3
theorem valD_bd (l : List UInt8) (h : allD l) : valD l < 10 ^ l.length := by
  have := fold_bd l 0 0 (by simp) h
  rw [Nat.zero_add] at this
  exact this
theorem valD_999 {l : List UInt8} (h : allD l) (hl : l.length ≤ 3) : valD l ≤ 999 := by
  have h1 := valD_bd l h
  have h2 : 10 ^ l.length ≤ 10 ^ 3 := Nat.pow_le_pow_right (by omega) hl
  omega
theorem bytes_cell (w : World) (e : TypeId) (l : List UInt8) (j : Nat) (c : UInt8) (h : l[j]? = some c) : (Lib.bytesWorld w e ⟨l.toArray⟩).cell? ⟨w.heap.size, j, none⟩ = some (.int .u8 c.toNat) := by
  obtain ⟨hj, hc⟩ := List.getElem?_eq_some_iff.1 h
  rw [Lib.bytesWorld_cell w e ⟨l.toArray⟩ j (by show j < l.toArray.size; simpa using hj)]
  simp only [List.getD, h, Option.getD_some]

theorem dgs_valD : ∀ (k : Nat) (l : List UInt8), l.length = k → allD l → dgs (valD l) k = l := by
  intro k
  induction k with
  | zero => intro l h _; rw [List.length_eq_zero_iff] at h; rw [h]; rfl
  | succ k ih =>
    intro l h hd
    have hne : l ≠ [] := by rintro rfl; simp at h
    have hl := List.dropLast_concat_getLast hne
    generalize l.dropLast = m at hl
    generalize l.getLast hne = c at hl
    subst hl
    have h1 := hd c (by simp)
    have h2 := ih m (by simpa using h) fun d hm => hd d (List.mem_append_left _ hm)
    rw [valD_snoc, dgs, show (10 * valD m + (c.toNat - 48)) / 10 = valD m by omega, h2, show (10 * valD m + (c.toNat - 48)) % 10 = c.toNat - 48 by omega, show 48 + (c.toNat - 48) = c.toNat by omega]
    simp
theorem text_of_digits {c0 c1 c2 c3 c5 c6 c8 c9 : UInt8} (h0 : allD [c0, c1, c2, c3]) (h1 : allD [c5, c6]) (h2 : allD [c8, c9])
    (hd : isDate (valD [c0, c1, c2, c3]) (valD [c5, c6]) (valD [c8, c9]) = true) : ∃ n, isDay n = true ∧ textL n = [c0, c1, c2, c3, 45, c5, c6, 45, c8, c9] := by
  have hn := num_day hd
  refine ⟨_, hn, ?_⟩
  obtain ⟨d1, d2⟩ := date_is hn
  obtain ⟨e1, e2, e3⟩ := num_inj d1 hd d2
  rw [textL_eq hn, textD, e1, e2, e3]
  simp only [Int.toNat_natCast]
  rw [dgs_valD 4 _ rfl h0, dgs_valD 2 _ rfl h1, dgs_valD 2 _ rfl h2]
  rfl

set_option maxRecDepth 100000 in
set_option maxHeartbeats 600000 in
theorem parses_ten (c0 c1 c2 c3 c4 c5 c6 c7 c8 c9 : UInt8) (h : ∀ n, isDay n = true → textL n ≠ [c0, c1, c2, c3, c4, c5, c6, c7, c8, c9]) (w : World) (hs : Std w) (hE : ErrStd w) :
    Calls Tryd.prog 11 #[.string ⟨[c0, c1, c2, c3, c4, c5, c6, c7, c8, c9].toArray⟩] w fun e w' => e = .returned (.bool true) ∧ Below w.heap.size w w' := by
  have P := parse_no _ (by simp) h
  have H := Lib.hid h
  clear h
  go_enter Tryd.func11, Tryd.ntmps11
  go_wp2_with (go_at_call 15; refine (awake1_any _ hs).mono ?_; rintro e w1 ⟨rfl, hb⟩)
  refine (P _ (hs.below hb) (hE.below hb)).mono ?_
  rintro e w2 ⟨rfl, hb2⟩
  have hb12 := hb.trans (hb2.mono hb.size)
  clear hb hb2 P
  have hz2 := hb12.size
  go_wp2
  go_loopw [40] (fun i wr => ∃ (k : Int) (N0 N1 N2 : Nat), 0 ≤ k ∧ k ≤ 3 ∧ i = .int .i64 k
      ∧ (Hid (0 < k → allD [c0, c1, c2, c3] ∧ N0 = valD [c0, c1, c2, c3]) ∧ Hid (1 < k → allD [c5, c6] ∧ N1 = valD [c5, c6]) ∧ Hid (2 < k → allD [c8, c9] ∧ N2 = valD [c8, c9]) ∧ N0 ≤ 9999 ∧ N1 ≤ 99 ∧ N2 ≤ 99 ∧ (k ≤ 0 → N0 ≤ 0) ∧ (k ≤ 1 → N1 ≤ 0) ∧ (k ≤ 2 → N2 ≤ 0))
      ∧ (wr.cell? ⟨w2.heap.size, 0, none⟩ = some (.int .i64 N0) ∧ wr.cell? ⟨w2.heap.size, 1, none⟩ = some (.int .i64 N1) ∧ wr.cell? ⟨w2.heap.size, 2, none⟩ = some (.int .i64 N2))
      ∧ (wr.cell? ⟨w2.heap.size + 1, 0, none⟩ = some (.int .i64 0) ∧ wr.cell? ⟨w2.heap.size + 1, 1, none⟩ = some (.int .i64 4) ∧ wr.cell? ⟨w2.heap.size + 1, 2, none⟩ = some (.int .i64 5) ∧ wr.cell? ⟨w2.heap.size + 1, 3, none⟩ = some (.int .i64 7) ∧ wr.cell? ⟨w2.heap.size + 1, 4, none⟩ = some (.int .i64 8) ∧ wr.cell? ⟨w2.heap.size + 1, 5, none⟩ = some (.int .i64 10))
      ∧ (wr.frozen? ⟨w2.heap.size, 0, none⟩ = false ∧ wr.frozen? ⟨w2.heap.size, 1, none⟩ = false ∧ wr.frozen? ⟨w2.heap.size, 2, none⟩ = false)
      ∧ Below w.heap.size w wr ∧ w2.heap.size + 1 < wr.heap.size) (fun i _ => 3 - (intOf i).toNat)
  case atStart =>
    refine ⟨0, 0, 0, 0, by omega, by omega, rfl, ⟨fun k => by omega, fun k => by omega, fun k => by omega, by omega, by omega, by omega, fun _ => by omega, fun _ => by omega, fun _ => by omega⟩, ⟨by go_simp, by go_simp, by go_simp⟩, ⟨by go_simp, by go_simp, by go_simp, by go_simp, by go_simp, by go_simp⟩, ⟨by go_simp, by go_simp, by go_simp⟩, (hb12.alloc hz2 _).alloc (by simp; omega) _, by simp⟩
  case round =>
    obtain ⟨k, N0, N1, N2, hk0, hk, rfl, ⟨q0, q1, q2, n0, n1, n2, z0, z1, z2⟩, ⟨a0, a1, a2⟩, ⟨e0, e1, e2, e3, e4, e5⟩, ⟨f0, f1, f2⟩, hb, hz⟩ := hrel
    have : k = 0 ∨ k = 1 ∨ k = 2 ∨ k = 3 := by omega
    rcases this with rfl | rfl | rfl | rfl
-- GEN
    · obtain ⟨wo, rfl⟩ : ∃ wo : World, wo = wr := ⟨_, rfl⟩
      obtain rfl : N0 = 0 := by have := z0 (by omega); omega
      have z1k := z1
      have z2k := z2
      clear z0 z1 z2
      have hcv := fun (W : World) (s : ByteArray) => Lib.run_convert_string_bytes (P := Tryd.prog) W 9 61 5 s Tryd.underlying9 Tryd.underlying61 Tryd.underlying5
      have hex := ba_take [c0, c1, c2, c3, c4, c5, c6, c7, c8, c9] 0 4
      have hbW : Below wo.heap.size wo (Lib.bytesWorld (wo.alloc (.cells #[.int .i64 0, .int .i64 4] 59)) 5 ⟨#[c0, c1, c2, c3]⟩) := Joins.below_bytesWorld _ _ _ _ (by simp) |> fun h => ((Below.refl _ wo).alloc (Nat.le_refl _) _).trans h
      have hszW : wo.heap.size + 1 < (Lib.bytesWorld (wo.alloc (.cells #[.int .i64 0, .int .i64 4] 59)) 5 ⟨#[c0, c1, c2, c3]⟩).heap.size := by rw [Lib.bytesWorld_size]; simp
      have hyW : ∀ (j : Nat) (c : UInt8), ([c0, c1, c2, c3] : List UInt8)[j]? = some c → (Lib.bytesWorld (wo.alloc (.cells #[.int .i64 0, .int .i64 4] 59)) 5 ⟨#[c0, c1, c2, c3]⟩).cell? ⟨wo.heap.size + 1, j, none⟩ = some (.int .u8 c.toNat) := fun j c h => by have := bytes_cell (wo.alloc (.cells #[.int .i64 0, .int .i64 4] 59)) 5 [c0, c1, c2, c3] j c h; simpa using this
      have HY := Lib.hid hyW
      clear hyW
      go_wp2
      generalize (Lib.bytesWorld (wo.alloc (.cells #[.int .i64 0, .int .i64 4] 59)) 5 ⟨#[c0, c1, c2, c3]⟩) = W at *
      replace a0 := (hbW.cell (p := ⟨w2.heap.size, 0, none⟩) (by show w2.heap.size < _; omega)).trans a0
      replace f0 := (hbW.frozen (p := ⟨w2.heap.size, 0, none⟩) (by show w2.heap.size < _; omega)).trans f0
      replace a1 := (hbW.cell (p := ⟨w2.heap.size, 1, none⟩) (by show w2.heap.size < _; omega)).trans a1
      replace f1 := (hbW.frozen (p := ⟨w2.heap.size, 1, none⟩) (by show w2.heap.size < _; omega)).trans f1
      replace a2 := (hbW.cell (p := ⟨w2.heap.size, 2, none⟩) (by show w2.heap.size < _; omega)).trans a2
      replace f2 := (hbW.frozen (p := ⟨w2.heap.size, 2, none⟩) (by show w2.heap.size < _; omega)).trans f2
      replace e0 := (hbW.cell (p := ⟨w2.heap.size + 1, 0, none⟩) (by show w2.heap.size + 1 < _; omega)).trans e0
      replace e1 := (hbW.cell (p := ⟨w2.heap.size + 1, 1, none⟩) (by show w2.heap.size + 1 < _; omega)).trans e1
      replace e2 := (hbW.cell (p := ⟨w2.heap.size + 1, 2, none⟩) (by show w2.heap.size + 1 < _; omega)).trans e2
      replace e3 := (hbW.cell (p := ⟨w2.heap.size + 1, 3, none⟩) (by show w2.heap.size + 1 < _; omega)).trans e3
      replace e4 := (hbW.cell (p := ⟨w2.heap.size + 1, 4, none⟩) (by show w2.heap.size + 1 < _; omega)).trans e4
      replace e5 := (hbW.cell (p := ⟨w2.heap.size + 1, 5, none⟩) (by show w2.heap.size + 1 < _; omega)).trans e5
      have hzW := hbW.size
      have hbb := hb.trans (hbW.mono (by have := hb.size; omega))
      clear hcv hex hbW hb
      have HE := Lib.hid (And.intro a0 (And.intro a1 (And.intro a2 (And.intro e0 (And.intro e1 (And.intro e2 (And.intro e3 (And.intro e4 e5))))))))
      have HF := Lib.hid (And.intro f0 (And.intro f1 f2))
      go_loopw [53] (fun i wr => ∃ (j V : Nat), j ≤ 4 ∧ i = .int .i64 j ∧ V ≤ 9999 ∧ Hid (allD (([c0, c1, c2, c3] : List UInt8).take j) ∧ V = valD (([c0, c1, c2, c3] : List UInt8).take j)) ∧ (wr.cell? ⟨w2.heap.size, 0, none⟩ = some (.int .i64 V) ∧ wr.frozen? ⟨w2.heap.size, 0, none⟩ = false ∧ Hid ((∀ b o, (b ≠ w2.heap.size ∨ o ≠ 0) → b < W.heap.size → wr.cell? ⟨b, o, none⟩ = W.cell? ⟨b, o, none⟩) ∧ (∀ b o, b < W.heap.size → wr.frozen? ⟨b, o, none⟩ = W.frozen? ⟨b, o, none⟩))) ∧ Below w.heap.size w wr ∧ W.heap.size ≤ wr.heap.size) (fun i _ => 4 - (intOf i).toNat)
      case atStart => exact ⟨0, 0, by omega, rfl, by omega, ⟨fun c hc => by simp at hc, rfl⟩, ⟨a0, f0, ⟨fun _ _ _ _ => rfl, fun _ _ _ => rfl⟩⟩, hbb, Nat.le_refl _⟩
      case round =>
        obtain ⟨j, V, hj, rfl, hV, HD, ⟨hv, hf, HK⟩, hbv, hzv⟩ := hrel
        clear a0 a1 a2 f0 f1 f2 e0 e1 e2 e3 e4 e5 hbb
        have hsm : (w2.heap.size : Nat) < W.heap.size := by omega
        by_cases hlt : j < 4
        · obtain ⟨c, hc⟩ : ∃ c, ([c0, c1, c2, c3] : List UInt8)[j]? = some c := ⟨_, List.getElem?_eq_getElem (by simpa using hlt)⟩
          have hcell : wr.cell? ⟨wo.heap.size + 1, j, none⟩ = some (.int .u8 c.toNat) := (HK.out.1 _ _ (.inl (by omega)) hszW).trans (HY.out j c hc)
          have HC := Lib.hid hc
          clear hc
          have hcb := c.toNat_lt
          have j0 : (0 : Int) ≤ (j : Int) := by omega
          have j1 : (j : Int) < 4 := by omega
          have h9 := valD_999 HD.out.1 (by simp; omega)
          have hV9 : V ≤ 999 := by have := HD.out.2; omega
          clear h9
          by_cases hlow : c.toNat < 48
          · go_wp2
            go_ret
            exact ⟨rfl, hbv⟩
          · by_cases hhigh : 57 < c.toNat
            · go_wp2
              go_ret
              exact ⟨rfl, hbv⟩
            · go_wp2
              go_roundw
              case rel =>
                refine ⟨j + 1, 10 * V + (c.toNat - 48), by omega, by go_num, by omega, ?_, ⟨?_, ?_, ?_⟩, hbv.setCell (by have := hz2; omega) _, by simpa [World.setCell] using hzv⟩
                · show _ ∧ _
                  rw [take_snoc' HC.out, valD_snoc, ← HD.out.2]
                  exact ⟨allD_snoc HD.out.1 (by omega) (by omega), rfl⟩
                · rw [World.cell?_setCell_same' _ _ _ (by rw [hv]; rfl)]
                  first | rfl | (congr 2; omega)
                · rw [World.frozen?_setCell]; exact hf
                · refine ⟨fun b o hbo hl => ?_, fun b o hl => ?_⟩
                  · rw [World.cell?_setCell_other _ _ _ _ (by intro he; injection he with h1 h2 _; omega)]; exact HK.out.1 b o hbo hl
                  · rw [World.frozen?_setCell]; exact HK.out.2 b o hl
              case measure => first | (simp [intOf]; done) | (simp [intOf]; omega)
        · obtain rfl : j = 4 := by omega
          have HD2 : Hid (allD [c0, c1, c2, c3] ∧ V = valD [c0, c1, c2, c3]) := HD
          obtain ⟨a0, a1, a2, e0, e1, e2, e3, e4, e5⟩ := HE.out
          obtain ⟨f0, f1, f2⟩ := HF.out
          replace a1 := (HK.out.1 _ _ (.inr (by omega)) hsm).trans a1
          replace f1 := (HK.out.2 _ _ hsm).trans f1
          replace a2 := (HK.out.1 _ _ (.inr (by omega)) hsm).trans a2
          replace f2 := (HK.out.2 _ _ hsm).trans f2
          replace e0 := (HK.out.1 _ _ (.inl (by omega)) (by omega)).trans e0
          replace e1 := (HK.out.1 _ _ (.inl (by omega)) (by omega)).trans e1
          replace e2 := (HK.out.1 _ _ (.inl (by omega)) (by omega)).trans e2
          replace e3 := (HK.out.1 _ _ (.inl (by omega)) (by omega)).trans e3
          replace e4 := (HK.out.1 _ _ (.inl (by omega)) (by omega)).trans e4
          replace e5 := (HK.out.1 _ _ (.inl (by omega)) (by omega)).trans e5
          go_wp2
          go_roundw
          case rel =>
            have y1 : N1 ≤ 0 := z1k (by omega)
            have y2 : N2 ≤ 0 := z2k (by omega)
            exact ⟨1, V, N1, N2, by omega, by omega, rfl, ⟨fun _ => HD2.out, fun h => by omega, fun h => by omega, by omega, n1, n2, fun h => by omega, fun _ => y1, fun _ => y2⟩, ⟨hv, a1, a2⟩, ⟨e0, e1, e2, e3, e4, e5⟩, ⟨hf, f1, f2⟩, hbv, by omega⟩
          case measure => simp [intOf]
    · obtain ⟨wo, rfl⟩ : ∃ wo : World, wo = wr := ⟨_, rfl⟩
      obtain rfl : N1 = 0 := by have := z1 (by omega); omega
      have z2k := z2
      clear z0 z1 z2
      have hcv := fun (W : World) (s : ByteArray) => Lib.run_convert_string_bytes (P := Tryd.prog) W 9 61 5 s Tryd.underlying9 Tryd.underlying61 Tryd.underlying5
      have hex := ba_take [c0, c1, c2, c3, c4, c5, c6, c7, c8, c9] 5 7
      have hbW : Below wo.heap.size wo (Lib.bytesWorld (wo.alloc (.cells #[.int .i64 5, .int .i64 7] 59)) 5 ⟨#[c5, c6]⟩) := Joins.below_bytesWorld _ _ _ _ (by simp) |> fun h => ((Below.refl _ wo).alloc (Nat.le_refl _) _).trans h
      have hszW : wo.heap.size + 1 < (Lib.bytesWorld (wo.alloc (.cells #[.int .i64 5, .int .i64 7] 59)) 5 ⟨#[c5, c6]⟩).heap.size := by rw [Lib.bytesWorld_size]; simp
      have hyW : ∀ (j : Nat) (c : UInt8), ([c5, c6] : List UInt8)[j]? = some c → (Lib.bytesWorld (wo.alloc (.cells #[.int .i64 5, .int .i64 7] 59)) 5 ⟨#[c5, c6]⟩).cell? ⟨wo.heap.size + 1, j, none⟩ = some (.int .u8 c.toNat) := fun j c h => by have := bytes_cell (wo.alloc (.cells #[.int .i64 5, .int .i64 7] 59)) 5 [c5, c6] j c h; simpa using this
      have HY := Lib.hid hyW
      clear hyW
      go_wp2
      generalize (Lib.bytesWorld (wo.alloc (.cells #[.int .i64 5, .int .i64 7] 59)) 5 ⟨#[c5, c6]⟩) = W at *
      replace a0 := (hbW.cell (p := ⟨w2.heap.size, 0, none⟩) (by show w2.heap.size < _; omega)).trans a0
      replace f0 := (hbW.frozen (p := ⟨w2.heap.size, 0, none⟩) (by show w2.heap.size < _; omega)).trans f0
      replace a1 := (hbW.cell (p := ⟨w2.heap.size, 1, none⟩) (by show w2.heap.size < _; omega)).trans a1
      replace f1 := (hbW.frozen (p := ⟨w2.heap.size, 1, none⟩) (by show w2.heap.size < _; omega)).trans f1
      replace a2 := (hbW.cell (p := ⟨w2.heap.size, 2, none⟩) (by show w2.heap.size < _; omega)).trans a2
      replace f2 := (hbW.frozen (p := ⟨w2.heap.size, 2, none⟩) (by show w2.heap.size < _; omega)).trans f2
      replace e0 := (hbW.cell (p := ⟨w2.heap.size + 1, 0, none⟩) (by show w2.heap.size + 1 < _; omega)).trans e0
      replace e1 := (hbW.cell (p := ⟨w2.heap.size + 1, 1, none⟩) (by show w2.heap.size + 1 < _; omega)).trans e1
      replace e2 := (hbW.cell (p := ⟨w2.heap.size + 1, 2, none⟩) (by show w2.heap.size + 1 < _; omega)).trans e2
      replace e3 := (hbW.cell (p := ⟨w2.heap.size + 1, 3, none⟩) (by show w2.heap.size + 1 < _; omega)).trans e3
      replace e4 := (hbW.cell (p := ⟨w2.heap.size + 1, 4, none⟩) (by show w2.heap.size + 1 < _; omega)).trans e4
      replace e5 := (hbW.cell (p := ⟨w2.heap.size + 1, 5, none⟩) (by show w2.heap.size + 1 < _; omega)).trans e5
      have hzW := hbW.size
      have hbb := hb.trans (hbW.mono (by have := hb.size; omega))
      clear hcv hex hbW hb
      have HE := Lib.hid (And.intro a0 (And.intro a1 (And.intro a2 (And.intro e0 (And.intro e1 (And.intro e2 (And.intro e3 (And.intro e4 e5))))))))
      have HF := Lib.hid (And.intro f0 (And.intro f1 f2))
      go_loopw [53] (fun i wr => ∃ (j V : Nat), j ≤ 2 ∧ i = .int .i64 j ∧ V ≤ 9999 ∧ Hid (allD (([c5, c6] : List UInt8).take j) ∧ V = valD (([c5, c6] : List UInt8).take j)) ∧ (wr.cell? ⟨w2.heap.size, 1, none⟩ = some (.int .i64 V) ∧ wr.frozen? ⟨w2.heap.size, 1, none⟩ = false ∧ Hid ((∀ b o, (b ≠ w2.heap.size ∨ o ≠ 1) → b < W.heap.size → wr.cell? ⟨b, o, none⟩ = W.cell? ⟨b, o, none⟩) ∧ (∀ b o, b < W.heap.size → wr.frozen? ⟨b, o, none⟩ = W.frozen? ⟨b, o, none⟩))) ∧ Below w.heap.size w wr ∧ W.heap.size ≤ wr.heap.size) (fun i _ => 2 - (intOf i).toNat)
      case atStart => exact ⟨0, 0, by omega, rfl, by omega, ⟨fun c hc => by simp at hc, rfl⟩, ⟨a1, f1, ⟨fun _ _ _ _ => rfl, fun _ _ _ => rfl⟩⟩, hbb, Nat.le_refl _⟩
      case round =>
        obtain ⟨j, V, hj, rfl, hV, HD, ⟨hv, hf, HK⟩, hbv, hzv⟩ := hrel
        clear a0 a1 a2 f0 f1 f2 e0 e1 e2 e3 e4 e5 hbb
        have hsm : (w2.heap.size : Nat) < W.heap.size := by omega
        by_cases hlt : j < 2
        · obtain ⟨c, hc⟩ : ∃ c, ([c5, c6] : List UInt8)[j]? = some c := ⟨_, List.getElem?_eq_getElem (by simpa using hlt)⟩
          have hcell : wr.cell? ⟨wo.heap.size + 1, j, none⟩ = some (.int .u8 c.toNat) := (HK.out.1 _ _ (.inl (by omega)) hszW).trans (HY.out j c hc)
          have HC := Lib.hid hc
          clear hc
          have hcb := c.toNat_lt
          have j0 : (0 : Int) ≤ (j : Int) := by omega
          have j1 : (j : Int) < 2 := by omega
          have h9 := valD_999 HD.out.1 (by simp; omega)
          have hV9 : V ≤ 999 := by have := HD.out.2; omega
          clear h9
          by_cases hlow : c.toNat < 48
          · go_wp2
            go_ret
            exact ⟨rfl, hbv⟩
          · by_cases hhigh : 57 < c.toNat
            · go_wp2
              go_ret
              exact ⟨rfl, hbv⟩
            · go_wp2
              go_roundw
              case rel =>
                refine ⟨j + 1, 10 * V + (c.toNat - 48), by omega, by go_num, by omega, ?_, ⟨?_, ?_, ?_⟩, hbv.setCell (by have := hz2; omega) _, by simpa [World.setCell] using hzv⟩
                · show _ ∧ _
                  rw [take_snoc' HC.out, valD_snoc, ← HD.out.2]
                  exact ⟨allD_snoc HD.out.1 (by omega) (by omega), rfl⟩
                · rw [World.cell?_setCell_same' _ _ _ (by rw [hv]; rfl)]
                  first | rfl | (congr 2; omega)
                · rw [World.frozen?_setCell]; exact hf
                · refine ⟨fun b o hbo hl => ?_, fun b o hl => ?_⟩
                  · rw [World.cell?_setCell_other _ _ _ _ (by intro he; injection he with h1 h2 _; omega)]; exact HK.out.1 b o hbo hl
                  · rw [World.frozen?_setCell]; exact HK.out.2 b o hl
              case measure => first | (simp [intOf]; done) | (simp [intOf]; omega)
        · obtain rfl : j = 2 := by omega
          have HD2 : Hid (allD [c5, c6] ∧ V = valD [c5, c6]) := HD
          obtain ⟨a0, a1, a2, e0, e1, e2, e3, e4, e5⟩ := HE.out
          obtain ⟨f0, f1, f2⟩ := HF.out
          replace a0 := (HK.out.1 _ _ (.inr (by omega)) hsm).trans a0
          replace f0 := (HK.out.2 _ _ hsm).trans f0
          replace a2 := (HK.out.1 _ _ (.inr (by omega)) hsm).trans a2
          replace f2 := (HK.out.2 _ _ hsm).trans f2
          replace e0 := (HK.out.1 _ _ (.inl (by omega)) (by omega)).trans e0
          replace e1 := (HK.out.1 _ _ (.inl (by omega)) (by omega)).trans e1
          replace e2 := (HK.out.1 _ _ (.inl (by omega)) (by omega)).trans e2
          replace e3 := (HK.out.1 _ _ (.inl (by omega)) (by omega)).trans e3
          replace e4 := (HK.out.1 _ _ (.inl (by omega)) (by omega)).trans e4
          replace e5 := (HK.out.1 _ _ (.inl (by omega)) (by omega)).trans e5
          go_wp2
          go_roundw
          case rel =>
            have y2 : N2 ≤ 0 := z2k (by omega)
            exact ⟨2, N0, V, N2, by omega, by omega, rfl, ⟨fun _ => q0.out (by omega), fun _ => HD2.out, fun h => by omega, n0, by have h1 := HD2.out.2; have h2 := valD_bd _ HD2.out.1; simp at h2; omega, n2, fun h => by omega, fun h => by omega, fun _ => y2⟩, ⟨a0, hv, a2⟩, ⟨e0, e1, e2, e3, e4, e5⟩, ⟨f0, hf, f2⟩, hbv, by omega⟩
          case measure => simp [intOf]
    · obtain ⟨wo, rfl⟩ : ∃ wo : World, wo = wr := ⟨_, rfl⟩
      obtain rfl : N2 = 0 := by have := z2 (by omega); omega
      clear z0 z1 z2
      have hcv := fun (W : World) (s : ByteArray) => Lib.run_convert_string_bytes (P := Tryd.prog) W 9 61 5 s Tryd.underlying9 Tryd.underlying61 Tryd.underlying5
      have hex := ba_take [c0, c1, c2, c3, c4, c5, c6, c7, c8, c9] 8 10
      have hbW : Below wo.heap.size wo (Lib.bytesWorld (wo.alloc (.cells #[.int .i64 8, .int .i64 10] 59)) 5 ⟨#[c8, c9]⟩) := Joins.below_bytesWorld _ _ _ _ (by simp) |> fun h => ((Below.refl _ wo).alloc (Nat.le_refl _) _).trans h
      have hszW : wo.heap.size + 1 < (Lib.bytesWorld (wo.alloc (.cells #[.int .i64 8, .int .i64 10] 59)) 5 ⟨#[c8, c9]⟩).heap.size := by rw [Lib.bytesWorld_size]; simp
      have hyW : ∀ (j : Nat) (c : UInt8), ([c8, c9] : List UInt8)[j]? = some c → (Lib.bytesWorld (wo.alloc (.cells #[.int .i64 8, .int .i64 10] 59)) 5 ⟨#[c8, c9]⟩).cell? ⟨wo.heap.size + 1, j, none⟩ = some (.int .u8 c.toNat) := fun j c h => by have := bytes_cell (wo.alloc (.cells #[.int .i64 8, .int .i64 10] 59)) 5 [c8, c9] j c h; simpa using this
      have HY := Lib.hid hyW
      clear hyW
      go_wp2
      generalize (Lib.bytesWorld (wo.alloc (.cells #[.int .i64 8, .int .i64 10] 59)) 5 ⟨#[c8, c9]⟩) = W at *
      replace a0 := (hbW.cell (p := ⟨w2.heap.size, 0, none⟩) (by show w2.heap.size < _; omega)).trans a0
      replace f0 := (hbW.frozen (p := ⟨w2.heap.size, 0, none⟩) (by show w2.heap.size < _; omega)).trans f0
      replace a1 := (hbW.cell (p := ⟨w2.heap.size, 1, none⟩) (by show w2.heap.size < _; omega)).trans a1
      replace f1 := (hbW.frozen (p := ⟨w2.heap.size, 1, none⟩) (by show w2.heap.size < _; omega)).trans f1
      replace a2 := (hbW.cell (p := ⟨w2.heap.size, 2, none⟩) (by show w2.heap.size < _; omega)).trans a2
      replace f2 := (hbW.frozen (p := ⟨w2.heap.size, 2, none⟩) (by show w2.heap.size < _; omega)).trans f2
      replace e0 := (hbW.cell (p := ⟨w2.heap.size + 1, 0, none⟩) (by show w2.heap.size + 1 < _; omega)).trans e0
      replace e1 := (hbW.cell (p := ⟨w2.heap.size + 1, 1, none⟩) (by show w2.heap.size + 1 < _; omega)).trans e1
      replace e2 := (hbW.cell (p := ⟨w2.heap.size + 1, 2, none⟩) (by show w2.heap.size + 1 < _; omega)).trans e2
      replace e3 := (hbW.cell (p := ⟨w2.heap.size + 1, 3, none⟩) (by show w2.heap.size + 1 < _; omega)).trans e3
      replace e4 := (hbW.cell (p := ⟨w2.heap.size + 1, 4, none⟩) (by show w2.heap.size + 1 < _; omega)).trans e4
      replace e5 := (hbW.cell (p := ⟨w2.heap.size + 1, 5, none⟩) (by show w2.heap.size + 1 < _; omega)).trans e5
      have hzW := hbW.size
      have hbb := hb.trans (hbW.mono (by have := hb.size; omega))
      clear hcv hex hbW hb
      have HE := Lib.hid (And.intro a0 (And.intro a1 (And.intro a2 (And.intro e0 (And.intro e1 (And.intro e2 (And.intro e3 (And.intro e4 e5))))))))
      have HF := Lib.hid (And.intro f0 (And.intro f1 f2))
      go_loopw [53] (fun i wr => ∃ (j V : Nat), j ≤ 2 ∧ i = .int .i64 j ∧ V ≤ 9999 ∧ Hid (allD (([c8, c9] : List UInt8).take j) ∧ V = valD (([c8, c9] : List UInt8).take j)) ∧ (wr.cell? ⟨w2.heap.size, 2, none⟩ = some (.int .i64 V) ∧ wr.frozen? ⟨w2.heap.size, 2, none⟩ = false ∧ Hid ((∀ b o, (b ≠ w2.heap.size ∨ o ≠ 2) → b < W.heap.size → wr.cell? ⟨b, o, none⟩ = W.cell? ⟨b, o, none⟩) ∧ (∀ b o, b < W.heap.size → wr.frozen? ⟨b, o, none⟩ = W.frozen? ⟨b, o, none⟩))) ∧ Below w.heap.size w wr ∧ W.heap.size ≤ wr.heap.size) (fun i _ => 2 - (intOf i).toNat)
      case atStart => exact ⟨0, 0, by omega, rfl, by omega, ⟨fun c hc => by simp at hc, rfl⟩, ⟨a2, f2, ⟨fun _ _ _ _ => rfl, fun _ _ _ => rfl⟩⟩, hbb, Nat.le_refl _⟩
      case round =>
        obtain ⟨j, V, hj, rfl, hV, HD, ⟨hv, hf, HK⟩, hbv, hzv⟩ := hrel
        clear a0 a1 a2 f0 f1 f2 e0 e1 e2 e3 e4 e5 hbb
        have hsm : (w2.heap.size : Nat) < W.heap.size := by omega
        by_cases hlt : j < 2
        · obtain ⟨c, hc⟩ : ∃ c, ([c8, c9] : List UInt8)[j]? = some c := ⟨_, List.getElem?_eq_getElem (by simpa using hlt)⟩
          have hcell : wr.cell? ⟨wo.heap.size + 1, j, none⟩ = some (.int .u8 c.toNat) := (HK.out.1 _ _ (.inl (by omega)) hszW).trans (HY.out j c hc)
          have HC := Lib.hid hc
          clear hc
          have hcb := c.toNat_lt
          have j0 : (0 : Int) ≤ (j : Int) := by omega
          have j1 : (j : Int) < 2 := by omega
          have h9 := valD_999 HD.out.1 (by simp; omega)
          have hV9 : V ≤ 999 := by have := HD.out.2; omega
          clear h9
          by_cases hlow : c.toNat < 48
          · go_wp2
            go_ret
            exact ⟨rfl, hbv⟩
          · by_cases hhigh : 57 < c.toNat
            · go_wp2
              go_ret
              exact ⟨rfl, hbv⟩
            · go_wp2
              go_roundw
              case rel =>
                refine ⟨j + 1, 10 * V + (c.toNat - 48), by omega, by go_num, by omega, ?_, ⟨?_, ?_, ?_⟩, hbv.setCell (by have := hz2; omega) _, by simpa [World.setCell] using hzv⟩
                · show _ ∧ _
                  rw [take_snoc' HC.out, valD_snoc, ← HD.out.2]
                  exact ⟨allD_snoc HD.out.1 (by omega) (by omega), rfl⟩
                · rw [World.cell?_setCell_same' _ _ _ (by rw [hv]; rfl)]
                  first | rfl | (congr 2; omega)
                · rw [World.frozen?_setCell]; exact hf
                · refine ⟨fun b o hbo hl => ?_, fun b o hl => ?_⟩
                  · rw [World.cell?_setCell_other _ _ _ _ (by intro he; injection he with h1 h2 _; omega)]; exact HK.out.1 b o hbo hl
                  · rw [World.frozen?_setCell]; exact HK.out.2 b o hl
              case measure => first | (simp [intOf]; done) | (simp [intOf]; omega)
        · obtain rfl : j = 2 := by omega
          have HD2 : Hid (allD [c8, c9] ∧ V = valD [c8, c9]) := HD
          obtain ⟨a0, a1, a2, e0, e1, e2, e3, e4, e5⟩ := HE.out
          obtain ⟨f0, f1, f2⟩ := HF.out
          replace a0 := (HK.out.1 _ _ (.inr (by omega)) hsm).trans a0
          replace f0 := (HK.out.2 _ _ hsm).trans f0
          replace a1 := (HK.out.1 _ _ (.inr (by omega)) hsm).trans a1
          replace f1 := (HK.out.2 _ _ hsm).trans f1
          replace e0 := (HK.out.1 _ _ (.inl (by omega)) (by omega)).trans e0
          replace e1 := (HK.out.1 _ _ (.inl (by omega)) (by omega)).trans e1
          replace e2 := (HK.out.1 _ _ (.inl (by omega)) (by omega)).trans e2
          replace e3 := (HK.out.1 _ _ (.inl (by omega)) (by omega)).trans e3
          replace e4 := (HK.out.1 _ _ (.inl (by omega)) (by omega)).trans e4
          replace e5 := (HK.out.1 _ _ (.inl (by omega)) (by omega)).trans e5
          go_wp2
          go_roundw
          case rel =>
            exact ⟨3, N0, N1, V, by omega, by omega, rfl, ⟨fun _ => q0.out (by omega), fun _ => q1.out (by omega), fun _ => HD2.out, n0, n1, by have h1 := HD2.out.2; have h2 := valD_bd _ HD2.out.1; simp at h2; omega, fun h => by omega, fun h => by omega, fun h => by omega⟩, ⟨a0, a1, hv⟩, ⟨e0, e1, e2, e3, e4, e5⟩, ⟨f0, f1, hf⟩, hbv, by omega⟩
          case measure => simp [intOf]
    · have A0 := q0.out (by omega)
      have A1 := q1.out (by omega)
      have A2 := q2.out (by omega)
      have QA := Lib.hid (And.intro A0 (And.intro A1 A2))
      clear A0 A1 A2 q0 q1 q2 z0 z1 z2
      have LL := fun W => (longL_any (N0 : Int) (N1 : Int) W (by omega) (by omega)).mono (R' := fun e w' => e = .returned (.int .i64 (longI N0 N1)) ∧ ∃ n : Nat, w' = W.drewN n) fun e w' ⟨he, hw⟩ => ⟨he, 0, hw.symm⟩
      by_cases h4 : c4 = 45
      · subst h4
        have x4 : ({ data := #[c0, c1, c2, c3, 45, c5, c6, c7, c8, c9] } : ByteArray)[4]'(by show 4 < 10; omega) = 45 := rfl
        by_cases h7 : c7 = 45
        · subst h7
          have x7 : ({ data := #[c0, c1, c2, c3, 45, c5, c6, 45, c8, c9] } : ByteArray)[7]'(by show 7 < 10; omega) = 45 := rfl
          by_cases g0 : N0 < 1
          · have d0 : decide ((N0 : Int) < 1) = true := by simp; omega
            go_wp2
            go_quiet (fail)
            go_wp2
            go_ret
            exact ⟨by first | rfl | simp, (by (repeat (first | exact Below.refl _ _ | assumption | refine Below.drew ?_ | refine below_drewN ?_ _ | refine Below.alloc ?_ (by first | exact Nat.le_refl _ | omega | (simp <;> omega)) _ | refine Below.setCell ?_ (by first | exact Nat.le_refl _ | omega | (simp <;> omega)) _)))⟩
          · have d0 : decide ((N0 : Int) < 1) = false := by simp; omega
            by_cases g1 : N1 < 1
            · have d1 : decide ((N1 : Int) < 1) = true := by simp; omega
              go_wp2
              go_quiet (fail)
              go_wp2
              go_ret
              exact ⟨by first | rfl | simp, (by (repeat (first | exact Below.refl _ _ | assumption | refine Below.drew ?_ | refine below_drewN ?_ _ | refine Below.alloc ?_ (by first | exact Nat.le_refl _ | omega | (simp <;> omega)) _ | refine Below.setCell ?_ (by first | exact Nat.le_refl _ | omega | (simp <;> omega)) _)))⟩
            · have d1 : decide ((N1 : Int) < 1) = false := by simp; omega
              by_cases g2 : 12 < N1
              · have d2 : decide ((12 : Int) < N1) = true := by simp; omega
                go_wp2
                go_quiet (fail)
                go_wp2
                go_ret
                exact ⟨by first | rfl | simp, (by (repeat (first | exact Below.refl _ _ | assumption | refine Below.drew ?_ | refine below_drewN ?_ _ | refine Below.alloc ?_ (by first | exact Nat.le_refl _ | omega | (simp <;> omega)) _ | refine Below.setCell ?_ (by first | exact Nat.le_refl _ | omega | (simp <;> omega)) _)))⟩
              · have d2 : decide ((12 : Int) < N1) = false := by simp; omega
                by_cases g3 : N2 < 1
                · have d3 : decide ((N2 : Int) < 1) = true := by simp; omega
                  go_wp2
                  go_quiet (fail)
                  go_wp2
                  go_ret
                  exact ⟨by first | rfl | simp, (by (repeat (first | exact Below.refl _ _ | assumption | refine Below.drew ?_ | refine below_drewN ?_ _ | refine Below.alloc ?_ (by first | exact Nat.le_refl _ | omega | (simp <;> omega)) _ | refine Below.setCell ?_ (by first | exact Nat.le_refl _ | omega | (simp <;> omega)) _)))⟩
                · have d3 : decide ((N2 : Int) < 1) = false := by simp; omega
                  by_cases g4 : longI N0 N1 < N2
                  · have d4 : decide (longI N0 N1 < N2) = true := by simpa using g4
                    go_wp2
                    go_quiet ((go_at_call 19; exact Calls.quiet_of (LL _)))
                    go_wp2
                    go_ret
                    exact ⟨by first | rfl | simp, (by (repeat (first | exact Below.refl _ _ | assumption | refine Below.drew ?_ | refine below_drewN ?_ _ | refine Below.alloc ?_ (by first | exact Nat.le_refl _ | omega | (simp <;> omega)) _ | refine Below.setCell ?_ (by first | exact Nat.le_refl _ | omega | (simp <;> omega)) _)))⟩
                  · exfalso
                    obtain ⟨n, hn, ht⟩ := text_of_digits QA.out.1.1 QA.out.2.1.1 QA.out.2.2.1 (by
                      rw [← QA.out.1.2, ← QA.out.2.1.2, ← QA.out.2.2.2]
                      simp only [isDate, decide_eq_true_eq]
                      omega)
                    exact H.out n hn ht
        · have x7 : ({ data := #[c0, c1, c2, c3, 45, c5, c6, c7, c8, c9] } : ByteArray)[7]'(by show 7 < 10; omega) = c7 := rfl
          have b1 : ((c7.toNat : Int) != 45) = true := by have := byte_ne h7; rw [bne_iff_ne]; have e : ((45 : UInt8).toNat : Int) = 45 := rfl; omega
          have b2 : ((c7.toNat : Int) == 45) = false := by have := byte_ne h7; rw [beq_eq_false_iff_ne]; have e : ((45 : UInt8).toNat : Int) = 45 := rfl; omega
          have b3 : (c7.toNat != 45) = true := by have := byte_ne h7; rw [bne_iff_ne]; have e : ((45 : UInt8).toNat : Int) = 45 := rfl; omega
          have b4 : (c7.toNat == 45) = false := by have := byte_ne h7; rw [beq_eq_false_iff_ne]; have e : ((45 : UInt8).toNat : Int) = 45 := rfl; omega
          clear h7
          go_wp2
          go_quiet (fail)
          go_wp2
          go_ret
          exact ⟨by first | rfl | simp, (by (repeat (first | exact Below.refl _ _ | assumption | refine Below.drew ?_ | refine below_drewN ?_ _ | refine Below.alloc ?_ (by first | exact Nat.le_refl _ | omega | (simp <;> omega)) _ | refine Below.setCell ?_ (by first | exact Nat.le_refl _ | omega | (simp <;> omega)) _)))⟩
      · have x4 : ({ data := #[c0, c1, c2, c3, c4, c5, c6, c7, c8, c9] } : ByteArray)[4]'(by show 4 < 10; omega) = c4 := rfl
        have b1 : ((c4.toNat : Int) != 45) = true := by have := byte_ne h4; rw [bne_iff_ne]; have e : ((45 : UInt8).toNat : Int) = 45 := rfl; omega
        have b2 : ((c4.toNat : Int) == 45) = false := by have := byte_ne h4; rw [beq_eq_false_iff_ne]; have e : ((45 : UInt8).toNat : Int) = 45 := rfl; omega
        have b3 : (c4.toNat != 45) = true := by have := byte_ne h4; rw [bne_iff_ne]; have e : ((45 : UInt8).toNat : Int) = 45 := rfl; omega
        have b4 : (c4.toNat == 45) = false := by have := byte_ne h4; rw [beq_eq_false_iff_ne]; have e : ((45 : UInt8).toNat : Int) = 45 := rfl; omega
        clear h4
        go_wp2
        go_quiet (fail)
        go_wp2
        go_ret
        exact ⟨by first | rfl | simp, (by (repeat (first | exact Below.refl _ _ | assumption | refine Below.drew ?_ | refine below_drewN ?_ _ | refine Below.alloc ?_ (by first | exact Nat.le_refl _ | omega | (simp <;> omega)) _ | refine Below.setCell ?_ (by first | exact Nat.le_refl _ | omega | (simp <;> omega)) _)))⟩

theorem walk_CivilParses (a0 : ByteArray) (w0 : a0.size ≤ maxLen) (w : World) (hs : Std w) (hE : ErrStd w) :
    Calls Tryd.prog 11 #[.string a0] w fun e w' => e = .returned (.bool true) ∧ Below w.heap.size w w' := by
  unfold maxLen at w0
  by_cases hl : 30 < a0.size
  · exact parses_long a0 w0 hl w hs
  · obtain ⟨l, rfl⟩ : ∃ l : List UInt8, a0 = ⟨l.toArray⟩ := ⟨a0.data.toList, by cases a0; simp⟩
    have hll : l.length ≤ 30 := by have : (⟨l.toArray⟩ : ByteArray).size = l.length := by show l.toArray.size = _; simp
                                   omega
    by_cases hd : ∃ n, isDay n = true ∧ textL n = l
    · obtain ⟨n, hn, rfl⟩ := hd
      exact parses_day n hn w hs hE
    · have hno : ∀ n, isDay n = true → textL n ≠ l := fun n hn ht => hd ⟨n, hn, ht⟩
      by_cases h10 : l.length = 10
      · match l, h10 with
        | [c0, c1, c2, c3, c4, c5, c6, c7, c8, c9], _ => exact parses_ten c0 c1 c2 c3 c4 c5 c6 c7 c8 c9 hno w hs hE
      · exact parses_short l hll h10 hno w hs hE
end Go.Proofs.YtbldfkkpnngeeaaDoor
