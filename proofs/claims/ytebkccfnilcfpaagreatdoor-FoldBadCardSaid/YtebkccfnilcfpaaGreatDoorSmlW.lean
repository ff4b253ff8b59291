/- fold.Small, at any text. -/
import Derived.Test.YtebkccfnilcfpaaGreatDoorTblW
import Derived.Test.YtebkccfnilcfpaaGreatDoorBld
import Derived.Test.YtebkccfnilcfpaaGreatDoorFoldP
import Derived.MapKept
import Derived.BigCall
namespace Go.Proofs.YtebkccfnilcfpaaGreatDoor
set_option linter.unusedVariables false
set_option linter.unusedSimpArgs false
open Go Go.Sy Go.RowKit

def tO (c : Int) : Option Int := (tblL.find? fun p => p.1 == c).map (·.2)
def tblN (c : Nat) : Option Nat := (tO c).map (·.toNat)

theorem find_tbl (c : Int) : ∀ (es : List MapEntry) (l : List (Int × Int)) (i : Nat), EntsAre es l → ∃ r, Instr.findNow (.int .i32) (.int .i32 c) es i = some r ∧ r.map (·.2) = ((l.find? fun p => p.1 == c).map (·.2)).map (Value.int .i32)
  | [], [], i, _ => ⟨none, rfl, rfl⟩
  | e :: es, p :: l, i, h => by
    unfold EntsAre at h
    simp only [List.map_cons, List.cons.injEq, Prod.mk.injEq] at h
    obtain ⟨⟨hk, hv⟩, h⟩ := h
    simp only [Instr.findNow, hk, Instr.sameNow, if_true]
    by_cases hc : c = p.1
    · subst hc
      simp only [beq_self_eq_true, List.find?_cons_of_pos]
      exact ⟨_, rfl, by simp [hv]⟩
    · rw [beq_eq_false_iff_ne.2 hc]
      obtain ⟨r, h1, h2⟩ := find_tbl c es l (i + 1) h
      refine ⟨r, h1, ?_⟩
      rw [h2, List.find?_cons_of_neg]
      simpa using fun e => hc e.symm
  | [], _ :: _, _, h => by simp [EntsAre] at h
  | _ :: _, [], _, h => by simp [EntsAre] at h

theorem run_lookT {w : World} {m : Nat} {es : Array MapEntry} {clock : Nat} (hm : w.heap[m]? = some (.map es clock)) (he : EntsAre es.toList tblL) (c : Int) :
    (Instr.lookup 80 (.map (some m)) (.int .i32 c) true).run Tryz.prog w = .ok (.tuple #[.int .i32 ((tO c).getD 0), .bool (tO c).isSome]) w := by
  obtain ⟨r, h1, h2⟩ := find_tbl c es.toList tblL 0 he
  have hk := MapKept.run_findKey (P := Tryz.prog) (w := w) (kt := 21) Tryz.underlying21 h1
  have hc := MapKept.run_checkKey (P := Tryz.prog) (w := w) (kt := 21) (k := .int .i32 c) Tryz.underlying21 (by simp [MapKept.IsKey]) es.isEmpty 9999
  unfold Instr.lookup
  simp only [Sem.run_bind, run_underlying Tryz.underlying80, Result.andThen_ok, run_getMap hm, Sem.run_pure, hc, hk]
  have h2' : r.map (·.2) = (tO c).map (Value.int .i32) := h2
  cases r with
  | none =>
    have : tO c = none := by
      cases h : tO c with
      | none => rfl
      | some x => rw [h] at h2'; cases h2'
    rw [this]
    have hz : (zeroValue 21).run Tryz.prog w = .ok (.int .i32 0) w := by kernel_rfl
    simp [hz]
  | some q =>
    obtain ⟨x, hx⟩ : ∃ x, tO c = some x := by
      cases h : tO c with
      | none => rw [h] at h2'; cases h2'
      | some x => exact ⟨x, rfl⟩
    rw [hx] at h2' ⊢
    simp only [Option.map_some, Option.some.injEq] at h2'
    simp [h2']

theorem row_below {B : Nat} {e : TypeId} {k : Nat} {v : Value} {n : Nat} {xs : List Value} {w w' : World} (h : w.ownsRow B e k v n xs) (hb : Below w.heap.size w w') : w'.ownsRow B e k v n xs :=
  h.kept (row := none) ⟨hb.os, hb.tape, hb.output, hb.size, fun j hj _ => hb.block j hj⟩ (by cases hv : v.ownBlock <;> simp)

theorem tO_bd {c y : Int} (h : tO c = some y) : 0 ≤ y ∧ y ≤ 1000 := by
  unfold tO at h
  obtain ⟨p, hp, rfl⟩ := Option.map_eq_some_iff.1 h
  have hall : ∀ p ∈ tblL, 0 ≤ p.2 ∧ p.2 ≤ 1000 := by decide
  exact hall p (List.mem_of_find?_eq_some hp)

theorem bld_below {T e : TypeId} {B b : Nat} {bs : List Value} {w w' : World} (h : Lib.IsBuilder T e B b bs w) (hb : Below w.heap.size w w') : Lib.IsBuilder T e B b bs w' := by
  have key : ∀ {p : Value}, Lib.BuilderAt T e B b p bs w → Lib.BuilderAt T e B b p bs w' := fun {p} ⟨hB, v, hbk, hown, hne⟩ =>
    ⟨hB, v, by rw [hb.block b (Array.getElem?_eq_some_iff.1 hbk).1]; exact hbk, row_below hown hb, hne⟩
  exact h.elim (fun x => .inl (key x)) (fun x => .inr (key x))

theorem ext_list' (s : ByteArray) (p n : Nat) : (s.extract p (p + n)).data.toList = (s.data.toList.drop p).take n := by
  rw [ByteArray.data_extract]
  simp only [Array.toList_extract, List.extract_eq_take_drop, Nat.add_sub_cancel_left]

theorem decGo_at (s : ByteArray) (p : Nat) (h : p < s.size) : Lib.decodeGo (s.extract p s.size) = Lib.decodeL (s.data.toList.drop p) := by
  unfold Lib.decodeGo Lib.decodeL
  have e : (s.extract p s.size) = ⟨(s.data.toList.drop p).toArray⟩ := by
    apply ba_ext
    rw [ByteArray.data_extract]
    simp only [Array.toList_extract, List.extract_eq_take_drop]
    exact List.take_of_length_le (by simp)
  rw [if_neg (by simp; omega), e]

set_option maxHeartbeats 1000000 in
set_option maxRecDepth 100000 in
theorem small_any (s : ByteArray) (w : World) (hw : Wld w) (hs : s.size ≤ 1099511627776) :
    Calls Tryz.prog 28 #[.string s] w fun e w' => e = .returned (.string ⟨(small tblN s.data.toList).toArray⟩) ∧ Below w.heap.size w w' := by
  go_enter Tryz.func28, Tryz.ntmps28
  go_wp2_with (go_at_call 44; refine (table_any _ hw).mono ?_)
  rintro e w1 ⟨m, es, clock, rfl, hm, he, hb1⟩
  have hmlt : m < w1.heap.size := (Array.getElem?_eq_some_iff.1 hm).1
  have hw1 := hw.below hb1
  go_wp2
  go_loopw [5] (fun i wr => ∃ (p : Nat) (acc : List UInt8), i = .int .i64 p ∧ p ≤ s.size ∧ Hid (acc ++ small tblN (s.data.toList.drop p) = small tblN s.data.toList) ∧ acc.length ≤ 4 * p ∧ Lib.IsBuilder 61 5 w1.heap.size w1.heap.size (Lib.byteCells acc) wr ∧ Below w1.heap.size w1 wr) (fun i _ => s.size - (intOf i).toNat)
  case atStart =>
    refine ⟨0, [], rfl, Nat.zero_le _, Lib.hid (by simp), Nat.zero_le _, Lib.fresh_isBuilder _ _ _, (Below.refl _ _).alloc (Nat.le_refl _) _⟩
  case round =>
    obtain ⟨p, acc, rfl, hp, hacc, hal, hI, hbr⟩ := hrel
    have hwr := hw1.below hbr
    by_cases hlt : p < s.size
    · have hwd := Lib.decodeL_width (s.data.toList.drop p)
      have hne : s.data.toList.drop p ≠ [] := by
        intro e0
        have := congrArg List.length e0
        simp at this
        omega
      have hle := Lib.decodeL_le _ hne
      have hru := Lib.decodeL_rune (s.data.toList.drop p)
      have hst := small_step (tbl := tblN) hne
      have hln : (s.data.toList.drop p).length = s.size - p := by simp
      rw [hln] at hle
      have hde := decGo_at s p hlt
      obtain ⟨c, hc⟩ : ∃ c, (Lib.decodeL (s.data.toList.drop p)).1 = c := ⟨_, rfl⟩
      obtain ⟨n, hn⟩ : ∃ n, (Lib.decodeL (s.data.toList.drop p)).2 = n := ⟨_, rfl⟩
      rw [hc, hn] at hst
      rw [hn] at hwd hle
      rw [hc] at hru
      go_wp2_with (go_at_call 43; refine (Tryz.utf8_DecodeRuneInString _ _ hwr.u8).mono ?_)
      rintro e w2 ⟨rfl, hb2⟩
      rw [hde, hc, hn]
      have hm2 : w2.heap[m]? = some (.map es clock) := by rw [hb2.block m (by have := hbr.size; omega), hbr.block m hmlt]; exact hm
      have hlk := run_lookT hm2 he (c : Int)
      have hI2 := bld_below hI hb2
      have hbr2 : Below w1.heap.size w1 w2 := hbr.trans (hb2.mono hbr.size)
      have hsz2 := hbr2.size
      have hstep : ∀ q, (match tblN c with | some x => Lib.encodeRune x | none => (s.data.toList.drop p).take n) = q → Hid ((acc ++ q) ++ small tblN (s.data.toList.drop (p + n)) = small tblN s.data.toList) := fun q hq => Lib.hid (by
        subst hq
        rw [← hacc.out, hst, List.drop_drop, List.append_assoc]
        rfl)
      cases hx : tO (c : Int) with
      | none =>
        rw [hx] at hlk
        simp only [Option.getD_none, Option.isSome_none] at hlk
        go_wp2_with (go_at_call 33; refine (wstr_any w1.heap.size w1.heap.size _ _ _ hI2 ?_ hsz2).mono ?_)
        case refine_1 => rw [Lib.byteCells_length, ByteArray.size_extract]; omega
        rintro e w3 ⟨rfl, h3, hb3⟩
        have hcells : Lib.byteCells acc ++ Lib.strCells (s.extract p (p + n)) = Lib.byteCells (acc ++ (s.data.toList.drop p).take n) := by
          rw [Lib.strCells_eq, ext_list', Lib.byteCells_append]
        rw [hcells] at h3
        go_wp2
        go_roundw
        case rel =>
          exact ⟨p + n, acc ++ (s.data.toList.drop p).take n, by go_num, by omega, hstep _ (by unfold tblN; rw [hx]; rfl), by simp; omega, .inr h3, hbr2.trans hb3⟩
        case measure => simp [intOf]; omega
      | some y =>
        have hy := tO_bd hx
        rw [hx] at hlk
        simp only [Option.getD_some, Option.isSome_some] at hlk
        go_wp2_with (go_at_call 45; refine (wrune_any w1.heap.size w1.heap.size _ y (by omega) (by omega) _ hI2 (by rw [Lib.byteCells_length]; omega) hsz2).mono ?_)
        rintro e w3 ⟨rfl, h3, hb3⟩
        have hr4 := Lib.runeCells_le y
        rw [Lib.runeCells_length] at hr4
        go_wp2
        go_roundw
        case rel =>
          refine ⟨p + n, acc ++ Lib.encodeRune y, by go_num, by omega, hstep _ (by unfold tblN; rw [hx]; simp [Int.toNat_of_nonneg hy.1]), by simp; omega, ?_, hbr2.trans hb3⟩
          rw [Lib.byteCells_append, Lib.byteCells_encodeRune]
          exact .inr h3
        case measure => simp [intOf]; omega
    · obtain rfl : p = s.size := by omega
      have hfin : acc = small tblN s.data.toList := by
        have := hacc.out
        rw [List.drop_eq_nil_of_le (by simp), small_nil, List.append_nil] at this
        exact this
      go_wp2_with (go_at_call 34; refine (Tryz.Builder_String_any w1.heap.size w1.heap.size acc _ hI hbr.size).mono ?_)
      rintro e w3 ⟨rfl, hb3⟩
      go_wp2
      go_ret
      subst hfin
      exact ⟨rfl, hb1.trans ((hbr.mono hb1.size).trans (hb3.mono hb1.size))⟩
end Go.Proofs.YtebkccfnilcfpaaGreatDoor
