/- PluralReads. -/
import Derived.Test.YthcfhmdoelpbdaaGreatDoorReadG
namespace Go.Proofs.YthcfhmdoelpbdaaGreatDoor
set_option linter.unusedVariables false
set_option linter.unusedSimpArgs false
open Go Go.Sy Go.RowKit

def readsLC : LCtr := digLC 7 1020 97 0 10 0 [45, 46, 47, 48, 49, 50, 51, 52, 53, 54, 55, 56, 57, 58, 59, 60, 61, 62]

theorem readsLC_ok {FN : Fns} (hFN : ∀ s k, FN.int 10 [.string s, .int .i64 (k : Nat)] = ((k + digRun s k : Nat) : Int)) : LCtrOk FN readsLC :=
  digLC_ok hFN (by decide) (by kernel_rfl) (by decide) (by decide) (by decide) fun _ _ _ _ => by kernel_rfl

theorem pu_ok : ∀ (l : List UInt8) (acc : Nat), l.all isDig = true → (acc + 1) * 10 ^ l.length ≤ 1000000000000000000 → ∃ v, Lib.parseUint10 acc l = .ok v ∧ v < 1000000000000000000
  | [], acc, _, h => ⟨acc, rfl, by simp at h; omega⟩
  | c :: r, acc, hd, h => by
    simp only [List.all_cons, Bool.and_eq_true] at hd
    have hc := isDig_iff.1 hd.1
    have hp : 10 ^ (c :: r).length = 10 * 10 ^ r.length := by simp [Nat.pow_succ, Nat.mul_comm]
    rw [hp] at h
    have h1 : 1 ≤ 10 ^ r.length := Nat.one_le_pow _ _ (by decide)
    have hm : (acc + 1) * 10 * 10 ^ r.length ≤ 1000000000000000000 := by rw [Nat.mul_assoc]; exact h
    have h2 : (acc + 1) * 10 ≤ 1000000000000000000 := Nat.le_trans (Nat.le_mul_of_pos_right _ h1) hm
    obtain ⟨v, hv, hlt⟩ := pu_ok r (acc * 10 + (c.toNat - 48)) hd.2 (Nat.le_trans (Nat.mul_le_mul_right _ (by omega)) hm)
    refine ⟨v, ?_, hlt⟩
    simp only [Lib.parseUint10]
    rw [if_pos hc, if_neg (by omega), if_neg (by omega)]
    exact hv

theorem lead_list (s : ByteArray) : (lead s).data.toList = s.data.toList.takeWhile isDig := by
  have h : s.data.toList.takeWhile isDig <+: s.data.toList := List.takeWhile_prefix _
  have := List.prefix_iff_eq_take.1 h
  show (((s.data.toList.drop 0).take (digRun s 0 - 0)).toArray).toList = _
  simp only [List.drop_zero, Nat.sub_zero, digRun]
  exact this.symm

theorem lead_ok {s : ByteArray} (h1 : digRun s 0 ≠ 0) (h2 : digRun s 0 ≤ 9) : atoiOk (lead s) = true := by
  have hl := lead_list s
  have hd : digRun s 0 = (s.data.toList.takeWhile isDig).length := by simp [digRun]
  have ha : (s.data.toList.takeWhile isDig).all isDig = true := List.all_takeWhile
  unfold atoiOk
  rw [hl]
  rw [hd] at h1 h2
  generalize s.data.toList.takeWhile isDig = l at h1 h2 ha
  cases l with
  | nil => simp at h1
  | cons c r =>
    obtain ⟨v, hv, hlt⟩ := pu_ok (c :: r) 0 ha (by
      have : 10 ^ (c :: r).length ≤ 10 ^ 9 := Nat.pow_le_pow_right (by decide) h2
      omega)
    simp only [List.all_cons, Bool.and_eq_true] at ha
    have hc := isDig_iff.1 ha.1
    simp only [Lib.atoiAll]
    rw [if_neg (by omega)]
    have hm : Lib.parseMag (c :: r) = .ok v := by unfold Lib.parseMag; rw [if_neg (by simp)]; exact hv
    rw [hm]
    simp only
    rw [if_neg (by omega), if_neg (by omega)]

def fnRs : Fns where
  int i l := match i, l with
    | 10, [.string s, .int _ k] => ((k.toNat + digRun s k.toNat : Nat) : Int)
    | 11, [.string s] => atoiV s
    | 12, [.string s] => atoiE s
    | 20, [.string s] => atoiV (lead s)
    | _, _ => 0
  bool i l := match i, l with
    | 11, [.string s] => atoiOk s
    | 20, [.int _ k, .string s, .int _ m] => readOk k s m
    | _, _ => false
  str i l := match i, l with
    | 1, [.int _ k, .int _ n] => ordT k n
    | _, _ => ⟨#[]⟩
  val _ _ := .bool false

def readsT_e0 : Value := sv 10 [(sv 2 [.int .i64 0])]
def readsT_e1 : Value := sv 31 [.int .i64 20, readsT_e0]
def readsT_e2 : Value := sv 31 [.int .i64 1000000, readsT_e0]
def readsT_e3 : Value := sv 14 [.int .i64 0, (sv 0 [.int .u16 1])]
def readsT_e4 : Value := sv 31 [.int .i64 1000000000000, readsT_e3]
def readsT_e5 : Value := sv 24 [.int .u8 0, (sv 0 [.int .u8 0]), .int .u8 3]
def readsT_e6 : Value := sv 14 [.int .i64 0, readsT_e5]
def readsT_e7 : Value := sv 5 [.int .i64 20, readsT_e6, (sv 2 [.int .i64 0]), readsT_e3]
def readsT_e8 : Value := sv 4 [.int .i64 20, (sv 2 [.int .i64 0])]
def readsT_e9 : Value := sv 31 [readsT_e8, .int .i64 1]
def readsT_e10 : Value := sv 31 [readsT_e3, readsT_e8]
def readsT_e11 : Value := sv 31 [readsT_e8, .int .i64 0]
def readsT_e12 : Value := sv 31 [.int .i64 1000000000000, readsT_e8]
def readsT_e13 : Value := sv 6 [.int .i64 1, readsT_e6, readsT_e8]
def readsT_e14 : Value := sv 30 [readsT_e13, (sv 2 [.int .i64 0])]
def readsT_e15 : Value := sv 31 [readsT_e0, .int .i64 0]
def readsT_e16 : Value := sv 31 [.int .i64 4611686018427387904, readsT_e0]
def readsT_e17 : Value := sv 4 [.int .i64 10, (sv 2 [.int .i64 0]), .int .i64 0]
def readsT_e18 : Value := sv 30 [readsT_e17, .int .i64 0]
def readsT_e19 : Value := sv 31 [.int .i64 9, readsT_e17]
def readsT_e20 : Value := sv 31 [readsT_e17, .int .i64 0]
def readsT_e21 : Value := sv 31 [readsT_e0, readsT_e17]
def readsT_e22 : Value := sv 13 [(sv 2 [.int .i64 0]), .int .i64 0, readsT_e17]
def readsT_e23 : Value := sv 10 [readsT_e22]
def readsT_e24 : Value := sv 31 [.int .i64 1099511627776, readsT_e23]
def readsT_e25 : Value := sv 5 [.int .i64 11, readsT_e22]
def readsT_e26 : Value := sv 4 [.int .i64 11, readsT_e22]
def readsT_e27 : Value := sv 31 [readsT_e26, .int .i64 1]
def readsT_e28 : Value := sv 31 [readsT_e3, readsT_e26]
def readsT_e29 : Value := sv 31 [readsT_e26, .int .i64 0]
def readsT_e30 : Value := sv 31 [.int .i64 1000000000000, readsT_e26]
def readsT_e31 : Value := sv 6 [.int .i64 1, readsT_e6, readsT_e26]
def readsT_e32 : Value := sv 30 [readsT_e31, (sv 2 [.int .i64 0])]
def readsT_e33 : Value := sv 8 [readsT_e32]
def readsT_e34 : Value := sv 4 [.int .i64 12, readsT_e22]
def readsT_e35 : Value := sv 31 [readsT_e34, .int .i64 1]
def readsT_e36 : Value := sv 31 [readsT_e3, readsT_e34]
def readsT_e37 : Value := sv 31 [readsT_e34, .int .i64 0]
def readsT_e38 : Value := sv 31 [.int .i64 1000000000000, readsT_e34]
def readsT_e39 : Value := sv 6 [.int .i64 1, readsT_e6, readsT_e34]
def readsT_e40 : Value := sv 30 [readsT_e39, (sv 2 [.int .i64 0])]
def readsT_e41 : Value := sv 8 [readsT_e40]
def readsT : Tree := (.node readsT_e1
  (.leaf (.bool true))
  (.need readsT_e2 false
  (.need readsT_e4 false
  (.node readsT_e7
  (.node readsT_e9
  (.leaf (.bool false))
  (.node readsT_e10
  (.leaf (.bool false))
  (.need readsT_e11 false
  (.need readsT_e12 false
  (.leaf (readsT_e14))))))
  (.need readsT_e15 false
  (.need readsT_e16 false
  (.node readsT_e18
  (.leaf (.bool true))
  (.node readsT_e19
  (.leaf (.bool true))
  (.need readsT_e20 false
  (.need readsT_e21 false
  (.need readsT_e24 false
  (.node readsT_e25
  (.node readsT_e27
  (.leaf (.bool true))
  (.node readsT_e28
  (.leaf (.bool true))
  (.need readsT_e29 false
  (.need readsT_e30 false
  (.leaf (readsT_e33))))))
  (.node readsT_e35
  (.leaf (.bool true))
  (.node readsT_e36
  (.leaf (.bool true))
  (.need readsT_e37 false
  (.need readsT_e38 false
  (.leaf (readsT_e41))))))))))))))))))

theorem walk_PluralReads (a0 : ByteArray) (a1 a2 : Int) (w0 : a0.size ≤ 9223372036854775807) (w1 : (Lit.int .u8 a1).wf = true) (w2 : (Lit.int .u16 a2).wf = true) (w : World) (hs : Wld w) :
    Calls Tryz.prog 7 #[.string a0, .int .u8 a1, .int .u16 a2] w fun e w' => e = .returned (.bool true) ∧ Below w.heap.size w w' := by
  have b1 := bounds_u8 w1
  have b2 := bounds_u16 w2
  have hd := digRun_le (s := a0) (k := 0) (by omega)
  simp only [Nat.zero_add] at hd
  have hb := bext_size (s := a0) (l := 0) hd
  refine tree_loops (FN := fnRs) (K := noRows) (cs := [awC 13, ordLC, readGC, atoiC]) (ls := [readsLC]) (args := [sv 2 [.int .i64 0], sv 0 [.int .u8 0], sv 0 [.int .u16 1]]) (T := readsT) (F0 := []) (E := mkE fnRs rows0 [a1, a2] [] [a0] fun _ => undef) ?_ ?_ (fun _ _ _ _ => by kernel_rfl) (by intro p hp; cases hp) rfl rfl ?_ ?_ hs (by intro r hr; cases hr)
  · intro c hc
    simp only [List.mem_cons, List.not_mem_nil, or_false] at hc
    rcases hc with rfl | rfl | rfl | rfl
    · exact awC_ok aw7 fnRs
    · exact ordLC_okG fun _ _ => rfl
    · exact readGC_ok (fun _ _ _ => rfl) (fun _ => rfl)
    · exact atoiC_ok (fun _ => rfl) (fun _ => rfl) (fun _ => rfl)
  · intro c hc
    simp only [List.mem_cons, List.not_mem_nil, or_false] at hc
    subst hc
    exact readsLC_ok fun s k => by simp [fnRs]
  · have E0 : ∀ i, (mkE fnRs rows0 [a1, a2] [] [a0] fun _ => undef).int i = [a1, a2].getD i 0 := fun _ => rfl
    have E1 : ∀ i, (mkE fnRs rows0 [a1, a2] [] [a0] fun _ => undef).str i = [a0].getD i ⟨#[]⟩ := fun _ => rfl
    have E2 : (mkE fnRs rows0 [a1, a2] [] [a0] fun _ => undef).fns = fnRs := rfl
    have f10 : fnRs.int 10 [.string a0, .int .i64 0] = ((digRun a0 0 : Nat) : Int) := by simp [fnRs]
    have f11 : ∀ u, fnRs.int 11 [.string u] = atoiV u := fun _ => rfl
    have f12 : ∀ u, fnRs.int 12 [.string u] = atoiE u := fun _ => rfl
    have f20 : ∀ u, fnRs.int 20 [.string u] = atoiV (lead u) := fun _ => rfl
    have g11 : ∀ u, fnRs.bool 11 [.string u] = atoiOk u := fun _ => rfl
    have g20 : ∀ a b c, fnRs.bool 20 [.int .i64 a, .string b, .int .i64 c] = readOk a b c := fun _ _ _ => rfl
    have s1 : ∀ a b, fnRs.str 1 [.int .i64 a, .int .i64 b] = ordT a b := fun _ _ => rfl
    have h0 : ∀ n, den (mkE fnRs rows0 [a1, a2] [] [a0] fun _ => undef) (n + 3) readsT_e0 = some (.int .i64 ((a0.size : Int))) := by
      intro n
      simp (disch := omega) only [readsT_e0, den_i, den_b, den_s, den_sv, den_t, denL_nil, denL_cons, Option.bind_some, i0, i1, i2, i4, i5, i6, i8, i10, i13, i13z, i14, i15, i20, i21, i22, i23, i24, i30, i30s, i30b, i31, wr64, mk_int, mk_bool, mk_str, mk_fns, getD_z, getD_s, Int.reduceToNat, ↓reduceIte, Int.reduceEq, reduceCtorEq, Int.tmod_eq_emod_of_nonneg, Int.tdiv_eq_ediv_of_nonneg, f10, f11, f12, f20, g11, g20, s1]
    have h1 : ∀ n, den (mkE fnRs rows0 [a1, a2] [] [a0] fun _ => undef) (n + 4) readsT_e1 = some (.bool ((decide (20 < (a0.size : Int))))) := by
      intro n
      simp (disch := omega) only [readsT_e1, den_i, den_b, den_s, den_sv, den_t, denL_nil, denL_cons, Option.bind_some, i0, i1, i2, i4, i5, i6, i8, i10, i13, i13z, i14, i15, i20, i21, i22, i23, i24, i30, i30s, i30b, i31, wr64, mk_int, mk_bool, mk_str, mk_fns, getD_z, getD_s, Int.reduceToNat, ↓reduceIte, Int.reduceEq, reduceCtorEq, Int.tmod_eq_emod_of_nonneg, Int.tdiv_eq_ediv_of_nonneg, f10, f11, f12, f20, g11, g20, s1, h0]
    have h2 : ∀ n, den (mkE fnRs rows0 [a1, a2] [] [a0] fun _ => undef) (n + 4) readsT_e2 = some (.bool ((decide (1000000 < (a0.size : Int))))) := by
      intro n
      simp (disch := omega) only [readsT_e2, den_i, den_b, den_s, den_sv, den_t, denL_nil, denL_cons, Option.bind_some, i0, i1, i2, i4, i5, i6, i8, i10, i13, i13z, i14, i15, i20, i21, i22, i23, i24, i30, i30s, i30b, i31, wr64, mk_int, mk_bool, mk_str, mk_fns, getD_z, getD_s, Int.reduceToNat, ↓reduceIte, Int.reduceEq, reduceCtorEq, Int.tmod_eq_emod_of_nonneg, Int.tdiv_eq_ediv_of_nonneg, f10, f11, f12, f20, g11, g20, s1, h0]
    have h3 : ∀ n, den (mkE fnRs rows0 [a1, a2] [] [a0] fun _ => undef) (n + 3) readsT_e3 = some (.int .i64 a2) := by
      intro n
      simp (disch := omega) only [readsT_e3, den_i, den_b, den_s, den_sv, den_t, denL_nil, denL_cons, Option.bind_some, i0, i1, i2, i4, i5, i6, i8, i10, i13, i13z, i14, i15, i20, i21, i22, i23, i24, i30, i30s, i30b, i31, wr64, mk_int, mk_bool, mk_str, mk_fns, getD_z, getD_s, Int.reduceToNat, ↓reduceIte, Int.reduceEq, reduceCtorEq, Int.tmod_eq_emod_of_nonneg, Int.tdiv_eq_ediv_of_nonneg, f10, f11, f12, f20, g11, g20, s1]
    have h4 : ∀ n, den (mkE fnRs rows0 [a1, a2] [] [a0] fun _ => undef) (n + 4) readsT_e4 = some (.bool ((decide (1000000000000 < a2)))) := by
      intro n
      simp (disch := omega) only [readsT_e4, den_i, den_b, den_s, den_sv, den_t, denL_nil, denL_cons, Option.bind_some, i0, i1, i2, i4, i5, i6, i8, i10, i13, i13z, i14, i15, i20, i21, i22, i23, i24, i30, i30s, i30b, i31, wr64, mk_int, mk_bool, mk_str, mk_fns, getD_z, getD_s, Int.reduceToNat, ↓reduceIte, Int.reduceEq, reduceCtorEq, Int.tmod_eq_emod_of_nonneg, Int.tdiv_eq_ediv_of_nonneg, f10, f11, f12, f20, g11, g20, s1, h3]
    have h5 : ∀ n, den (mkE fnRs rows0 [a1, a2] [] [a0] fun _ => undef) (n + 3) readsT_e5 = some (.int .u8 ((a1 % 3))) := by
      intro n
      simp (disch := omega) only [readsT_e5, den_i, den_b, den_s, den_sv, den_t, denL_nil, denL_cons, Option.bind_some, i0, i1, i2, i4, i5, i6, i8, i10, i13, i13z, i14, i15, i20, i21, i22, i23, i24, i30, i30s, i30b, i31, wr64, mk_int, mk_bool, mk_str, mk_fns, getD_z, getD_s, Int.reduceToNat, ↓reduceIte, Int.reduceEq, reduceCtorEq, Int.tmod_eq_emod_of_nonneg, Int.tdiv_eq_ediv_of_nonneg, f10, f11, f12, f20, g11, g20, s1]
    have h6 : ∀ n, den (mkE fnRs rows0 [a1, a2] [] [a0] fun _ => undef) (n + 4) readsT_e6 = some (.int .i64 ((a1 % 3))) := by
      intro n
      simp (disch := omega) only [readsT_e6, den_i, den_b, den_s, den_sv, den_t, denL_nil, denL_cons, Option.bind_some, i0, i1, i2, i4, i5, i6, i8, i10, i13, i13z, i14, i15, i20, i21, i22, i23, i24, i30, i30s, i30b, i31, wr64, mk_int, mk_bool, mk_str, mk_fns, getD_z, getD_s, Int.reduceToNat, ↓reduceIte, Int.reduceEq, reduceCtorEq, Int.tmod_eq_emod_of_nonneg, Int.tdiv_eq_ediv_of_nonneg, f10, f11, f12, f20, g11, g20, s1, h5]
    have h7 : ∀ n, den (mkE fnRs rows0 [a1, a2] [] [a0] fun _ => undef) (n + 5) readsT_e7 = some (.bool ((readOk (a1 % 3) a0 a2))) := by
      intro n
      simp (disch := omega) only [readsT_e7, den_i, den_b, den_s, den_sv, den_t, denL_nil, denL_cons, Option.bind_some, i0, i1, i2, i4, i5, i6, i8, i10, i13, i13z, i14, i15, i20, i21, i22, i23, i24, i30, i30s, i30b, i31, wr64, mk_int, mk_bool, mk_str, mk_fns, getD_z, getD_s, Int.reduceToNat, ↓reduceIte, Int.reduceEq, reduceCtorEq, Int.tmod_eq_emod_of_nonneg, Int.tdiv_eq_ediv_of_nonneg, f10, f11, f12, f20, g11, g20, s1, h6, h3]
    have h8 : ∀ n, den (mkE fnRs rows0 [a1, a2] [] [a0] fun _ => undef) (n + 3) readsT_e8 = some (.int .i64 ((atoiV (lead a0)))) := by
      intro n
      simp (disch := omega) only [readsT_e8, den_i, den_b, den_s, den_sv, den_t, denL_nil, denL_cons, Option.bind_some, i0, i1, i2, i4, i5, i6, i8, i10, i13, i13z, i14, i15, i20, i21, i22, i23, i24, i30, i30s, i30b, i31, wr64, mk_int, mk_bool, mk_str, mk_fns, getD_z, getD_s, Int.reduceToNat, ↓reduceIte, Int.reduceEq, reduceCtorEq, Int.tmod_eq_emod_of_nonneg, Int.tdiv_eq_ediv_of_nonneg, f10, f11, f12, f20, g11, g20, s1]
    have h9 : ∀ n, den (mkE fnRs rows0 [a1, a2] [] [a0] fun _ => undef) (n + 4) readsT_e9 = some (.bool ((decide ((atoiV (lead a0)) < 1)))) := by
      intro n
      simp (disch := omega) only [readsT_e9, den_i, den_b, den_s, den_sv, den_t, denL_nil, denL_cons, Option.bind_some, i0, i1, i2, i4, i5, i6, i8, i10, i13, i13z, i14, i15, i20, i21, i22, i23, i24, i30, i30s, i30b, i31, wr64, mk_int, mk_bool, mk_str, mk_fns, getD_z, getD_s, Int.reduceToNat, ↓reduceIte, Int.reduceEq, reduceCtorEq, Int.tmod_eq_emod_of_nonneg, Int.tdiv_eq_ediv_of_nonneg, f10, f11, f12, f20, g11, g20, s1, h8]
    have h10 : ∀ n, den (mkE fnRs rows0 [a1, a2] [] [a0] fun _ => undef) (n + 4) readsT_e10 = some (.bool ((decide (a2 < (atoiV (lead a0)))))) := by
      intro n
      simp (disch := omega) only [readsT_e10, den_i, den_b, den_s, den_sv, den_t, denL_nil, denL_cons, Option.bind_some, i0, i1, i2, i4, i5, i6, i8, i10, i13, i13z, i14, i15, i20, i21, i22, i23, i24, i30, i30s, i30b, i31, wr64, mk_int, mk_bool, mk_str, mk_fns, getD_z, getD_s, Int.reduceToNat, ↓reduceIte, Int.reduceEq, reduceCtorEq, Int.tmod_eq_emod_of_nonneg, Int.tdiv_eq_ediv_of_nonneg, f10, f11, f12, f20, g11, g20, s1, h3, h8]
    have h11 : ∀ n, den (mkE fnRs rows0 [a1, a2] [] [a0] fun _ => undef) (n + 4) readsT_e11 = some (.bool ((decide ((atoiV (lead a0)) < 0)))) := by
      intro n
      simp (disch := omega) only [readsT_e11, den_i, den_b, den_s, den_sv, den_t, denL_nil, denL_cons, Option.bind_some, i0, i1, i2, i4, i5, i6, i8, i10, i13, i13z, i14, i15, i20, i21, i22, i23, i24, i30, i30s, i30b, i31, wr64, mk_int, mk_bool, mk_str, mk_fns, getD_z, getD_s, Int.reduceToNat, ↓reduceIte, Int.reduceEq, reduceCtorEq, Int.tmod_eq_emod_of_nonneg, Int.tdiv_eq_ediv_of_nonneg, f10, f11, f12, f20, g11, g20, s1, h8]
    have h12 : ∀ n, den (mkE fnRs rows0 [a1, a2] [] [a0] fun _ => undef) (n + 4) readsT_e12 = some (.bool ((decide (1000000000000 < (atoiV (lead a0)))))) := by
      intro n
      simp (disch := omega) only [readsT_e12, den_i, den_b, den_s, den_sv, den_t, denL_nil, denL_cons, Option.bind_some, i0, i1, i2, i4, i5, i6, i8, i10, i13, i13z, i14, i15, i20, i21, i22, i23, i24, i30, i30s, i30b, i31, wr64, mk_int, mk_bool, mk_str, mk_fns, getD_z, getD_s, Int.reduceToNat, ↓reduceIte, Int.reduceEq, reduceCtorEq, Int.tmod_eq_emod_of_nonneg, Int.tdiv_eq_ediv_of_nonneg, f10, f11, f12, f20, g11, g20, s1, h8]
    have h13 : ∀ n, den (mkE fnRs rows0 [a1, a2] [] [a0] fun _ => undef) (n + 5) readsT_e13 = some (.string ((ordT (a1 % 3) (atoiV (lead a0))))) := by
      intro n
      simp (disch := omega) only [readsT_e13, den_i, den_b, den_s, den_sv, den_t, denL_nil, denL_cons, Option.bind_some, i0, i1, i2, i4, i5, i6, i8, i10, i13, i13z, i14, i15, i20, i21, i22, i23, i24, i30, i30s, i30b, i31, wr64, mk_int, mk_bool, mk_str, mk_fns, getD_z, getD_s, Int.reduceToNat, ↓reduceIte, Int.reduceEq, reduceCtorEq, Int.tmod_eq_emod_of_nonneg, Int.tdiv_eq_ediv_of_nonneg, f10, f11, f12, f20, g11, g20, s1, h6, h8]
    have h14 : ∀ n, den (mkE fnRs rows0 [a1, a2] [] [a0] fun _ => undef) (n + 6) readsT_e14 = some (.bool ((decide ((ordT (a1 % 3) (atoiV (lead a0))) = a0)))) := by
      intro n
      simp (disch := omega) only [readsT_e14, den_i, den_b, den_s, den_sv, den_t, denL_nil, denL_cons, Option.bind_some, i0, i1, i2, i4, i5, i6, i8, i10, i13, i13z, i14, i15, i20, i21, i22, i23, i24, i30, i30s, i30b, i31, wr64, mk_int, mk_bool, mk_str, mk_fns, getD_z, getD_s, Int.reduceToNat, ↓reduceIte, Int.reduceEq, reduceCtorEq, Int.tmod_eq_emod_of_nonneg, Int.tdiv_eq_ediv_of_nonneg, f10, f11, f12, f20, g11, g20, s1, h13]
    have h15 : ∀ n, den (mkE fnRs rows0 [a1, a2] [] [a0] fun _ => undef) (n + 4) readsT_e15 = some (.bool ((decide ((a0.size : Int) < 0)))) := by
      intro n
      simp (disch := omega) only [readsT_e15, den_i, den_b, den_s, den_sv, den_t, denL_nil, denL_cons, Option.bind_some, i0, i1, i2, i4, i5, i6, i8, i10, i13, i13z, i14, i15, i20, i21, i22, i23, i24, i30, i30s, i30b, i31, wr64, mk_int, mk_bool, mk_str, mk_fns, getD_z, getD_s, Int.reduceToNat, ↓reduceIte, Int.reduceEq, reduceCtorEq, Int.tmod_eq_emod_of_nonneg, Int.tdiv_eq_ediv_of_nonneg, f10, f11, f12, f20, g11, g20, s1, h0]
    have h16 : ∀ n, den (mkE fnRs rows0 [a1, a2] [] [a0] fun _ => undef) (n + 4) readsT_e16 = some (.bool ((decide (4611686018427387904 < (a0.size : Int))))) := by
      intro n
      simp (disch := omega) only [readsT_e16, den_i, den_b, den_s, den_sv, den_t, denL_nil, denL_cons, Option.bind_some, i0, i1, i2, i4, i5, i6, i8, i10, i13, i13z, i14, i15, i20, i21, i22, i23, i24, i30, i30s, i30b, i31, wr64, mk_int, mk_bool, mk_str, mk_fns, getD_z, getD_s, Int.reduceToNat, ↓reduceIte, Int.reduceEq, reduceCtorEq, Int.tmod_eq_emod_of_nonneg, Int.tdiv_eq_ediv_of_nonneg, f10, f11, f12, f20, g11, g20, s1, h0]
    have h17 : ∀ n, den (mkE fnRs rows0 [a1, a2] [] [a0] fun _ => undef) (n + 3) readsT_e17 = some (.int .i64 ((((digRun a0 0 : Nat) : Int)))) := by
      intro n
      simp (disch := omega) only [readsT_e17, den_i, den_b, den_s, den_sv, den_t, denL_nil, denL_cons, Option.bind_some, i0, i1, i2, i4, i5, i6, i8, i10, i13, i13z, i14, i15, i20, i21, i22, i23, i24, i30, i30s, i30b, i31, wr64, mk_int, mk_bool, mk_str, mk_fns, getD_z, getD_s, Int.reduceToNat, ↓reduceIte, Int.reduceEq, reduceCtorEq, Int.tmod_eq_emod_of_nonneg, Int.tdiv_eq_ediv_of_nonneg, f10, f11, f12, f20, g11, g20, s1]
    have h18 : ∀ n, den (mkE fnRs rows0 [a1, a2] [] [a0] fun _ => undef) (n + 4) readsT_e18 = some (.bool ((decide ((((digRun a0 0 : Nat) : Int)) = 0)))) := by
      intro n
      simp (disch := omega) only [readsT_e18, den_i, den_b, den_s, den_sv, den_t, denL_nil, denL_cons, Option.bind_some, i0, i1, i2, i4, i5, i6, i8, i10, i13, i13z, i14, i15, i20, i21, i22, i23, i24, i30, i30s, i30b, i31, wr64, mk_int, mk_bool, mk_str, mk_fns, getD_z, getD_s, Int.reduceToNat, ↓reduceIte, Int.reduceEq, reduceCtorEq, Int.tmod_eq_emod_of_nonneg, Int.tdiv_eq_ediv_of_nonneg, f10, f11, f12, f20, g11, g20, s1, h17]
    have h19 : ∀ n, den (mkE fnRs rows0 [a1, a2] [] [a0] fun _ => undef) (n + 4) readsT_e19 = some (.bool ((decide (9 < (((digRun a0 0 : Nat) : Int)))))) := by
      intro n
      simp (disch := omega) only [readsT_e19, den_i, den_b, den_s, den_sv, den_t, denL_nil, denL_cons, Option.bind_some, i0, i1, i2, i4, i5, i6, i8, i10, i13, i13z, i14, i15, i20, i21, i22, i23, i24, i30, i30s, i30b, i31, wr64, mk_int, mk_bool, mk_str, mk_fns, getD_z, getD_s, Int.reduceToNat, ↓reduceIte, Int.reduceEq, reduceCtorEq, Int.tmod_eq_emod_of_nonneg, Int.tdiv_eq_ediv_of_nonneg, f10, f11, f12, f20, g11, g20, s1, h17]
    have h20 : ∀ n, den (mkE fnRs rows0 [a1, a2] [] [a0] fun _ => undef) (n + 4) readsT_e20 = some (.bool ((decide ((((digRun a0 0 : Nat) : Int)) < 0)))) := by
      intro n
      simp (disch := omega) only [readsT_e20, den_i, den_b, den_s, den_sv, den_t, denL_nil, denL_cons, Option.bind_some, i0, i1, i2, i4, i5, i6, i8, i10, i13, i13z, i14, i15, i20, i21, i22, i23, i24, i30, i30s, i30b, i31, wr64, mk_int, mk_bool, mk_str, mk_fns, getD_z, getD_s, Int.reduceToNat, ↓reduceIte, Int.reduceEq, reduceCtorEq, Int.tmod_eq_emod_of_nonneg, Int.tdiv_eq_ediv_of_nonneg, f10, f11, f12, f20, g11, g20, s1, h17]
    have h21 : ∀ n, den (mkE fnRs rows0 [a1, a2] [] [a0] fun _ => undef) (n + 4) readsT_e21 = some (.bool ((decide ((a0.size : Int) < (((digRun a0 0 : Nat) : Int)))))) := by
      intro n
      simp (disch := omega) only [readsT_e21, den_i, den_b, den_s, den_sv, den_t, denL_nil, denL_cons, Option.bind_some, i0, i1, i2, i4, i5, i6, i8, i10, i13, i13z, i14, i15, i20, i21, i22, i23, i24, i30, i30s, i30b, i31, wr64, mk_int, mk_bool, mk_str, mk_fns, getD_z, getD_s, Int.reduceToNat, ↓reduceIte, Int.reduceEq, reduceCtorEq, Int.tmod_eq_emod_of_nonneg, Int.tdiv_eq_ediv_of_nonneg, f10, f11, f12, f20, g11, g20, s1, h0, h17]
    have h22 : ∀ n, den (mkE fnRs rows0 [a1, a2] [] [a0] fun _ => undef) (n + 4) readsT_e22 = some (.string ((bext a0 0 (digRun a0 0)))) := by
      intro n
      simp (disch := omega) only [readsT_e22, den_i, den_b, den_s, den_sv, den_t, denL_nil, denL_cons, Option.bind_some, i0, i1, i2, i4, i5, i6, i8, i10, i13, i13z, i14, i15, i20, i21, i22, i23, i24, i30, i30s, i30b, i31, wr64, mk_int, mk_bool, mk_str, mk_fns, getD_z, getD_s, Int.reduceToNat, ↓reduceIte, Int.reduceEq, reduceCtorEq, Int.tmod_eq_emod_of_nonneg, Int.tdiv_eq_ediv_of_nonneg, f10, f11, f12, f20, g11, g20, s1, h17]
    have h23 : ∀ n, den (mkE fnRs rows0 [a1, a2] [] [a0] fun _ => undef) (n + 5) readsT_e23 = some (.int .i64 ((((bext a0 0 (digRun a0 0))).size : Int))) := by
      intro n
      simp (disch := omega) only [readsT_e23, den_i, den_b, den_s, den_sv, den_t, denL_nil, denL_cons, Option.bind_some, i0, i1, i2, i4, i5, i6, i8, i10, i13, i13z, i14, i15, i20, i21, i22, i23, i24, i30, i30s, i30b, i31, wr64, mk_int, mk_bool, mk_str, mk_fns, getD_z, getD_s, Int.reduceToNat, ↓reduceIte, Int.reduceEq, reduceCtorEq, Int.tmod_eq_emod_of_nonneg, Int.tdiv_eq_ediv_of_nonneg, f10, f11, f12, f20, g11, g20, s1, h22]
    have h24 : ∀ n, den (mkE fnRs rows0 [a1, a2] [] [a0] fun _ => undef) (n + 6) readsT_e24 = some (.bool ((decide (1099511627776 < (((bext a0 0 (digRun a0 0))).size : Int))))) := by
      intro n
      simp (disch := omega) only [readsT_e24, den_i, den_b, den_s, den_sv, den_t, denL_nil, denL_cons, Option.bind_some, i0, i1, i2, i4, i5, i6, i8, i10, i13, i13z, i14, i15, i20, i21, i22, i23, i24, i30, i30s, i30b, i31, wr64, mk_int, mk_bool, mk_str, mk_fns, getD_z, getD_s, Int.reduceToNat, ↓reduceIte, Int.reduceEq, reduceCtorEq, Int.tmod_eq_emod_of_nonneg, Int.tdiv_eq_ediv_of_nonneg, f10, f11, f12, f20, g11, g20, s1, h23]
    have h25 : ∀ n, den (mkE fnRs rows0 [a1, a2] [] [a0] fun _ => undef) (n + 5) readsT_e25 = some (.bool ((atoiOk (bext a0 0 (digRun a0 0))))) := by
      intro n
      simp (disch := omega) only [readsT_e25, den_i, den_b, den_s, den_sv, den_t, denL_nil, denL_cons, Option.bind_some, i0, i1, i2, i4, i5, i6, i8, i10, i13, i13z, i14, i15, i20, i21, i22, i23, i24, i30, i30s, i30b, i31, wr64, mk_int, mk_bool, mk_str, mk_fns, getD_z, getD_s, Int.reduceToNat, ↓reduceIte, Int.reduceEq, reduceCtorEq, Int.tmod_eq_emod_of_nonneg, Int.tdiv_eq_ediv_of_nonneg, f10, f11, f12, f20, g11, g20, s1, h22]
    have h26 : ∀ n, den (mkE fnRs rows0 [a1, a2] [] [a0] fun _ => undef) (n + 5) readsT_e26 = some (.int .i64 ((atoiV (bext a0 0 (digRun a0 0))))) := by
      intro n
      simp (disch := omega) only [readsT_e26, den_i, den_b, den_s, den_sv, den_t, denL_nil, denL_cons, Option.bind_some, i0, i1, i2, i4, i5, i6, i8, i10, i13, i13z, i14, i15, i20, i21, i22, i23, i24, i30, i30s, i30b, i31, wr64, mk_int, mk_bool, mk_str, mk_fns, getD_z, getD_s, Int.reduceToNat, ↓reduceIte, Int.reduceEq, reduceCtorEq, Int.tmod_eq_emod_of_nonneg, Int.tdiv_eq_ediv_of_nonneg, f10, f11, f12, f20, g11, g20, s1, h22]
    have h27 : ∀ n, den (mkE fnRs rows0 [a1, a2] [] [a0] fun _ => undef) (n + 6) readsT_e27 = some (.bool ((decide ((atoiV (bext a0 0 (digRun a0 0))) < 1)))) := by
      intro n
      simp (disch := omega) only [readsT_e27, den_i, den_b, den_s, den_sv, den_t, denL_nil, denL_cons, Option.bind_some, i0, i1, i2, i4, i5, i6, i8, i10, i13, i13z, i14, i15, i20, i21, i22, i23, i24, i30, i30s, i30b, i31, wr64, mk_int, mk_bool, mk_str, mk_fns, getD_z, getD_s, Int.reduceToNat, ↓reduceIte, Int.reduceEq, reduceCtorEq, Int.tmod_eq_emod_of_nonneg, Int.tdiv_eq_ediv_of_nonneg, f10, f11, f12, f20, g11, g20, s1, h26]
    have h28 : ∀ n, den (mkE fnRs rows0 [a1, a2] [] [a0] fun _ => undef) (n + 6) readsT_e28 = some (.bool ((decide (a2 < (atoiV (bext a0 0 (digRun a0 0))))))) := by
      intro n
      simp (disch := omega) only [readsT_e28, den_i, den_b, den_s, den_sv, den_t, denL_nil, denL_cons, Option.bind_some, i0, i1, i2, i4, i5, i6, i8, i10, i13, i13z, i14, i15, i20, i21, i22, i23, i24, i30, i30s, i30b, i31, wr64, mk_int, mk_bool, mk_str, mk_fns, getD_z, getD_s, Int.reduceToNat, ↓reduceIte, Int.reduceEq, reduceCtorEq, Int.tmod_eq_emod_of_nonneg, Int.tdiv_eq_ediv_of_nonneg, f10, f11, f12, f20, g11, g20, s1, h3, h26]
    have h29 : ∀ n, den (mkE fnRs rows0 [a1, a2] [] [a0] fun _ => undef) (n + 6) readsT_e29 = some (.bool ((decide ((atoiV (bext a0 0 (digRun a0 0))) < 0)))) := by
      intro n
      simp (disch := omega) only [readsT_e29, den_i, den_b, den_s, den_sv, den_t, denL_nil, denL_cons, Option.bind_some, i0, i1, i2, i4, i5, i6, i8, i10, i13, i13z, i14, i15, i20, i21, i22, i23, i24, i30, i30s, i30b, i31, wr64, mk_int, mk_bool, mk_str, mk_fns, getD_z, getD_s, Int.reduceToNat, ↓reduceIte, Int.reduceEq, reduceCtorEq, Int.tmod_eq_emod_of_nonneg, Int.tdiv_eq_ediv_of_nonneg, f10, f11, f12, f20, g11, g20, s1, h26]
    have h30 : ∀ n, den (mkE fnRs rows0 [a1, a2] [] [a0] fun _ => undef) (n + 6) readsT_e30 = some (.bool ((decide (1000000000000 < (atoiV (bext a0 0 (digRun a0 0))))))) := by
      intro n
      simp (disch := omega) only [readsT_e30, den_i, den_b, den_s, den_sv, den_t, denL_nil, denL_cons, Option.bind_some, i0, i1, i2, i4, i5, i6, i8, i10, i13, i13z, i14, i15, i20, i21, i22, i23, i24, i30, i30s, i30b, i31, wr64, mk_int, mk_bool, mk_str, mk_fns, getD_z, getD_s, Int.reduceToNat, ↓reduceIte, Int.reduceEq, reduceCtorEq, Int.tmod_eq_emod_of_nonneg, Int.tdiv_eq_ediv_of_nonneg, f10, f11, f12, f20, g11, g20, s1, h26]
    have h31 : ∀ n, den (mkE fnRs rows0 [a1, a2] [] [a0] fun _ => undef) (n + 6) readsT_e31 = some (.string ((ordT (a1 % 3) (atoiV (bext a0 0 (digRun a0 0)))))) := by
      intro n
      simp (disch := omega) only [readsT_e31, den_i, den_b, den_s, den_sv, den_t, denL_nil, denL_cons, Option.bind_some, i0, i1, i2, i4, i5, i6, i8, i10, i13, i13z, i14, i15, i20, i21, i22, i23, i24, i30, i30s, i30b, i31, wr64, mk_int, mk_bool, mk_str, mk_fns, getD_z, getD_s, Int.reduceToNat, ↓reduceIte, Int.reduceEq, reduceCtorEq, Int.tmod_eq_emod_of_nonneg, Int.tdiv_eq_ediv_of_nonneg, f10, f11, f12, f20, g11, g20, s1, h6, h26]
    have h32 : ∀ n, den (mkE fnRs rows0 [a1, a2] [] [a0] fun _ => undef) (n + 7) readsT_e32 = some (.bool ((decide ((ordT (a1 % 3) (atoiV (bext a0 0 (digRun a0 0)))) = a0)))) := by
      intro n
      simp (disch := omega) only [readsT_e32, den_i, den_b, den_s, den_sv, den_t, denL_nil, denL_cons, Option.bind_some, i0, i1, i2, i4, i5, i6, i8, i10, i13, i13z, i14, i15, i20, i21, i22, i23, i24, i30, i30s, i30b, i31, wr64, mk_int, mk_bool, mk_str, mk_fns, getD_z, getD_s, Int.reduceToNat, ↓reduceIte, Int.reduceEq, reduceCtorEq, Int.tmod_eq_emod_of_nonneg, Int.tdiv_eq_ediv_of_nonneg, f10, f11, f12, f20, g11, g20, s1, h31]
    have h33 : ∀ n, den (mkE fnRs rows0 [a1, a2] [] [a0] fun _ => undef) (n + 8) readsT_e33 = some (.bool ((!(decide ((ordT (a1 % 3) (atoiV (bext a0 0 (digRun a0 0)))) = a0))))) := by
      intro n
      simp (disch := omega) only [readsT_e33, den_i, den_b, den_s, den_sv, den_t, denL_nil, denL_cons, Option.bind_some, i0, i1, i2, i4, i5, i6, i8, i10, i13, i13z, i14, i15, i20, i21, i22, i23, i24, i30, i30s, i30b, i31, wr64, mk_int, mk_bool, mk_str, mk_fns, getD_z, getD_s, Int.reduceToNat, ↓reduceIte, Int.reduceEq, reduceCtorEq, Int.tmod_eq_emod_of_nonneg, Int.tdiv_eq_ediv_of_nonneg, f10, f11, f12, f20, g11, g20, s1, h32]
    have h34 : ∀ n, den (mkE fnRs rows0 [a1, a2] [] [a0] fun _ => undef) (n + 5) readsT_e34 = some (.int .i64 ((atoiE (bext a0 0 (digRun a0 0))))) := by
      intro n
      simp (disch := omega) only [readsT_e34, den_i, den_b, den_s, den_sv, den_t, denL_nil, denL_cons, Option.bind_some, i0, i1, i2, i4, i5, i6, i8, i10, i13, i13z, i14, i15, i20, i21, i22, i23, i24, i30, i30s, i30b, i31, wr64, mk_int, mk_bool, mk_str, mk_fns, getD_z, getD_s, Int.reduceToNat, ↓reduceIte, Int.reduceEq, reduceCtorEq, Int.tmod_eq_emod_of_nonneg, Int.tdiv_eq_ediv_of_nonneg, f10, f11, f12, f20, g11, g20, s1, h22]
    have h35 : ∀ n, den (mkE fnRs rows0 [a1, a2] [] [a0] fun _ => undef) (n + 6) readsT_e35 = some (.bool ((decide ((atoiE (bext a0 0 (digRun a0 0))) < 1)))) := by
      intro n
      simp (disch := omega) only [readsT_e35, den_i, den_b, den_s, den_sv, den_t, denL_nil, denL_cons, Option.bind_some, i0, i1, i2, i4, i5, i6, i8, i10, i13, i13z, i14, i15, i20, i21, i22, i23, i24, i30, i30s, i30b, i31, wr64, mk_int, mk_bool, mk_str, mk_fns, getD_z, getD_s, Int.reduceToNat, ↓reduceIte, Int.reduceEq, reduceCtorEq, Int.tmod_eq_emod_of_nonneg, Int.tdiv_eq_ediv_of_nonneg, f10, f11, f12, f20, g11, g20, s1, h34]
    have h36 : ∀ n, den (mkE fnRs rows0 [a1, a2] [] [a0] fun _ => undef) (n + 6) readsT_e36 = some (.bool ((decide (a2 < (atoiE (bext a0 0 (digRun a0 0))))))) := by
      intro n
      simp (disch := omega) only [readsT_e36, den_i, den_b, den_s, den_sv, den_t, denL_nil, denL_cons, Option.bind_some, i0, i1, i2, i4, i5, i6, i8, i10, i13, i13z, i14, i15, i20, i21, i22, i23, i24, i30, i30s, i30b, i31, wr64, mk_int, mk_bool, mk_str, mk_fns, getD_z, getD_s, Int.reduceToNat, ↓reduceIte, Int.reduceEq, reduceCtorEq, Int.tmod_eq_emod_of_nonneg, Int.tdiv_eq_ediv_of_nonneg, f10, f11, f12, f20, g11, g20, s1, h3, h34]
    have h37 : ∀ n, den (mkE fnRs rows0 [a1, a2] [] [a0] fun _ => undef) (n + 6) readsT_e37 = some (.bool ((decide ((atoiE (bext a0 0 (digRun a0 0))) < 0)))) := by
      intro n
      simp (disch := omega) only [readsT_e37, den_i, den_b, den_s, den_sv, den_t, denL_nil, denL_cons, Option.bind_some, i0, i1, i2, i4, i5, i6, i8, i10, i13, i13z, i14, i15, i20, i21, i22, i23, i24, i30, i30s, i30b, i31, wr64, mk_int, mk_bool, mk_str, mk_fns, getD_z, getD_s, Int.reduceToNat, ↓reduceIte, Int.reduceEq, reduceCtorEq, Int.tmod_eq_emod_of_nonneg, Int.tdiv_eq_ediv_of_nonneg, f10, f11, f12, f20, g11, g20, s1, h34]
    have h38 : ∀ n, den (mkE fnRs rows0 [a1, a2] [] [a0] fun _ => undef) (n + 6) readsT_e38 = some (.bool ((decide (1000000000000 < (atoiE (bext a0 0 (digRun a0 0))))))) := by
      intro n
      simp (disch := omega) only [readsT_e38, den_i, den_b, den_s, den_sv, den_t, denL_nil, denL_cons, Option.bind_some, i0, i1, i2, i4, i5, i6, i8, i10, i13, i13z, i14, i15, i20, i21, i22, i23, i24, i30, i30s, i30b, i31, wr64, mk_int, mk_bool, mk_str, mk_fns, getD_z, getD_s, Int.reduceToNat, ↓reduceIte, Int.reduceEq, reduceCtorEq, Int.tmod_eq_emod_of_nonneg, Int.tdiv_eq_ediv_of_nonneg, f10, f11, f12, f20, g11, g20, s1, h34]
    have h39 : ∀ n, den (mkE fnRs rows0 [a1, a2] [] [a0] fun _ => undef) (n + 6) readsT_e39 = some (.string ((ordT (a1 % 3) (atoiE (bext a0 0 (digRun a0 0)))))) := by
      intro n
      simp (disch := omega) only [readsT_e39, den_i, den_b, den_s, den_sv, den_t, denL_nil, denL_cons, Option.bind_some, i0, i1, i2, i4, i5, i6, i8, i10, i13, i13z, i14, i15, i20, i21, i22, i23, i24, i30, i30s, i30b, i31, wr64, mk_int, mk_bool, mk_str, mk_fns, getD_z, getD_s, Int.reduceToNat, ↓reduceIte, Int.reduceEq, reduceCtorEq, Int.tmod_eq_emod_of_nonneg, Int.tdiv_eq_ediv_of_nonneg, f10, f11, f12, f20, g11, g20, s1, h6, h34]
    have h40 : ∀ n, den (mkE fnRs rows0 [a1, a2] [] [a0] fun _ => undef) (n + 7) readsT_e40 = some (.bool ((decide ((ordT (a1 % 3) (atoiE (bext a0 0 (digRun a0 0)))) = a0)))) := by
      intro n
      simp (disch := omega) only [readsT_e40, den_i, den_b, den_s, den_sv, den_t, denL_nil, denL_cons, Option.bind_some, i0, i1, i2, i4, i5, i6, i8, i10, i13, i13z, i14, i15, i20, i21, i22, i23, i24, i30, i30s, i30b, i31, wr64, mk_int, mk_bool, mk_str, mk_fns, getD_z, getD_s, Int.reduceToNat, ↓reduceIte, Int.reduceEq, reduceCtorEq, Int.tmod_eq_emod_of_nonneg, Int.tdiv_eq_ediv_of_nonneg, f10, f11, f12, f20, g11, g20, s1, h39]
    have h41 : ∀ n, den (mkE fnRs rows0 [a1, a2] [] [a0] fun _ => undef) (n + 8) readsT_e41 = some (.bool ((!(decide ((ordT (a1 % 3) (atoiE (bext a0 0 (digRun a0 0)))) = a0))))) := by
      intro n
      simp (disch := omega) only [readsT_e41, den_i, den_b, den_s, den_sv, den_t, denL_nil, denL_cons, Option.bind_some, i0, i1, i2, i4, i5, i6, i8, i10, i13, i13z, i14, i15, i20, i21, i22, i23, i24, i30, i30s, i30b, i31, wr64, mk_int, mk_bool, mk_str, mk_fns, getD_z, getD_s, Int.reduceToNat, ↓reduceIte, Int.reduceEq, reduceCtorEq, Int.tmod_eq_emod_of_nonneg, Int.tdiv_eq_ediv_of_nonneg, f10, f11, f12, f20, g11, g20, s1, h40]
    simp only [readsT, val_leaf, val_node, val_need, pick_b, want_b, den_i, den_b, den_s, den_t, denL_nil, denL_cons, Option.bind_some, i0, i2, mk_int, mk_str, mk_fns, getD_z, getD_s, decide_eq_true_eq, decide_eq_false_iff_not, h0, h1, h2, h3, h4, h5, h6, h7, h8, h9, h10, h11, h12, h13, h14, h15, h16, h17, h18, h19, h20, h21, h22, h23, h24, h25, h26, h27, h28, h29, h30, h31, h32, h33, h34, h35, h36, h37, h38, h39, h40, h41]
    have hL : bext a0 0 (digRun a0 0) = lead a0 := rfl
    simp only [hL] at hb ⊢
    by_cases c0 : 20 < (a0.size : Int)
    · rw [if_pos c0]
    rw [if_neg c0, if_pos (by omega), if_pos (by omega)]
    by_cases hr : readOk (a1 % 3) a0 a2 = true
    · rw [if_pos hr]
      simp only [readOk, Bool.and_eq_true, decide_eq_true_eq] at hr
      obtain ⟨⟨⟨r1, r2⟩, r3⟩, r4⟩ := hr
      rw [if_neg (by omega), if_neg (by omega), if_pos (by omega), if_pos (by omega), decide_eq_true r4]
    · rw [if_neg hr, if_pos (by omega), if_pos (by omega)]
      by_cases d0 : ((digRun a0 0 : Nat) : Int) = 0
      · rw [if_pos d0]
      rw [if_neg d0]
      by_cases d9 : 9 < ((digRun a0 0 : Nat) : Int)
      · rw [if_pos d9]
      have hok := lead_ok (s := a0) (by omega) (by omega)
      rw [if_neg d9, if_pos (by omega), if_pos (by omega), if_pos (by omega), if_pos hok]
      by_cases v1 : atoiV (lead a0) < 1
      · rw [if_pos v1]
      rw [if_neg v1]
      by_cases v2 : a2 < atoiV (lead a0)
      · rw [if_pos v2]
      rw [if_neg v2, if_pos (by omega), if_pos (by omega)]
      have hne : ¬ ordT (a1 % 3) (atoiV (lead a0)) = a0 := fun h => hr (by
        simp only [readOk, hok, h, decide_true, Bool.and_true, Bool.true_and, Bool.and_eq_true, decide_eq_true_eq]
        exact ⟨by omega, by omega⟩)
      rw [decide_eq_false hne]
      rfl
  · intro ρ hρ
    exact vr3 (vr_str hρ _ _ rfl) (vr_int hρ _ _ rfl) (vr_int hρ _ _ rfl)
end Go.Proofs.YthcfhmdoelpbdaaGreatDoor
