/- Periods: expand.Period, kalendslaw05.From. -/
import Derived.Test.YtnbkknlljbhpgaaGreatDoorDayC
namespace Go.Proofs.YtnbkknlljbhpgaaGreatDoor
set_option linter.unusedVariables false
set_option linter.unusedSimpArgs false
open Go Go.Sy Go.RowKit


def pFrom (f n : Int) : Int := if f = 1 then (if n - (n - 1) % 7 < 1 then 1 else n - (n - 1) % 7) else if f = 2 then n - mdayI n + 1 else if f = 3 then aheadI (yearI n) + 1 else n
def pTo (f n : Int) : Int := if f = 1 then (if 3652059 < n - (n - 1) % 7 + 6 then 3652059 else n - (n - 1) % 7 + 6) else if f = 2 then n - mdayI n + longI (yearI n) (monthI n) else if f = 3 then aheadI (yearI n + 1) else n

def fnP : Fns where
  int i l := match i, l with
    | 40, [.int _ a, .int _ b] => longI a b
    | 41, [.int _ a] => aheadI a
    | 42, [.int _ a] => yearI a
    | 43, [.int _ a] => monthI a
    | 44, [.int _ a] => mdayI a
    | 45, [.int _ a] => wdI a
    | 46, [.int _ a, .int _ b, .int _ c] => ofI a b c
    | 47, [.int _ a, .int _ b] => dayI a b
    | 48, [.int _ a, .int _ b] => pFrom a b
    | 49, [.int _ a, .int _ b] => pTo a b
    | _, _ => 0
  bool i l := match i, l with
    | 46, [.int _ a, .int _ b, .int _ c] => isDate a b c
    | _, _ => false
  str _ _ := ⟨#[]⟩
  val _ _ := .bool false

theorem agg2 {a b c d : Int} (h : a = c) (h' : b = d) : some (Value.agg (List.toArray [.int .i64 a, .int .i64 b])) = some (Value.agg #[.int .i64 c, .int .i64 d]) := by subst h h'; rfl
theorem tup2 {a b c d : Int} (h : a = c) (h' : b = d) : some (Value.tuple (List.toArray [.int .i64 a, .int .i64 b])) = some (Value.tuple #[.int .i64 c, .int .i64 d]) := by subst h h'; rfl

/-- What is known of a day's date. -/
theorem day_facts {n : Int} (h : 1 ≤ n) (h' : n ≤ 3652059) : 1 ≤ yearI n ∧ yearI n ≤ 9999 ∧ 1 ≤ monthI n ∧ monthI n ≤ 12 ∧ 1 ≤ mdayI n ∧ mdayI n ≤ longI (yearI n) (monthI n) ∧ longI (yearI n) (monthI n) ≤ 31 ∧
    0 ≤ aheadI (yearI n) ∧ aheadI (yearI n) < n ∧ n ≤ aheadI (yearI n + 1) ∧ aheadI (yearI n + 1) ≤ 3652059 ∧ wdI n = (n - 1) % 7 ∧ ofI (yearI n) (monthI n) 1 = n - mdayI n + 1 ∧ ofI (yearI n) 1 1 = aheadI (yearI n) + 1 ∧ ofI (yearI n) 12 31 = aheadI (yearI n + 1) := by
  have hd : isDay n = true := decide_eq_true ⟨h, h'⟩
  obtain ⟨d1, d2⟩ := date_is hd
  have yb := year_bd hd
  have d3 := d1
  simp only [isDate, decide_eq_true_eq] at d3
  have lb := long_bd (yearI n) (monthI n)
  have am := ahead_mono (a := yearI n + 1) (b := 10000) (by omega)
  have ae := ahead_end
  have am1 := ahead_mono (a := 1) (b := yearI n) (by omega)
  have a1 := ahead_one
  refine ⟨by omega, by omega, by omega, by omega, by omega, by omega, by omega, by omega, by omega, by omega, by omega, ?_, ?_, ?_, ?_⟩
  · unfold wdI; rw [if_pos hd]
  · have : isDate (yearI n) (monthI n) 1 = true := decide_eq_true ⟨by omega, by omega, by omega, by omega, by omega, by omega⟩
    unfold ofI
    rw [if_pos this]
    unfold numI at d2 ⊢
    omega
  · have : isDate (yearI n) 1 1 = true := decide_eq_true ⟨by omega, by omega, by omega, by omega, by omega, by have := long_pos (yearI n) 1 (by omega) (by omega); omega⟩
    unfold ofI
    rw [if_pos this]
    unfold numI
    rw [cum_one]
    omega
  · have hl : longI (yearI n) 12 = 31 := by unfold longI mdays; simp
    have : isDate (yearI n) 12 31 = true := decide_eq_true ⟨by omega, by omega, by omega, by omega, by omega, by omega⟩
    unfold ofI
    rw [if_pos this]
    unfold numI
    rw [ahead_succ]
    have : cumI (yearI n) 12 = 334 + leapI (yearI n) := by simp [cumI]
    omega

def perT_e0 : Value := sv 31 [(sv 0 [.int .i64 1]), .int .i64 1]
def perT_e1 : Value := sv 31 [.int .i64 3652059, (sv 0 [.int .i64 1])]
def perT_e2 : Value := sv 30 [(sv 0 [.int .i64 0]), .int .i64 1]
def perT_e3 : Value := sv 4 [.int .i64 45, (sv 0 [.int .i64 1])]
def perT_e4 : Value := sv 21 [.int .i64 0, (sv 0 [.int .i64 1]), perT_e3]
def perT_e5 : Value := sv 18 [.int .i64 0, perT_e4, .int .i64 1]
def perT_e6 : Value := sv 20 [.int .i64 0, perT_e4, .int .i64 6]
def perT_e7 : Value := sv 17 [.int .i64 0, perT_e6, .int .i64 3652059]
def perT_e8 : Value := sv 30 [(sv 0 [.int .i64 0]), .int .i64 2]
def perT_e9 : Value := sv 4 [.int .i64 43, (sv 0 [.int .i64 1])]
def perT_e10 : Value := sv 31 [perT_e9, .int .i64 (-1000000)]
def perT_e11 : Value := sv 31 [.int .i64 1000000, perT_e9]
def perT_e12 : Value := sv 4 [.int .i64 42, (sv 0 [.int .i64 1])]
def perT_e13 : Value := sv 31 [perT_e12, .int .i64 0]
def perT_e14 : Value := sv 31 [.int .i64 1000000, perT_e12]
def perT_e15 : Value := sv 4 [.int .i64 46, perT_e12, perT_e9, .int .i64 1]
def perT_e16 : Value := sv 4 [.int .i64 40, perT_e12, perT_e9]
def perT_e17 : Value := sv 20 [.int .i64 0, perT_e15, perT_e16]
def perT_e18 : Value := sv 21 [.int .i64 0, perT_e17, .int .i64 1]
def perT_e19 : Value := sv 30 [(sv 0 [.int .i64 0]), .int .i64 3]
def perT_e20 : Value := sv 4 [.int .i64 46, perT_e12, .int .i64 1, .int .i64 1]
def perT_e21 : Value := sv 4 [.int .i64 46, perT_e12, .int .i64 12, .int .i64 31]
def perT : Tree := (.need perT_e0 false
  (.need perT_e1 false
  (.node perT_e2
  (.leaf (.agg #[perT_e5, perT_e7]))
  (.node perT_e8
  (.need perT_e10 false
  (.need perT_e11 false
  (.need perT_e13 false
  (.need perT_e14 false
  (.leaf (.agg #[perT_e15, perT_e18]))))))
  (.node perT_e19
  (.leaf (.agg #[perT_e20, perT_e21]))
  (.leaf (.agg #[sv 0 [.int .i64 1], sv 0 [.int .i64 1]])))))))

theorem period_any (a0 a1 : Int) (w : World) (hs : Wld w) (h1 : 1 ≤ a1) (h2 : a1 ≤ 3652059) :
    Calls Tryz.prog 20 #[.int .i64 a0, .int .i64 a1] w fun e w' => e = .returned (.agg #[.int .i64 (pFrom a0 a1), .int .i64 (pTo a0 a1)]) ∧ Below w.heap.size w w' := by
  obtain ⟨k1, k2, k3, k4, k5, k6, k7, k8, k9, k10, k11, k12, k13, k14, k15⟩ := day_facts h1 h2
  refine tree_any (FN := fnP) (cs := [longC, longLC, aheadC, aheadLC, dateC, dateLC, weekdayC, ofC]) (args := [sv 0 [.int .i64 0], sv 0 [.int .i64 1]]) (T := perT) (F0 := []) (E := mkE fnP rows0 [a0, a1] [] [] fun _ => undef) ?_ (fun _ _ _ _ => by kernel_rfl) (by intro p hp; cases hp) rfl rfl ?_ ?_ hs
  · intro c hc
    simp only [List.mem_cons, List.not_mem_nil, or_false] at hc
    rcases hc with rfl | rfl | rfl | rfl | rfl | rfl | rfl | rfl
    · exact longC_ok fun _ _ => rfl
    · exact longLC_ok fun _ _ => rfl
    · exact aheadC_ok fun _ => rfl
    · exact aheadLC_ok fun _ => rfl
    · exact dateC_ok (fun _ => rfl) (fun _ => rfl) fun _ => rfl
    · exact dateLC_ok (fun _ => rfl) (fun _ => rfl) fun _ => rfl
    · exact weekdayC_ok fun _ => rfl
    · exact ofC_ok (fun _ _ _ => rfl) fun _ _ _ => rfl
  · have E0 : ∀ i, (mkE fnP rows0 [a0, a1] [] [] fun _ => undef).int i = [a0, a1].getD i 0 := fun _ => rfl
    have E2 : (mkE fnP rows0 [a0, a1] [] [] fun _ => undef).fns = fnP := rfl
    have f40 : ∀ a b, fnP.int 40 [.int .i64 a, .int .i64 b] = longI a b := fun _ _ => rfl
    have f41 : ∀ a, fnP.int 41 [.int .i64 a] = aheadI a := fun _ => rfl
    have f42 : ∀ a, fnP.int 42 [.int .i64 a] = yearI a := fun _ => rfl
    have f43 : ∀ a, fnP.int 43 [.int .i64 a] = monthI a := fun _ => rfl
    have f44 : ∀ a, fnP.int 44 [.int .i64 a] = mdayI a := fun _ => rfl
    have f45 : ∀ a, fnP.int 45 [.int .i64 a] = wdI a := fun _ => rfl
    have f46 : ∀ a b c, fnP.int 46 [.int .i64 a, .int .i64 b, .int .i64 c] = ofI a b c := fun _ _ _ => rfl
    have h0 : ∀ n, den (mkE fnP rows0 [a0, a1] [] [] fun _ => undef) (n + 3) perT_e0 = some (.bool ((decide (a1 < 1)))) := by
      intro n
      simp (disch := omega) only [perT_e0, den_i, den_b, den_s, den_sv, den_t, denL_nil, denL_cons, Option.bind_some, i0, i1, i2, i4, i5, i6, i8, i10, i13, i13z, i14, i15, i17, i18, i20, i21, i22, i23, i24, i30, i30s, i30b, i31, wr64, mk_int, mk_bool, mk_str, mk_fns, getD_z, getD_s, Int.reduceToNat, ↓reduceIte, Int.reduceEq, reduceCtorEq, Int.tmod_eq_emod_of_nonneg, Int.tdiv_eq_ediv_of_nonneg, f40, f41, f42, f43, f44, f45, f46]
    have h1 : ∀ n, den (mkE fnP rows0 [a0, a1] [] [] fun _ => undef) (n + 3) perT_e1 = some (.bool ((decide (3652059 < a1)))) := by
      intro n
      simp (disch := omega) only [perT_e1, den_i, den_b, den_s, den_sv, den_t, denL_nil, denL_cons, Option.bind_some, i0, i1, i2, i4, i5, i6, i8, i10, i13, i13z, i14, i15, i17, i18, i20, i21, i22, i23, i24, i30, i30s, i30b, i31, wr64, mk_int, mk_bool, mk_str, mk_fns, getD_z, getD_s, Int.reduceToNat, ↓reduceIte, Int.reduceEq, reduceCtorEq, Int.tmod_eq_emod_of_nonneg, Int.tdiv_eq_ediv_of_nonneg, f40, f41, f42, f43, f44, f45, f46]
    have h2 : ∀ n, den (mkE fnP rows0 [a0, a1] [] [] fun _ => undef) (n + 3) perT_e2 = some (.bool ((decide (a0 = 1)))) := by
      intro n
      simp (disch := omega) only [perT_e2, den_i, den_b, den_s, den_sv, den_t, denL_nil, denL_cons, Option.bind_some, i0, i1, i2, i4, i5, i6, i8, i10, i13, i13z, i14, i15, i17, i18, i20, i21, i22, i23, i24, i30, i30s, i30b, i31, wr64, mk_int, mk_bool, mk_str, mk_fns, getD_z, getD_s, Int.reduceToNat, ↓reduceIte, Int.reduceEq, reduceCtorEq, Int.tmod_eq_emod_of_nonneg, Int.tdiv_eq_ediv_of_nonneg, f40, f41, f42, f43, f44, f45, f46]
    have h3 : ∀ n, den (mkE fnP rows0 [a0, a1] [] [] fun _ => undef) (n + 3) perT_e3 = some (.int .i64 ((wdI a1))) := by
      intro n
      simp (disch := omega) only [perT_e3, den_i, den_b, den_s, den_sv, den_t, denL_nil, denL_cons, Option.bind_some, i0, i1, i2, i4, i5, i6, i8, i10, i13, i13z, i14, i15, i17, i18, i20, i21, i22, i23, i24, i30, i30s, i30b, i31, wr64, mk_int, mk_bool, mk_str, mk_fns, getD_z, getD_s, Int.reduceToNat, ↓reduceIte, Int.reduceEq, reduceCtorEq, Int.tmod_eq_emod_of_nonneg, Int.tdiv_eq_ediv_of_nonneg, f40, f41, f42, f43, f44, f45, f46]
    have h4 : ∀ n, den (mkE fnP rows0 [a0, a1] [] [] fun _ => undef) (n + 4) perT_e4 = some (.int .i64 ((a1 - (wdI a1)))) := by
      intro n
      simp (disch := omega) only [perT_e4, den_i, den_b, den_s, den_sv, den_t, denL_nil, denL_cons, Option.bind_some, i0, i1, i2, i4, i5, i6, i8, i10, i13, i13z, i14, i15, i17, i18, i20, i21, i22, i23, i24, i30, i30s, i30b, i31, wr64, mk_int, mk_bool, mk_str, mk_fns, getD_z, getD_s, Int.reduceToNat, ↓reduceIte, Int.reduceEq, reduceCtorEq, Int.tmod_eq_emod_of_nonneg, Int.tdiv_eq_ediv_of_nonneg, f40, f41, f42, f43, f44, f45, f46, h3]
    have h5 : ∀ n, den (mkE fnP rows0 [a0, a1] [] [] fun _ => undef) (n + 5) perT_e5 = some (.int .i64 ((if 1 > (a1 - (wdI a1)) then 1 else (a1 - (wdI a1))))) := by
      intro n
      simp (disch := omega) only [perT_e5, den_i, den_b, den_s, den_sv, den_t, denL_nil, denL_cons, Option.bind_some, i0, i1, i2, i4, i5, i6, i8, i10, i13, i13z, i14, i15, i17, i18, i20, i21, i22, i23, i24, i30, i30s, i30b, i31, wr64, mk_int, mk_bool, mk_str, mk_fns, getD_z, getD_s, Int.reduceToNat, ↓reduceIte, Int.reduceEq, reduceCtorEq, Int.tmod_eq_emod_of_nonneg, Int.tdiv_eq_ediv_of_nonneg, f40, f41, f42, f43, f44, f45, f46, h4]
    have h6 : ∀ n, den (mkE fnP rows0 [a0, a1] [] [] fun _ => undef) (n + 5) perT_e6 = some (.int .i64 (((a1 - (wdI a1)) + 6))) := by
      intro n
      simp (disch := omega) only [perT_e6, den_i, den_b, den_s, den_sv, den_t, denL_nil, denL_cons, Option.bind_some, i0, i1, i2, i4, i5, i6, i8, i10, i13, i13z, i14, i15, i17, i18, i20, i21, i22, i23, i24, i30, i30s, i30b, i31, wr64, mk_int, mk_bool, mk_str, mk_fns, getD_z, getD_s, Int.reduceToNat, ↓reduceIte, Int.reduceEq, reduceCtorEq, Int.tmod_eq_emod_of_nonneg, Int.tdiv_eq_ediv_of_nonneg, f40, f41, f42, f43, f44, f45, f46, h4]
    have h7 : ∀ n, den (mkE fnP rows0 [a0, a1] [] [] fun _ => undef) (n + 6) perT_e7 = some (.int .i64 ((if 3652059 < ((a1 - (wdI a1)) + 6) then 3652059 else ((a1 - (wdI a1)) + 6)))) := by
      intro n
      simp (disch := omega) only [perT_e7, den_i, den_b, den_s, den_sv, den_t, denL_nil, denL_cons, Option.bind_some, i0, i1, i2, i4, i5, i6, i8, i10, i13, i13z, i14, i15, i17, i18, i20, i21, i22, i23, i24, i30, i30s, i30b, i31, wr64, mk_int, mk_bool, mk_str, mk_fns, getD_z, getD_s, Int.reduceToNat, ↓reduceIte, Int.reduceEq, reduceCtorEq, Int.tmod_eq_emod_of_nonneg, Int.tdiv_eq_ediv_of_nonneg, f40, f41, f42, f43, f44, f45, f46, h6]
    have h8 : ∀ n, den (mkE fnP rows0 [a0, a1] [] [] fun _ => undef) (n + 3) perT_e8 = some (.bool ((decide (a0 = 2)))) := by
      intro n
      simp (disch := omega) only [perT_e8, den_i, den_b, den_s, den_sv, den_t, denL_nil, denL_cons, Option.bind_some, i0, i1, i2, i4, i5, i6, i8, i10, i13, i13z, i14, i15, i17, i18, i20, i21, i22, i23, i24, i30, i30s, i30b, i31, wr64, mk_int, mk_bool, mk_str, mk_fns, getD_z, getD_s, Int.reduceToNat, ↓reduceIte, Int.reduceEq, reduceCtorEq, Int.tmod_eq_emod_of_nonneg, Int.tdiv_eq_ediv_of_nonneg, f40, f41, f42, f43, f44, f45, f46]
    have h9 : ∀ n, den (mkE fnP rows0 [a0, a1] [] [] fun _ => undef) (n + 3) perT_e9 = some (.int .i64 ((monthI a1))) := by
      intro n
      simp (disch := omega) only [perT_e9, den_i, den_b, den_s, den_sv, den_t, denL_nil, denL_cons, Option.bind_some, i0, i1, i2, i4, i5, i6, i8, i10, i13, i13z, i14, i15, i17, i18, i20, i21, i22, i23, i24, i30, i30s, i30b, i31, wr64, mk_int, mk_bool, mk_str, mk_fns, getD_z, getD_s, Int.reduceToNat, ↓reduceIte, Int.reduceEq, reduceCtorEq, Int.tmod_eq_emod_of_nonneg, Int.tdiv_eq_ediv_of_nonneg, f40, f41, f42, f43, f44, f45, f46]
    have h10 : ∀ n, den (mkE fnP rows0 [a0, a1] [] [] fun _ => undef) (n + 4) perT_e10 = some (.bool ((decide ((monthI a1) < (-1000000))))) := by
      intro n
      simp (disch := omega) only [perT_e10, den_i, den_b, den_s, den_sv, den_t, denL_nil, denL_cons, Option.bind_some, i0, i1, i2, i4, i5, i6, i8, i10, i13, i13z, i14, i15, i17, i18, i20, i21, i22, i23, i24, i30, i30s, i30b, i31, wr64, mk_int, mk_bool, mk_str, mk_fns, getD_z, getD_s, Int.reduceToNat, ↓reduceIte, Int.reduceEq, reduceCtorEq, Int.tmod_eq_emod_of_nonneg, Int.tdiv_eq_ediv_of_nonneg, f40, f41, f42, f43, f44, f45, f46, h9]
    have h11 : ∀ n, den (mkE fnP rows0 [a0, a1] [] [] fun _ => undef) (n + 4) perT_e11 = some (.bool ((decide (1000000 < (monthI a1))))) := by
      intro n
      simp (disch := omega) only [perT_e11, den_i, den_b, den_s, den_sv, den_t, denL_nil, denL_cons, Option.bind_some, i0, i1, i2, i4, i5, i6, i8, i10, i13, i13z, i14, i15, i17, i18, i20, i21, i22, i23, i24, i30, i30s, i30b, i31, wr64, mk_int, mk_bool, mk_str, mk_fns, getD_z, getD_s, Int.reduceToNat, ↓reduceIte, Int.reduceEq, reduceCtorEq, Int.tmod_eq_emod_of_nonneg, Int.tdiv_eq_ediv_of_nonneg, f40, f41, f42, f43, f44, f45, f46, h9]
    have h12 : ∀ n, den (mkE fnP rows0 [a0, a1] [] [] fun _ => undef) (n + 3) perT_e12 = some (.int .i64 ((yearI a1))) := by
      intro n
      simp (disch := omega) only [perT_e12, den_i, den_b, den_s, den_sv, den_t, denL_nil, denL_cons, Option.bind_some, i0, i1, i2, i4, i5, i6, i8, i10, i13, i13z, i14, i15, i17, i18, i20, i21, i22, i23, i24, i30, i30s, i30b, i31, wr64, mk_int, mk_bool, mk_str, mk_fns, getD_z, getD_s, Int.reduceToNat, ↓reduceIte, Int.reduceEq, reduceCtorEq, Int.tmod_eq_emod_of_nonneg, Int.tdiv_eq_ediv_of_nonneg, f40, f41, f42, f43, f44, f45, f46]
    have h13 : ∀ n, den (mkE fnP rows0 [a0, a1] [] [] fun _ => undef) (n + 4) perT_e13 = some (.bool ((decide ((yearI a1) < 0)))) := by
      intro n
      simp (disch := omega) only [perT_e13, den_i, den_b, den_s, den_sv, den_t, denL_nil, denL_cons, Option.bind_some, i0, i1, i2, i4, i5, i6, i8, i10, i13, i13z, i14, i15, i17, i18, i20, i21, i22, i23, i24, i30, i30s, i30b, i31, wr64, mk_int, mk_bool, mk_str, mk_fns, getD_z, getD_s, Int.reduceToNat, ↓reduceIte, Int.reduceEq, reduceCtorEq, Int.tmod_eq_emod_of_nonneg, Int.tdiv_eq_ediv_of_nonneg, f40, f41, f42, f43, f44, f45, f46, h12]
    have h14 : ∀ n, den (mkE fnP rows0 [a0, a1] [] [] fun _ => undef) (n + 4) perT_e14 = some (.bool ((decide (1000000 < (yearI a1))))) := by
      intro n
      simp (disch := omega) only [perT_e14, den_i, den_b, den_s, den_sv, den_t, denL_nil, denL_cons, Option.bind_some, i0, i1, i2, i4, i5, i6, i8, i10, i13, i13z, i14, i15, i17, i18, i20, i21, i22, i23, i24, i30, i30s, i30b, i31, wr64, mk_int, mk_bool, mk_str, mk_fns, getD_z, getD_s, Int.reduceToNat, ↓reduceIte, Int.reduceEq, reduceCtorEq, Int.tmod_eq_emod_of_nonneg, Int.tdiv_eq_ediv_of_nonneg, f40, f41, f42, f43, f44, f45, f46, h12]
    have h15 : ∀ n, den (mkE fnP rows0 [a0, a1] [] [] fun _ => undef) (n + 4) perT_e15 = some (.int .i64 ((ofI (yearI a1) (monthI a1) 1))) := by
      intro n
      simp (disch := omega) only [perT_e15, den_i, den_b, den_s, den_sv, den_t, denL_nil, denL_cons, Option.bind_some, i0, i1, i2, i4, i5, i6, i8, i10, i13, i13z, i14, i15, i17, i18, i20, i21, i22, i23, i24, i30, i30s, i30b, i31, wr64, mk_int, mk_bool, mk_str, mk_fns, getD_z, getD_s, Int.reduceToNat, ↓reduceIte, Int.reduceEq, reduceCtorEq, Int.tmod_eq_emod_of_nonneg, Int.tdiv_eq_ediv_of_nonneg, f40, f41, f42, f43, f44, f45, f46, h12, h9]
    have h16 : ∀ n, den (mkE fnP rows0 [a0, a1] [] [] fun _ => undef) (n + 4) perT_e16 = some (.int .i64 ((longI (yearI a1) (monthI a1)))) := by
      intro n
      simp (disch := omega) only [perT_e16, den_i, den_b, den_s, den_sv, den_t, denL_nil, denL_cons, Option.bind_some, i0, i1, i2, i4, i5, i6, i8, i10, i13, i13z, i14, i15, i17, i18, i20, i21, i22, i23, i24, i30, i30s, i30b, i31, wr64, mk_int, mk_bool, mk_str, mk_fns, getD_z, getD_s, Int.reduceToNat, ↓reduceIte, Int.reduceEq, reduceCtorEq, Int.tmod_eq_emod_of_nonneg, Int.tdiv_eq_ediv_of_nonneg, f40, f41, f42, f43, f44, f45, f46, h12, h9]
    have h17 : ∀ n, den (mkE fnP rows0 [a0, a1] [] [] fun _ => undef) (n + 5) perT_e17 = some (.int .i64 (((ofI (yearI a1) (monthI a1) 1) + (longI (yearI a1) (monthI a1))))) := by
      intro n
      simp (disch := omega) only [perT_e17, den_i, den_b, den_s, den_sv, den_t, denL_nil, denL_cons, Option.bind_some, i0, i1, i2, i4, i5, i6, i8, i10, i13, i13z, i14, i15, i17, i18, i20, i21, i22, i23, i24, i30, i30s, i30b, i31, wr64, mk_int, mk_bool, mk_str, mk_fns, getD_z, getD_s, Int.reduceToNat, ↓reduceIte, Int.reduceEq, reduceCtorEq, Int.tmod_eq_emod_of_nonneg, Int.tdiv_eq_ediv_of_nonneg, f40, f41, f42, f43, f44, f45, f46, h15, h16]
    have h18 : ∀ n, den (mkE fnP rows0 [a0, a1] [] [] fun _ => undef) (n + 6) perT_e18 = some (.int .i64 ((((ofI (yearI a1) (monthI a1) 1) + (longI (yearI a1) (monthI a1))) - 1))) := by
      intro n
      simp (disch := omega) only [perT_e18, den_i, den_b, den_s, den_sv, den_t, denL_nil, denL_cons, Option.bind_some, i0, i1, i2, i4, i5, i6, i8, i10, i13, i13z, i14, i15, i17, i18, i20, i21, i22, i23, i24, i30, i30s, i30b, i31, wr64, mk_int, mk_bool, mk_str, mk_fns, getD_z, getD_s, Int.reduceToNat, ↓reduceIte, Int.reduceEq, reduceCtorEq, Int.tmod_eq_emod_of_nonneg, Int.tdiv_eq_ediv_of_nonneg, f40, f41, f42, f43, f44, f45, f46, h17]
    have h19 : ∀ n, den (mkE fnP rows0 [a0, a1] [] [] fun _ => undef) (n + 3) perT_e19 = some (.bool ((decide (a0 = 3)))) := by
      intro n
      simp (disch := omega) only [perT_e19, den_i, den_b, den_s, den_sv, den_t, denL_nil, denL_cons, Option.bind_some, i0, i1, i2, i4, i5, i6, i8, i10, i13, i13z, i14, i15, i17, i18, i20, i21, i22, i23, i24, i30, i30s, i30b, i31, wr64, mk_int, mk_bool, mk_str, mk_fns, getD_z, getD_s, Int.reduceToNat, ↓reduceIte, Int.reduceEq, reduceCtorEq, Int.tmod_eq_emod_of_nonneg, Int.tdiv_eq_ediv_of_nonneg, f40, f41, f42, f43, f44, f45, f46]
    have h20 : ∀ n, den (mkE fnP rows0 [a0, a1] [] [] fun _ => undef) (n + 4) perT_e20 = some (.int .i64 ((ofI (yearI a1) 1 1))) := by
      intro n
      simp (disch := omega) only [perT_e20, den_i, den_b, den_s, den_sv, den_t, denL_nil, denL_cons, Option.bind_some, i0, i1, i2, i4, i5, i6, i8, i10, i13, i13z, i14, i15, i17, i18, i20, i21, i22, i23, i24, i30, i30s, i30b, i31, wr64, mk_int, mk_bool, mk_str, mk_fns, getD_z, getD_s, Int.reduceToNat, ↓reduceIte, Int.reduceEq, reduceCtorEq, Int.tmod_eq_emod_of_nonneg, Int.tdiv_eq_ediv_of_nonneg, f40, f41, f42, f43, f44, f45, f46, h12]
    have h21 : ∀ n, den (mkE fnP rows0 [a0, a1] [] [] fun _ => undef) (n + 4) perT_e21 = some (.int .i64 ((ofI (yearI a1) 12 31))) := by
      intro n
      simp (disch := omega) only [perT_e21, den_i, den_b, den_s, den_sv, den_t, denL_nil, denL_cons, Option.bind_some, i0, i1, i2, i4, i5, i6, i8, i10, i13, i13z, i14, i15, i17, i18, i20, i21, i22, i23, i24, i30, i30s, i30b, i31, wr64, mk_int, mk_bool, mk_str, mk_fns, getD_z, getD_s, Int.reduceToNat, ↓reduceIte, Int.reduceEq, reduceCtorEq, Int.tmod_eq_emod_of_nonneg, Int.tdiv_eq_ediv_of_nonneg, f40, f41, f42, f43, f44, f45, f46, h12]
    simp only [perT, val_leaf, val_node, val_need, pick_b, want_b, den_i, den_b, den_s, den_t, den_ag, denL_nil, denL_cons, Option.bind_some, i0, i2, mk_int, mk_str, mk_fns, getD_z, getD_s, decide_eq_true_eq, decide_eq_false_iff_not, h0, h1, h2, h3, h4, h5, h6, h7, h8, h9, h10, h11, h12, h13, h14, h15, h16, h17, h18, h19, h20, h21]
    rw [if_pos (by omega), if_pos (by omega)]
    simp only [pFrom, pTo]
    by_cases c1 : a0 = 1
    · simp only [if_pos c1]
      rw [k12]
    simp only [if_neg c1]
    by_cases c2 : a0 = 2
    · simp only [if_pos c2]
      rw [if_pos (by omega), if_pos (by omega), if_pos (by omega), if_pos (by omega)]
      exact agg2 (by omega) (by omega)
    simp only [if_neg c2]
    by_cases c3 : a0 = 3
    · simp only [if_pos c3]
      exact agg2 (by omega) (by omega)
    · simp only [if_neg c3]
      exact agg2 rfl rfl
  · intro ρ hρ
    exact vr2 (vr_int hρ _ _ rfl) (vr_int hρ _ _ rfl)

def frmT_e0 : Value := sv 31 [(sv 0 [.int .i64 1]), .int .i64 1]
def frmT_e1 : Value := sv 31 [.int .i64 3652059, (sv 0 [.int .i64 1])]
def frmT_e2 : Value := sv 30 [(sv 0 [.int .i64 0]), .int .i64 1]
def frmT_e3 : Value := sv 20 [.int .i64 0, (sv 0 [.int .i64 1]), .int .i64 6]
def frmT_e4 : Value := sv 24 [.int .i64 0, frmT_e3, .int .i64 7]
def frmT_e5 : Value := sv 21 [.int .i64 0, (sv 0 [.int .i64 1]), frmT_e4]
def frmT_e6 : Value := sv 18 [.int .i64 0, frmT_e5, .int .i64 1]
def frmT_e7 : Value := sv 20 [.int .i64 0, frmT_e5, .int .i64 6]
def frmT_e8 : Value := sv 17 [.int .i64 0, frmT_e7, .int .i64 3652059]
def frmT_e9 : Value := sv 30 [(sv 0 [.int .i64 0]), .int .i64 2]
def frmT_e10 : Value := sv 4 [.int .i64 42, (sv 0 [.int .i64 1])]
def frmT_e11 : Value := sv 31 [frmT_e10, .int .i64 0]
def frmT_e12 : Value := sv 31 [.int .i64 1000000, frmT_e10]
def frmT_e13 : Value := sv 4 [.int .i64 44, (sv 0 [.int .i64 1])]
def frmT_e14 : Value := sv 21 [.int .i64 0, (sv 0 [.int .i64 1]), frmT_e13]
def frmT_e15 : Value := sv 20 [.int .i64 0, frmT_e14, .int .i64 1]
def frmT_e16 : Value := sv 4 [.int .i64 43, (sv 0 [.int .i64 1])]
def frmT_e17 : Value := sv 4 [.int .i64 40, frmT_e10, frmT_e16]
def frmT_e18 : Value := sv 20 [.int .i64 0, frmT_e14, frmT_e17]
def frmT_e19 : Value := sv 30 [(sv 0 [.int .i64 0]), .int .i64 3]
def frmT_e20 : Value := sv 21 [.int .i64 0, frmT_e10, .int .i64 1]
def frmT_e21 : Value := sv 22 [.int .i64 0, .int .i64 365, frmT_e20]
def frmT_e22 : Value := sv 23 [.int .i64 0, frmT_e20, .int .i64 4]
def frmT_e23 : Value := sv 22 [.int .i64 0, .int .i64 1, frmT_e22]
def frmT_e24 : Value := sv 20 [.int .i64 0, frmT_e21, frmT_e23]
def frmT_e25 : Value := sv 23 [.int .i64 0, frmT_e20, .int .i64 100]
def frmT_e26 : Value := sv 22 [.int .i64 0, .int .i64 (-1), frmT_e25]
def frmT_e27 : Value := sv 20 [.int .i64 0, frmT_e24, frmT_e26]
def frmT_e28 : Value := sv 23 [.int .i64 0, frmT_e20, .int .i64 400]
def frmT_e29 : Value := sv 22 [.int .i64 0, .int .i64 1, frmT_e28]
def frmT_e30 : Value := sv 20 [.int .i64 0, frmT_e27, frmT_e29]
def frmT_e31 : Value := sv 20 [.int .i64 0, frmT_e30, .int .i64 1]
def frmT_e32 : Value := sv 20 [.int .i64 0, frmT_e10, .int .i64 1]
def frmT_e33 : Value := sv 21 [.int .i64 0, frmT_e32, .int .i64 1]
def frmT_e34 : Value := sv 22 [.int .i64 0, .int .i64 365, frmT_e33]
def frmT_e35 : Value := sv 23 [.int .i64 0, frmT_e33, .int .i64 4]
def frmT_e36 : Value := sv 22 [.int .i64 0, .int .i64 1, frmT_e35]
def frmT_e37 : Value := sv 20 [.int .i64 0, frmT_e34, frmT_e36]
def frmT_e38 : Value := sv 23 [.int .i64 0, frmT_e33, .int .i64 100]
def frmT_e39 : Value := sv 22 [.int .i64 0, .int .i64 (-1), frmT_e38]
def frmT_e40 : Value := sv 20 [.int .i64 0, frmT_e37, frmT_e39]
def frmT_e41 : Value := sv 23 [.int .i64 0, frmT_e33, .int .i64 400]
def frmT_e42 : Value := sv 22 [.int .i64 0, .int .i64 1, frmT_e41]
def frmT_e43 : Value := sv 20 [.int .i64 0, frmT_e40, frmT_e42]
def frmT : Tree := (.need frmT_e0 false
  (.need frmT_e1 false
  (.node frmT_e2
  (.leaf (.tuple #[frmT_e6, frmT_e8]))
  (.node frmT_e9
  (.need frmT_e11 false
  (.need frmT_e12 false
  (.leaf (.tuple #[frmT_e15, frmT_e18]))))
  (.node frmT_e19
  (.leaf (.tuple #[frmT_e31, frmT_e43]))
  (.leaf (.tuple #[sv 0 [.int .i64 1], sv 0 [.int .i64 1]])))))))

theorem from_any (a0 a1 : Int) (w : World) (hs : Wld w) (h1 : 1 ≤ a1) (h2 : a1 ≤ 3652059) :
    Calls Tryz.prog 19 #[.int .i64 a0, .int .i64 a1] w fun e w' => e = .returned (.tuple #[.int .i64 (pFrom a0 a1), .int .i64 (pTo a0 a1)]) ∧ Below w.heap.size w w' := by
  obtain ⟨k1, k2, k3, k4, k5, k6, k7, k8, k9, k10, k11, k12, k13, k14, k15⟩ := day_facts h1 h2
  refine tree_any (FN := fnP) (cs := [longC, longLC, aheadC, aheadLC, dateC, dateLC, weekdayC, ofC]) (args := [sv 0 [.int .i64 0], sv 0 [.int .i64 1]]) (T := frmT) (F0 := []) (E := mkE fnP rows0 [a0, a1] [] [] fun _ => undef) ?_ (fun _ _ _ _ => by kernel_rfl) (by intro p hp; cases hp) rfl rfl ?_ ?_ hs
  · intro c hc
    simp only [List.mem_cons, List.not_mem_nil, or_false] at hc
    rcases hc with rfl | rfl | rfl | rfl | rfl | rfl | rfl | rfl
    · exact longC_ok fun _ _ => rfl
    · exact longLC_ok fun _ _ => rfl
    · exact aheadC_ok fun _ => rfl
    · exact aheadLC_ok fun _ => rfl
    · exact dateC_ok (fun _ => rfl) (fun _ => rfl) fun _ => rfl
    · exact dateLC_ok (fun _ => rfl) (fun _ => rfl) fun _ => rfl
    · exact weekdayC_ok fun _ => rfl
    · exact ofC_ok (fun _ _ _ => rfl) fun _ _ _ => rfl
  · have E0 : ∀ i, (mkE fnP rows0 [a0, a1] [] [] fun _ => undef).int i = [a0, a1].getD i 0 := fun _ => rfl
    have E2 : (mkE fnP rows0 [a0, a1] [] [] fun _ => undef).fns = fnP := rfl
    have f40 : ∀ a b, fnP.int 40 [.int .i64 a, .int .i64 b] = longI a b := fun _ _ => rfl
    have f41 : ∀ a, fnP.int 41 [.int .i64 a] = aheadI a := fun _ => rfl
    have f42 : ∀ a, fnP.int 42 [.int .i64 a] = yearI a := fun _ => rfl
    have f43 : ∀ a, fnP.int 43 [.int .i64 a] = monthI a := fun _ => rfl
    have f44 : ∀ a, fnP.int 44 [.int .i64 a] = mdayI a := fun _ => rfl
    have f45 : ∀ a, fnP.int 45 [.int .i64 a] = wdI a := fun _ => rfl
    have f46 : ∀ a b c, fnP.int 46 [.int .i64 a, .int .i64 b, .int .i64 c] = ofI a b c := fun _ _ _ => rfl
    have h0 : ∀ n, den (mkE fnP rows0 [a0, a1] [] [] fun _ => undef) (n + 3) frmT_e0 = some (.bool ((decide (a1 < 1)))) := by
      intro n
      simp (disch := omega) only [frmT_e0, den_i, den_b, den_s, den_sv, den_t, denL_nil, denL_cons, Option.bind_some, i0, i1, i2, i4, i5, i6, i8, i10, i13, i13z, i14, i15, i17, i18, i20, i21, i22, i23, i24, i30, i30s, i30b, i31, wr64, mk_int, mk_bool, mk_str, mk_fns, getD_z, getD_s, Int.reduceToNat, ↓reduceIte, Int.reduceEq, reduceCtorEq, Int.tmod_eq_emod_of_nonneg, Int.tdiv_eq_ediv_of_nonneg, f40, f41, f42, f43, f44, f45, f46]
    have h1 : ∀ n, den (mkE fnP rows0 [a0, a1] [] [] fun _ => undef) (n + 3) frmT_e1 = some (.bool ((decide (3652059 < a1)))) := by
      intro n
      simp (disch := omega) only [frmT_e1, den_i, den_b, den_s, den_sv, den_t, denL_nil, denL_cons, Option.bind_some, i0, i1, i2, i4, i5, i6, i8, i10, i13, i13z, i14, i15, i17, i18, i20, i21, i22, i23, i24, i30, i30s, i30b, i31, wr64, mk_int, mk_bool, mk_str, mk_fns, getD_z, getD_s, Int.reduceToNat, ↓reduceIte, Int.reduceEq, reduceCtorEq, Int.tmod_eq_emod_of_nonneg, Int.tdiv_eq_ediv_of_nonneg, f40, f41, f42, f43, f44, f45, f46]
    have h2 : ∀ n, den (mkE fnP rows0 [a0, a1] [] [] fun _ => undef) (n + 3) frmT_e2 = some (.bool ((decide (a0 = 1)))) := by
      intro n
      simp (disch := omega) only [frmT_e2, den_i, den_b, den_s, den_sv, den_t, denL_nil, denL_cons, Option.bind_some, i0, i1, i2, i4, i5, i6, i8, i10, i13, i13z, i14, i15, i17, i18, i20, i21, i22, i23, i24, i30, i30s, i30b, i31, wr64, mk_int, mk_bool, mk_str, mk_fns, getD_z, getD_s, Int.reduceToNat, ↓reduceIte, Int.reduceEq, reduceCtorEq, Int.tmod_eq_emod_of_nonneg, Int.tdiv_eq_ediv_of_nonneg, f40, f41, f42, f43, f44, f45, f46]
    have h3 : ∀ n, den (mkE fnP rows0 [a0, a1] [] [] fun _ => undef) (n + 3) frmT_e3 = some (.int .i64 ((a1 + 6))) := by
      intro n
      simp (disch := omega) only [frmT_e3, den_i, den_b, den_s, den_sv, den_t, denL_nil, denL_cons, Option.bind_some, i0, i1, i2, i4, i5, i6, i8, i10, i13, i13z, i14, i15, i17, i18, i20, i21, i22, i23, i24, i30, i30s, i30b, i31, wr64, mk_int, mk_bool, mk_str, mk_fns, getD_z, getD_s, Int.reduceToNat, ↓reduceIte, Int.reduceEq, reduceCtorEq, Int.tmod_eq_emod_of_nonneg, Int.tdiv_eq_ediv_of_nonneg, f40, f41, f42, f43, f44, f45, f46]
    have h4 : ∀ n, den (mkE fnP rows0 [a0, a1] [] [] fun _ => undef) (n + 4) frmT_e4 = some (.int .i64 (((a1 + 6) % 7))) := by
      intro n
      simp (disch := omega) only [frmT_e4, den_i, den_b, den_s, den_sv, den_t, denL_nil, denL_cons, Option.bind_some, i0, i1, i2, i4, i5, i6, i8, i10, i13, i13z, i14, i15, i17, i18, i20, i21, i22, i23, i24, i30, i30s, i30b, i31, wr64, mk_int, mk_bool, mk_str, mk_fns, getD_z, getD_s, Int.reduceToNat, ↓reduceIte, Int.reduceEq, reduceCtorEq, Int.tmod_eq_emod_of_nonneg, Int.tdiv_eq_ediv_of_nonneg, f40, f41, f42, f43, f44, f45, f46, h3]
    have h5 : ∀ n, den (mkE fnP rows0 [a0, a1] [] [] fun _ => undef) (n + 5) frmT_e5 = some (.int .i64 ((a1 - ((a1 + 6) % 7)))) := by
      intro n
      simp (disch := omega) only [frmT_e5, den_i, den_b, den_s, den_sv, den_t, denL_nil, denL_cons, Option.bind_some, i0, i1, i2, i4, i5, i6, i8, i10, i13, i13z, i14, i15, i17, i18, i20, i21, i22, i23, i24, i30, i30s, i30b, i31, wr64, mk_int, mk_bool, mk_str, mk_fns, getD_z, getD_s, Int.reduceToNat, ↓reduceIte, Int.reduceEq, reduceCtorEq, Int.tmod_eq_emod_of_nonneg, Int.tdiv_eq_ediv_of_nonneg, f40, f41, f42, f43, f44, f45, f46, h4]
    have h6 : ∀ n, den (mkE fnP rows0 [a0, a1] [] [] fun _ => undef) (n + 6) frmT_e6 = some (.int .i64 ((if 1 > (a1 - ((a1 + 6) % 7)) then 1 else (a1 - ((a1 + 6) % 7))))) := by
      intro n
      simp (disch := omega) only [frmT_e6, den_i, den_b, den_s, den_sv, den_t, denL_nil, denL_cons, Option.bind_some, i0, i1, i2, i4, i5, i6, i8, i10, i13, i13z, i14, i15, i17, i18, i20, i21, i22, i23, i24, i30, i30s, i30b, i31, wr64, mk_int, mk_bool, mk_str, mk_fns, getD_z, getD_s, Int.reduceToNat, ↓reduceIte, Int.reduceEq, reduceCtorEq, Int.tmod_eq_emod_of_nonneg, Int.tdiv_eq_ediv_of_nonneg, f40, f41, f42, f43, f44, f45, f46, h5]
    have h7 : ∀ n, den (mkE fnP rows0 [a0, a1] [] [] fun _ => undef) (n + 6) frmT_e7 = some (.int .i64 (((a1 - ((a1 + 6) % 7)) + 6))) := by
      intro n
      simp (disch := omega) only [frmT_e7, den_i, den_b, den_s, den_sv, den_t, denL_nil, denL_cons, Option.bind_some, i0, i1, i2, i4, i5, i6, i8, i10, i13, i13z, i14, i15, i17, i18, i20, i21, i22, i23, i24, i30, i30s, i30b, i31, wr64, mk_int, mk_bool, mk_str, mk_fns, getD_z, getD_s, Int.reduceToNat, ↓reduceIte, Int.reduceEq, reduceCtorEq, Int.tmod_eq_emod_of_nonneg, Int.tdiv_eq_ediv_of_nonneg, f40, f41, f42, f43, f44, f45, f46, h5]
    have h8 : ∀ n, den (mkE fnP rows0 [a0, a1] [] [] fun _ => undef) (n + 7) frmT_e8 = some (.int .i64 ((if 3652059 < ((a1 - ((a1 + 6) % 7)) + 6) then 3652059 else ((a1 - ((a1 + 6) % 7)) + 6)))) := by
      intro n
      simp (disch := omega) only [frmT_e8, den_i, den_b, den_s, den_sv, den_t, denL_nil, denL_cons, Option.bind_some, i0, i1, i2, i4, i5, i6, i8, i10, i13, i13z, i14, i15, i17, i18, i20, i21, i22, i23, i24, i30, i30s, i30b, i31, wr64, mk_int, mk_bool, mk_str, mk_fns, getD_z, getD_s, Int.reduceToNat, ↓reduceIte, Int.reduceEq, reduceCtorEq, Int.tmod_eq_emod_of_nonneg, Int.tdiv_eq_ediv_of_nonneg, f40, f41, f42, f43, f44, f45, f46, h7]
    have h9 : ∀ n, den (mkE fnP rows0 [a0, a1] [] [] fun _ => undef) (n + 3) frmT_e9 = some (.bool ((decide (a0 = 2)))) := by
      intro n
      simp (disch := omega) only [frmT_e9, den_i, den_b, den_s, den_sv, den_t, denL_nil, denL_cons, Option.bind_some, i0, i1, i2, i4, i5, i6, i8, i10, i13, i13z, i14, i15, i17, i18, i20, i21, i22, i23, i24, i30, i30s, i30b, i31, wr64, mk_int, mk_bool, mk_str, mk_fns, getD_z, getD_s, Int.reduceToNat, ↓reduceIte, Int.reduceEq, reduceCtorEq, Int.tmod_eq_emod_of_nonneg, Int.tdiv_eq_ediv_of_nonneg, f40, f41, f42, f43, f44, f45, f46]
    have h10 : ∀ n, den (mkE fnP rows0 [a0, a1] [] [] fun _ => undef) (n + 3) frmT_e10 = some (.int .i64 ((yearI a1))) := by
      intro n
      simp (disch := omega) only [frmT_e10, den_i, den_b, den_s, den_sv, den_t, denL_nil, denL_cons, Option.bind_some, i0, i1, i2, i4, i5, i6, i8, i10, i13, i13z, i14, i15, i17, i18, i20, i21, i22, i23, i24, i30, i30s, i30b, i31, wr64, mk_int, mk_bool, mk_str, mk_fns, getD_z, getD_s, Int.reduceToNat, ↓reduceIte, Int.reduceEq, reduceCtorEq, Int.tmod_eq_emod_of_nonneg, Int.tdiv_eq_ediv_of_nonneg, f40, f41, f42, f43, f44, f45, f46]
    have h11 : ∀ n, den (mkE fnP rows0 [a0, a1] [] [] fun _ => undef) (n + 4) frmT_e11 = some (.bool ((decide ((yearI a1) < 0)))) := by
      intro n
      simp (disch := omega) only [frmT_e11, den_i, den_b, den_s, den_sv, den_t, denL_nil, denL_cons, Option.bind_some, i0, i1, i2, i4, i5, i6, i8, i10, i13, i13z, i14, i15, i17, i18, i20, i21, i22, i23, i24, i30, i30s, i30b, i31, wr64, mk_int, mk_bool, mk_str, mk_fns, getD_z, getD_s, Int.reduceToNat, ↓reduceIte, Int.reduceEq, reduceCtorEq, Int.tmod_eq_emod_of_nonneg, Int.tdiv_eq_ediv_of_nonneg, f40, f41, f42, f43, f44, f45, f46, h10]
    have h12 : ∀ n, den (mkE fnP rows0 [a0, a1] [] [] fun _ => undef) (n + 4) frmT_e12 = some (.bool ((decide (1000000 < (yearI a1))))) := by
      intro n
      simp (disch := omega) only [frmT_e12, den_i, den_b, den_s, den_sv, den_t, denL_nil, denL_cons, Option.bind_some, i0, i1, i2, i4, i5, i6, i8, i10, i13, i13z, i14, i15, i17, i18, i20, i21, i22, i23, i24, i30, i30s, i30b, i31, wr64, mk_int, mk_bool, mk_str, mk_fns, getD_z, getD_s, Int.reduceToNat, ↓reduceIte, Int.reduceEq, reduceCtorEq, Int.tmod_eq_emod_of_nonneg, Int.tdiv_eq_ediv_of_nonneg, f40, f41, f42, f43, f44, f45, f46, h10]
    have h13 : ∀ n, den (mkE fnP rows0 [a0, a1] [] [] fun _ => undef) (n + 3) frmT_e13 = some (.int .i64 ((mdayI a1))) := by
      intro n
      simp (disch := omega) only [frmT_e13, den_i, den_b, den_s, den_sv, den_t, denL_nil, denL_cons, Option.bind_some, i0, i1, i2, i4, i5, i6, i8, i10, i13, i13z, i14, i15, i17, i18, i20, i21, i22, i23, i24, i30, i30s, i30b, i31, wr64, mk_int, mk_bool, mk_str, mk_fns, getD_z, getD_s, Int.reduceToNat, ↓reduceIte, Int.reduceEq, reduceCtorEq, Int.tmod_eq_emod_of_nonneg, Int.tdiv_eq_ediv_of_nonneg, f40, f41, f42, f43, f44, f45, f46]
    have h14 : ∀ n, den (mkE fnP rows0 [a0, a1] [] [] fun _ => undef) (n + 4) frmT_e14 = some (.int .i64 ((a1 - (mdayI a1)))) := by
      intro n
      simp (disch := omega) only [frmT_e14, den_i, den_b, den_s, den_sv, den_t, denL_nil, denL_cons, Option.bind_some, i0, i1, i2, i4, i5, i6, i8, i10, i13, i13z, i14, i15, i17, i18, i20, i21, i22, i23, i24, i30, i30s, i30b, i31, wr64, mk_int, mk_bool, mk_str, mk_fns, getD_z, getD_s, Int.reduceToNat, ↓reduceIte, Int.reduceEq, reduceCtorEq, Int.tmod_eq_emod_of_nonneg, Int.tdiv_eq_ediv_of_nonneg, f40, f41, f42, f43, f44, f45, f46, h13]
    have h15 : ∀ n, den (mkE fnP rows0 [a0, a1] [] [] fun _ => undef) (n + 5) frmT_e15 = some (.int .i64 (((a1 - (mdayI a1)) + 1))) := by
      intro n
      simp (disch := omega) only [frmT_e15, den_i, den_b, den_s, den_sv, den_t, denL_nil, denL_cons, Option.bind_some, i0, i1, i2, i4, i5, i6, i8, i10, i13, i13z, i14, i15, i17, i18, i20, i21, i22, i23, i24, i30, i30s, i30b, i31, wr64, mk_int, mk_bool, mk_str, mk_fns, getD_z, getD_s, Int.reduceToNat, ↓reduceIte, Int.reduceEq, reduceCtorEq, Int.tmod_eq_emod_of_nonneg, Int.tdiv_eq_ediv_of_nonneg, f40, f41, f42, f43, f44, f45, f46, h14]
    have h16 : ∀ n, den (mkE fnP rows0 [a0, a1] [] [] fun _ => undef) (n + 3) frmT_e16 = some (.int .i64 ((monthI a1))) := by
      intro n
      simp (disch := omega) only [frmT_e16, den_i, den_b, den_s, den_sv, den_t, denL_nil, denL_cons, Option.bind_some, i0, i1, i2, i4, i5, i6, i8, i10, i13, i13z, i14, i15, i17, i18, i20, i21, i22, i23, i24, i30, i30s, i30b, i31, wr64, mk_int, mk_bool, mk_str, mk_fns, getD_z, getD_s, Int.reduceToNat, ↓reduceIte, Int.reduceEq, reduceCtorEq, Int.tmod_eq_emod_of_nonneg, Int.tdiv_eq_ediv_of_nonneg, f40, f41, f42, f43, f44, f45, f46]
    have h17 : ∀ n, den (mkE fnP rows0 [a0, a1] [] [] fun _ => undef) (n + 4) frmT_e17 = some (.int .i64 ((longI (yearI a1) (monthI a1)))) := by
      intro n
      simp (disch := omega) only [frmT_e17, den_i, den_b, den_s, den_sv, den_t, denL_nil, denL_cons, Option.bind_some, i0, i1, i2, i4, i5, i6, i8, i10, i13, i13z, i14, i15, i17, i18, i20, i21, i22, i23, i24, i30, i30s, i30b, i31, wr64, mk_int, mk_bool, mk_str, mk_fns, getD_z, getD_s, Int.reduceToNat, ↓reduceIte, Int.reduceEq, reduceCtorEq, Int.tmod_eq_emod_of_nonneg, Int.tdiv_eq_ediv_of_nonneg, f40, f41, f42, f43, f44, f45, f46, h10, h16]
    have h18 : ∀ n, den (mkE fnP rows0 [a0, a1] [] [] fun _ => undef) (n + 5) frmT_e18 = some (.int .i64 (((a1 - (mdayI a1)) + (longI (yearI a1) (monthI a1))))) := by
      intro n
      simp (disch := omega) only [frmT_e18, den_i, den_b, den_s, den_sv, den_t, denL_nil, denL_cons, Option.bind_some, i0, i1, i2, i4, i5, i6, i8, i10, i13, i13z, i14, i15, i17, i18, i20, i21, i22, i23, i24, i30, i30s, i30b, i31, wr64, mk_int, mk_bool, mk_str, mk_fns, getD_z, getD_s, Int.reduceToNat, ↓reduceIte, Int.reduceEq, reduceCtorEq, Int.tmod_eq_emod_of_nonneg, Int.tdiv_eq_ediv_of_nonneg, f40, f41, f42, f43, f44, f45, f46, h14, h17]
    have h19 : ∀ n, den (mkE fnP rows0 [a0, a1] [] [] fun _ => undef) (n + 3) frmT_e19 = some (.bool ((decide (a0 = 3)))) := by
      intro n
      simp (disch := omega) only [frmT_e19, den_i, den_b, den_s, den_sv, den_t, denL_nil, denL_cons, Option.bind_some, i0, i1, i2, i4, i5, i6, i8, i10, i13, i13z, i14, i15, i17, i18, i20, i21, i22, i23, i24, i30, i30s, i30b, i31, wr64, mk_int, mk_bool, mk_str, mk_fns, getD_z, getD_s, Int.reduceToNat, ↓reduceIte, Int.reduceEq, reduceCtorEq, Int.tmod_eq_emod_of_nonneg, Int.tdiv_eq_ediv_of_nonneg, f40, f41, f42, f43, f44, f45, f46]
    have h20 : ∀ n, den (mkE fnP rows0 [a0, a1] [] [] fun _ => undef) (n + 4) frmT_e20 = some (.int .i64 (((yearI a1) - 1))) := by
      intro n
      simp (disch := omega) only [frmT_e20, den_i, den_b, den_s, den_sv, den_t, denL_nil, denL_cons, Option.bind_some, i0, i1, i2, i4, i5, i6, i8, i10, i13, i13z, i14, i15, i17, i18, i20, i21, i22, i23, i24, i30, i30s, i30b, i31, wr64, mk_int, mk_bool, mk_str, mk_fns, getD_z, getD_s, Int.reduceToNat, ↓reduceIte, Int.reduceEq, reduceCtorEq, Int.tmod_eq_emod_of_nonneg, Int.tdiv_eq_ediv_of_nonneg, f40, f41, f42, f43, f44, f45, f46, h10]
    have h21 : ∀ n, den (mkE fnP rows0 [a0, a1] [] [] fun _ => undef) (n + 5) frmT_e21 = some (.int .i64 ((365 * ((yearI a1) - 1)))) := by
      intro n
      simp (disch := omega) only [frmT_e21, den_i, den_b, den_s, den_sv, den_t, denL_nil, denL_cons, Option.bind_some, i0, i1, i2, i4, i5, i6, i8, i10, i13, i13z, i14, i15, i17, i18, i20, i21, i22, i23, i24, i30, i30s, i30b, i31, wr64, mk_int, mk_bool, mk_str, mk_fns, getD_z, getD_s, Int.reduceToNat, ↓reduceIte, Int.reduceEq, reduceCtorEq, Int.tmod_eq_emod_of_nonneg, Int.tdiv_eq_ediv_of_nonneg, f40, f41, f42, f43, f44, f45, f46, h20]
    have h22 : ∀ n, den (mkE fnP rows0 [a0, a1] [] [] fun _ => undef) (n + 5) frmT_e22 = some (.int .i64 ((((yearI a1) - 1) / 4))) := by
      intro n
      simp (disch := omega) only [frmT_e22, den_i, den_b, den_s, den_sv, den_t, denL_nil, denL_cons, Option.bind_some, i0, i1, i2, i4, i5, i6, i8, i10, i13, i13z, i14, i15, i17, i18, i20, i21, i22, i23, i24, i30, i30s, i30b, i31, wr64, mk_int, mk_bool, mk_str, mk_fns, getD_z, getD_s, Int.reduceToNat, ↓reduceIte, Int.reduceEq, reduceCtorEq, Int.tmod_eq_emod_of_nonneg, Int.tdiv_eq_ediv_of_nonneg, f40, f41, f42, f43, f44, f45, f46, h20]
    have h23 : ∀ n, den (mkE fnP rows0 [a0, a1] [] [] fun _ => undef) (n + 6) frmT_e23 = some (.int .i64 ((1 * (((yearI a1) - 1) / 4)))) := by
      intro n
      simp (disch := omega) only [frmT_e23, den_i, den_b, den_s, den_sv, den_t, denL_nil, denL_cons, Option.bind_some, i0, i1, i2, i4, i5, i6, i8, i10, i13, i13z, i14, i15, i17, i18, i20, i21, i22, i23, i24, i30, i30s, i30b, i31, wr64, mk_int, mk_bool, mk_str, mk_fns, getD_z, getD_s, Int.reduceToNat, ↓reduceIte, Int.reduceEq, reduceCtorEq, Int.tmod_eq_emod_of_nonneg, Int.tdiv_eq_ediv_of_nonneg, f40, f41, f42, f43, f44, f45, f46, h22]
    have h24 : ∀ n, den (mkE fnP rows0 [a0, a1] [] [] fun _ => undef) (n + 7) frmT_e24 = some (.int .i64 (((365 * ((yearI a1) - 1)) + (1 * (((yearI a1) - 1) / 4))))) := by
      intro n
      simp (disch := omega) only [frmT_e24, den_i, den_b, den_s, den_sv, den_t, denL_nil, denL_cons, Option.bind_some, i0, i1, i2, i4, i5, i6, i8, i10, i13, i13z, i14, i15, i17, i18, i20, i21, i22, i23, i24, i30, i30s, i30b, i31, wr64, mk_int, mk_bool, mk_str, mk_fns, getD_z, getD_s, Int.reduceToNat, ↓reduceIte, Int.reduceEq, reduceCtorEq, Int.tmod_eq_emod_of_nonneg, Int.tdiv_eq_ediv_of_nonneg, f40, f41, f42, f43, f44, f45, f46, h21, h23]
    have h25 : ∀ n, den (mkE fnP rows0 [a0, a1] [] [] fun _ => undef) (n + 5) frmT_e25 = some (.int .i64 ((((yearI a1) - 1) / 100))) := by
      intro n
      simp (disch := omega) only [frmT_e25, den_i, den_b, den_s, den_sv, den_t, denL_nil, denL_cons, Option.bind_some, i0, i1, i2, i4, i5, i6, i8, i10, i13, i13z, i14, i15, i17, i18, i20, i21, i22, i23, i24, i30, i30s, i30b, i31, wr64, mk_int, mk_bool, mk_str, mk_fns, getD_z, getD_s, Int.reduceToNat, ↓reduceIte, Int.reduceEq, reduceCtorEq, Int.tmod_eq_emod_of_nonneg, Int.tdiv_eq_ediv_of_nonneg, f40, f41, f42, f43, f44, f45, f46, h20]
    have h26 : ∀ n, den (mkE fnP rows0 [a0, a1] [] [] fun _ => undef) (n + 6) frmT_e26 = some (.int .i64 (((-1) * (((yearI a1) - 1) / 100)))) := by
      intro n
      simp (disch := omega) only [frmT_e26, den_i, den_b, den_s, den_sv, den_t, denL_nil, denL_cons, Option.bind_some, i0, i1, i2, i4, i5, i6, i8, i10, i13, i13z, i14, i15, i17, i18, i20, i21, i22, i23, i24, i30, i30s, i30b, i31, wr64, mk_int, mk_bool, mk_str, mk_fns, getD_z, getD_s, Int.reduceToNat, ↓reduceIte, Int.reduceEq, reduceCtorEq, Int.tmod_eq_emod_of_nonneg, Int.tdiv_eq_ediv_of_nonneg, f40, f41, f42, f43, f44, f45, f46, h25]
    have h27 : ∀ n, den (mkE fnP rows0 [a0, a1] [] [] fun _ => undef) (n + 8) frmT_e27 = some (.int .i64 ((((365 * ((yearI a1) - 1)) + (1 * (((yearI a1) - 1) / 4))) + ((-1) * (((yearI a1) - 1) / 100))))) := by
      intro n
      simp (disch := omega) only [frmT_e27, den_i, den_b, den_s, den_sv, den_t, denL_nil, denL_cons, Option.bind_some, i0, i1, i2, i4, i5, i6, i8, i10, i13, i13z, i14, i15, i17, i18, i20, i21, i22, i23, i24, i30, i30s, i30b, i31, wr64, mk_int, mk_bool, mk_str, mk_fns, getD_z, getD_s, Int.reduceToNat, ↓reduceIte, Int.reduceEq, reduceCtorEq, Int.tmod_eq_emod_of_nonneg, Int.tdiv_eq_ediv_of_nonneg, f40, f41, f42, f43, f44, f45, f46, h24, h26]
    have h28 : ∀ n, den (mkE fnP rows0 [a0, a1] [] [] fun _ => undef) (n + 5) frmT_e28 = some (.int .i64 ((((yearI a1) - 1) / 400))) := by
      intro n
      simp (disch := omega) only [frmT_e28, den_i, den_b, den_s, den_sv, den_t, denL_nil, denL_cons, Option.bind_some, i0, i1, i2, i4, i5, i6, i8, i10, i13, i13z, i14, i15, i17, i18, i20, i21, i22, i23, i24, i30, i30s, i30b, i31, wr64, mk_int, mk_bool, mk_str, mk_fns, getD_z, getD_s, Int.reduceToNat, ↓reduceIte, Int.reduceEq, reduceCtorEq, Int.tmod_eq_emod_of_nonneg, Int.tdiv_eq_ediv_of_nonneg, f40, f41, f42, f43, f44, f45, f46, h20]
    have h29 : ∀ n, den (mkE fnP rows0 [a0, a1] [] [] fun _ => undef) (n + 6) frmT_e29 = some (.int .i64 ((1 * (((yearI a1) - 1) / 400)))) := by
      intro n
      simp (disch := omega) only [frmT_e29, den_i, den_b, den_s, den_sv, den_t, denL_nil, denL_cons, Option.bind_some, i0, i1, i2, i4, i5, i6, i8, i10, i13, i13z, i14, i15, i17, i18, i20, i21, i22, i23, i24, i30, i30s, i30b, i31, wr64, mk_int, mk_bool, mk_str, mk_fns, getD_z, getD_s, Int.reduceToNat, ↓reduceIte, Int.reduceEq, reduceCtorEq, Int.tmod_eq_emod_of_nonneg, Int.tdiv_eq_ediv_of_nonneg, f40, f41, f42, f43, f44, f45, f46, h28]
    have h30 : ∀ n, den (mkE fnP rows0 [a0, a1] [] [] fun _ => undef) (n + 9) frmT_e30 = some (.int .i64 (((((365 * ((yearI a1) - 1)) + (1 * (((yearI a1) - 1) / 4))) + ((-1) * (((yearI a1) - 1) / 100))) + (1 * (((yearI a1) - 1) / 400))))) := by
      intro n
      simp (disch := omega) only [frmT_e30, den_i, den_b, den_s, den_sv, den_t, denL_nil, denL_cons, Option.bind_some, i0, i1, i2, i4, i5, i6, i8, i10, i13, i13z, i14, i15, i17, i18, i20, i21, i22, i23, i24, i30, i30s, i30b, i31, wr64, mk_int, mk_bool, mk_str, mk_fns, getD_z, getD_s, Int.reduceToNat, ↓reduceIte, Int.reduceEq, reduceCtorEq, Int.tmod_eq_emod_of_nonneg, Int.tdiv_eq_ediv_of_nonneg, f40, f41, f42, f43, f44, f45, f46, h27, h29]
    have h31 : ∀ n, den (mkE fnP rows0 [a0, a1] [] [] fun _ => undef) (n + 10) frmT_e31 = some (.int .i64 ((((((365 * ((yearI a1) - 1)) + (1 * (((yearI a1) - 1) / 4))) + ((-1) * (((yearI a1) - 1) / 100))) + (1 * (((yearI a1) - 1) / 400))) + 1))) := by
      intro n
      simp (disch := omega) only [frmT_e31, den_i, den_b, den_s, den_sv, den_t, denL_nil, denL_cons, Option.bind_some, i0, i1, i2, i4, i5, i6, i8, i10, i13, i13z, i14, i15, i17, i18, i20, i21, i22, i23, i24, i30, i30s, i30b, i31, wr64, mk_int, mk_bool, mk_str, mk_fns, getD_z, getD_s, Int.reduceToNat, ↓reduceIte, Int.reduceEq, reduceCtorEq, Int.tmod_eq_emod_of_nonneg, Int.tdiv_eq_ediv_of_nonneg, f40, f41, f42, f43, f44, f45, f46, h30]
    have h32 : ∀ n, den (mkE fnP rows0 [a0, a1] [] [] fun _ => undef) (n + 4) frmT_e32 = some (.int .i64 (((yearI a1) + 1))) := by
      intro n
      simp (disch := omega) only [frmT_e32, den_i, den_b, den_s, den_sv, den_t, denL_nil, denL_cons, Option.bind_some, i0, i1, i2, i4, i5, i6, i8, i10, i13, i13z, i14, i15, i17, i18, i20, i21, i22, i23, i24, i30, i30s, i30b, i31, wr64, mk_int, mk_bool, mk_str, mk_fns, getD_z, getD_s, Int.reduceToNat, ↓reduceIte, Int.reduceEq, reduceCtorEq, Int.tmod_eq_emod_of_nonneg, Int.tdiv_eq_ediv_of_nonneg, f40, f41, f42, f43, f44, f45, f46, h10]
    have h33 : ∀ n, den (mkE fnP rows0 [a0, a1] [] [] fun _ => undef) (n + 5) frmT_e33 = some (.int .i64 ((((yearI a1) + 1) - 1))) := by
      intro n
      simp (disch := omega) only [frmT_e33, den_i, den_b, den_s, den_sv, den_t, denL_nil, denL_cons, Option.bind_some, i0, i1, i2, i4, i5, i6, i8, i10, i13, i13z, i14, i15, i17, i18, i20, i21, i22, i23, i24, i30, i30s, i30b, i31, wr64, mk_int, mk_bool, mk_str, mk_fns, getD_z, getD_s, Int.reduceToNat, ↓reduceIte, Int.reduceEq, reduceCtorEq, Int.tmod_eq_emod_of_nonneg, Int.tdiv_eq_ediv_of_nonneg, f40, f41, f42, f43, f44, f45, f46, h32]
    have h34 : ∀ n, den (mkE fnP rows0 [a0, a1] [] [] fun _ => undef) (n + 6) frmT_e34 = some (.int .i64 ((365 * (((yearI a1) + 1) - 1)))) := by
      intro n
      simp (disch := omega) only [frmT_e34, den_i, den_b, den_s, den_sv, den_t, denL_nil, denL_cons, Option.bind_some, i0, i1, i2, i4, i5, i6, i8, i10, i13, i13z, i14, i15, i17, i18, i20, i21, i22, i23, i24, i30, i30s, i30b, i31, wr64, mk_int, mk_bool, mk_str, mk_fns, getD_z, getD_s, Int.reduceToNat, ↓reduceIte, Int.reduceEq, reduceCtorEq, Int.tmod_eq_emod_of_nonneg, Int.tdiv_eq_ediv_of_nonneg, f40, f41, f42, f43, f44, f45, f46, h33]
    have h35 : ∀ n, den (mkE fnP rows0 [a0, a1] [] [] fun _ => undef) (n + 6) frmT_e35 = some (.int .i64 (((((yearI a1) + 1) - 1) / 4))) := by
      intro n
      simp (disch := omega) only [frmT_e35, den_i, den_b, den_s, den_sv, den_t, denL_nil, denL_cons, Option.bind_some, i0, i1, i2, i4, i5, i6, i8, i10, i13, i13z, i14, i15, i17, i18, i20, i21, i22, i23, i24, i30, i30s, i30b, i31, wr64, mk_int, mk_bool, mk_str, mk_fns, getD_z, getD_s, Int.reduceToNat, ↓reduceIte, Int.reduceEq, reduceCtorEq, Int.tmod_eq_emod_of_nonneg, Int.tdiv_eq_ediv_of_nonneg, f40, f41, f42, f43, f44, f45, f46, h33]
    have h36 : ∀ n, den (mkE fnP rows0 [a0, a1] [] [] fun _ => undef) (n + 7) frmT_e36 = some (.int .i64 ((1 * ((((yearI a1) + 1) - 1) / 4)))) := by
      intro n
      simp (disch := omega) only [frmT_e36, den_i, den_b, den_s, den_sv, den_t, denL_nil, denL_cons, Option.bind_some, i0, i1, i2, i4, i5, i6, i8, i10, i13, i13z, i14, i15, i17, i18, i20, i21, i22, i23, i24, i30, i30s, i30b, i31, wr64, mk_int, mk_bool, mk_str, mk_fns, getD_z, getD_s, Int.reduceToNat, ↓reduceIte, Int.reduceEq, reduceCtorEq, Int.tmod_eq_emod_of_nonneg, Int.tdiv_eq_ediv_of_nonneg, f40, f41, f42, f43, f44, f45, f46, h35]
    have h37 : ∀ n, den (mkE fnP rows0 [a0, a1] [] [] fun _ => undef) (n + 8) frmT_e37 = some (.int .i64 (((365 * (((yearI a1) + 1) - 1)) + (1 * ((((yearI a1) + 1) - 1) / 4))))) := by
      intro n
      simp (disch := omega) only [frmT_e37, den_i, den_b, den_s, den_sv, den_t, denL_nil, denL_cons, Option.bind_some, i0, i1, i2, i4, i5, i6, i8, i10, i13, i13z, i14, i15, i17, i18, i20, i21, i22, i23, i24, i30, i30s, i30b, i31, wr64, mk_int, mk_bool, mk_str, mk_fns, getD_z, getD_s, Int.reduceToNat, ↓reduceIte, Int.reduceEq, reduceCtorEq, Int.tmod_eq_emod_of_nonneg, Int.tdiv_eq_ediv_of_nonneg, f40, f41, f42, f43, f44, f45, f46, h34, h36]
    have h38 : ∀ n, den (mkE fnP rows0 [a0, a1] [] [] fun _ => undef) (n + 6) frmT_e38 = some (.int .i64 (((((yearI a1) + 1) - 1) / 100))) := by
      intro n
      simp (disch := omega) only [frmT_e38, den_i, den_b, den_s, den_sv, den_t, denL_nil, denL_cons, Option.bind_some, i0, i1, i2, i4, i5, i6, i8, i10, i13, i13z, i14, i15, i17, i18, i20, i21, i22, i23, i24, i30, i30s, i30b, i31, wr64, mk_int, mk_bool, mk_str, mk_fns, getD_z, getD_s, Int.reduceToNat, ↓reduceIte, Int.reduceEq, reduceCtorEq, Int.tmod_eq_emod_of_nonneg, Int.tdiv_eq_ediv_of_nonneg, f40, f41, f42, f43, f44, f45, f46, h33]
    have h39 : ∀ n, den (mkE fnP rows0 [a0, a1] [] [] fun _ => undef) (n + 7) frmT_e39 = some (.int .i64 (((-1) * ((((yearI a1) + 1) - 1) / 100)))) := by
      intro n
      simp (disch := omega) only [frmT_e39, den_i, den_b, den_s, den_sv, den_t, denL_nil, denL_cons, Option.bind_some, i0, i1, i2, i4, i5, i6, i8, i10, i13, i13z, i14, i15, i17, i18, i20, i21, i22, i23, i24, i30, i30s, i30b, i31, wr64, mk_int, mk_bool, mk_str, mk_fns, getD_z, getD_s, Int.reduceToNat, ↓reduceIte, Int.reduceEq, reduceCtorEq, Int.tmod_eq_emod_of_nonneg, Int.tdiv_eq_ediv_of_nonneg, f40, f41, f42, f43, f44, f45, f46, h38]
    have h40 : ∀ n, den (mkE fnP rows0 [a0, a1] [] [] fun _ => undef) (n + 9) frmT_e40 = some (.int .i64 ((((365 * (((yearI a1) + 1) - 1)) + (1 * ((((yearI a1) + 1) - 1) / 4))) + ((-1) * ((((yearI a1) + 1) - 1) / 100))))) := by
      intro n
      simp (disch := omega) only [frmT_e40, den_i, den_b, den_s, den_sv, den_t, denL_nil, denL_cons, Option.bind_some, i0, i1, i2, i4, i5, i6, i8, i10, i13, i13z, i14, i15, i17, i18, i20, i21, i22, i23, i24, i30, i30s, i30b, i31, wr64, mk_int, mk_bool, mk_str, mk_fns, getD_z, getD_s, Int.reduceToNat, ↓reduceIte, Int.reduceEq, reduceCtorEq, Int.tmod_eq_emod_of_nonneg, Int.tdiv_eq_ediv_of_nonneg, f40, f41, f42, f43, f44, f45, f46, h37, h39]
    have h41 : ∀ n, den (mkE fnP rows0 [a0, a1] [] [] fun _ => undef) (n + 6) frmT_e41 = some (.int .i64 (((((yearI a1) + 1) - 1) / 400))) := by
      intro n
      simp (disch := omega) only [frmT_e41, den_i, den_b, den_s, den_sv, den_t, denL_nil, denL_cons, Option.bind_some, i0, i1, i2, i4, i5, i6, i8, i10, i13, i13z, i14, i15, i17, i18, i20, i21, i22, i23, i24, i30, i30s, i30b, i31, wr64, mk_int, mk_bool, mk_str, mk_fns, getD_z, getD_s, Int.reduceToNat, ↓reduceIte, Int.reduceEq, reduceCtorEq, Int.tmod_eq_emod_of_nonneg, Int.tdiv_eq_ediv_of_nonneg, f40, f41, f42, f43, f44, f45, f46, h33]
    have h42 : ∀ n, den (mkE fnP rows0 [a0, a1] [] [] fun _ => undef) (n + 7) frmT_e42 = some (.int .i64 ((1 * ((((yearI a1) + 1) - 1) / 400)))) := by
      intro n
      simp (disch := omega) only [frmT_e42, den_i, den_b, den_s, den_sv, den_t, denL_nil, denL_cons, Option.bind_some, i0, i1, i2, i4, i5, i6, i8, i10, i13, i13z, i14, i15, i17, i18, i20, i21, i22, i23, i24, i30, i30s, i30b, i31, wr64, mk_int, mk_bool, mk_str, mk_fns, getD_z, getD_s, Int.reduceToNat, ↓reduceIte, Int.reduceEq, reduceCtorEq, Int.tmod_eq_emod_of_nonneg, Int.tdiv_eq_ediv_of_nonneg, f40, f41, f42, f43, f44, f45, f46, h41]
    have h43 : ∀ n, den (mkE fnP rows0 [a0, a1] [] [] fun _ => undef) (n + 10) frmT_e43 = some (.int .i64 (((((365 * (((yearI a1) + 1) - 1)) + (1 * ((((yearI a1) + 1) - 1) / 4))) + ((-1) * ((((yearI a1) + 1) - 1) / 100))) + (1 * ((((yearI a1) + 1) - 1) / 400))))) := by
      intro n
      simp (disch := omega) only [frmT_e43, den_i, den_b, den_s, den_sv, den_t, denL_nil, denL_cons, Option.bind_some, i0, i1, i2, i4, i5, i6, i8, i10, i13, i13z, i14, i15, i17, i18, i20, i21, i22, i23, i24, i30, i30s, i30b, i31, wr64, mk_int, mk_bool, mk_str, mk_fns, getD_z, getD_s, Int.reduceToNat, ↓reduceIte, Int.reduceEq, reduceCtorEq, Int.tmod_eq_emod_of_nonneg, Int.tdiv_eq_ediv_of_nonneg, f40, f41, f42, f43, f44, f45, f46, h40, h42]
    simp only [frmT, val_leaf, val_node, val_need, pick_b, want_b, den_i, den_b, den_s, den_t, denL_nil, denL_cons, Option.bind_some, i0, i2, mk_int, mk_str, mk_fns, getD_z, getD_s, decide_eq_true_eq, decide_eq_false_iff_not, h0, h1, h2, h3, h4, h5, h6, h7, h8, h9, h10, h11, h12, h13, h14, h15, h16, h17, h18, h19, h20, h21, h22, h23, h24, h25, h26, h27, h28, h29, h30, h31, h32, h33, h34, h35, h36, h37, h38, h39, h40, h41, h42, h43]
    rw [if_pos (by omega), if_pos (by omega)]
    simp only [pFrom, pTo]
    have e : (a1 + 6) % 7 = (a1 - 1) % 7 := by omega
    by_cases c1 : a0 = 1
    · simp only [if_pos c1, e]
    simp only [if_neg c1]
    by_cases c2 : a0 = 2
    · simp only [if_pos c2]
      rw [if_pos (by omega), if_pos (by omega)]
    simp only [if_neg c2]
    by_cases c3 : a0 = 3
    · simp only [if_pos c3]
      exact tup2 (by unfold aheadI; omega) (by unfold aheadI; omega)
    · simp only [if_neg c3]
      exact tup2 rfl rfl
  · intro ρ hρ
    exact vr2 (vr_int hρ _ _ rfl) (vr_int hρ _ _ rfl)
end Go.Proofs.YtnbkknlljbhpgaaGreatDoor
