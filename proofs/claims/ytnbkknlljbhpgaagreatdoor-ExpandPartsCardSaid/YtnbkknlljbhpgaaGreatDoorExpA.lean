/- ExpandParts. -/
import Derived.Test.YtnbkknlljbhpgaaGreatDoorPer5L
import Derived.OpenShut
namespace Go.Proofs.YtnbkknlljbhpgaaGreatDoor
set_option linter.unusedVariables false
set_option linter.unusedSimpArgs false
open Go Go.Sy Go.RowKit

def eaT_e0 : Value := sv 31 [(sv 0 [.int .u32 1]), .int .u32 0]
def eaT_e1 : Value := sv 31 [.int .u32 4294967295, (sv 0 [.int .u32 1])]
def eaT_e2 : Value := sv 31 [(sv 0 [.int .u8 2]), .int .u8 0]
def eaT_e3 : Value := sv 31 [.int .u8 255, (sv 0 [.int .u8 2])]
def eaT_e4 : Value := sv 4 [.int .i64 47, (sv 0 [.int .u32 1]), (sv 0 [.int .u8 2])]
def eaT_e5 : Value := sv 31 [eaT_e4, .int .i64 1]
def eaT_e6 : Value := sv 31 [.int .i64 3652059, eaT_e4]
def eaT_e7 : Value := sv 24 [.int .u8 0, (sv 0 [.int .u8 0]), .int .u8 4]
def eaT_e8 : Value := sv 14 [.int .i64 0, eaT_e7]
def eaT_e9 : Value := sv 4 [.int .i64 48, eaT_e8, eaT_e4]
def eaT_e10 : Value := sv 31 [eaT_e4, eaT_e9]
def eaT_e11 : Value := sv 4 [.int .i64 49, eaT_e8, eaT_e4]
def eaT_e12 : Value := sv 31 [eaT_e11, eaT_e4]
def eaT_e13 : Value := sv 31 [eaT_e9, .int .i64 1]
def eaT_e14 : Value := sv 31 [.int .i64 3652059, eaT_e9]
def eaT_e15 : Value := sv 4 [.int .i64 48, eaT_e8, eaT_e9]
def eaT_e16 : Value := sv 4 [.int .i64 49, eaT_e8, eaT_e9]
def eaT_e17 : Value := sv 33 [eaT_e15, eaT_e9, eaT_e16, eaT_e11]
def eaT_e18 : Value := sv 31 [eaT_e11, .int .i64 1]
def eaT_e19 : Value := sv 31 [.int .i64 3652059, eaT_e11]
def eaT_e20 : Value := sv 4 [.int .i64 48, eaT_e8, eaT_e11]
def eaT_e21 : Value := sv 4 [.int .i64 49, eaT_e8, eaT_e11]
def eaT_e22 : Value := sv 33 [eaT_e20, eaT_e9, eaT_e21, eaT_e11]
def eaT_e23 : Value := sv 30 [eaT_e11, .int .i64 3652059]
def eaT_e24 : Value := sv 20 [.int .i64 0, eaT_e11, .int .i64 1]
def eaT_e25 : Value := sv 31 [eaT_e24, .int .i64 1]
def eaT_e26 : Value := sv 31 [.int .i64 3652059, eaT_e24]
def eaT_e27 : Value := sv 4 [.int .i64 48, eaT_e8, eaT_e24]
def eaT_e28 : Value := sv 30 [eaT_e27, eaT_e24]
def eaT : Tree := (.need eaT_e0 false
  (.need eaT_e1 false
  (.need eaT_e2 false
  (.need eaT_e3 false
  (.need eaT_e5 false
  (.need eaT_e6 false
  (.node eaT_e10
  (.leaf (.bool false))
  (.node eaT_e12
  (.leaf (.bool false))
  (.need eaT_e13 false
  (.need eaT_e14 false
  (.node eaT_e17
  (.need eaT_e18 false
  (.need eaT_e19 false
  (.node eaT_e22
  (.node eaT_e23
  (.leaf (.bool true))
  (.need eaT_e25 false
  (.need eaT_e26 false
  (.leaf (eaT_e28)))))
  (.leaf (.bool false)))))
  (.leaf (.bool false)))))))))))))

theorem walk_ExpandParts (a0 a1 a2 : Int) (w0 : (Lit.int .u8 a0).wf = true) (w1 : (Lit.int .u32 a1).wf = true) (w2 : (Lit.int .u8 a2).wf = true) (w : World) (hs : Wld w) :
    Calls Tryz.prog 5 #[.int .u8 a0, .int .u32 a1, .int .u8 a2] w fun e w' => e = .returned (.bool true) ∧ Below w.heap.size w w' := by
  have b0 := bounds_u8 w0
  have b1 := bounds_u32 w1
  have b2 := bounds_u8 w2
  have bd := dayI_bd a1 a2
  obtain ⟨l1, l2, l3, l4, l5, l6, l7, l8, l9⟩ := period_law (f := a0 % 4) (n := dayI a1 a2) (by omega) (by omega) bd.1 bd.2
  refine tree_any (FN := fnP) (cs := [awC 17, dayC, perC, fromC]) (args := [sv 0 [.int .u8 0], sv 0 [.int .u32 1], sv 0 [.int .u8 2]]) (T := eaT) (F0 := []) (E := mkE fnP rows0 [a0, a1, a2] [] [] fun _ => undef) ?_ (fun _ _ _ _ => by kernel_rfl) (by intro p hp; cases hp) rfl rfl ?_ ?_ hs
  · intro c hc
    simp only [List.mem_cons, List.not_mem_nil, or_false] at hc
    rcases hc with rfl | rfl | rfl | rfl
    · exact awC_ok aw5 fnP
    · exact dayC_ok fun _ _ => rfl
    · exact perC_ok (fun _ _ => rfl) fun _ _ => rfl
    · exact fromC_ok (fun _ _ => rfl) fun _ _ => rfl
  · have E0 : ∀ i, (mkE fnP rows0 [a0, a1, a2] [] [] fun _ => undef).int i = [a0, a1, a2].getD i 0 := fun _ => rfl
    have E2 : (mkE fnP rows0 [a0, a1, a2] [] [] fun _ => undef).fns = fnP := rfl
    have f47 : ∀ a b, fnP.int 47 [.int .u32 a, .int .u8 b] = dayI a b := fun _ _ => rfl
    have f48 : ∀ a b, fnP.int 48 [.int .i64 a, .int .i64 b] = pFrom a b := fun _ _ => rfl
    have f49 : ∀ a b, fnP.int 49 [.int .i64 a, .int .i64 b] = pTo a b := fun _ _ => rfl
    have h0 : ∀ n, den (mkE fnP rows0 [a0, a1, a2] [] [] fun _ => undef) (n + 3) eaT_e0 = some (.bool ((decide (a1 < 0)))) := by
      intro n
      simp (disch := omega) only [eaT_e0, den_i, den_b, den_s, den_sv, den_t, denL_nil, denL_cons, Option.bind_some, i0, i1, i2, i4, i5, i6, i8, i10, i13, i13z, i14, i15, i17, i18, i20, i21, i22, i23, i24, i30, i30s, i30b, i31, i33, wr64, mk_int, mk_bool, mk_str, mk_fns, getD_z, getD_s, Int.reduceToNat, ↓reduceIte, Int.reduceEq, reduceCtorEq, Int.tmod_eq_emod_of_nonneg, Int.tdiv_eq_ediv_of_nonneg, f47, f48, f49]
    have h1 : ∀ n, den (mkE fnP rows0 [a0, a1, a2] [] [] fun _ => undef) (n + 3) eaT_e1 = some (.bool ((decide (4294967295 < a1)))) := by
      intro n
      simp (disch := omega) only [eaT_e1, den_i, den_b, den_s, den_sv, den_t, denL_nil, denL_cons, Option.bind_some, i0, i1, i2, i4, i5, i6, i8, i10, i13, i13z, i14, i15, i17, i18, i20, i21, i22, i23, i24, i30, i30s, i30b, i31, i33, wr64, mk_int, mk_bool, mk_str, mk_fns, getD_z, getD_s, Int.reduceToNat, ↓reduceIte, Int.reduceEq, reduceCtorEq, Int.tmod_eq_emod_of_nonneg, Int.tdiv_eq_ediv_of_nonneg, f47, f48, f49]
    have h2 : ∀ n, den (mkE fnP rows0 [a0, a1, a2] [] [] fun _ => undef) (n + 3) eaT_e2 = some (.bool ((decide (a2 < 0)))) := by
      intro n
      simp (disch := omega) only [eaT_e2, den_i, den_b, den_s, den_sv, den_t, denL_nil, denL_cons, Option.bind_some, i0, i1, i2, i4, i5, i6, i8, i10, i13, i13z, i14, i15, i17, i18, i20, i21, i22, i23, i24, i30, i30s, i30b, i31, i33, wr64, mk_int, mk_bool, mk_str, mk_fns, getD_z, getD_s, Int.reduceToNat, ↓reduceIte, Int.reduceEq, reduceCtorEq, Int.tmod_eq_emod_of_nonneg, Int.tdiv_eq_ediv_of_nonneg, f47, f48, f49]
    have h3 : ∀ n, den (mkE fnP rows0 [a0, a1, a2] [] [] fun _ => undef) (n + 3) eaT_e3 = some (.bool ((decide (255 < a2)))) := by
      intro n
      simp (disch := omega) only [eaT_e3, den_i, den_b, den_s, den_sv, den_t, denL_nil, denL_cons, Option.bind_some, i0, i1, i2, i4, i5, i6, i8, i10, i13, i13z, i14, i15, i17, i18, i20, i21, i22, i23, i24, i30, i30s, i30b, i31, i33, wr64, mk_int, mk_bool, mk_str, mk_fns, getD_z, getD_s, Int.reduceToNat, ↓reduceIte, Int.reduceEq, reduceCtorEq, Int.tmod_eq_emod_of_nonneg, Int.tdiv_eq_ediv_of_nonneg, f47, f48, f49]
    have h4 : ∀ n, den (mkE fnP rows0 [a0, a1, a2] [] [] fun _ => undef) (n + 3) eaT_e4 = some (.int .i64 ((dayI a1 a2))) := by
      intro n
      simp (disch := omega) only [eaT_e4, den_i, den_b, den_s, den_sv, den_t, denL_nil, denL_cons, Option.bind_some, i0, i1, i2, i4, i5, i6, i8, i10, i13, i13z, i14, i15, i17, i18, i20, i21, i22, i23, i24, i30, i30s, i30b, i31, i33, wr64, mk_int, mk_bool, mk_str, mk_fns, getD_z, getD_s, Int.reduceToNat, ↓reduceIte, Int.reduceEq, reduceCtorEq, Int.tmod_eq_emod_of_nonneg, Int.tdiv_eq_ediv_of_nonneg, f47, f48, f49]
    have h5 : ∀ n, den (mkE fnP rows0 [a0, a1, a2] [] [] fun _ => undef) (n + 4) eaT_e5 = some (.bool ((decide ((dayI a1 a2) < 1)))) := by
      intro n
      simp (disch := omega) only [eaT_e5, den_i, den_b, den_s, den_sv, den_t, denL_nil, denL_cons, Option.bind_some, i0, i1, i2, i4, i5, i6, i8, i10, i13, i13z, i14, i15, i17, i18, i20, i21, i22, i23, i24, i30, i30s, i30b, i31, i33, wr64, mk_int, mk_bool, mk_str, mk_fns, getD_z, getD_s, Int.reduceToNat, ↓reduceIte, Int.reduceEq, reduceCtorEq, Int.tmod_eq_emod_of_nonneg, Int.tdiv_eq_ediv_of_nonneg, f47, f48, f49, h4]
    have h6 : ∀ n, den (mkE fnP rows0 [a0, a1, a2] [] [] fun _ => undef) (n + 4) eaT_e6 = some (.bool ((decide (3652059 < (dayI a1 a2))))) := by
      intro n
      simp (disch := omega) only [eaT_e6, den_i, den_b, den_s, den_sv, den_t, denL_nil, denL_cons, Option.bind_some, i0, i1, i2, i4, i5, i6, i8, i10, i13, i13z, i14, i15, i17, i18, i20, i21, i22, i23, i24, i30, i30s, i30b, i31, i33, wr64, mk_int, mk_bool, mk_str, mk_fns, getD_z, getD_s, Int.reduceToNat, ↓reduceIte, Int.reduceEq, reduceCtorEq, Int.tmod_eq_emod_of_nonneg, Int.tdiv_eq_ediv_of_nonneg, f47, f48, f49, h4]
    have h7 : ∀ n, den (mkE fnP rows0 [a0, a1, a2] [] [] fun _ => undef) (n + 3) eaT_e7 = some (.int .u8 ((a0 % 4))) := by
      intro n
      simp (disch := omega) only [eaT_e7, den_i, den_b, den_s, den_sv, den_t, denL_nil, denL_cons, Option.bind_some, i0, i1, i2, i4, i5, i6, i8, i10, i13, i13z, i14, i15, i17, i18, i20, i21, i22, i23, i24, i30, i30s, i30b, i31, i33, wr64, mk_int, mk_bool, mk_str, mk_fns, getD_z, getD_s, Int.reduceToNat, ↓reduceIte, Int.reduceEq, reduceCtorEq, Int.tmod_eq_emod_of_nonneg, Int.tdiv_eq_ediv_of_nonneg, f47, f48, f49]
    have h8 : ∀ n, den (mkE fnP rows0 [a0, a1, a2] [] [] fun _ => undef) (n + 4) eaT_e8 = some (.int .i64 ((a0 % 4))) := by
      intro n
      simp (disch := omega) only [eaT_e8, den_i, den_b, den_s, den_sv, den_t, denL_nil, denL_cons, Option.bind_some, i0, i1, i2, i4, i5, i6, i8, i10, i13, i13z, i14, i15, i17, i18, i20, i21, i22, i23, i24, i30, i30s, i30b, i31, i33, wr64, mk_int, mk_bool, mk_str, mk_fns, getD_z, getD_s, Int.reduceToNat, ↓reduceIte, Int.reduceEq, reduceCtorEq, Int.tmod_eq_emod_of_nonneg, Int.tdiv_eq_ediv_of_nonneg, f47, f48, f49, h7]
    have h9 : ∀ n, den (mkE fnP rows0 [a0, a1, a2] [] [] fun _ => undef) (n + 5) eaT_e9 = some (.int .i64 ((pFrom (a0 % 4) (dayI a1 a2)))) := by
      intro n
      simp (disch := omega) only [eaT_e9, den_i, den_b, den_s, den_sv, den_t, denL_nil, denL_cons, Option.bind_some, i0, i1, i2, i4, i5, i6, i8, i10, i13, i13z, i14, i15, i17, i18, i20, i21, i22, i23, i24, i30, i30s, i30b, i31, i33, wr64, mk_int, mk_bool, mk_str, mk_fns, getD_z, getD_s, Int.reduceToNat, ↓reduceIte, Int.reduceEq, reduceCtorEq, Int.tmod_eq_emod_of_nonneg, Int.tdiv_eq_ediv_of_nonneg, f47, f48, f49, h8, h4]
    have h10 : ∀ n, den (mkE fnP rows0 [a0, a1, a2] [] [] fun _ => undef) (n + 6) eaT_e10 = some (.bool ((decide ((dayI a1 a2) < (pFrom (a0 % 4) (dayI a1 a2)))))) := by
      intro n
      simp (disch := omega) only [eaT_e10, den_i, den_b, den_s, den_sv, den_t, denL_nil, denL_cons, Option.bind_some, i0, i1, i2, i4, i5, i6, i8, i10, i13, i13z, i14, i15, i17, i18, i20, i21, i22, i23, i24, i30, i30s, i30b, i31, i33, wr64, mk_int, mk_bool, mk_str, mk_fns, getD_z, getD_s, Int.reduceToNat, ↓reduceIte, Int.reduceEq, reduceCtorEq, Int.tmod_eq_emod_of_nonneg, Int.tdiv_eq_ediv_of_nonneg, f47, f48, f49, h4, h9]
    have h11 : ∀ n, den (mkE fnP rows0 [a0, a1, a2] [] [] fun _ => undef) (n + 5) eaT_e11 = some (.int .i64 ((pTo (a0 % 4) (dayI a1 a2)))) := by
      intro n
      simp (disch := omega) only [eaT_e11, den_i, den_b, den_s, den_sv, den_t, denL_nil, denL_cons, Option.bind_some, i0, i1, i2, i4, i5, i6, i8, i10, i13, i13z, i14, i15, i17, i18, i20, i21, i22, i23, i24, i30, i30s, i30b, i31, i33, wr64, mk_int, mk_bool, mk_str, mk_fns, getD_z, getD_s, Int.reduceToNat, ↓reduceIte, Int.reduceEq, reduceCtorEq, Int.tmod_eq_emod_of_nonneg, Int.tdiv_eq_ediv_of_nonneg, f47, f48, f49, h8, h4]
    have h12 : ∀ n, den (mkE fnP rows0 [a0, a1, a2] [] [] fun _ => undef) (n + 6) eaT_e12 = some (.bool ((decide ((pTo (a0 % 4) (dayI a1 a2)) < (dayI a1 a2))))) := by
      intro n
      simp (disch := omega) only [eaT_e12, den_i, den_b, den_s, den_sv, den_t, denL_nil, denL_cons, Option.bind_some, i0, i1, i2, i4, i5, i6, i8, i10, i13, i13z, i14, i15, i17, i18, i20, i21, i22, i23, i24, i30, i30s, i30b, i31, i33, wr64, mk_int, mk_bool, mk_str, mk_fns, getD_z, getD_s, Int.reduceToNat, ↓reduceIte, Int.reduceEq, reduceCtorEq, Int.tmod_eq_emod_of_nonneg, Int.tdiv_eq_ediv_of_nonneg, f47, f48, f49, h11, h4]
    have h13 : ∀ n, den (mkE fnP rows0 [a0, a1, a2] [] [] fun _ => undef) (n + 6) eaT_e13 = some (.bool ((decide ((pFrom (a0 % 4) (dayI a1 a2)) < 1)))) := by
      intro n
      simp (disch := omega) only [eaT_e13, den_i, den_b, den_s, den_sv, den_t, denL_nil, denL_cons, Option.bind_some, i0, i1, i2, i4, i5, i6, i8, i10, i13, i13z, i14, i15, i17, i18, i20, i21, i22, i23, i24, i30, i30s, i30b, i31, i33, wr64, mk_int, mk_bool, mk_str, mk_fns, getD_z, getD_s, Int.reduceToNat, ↓reduceIte, Int.reduceEq, reduceCtorEq, Int.tmod_eq_emod_of_nonneg, Int.tdiv_eq_ediv_of_nonneg, f47, f48, f49, h9]
    have h14 : ∀ n, den (mkE fnP rows0 [a0, a1, a2] [] [] fun _ => undef) (n + 6) eaT_e14 = some (.bool ((decide (3652059 < (pFrom (a0 % 4) (dayI a1 a2)))))) := by
      intro n
      simp (disch := omega) only [eaT_e14, den_i, den_b, den_s, den_sv, den_t, denL_nil, denL_cons, Option.bind_some, i0, i1, i2, i4, i5, i6, i8, i10, i13, i13z, i14, i15, i17, i18, i20, i21, i22, i23, i24, i30, i30s, i30b, i31, i33, wr64, mk_int, mk_bool, mk_str, mk_fns, getD_z, getD_s, Int.reduceToNat, ↓reduceIte, Int.reduceEq, reduceCtorEq, Int.tmod_eq_emod_of_nonneg, Int.tdiv_eq_ediv_of_nonneg, f47, f48, f49, h9]
    have h15 : ∀ n, den (mkE fnP rows0 [a0, a1, a2] [] [] fun _ => undef) (n + 6) eaT_e15 = some (.int .i64 ((pFrom (a0 % 4) (pFrom (a0 % 4) (dayI a1 a2))))) := by
      intro n
      simp (disch := omega) only [eaT_e15, den_i, den_b, den_s, den_sv, den_t, denL_nil, denL_cons, Option.bind_some, i0, i1, i2, i4, i5, i6, i8, i10, i13, i13z, i14, i15, i17, i18, i20, i21, i22, i23, i24, i30, i30s, i30b, i31, i33, wr64, mk_int, mk_bool, mk_str, mk_fns, getD_z, getD_s, Int.reduceToNat, ↓reduceIte, Int.reduceEq, reduceCtorEq, Int.tmod_eq_emod_of_nonneg, Int.tdiv_eq_ediv_of_nonneg, f47, f48, f49, h8, h9]
    have h16 : ∀ n, den (mkE fnP rows0 [a0, a1, a2] [] [] fun _ => undef) (n + 6) eaT_e16 = some (.int .i64 ((pTo (a0 % 4) (pFrom (a0 % 4) (dayI a1 a2))))) := by
      intro n
      simp (disch := omega) only [eaT_e16, den_i, den_b, den_s, den_sv, den_t, denL_nil, denL_cons, Option.bind_some, i0, i1, i2, i4, i5, i6, i8, i10, i13, i13z, i14, i15, i17, i18, i20, i21, i22, i23, i24, i30, i30s, i30b, i31, i33, wr64, mk_int, mk_bool, mk_str, mk_fns, getD_z, getD_s, Int.reduceToNat, ↓reduceIte, Int.reduceEq, reduceCtorEq, Int.tmod_eq_emod_of_nonneg, Int.tdiv_eq_ediv_of_nonneg, f47, f48, f49, h8, h9]
    have h17 : ∀ n, den (mkE fnP rows0 [a0, a1, a2] [] [] fun _ => undef) (n + 7) eaT_e17 = some (.bool ((decide ((pFrom (a0 % 4) (pFrom (a0 % 4) (dayI a1 a2))) = (pFrom (a0 % 4) (dayI a1 a2))) && decide ((pTo (a0 % 4) (pFrom (a0 % 4) (dayI a1 a2))) = (pTo (a0 % 4) (dayI a1 a2)))))) := by
      intro n
      simp (disch := omega) only [eaT_e17, den_i, den_b, den_s, den_sv, den_t, denL_nil, denL_cons, Option.bind_some, i0, i1, i2, i4, i5, i6, i8, i10, i13, i13z, i14, i15, i17, i18, i20, i21, i22, i23, i24, i30, i30s, i30b, i31, i33, wr64, mk_int, mk_bool, mk_str, mk_fns, getD_z, getD_s, Int.reduceToNat, ↓reduceIte, Int.reduceEq, reduceCtorEq, Int.tmod_eq_emod_of_nonneg, Int.tdiv_eq_ediv_of_nonneg, f47, f48, f49, h15, h9, h16, h11]
    have h18 : ∀ n, den (mkE fnP rows0 [a0, a1, a2] [] [] fun _ => undef) (n + 6) eaT_e18 = some (.bool ((decide ((pTo (a0 % 4) (dayI a1 a2)) < 1)))) := by
      intro n
      simp (disch := omega) only [eaT_e18, den_i, den_b, den_s, den_sv, den_t, denL_nil, denL_cons, Option.bind_some, i0, i1, i2, i4, i5, i6, i8, i10, i13, i13z, i14, i15, i17, i18, i20, i21, i22, i23, i24, i30, i30s, i30b, i31, i33, wr64, mk_int, mk_bool, mk_str, mk_fns, getD_z, getD_s, Int.reduceToNat, ↓reduceIte, Int.reduceEq, reduceCtorEq, Int.tmod_eq_emod_of_nonneg, Int.tdiv_eq_ediv_of_nonneg, f47, f48, f49, h11]
    have h19 : ∀ n, den (mkE fnP rows0 [a0, a1, a2] [] [] fun _ => undef) (n + 6) eaT_e19 = some (.bool ((decide (3652059 < (pTo (a0 % 4) (dayI a1 a2)))))) := by
      intro n
      simp (disch := omega) only [eaT_e19, den_i, den_b, den_s, den_sv, den_t, denL_nil, denL_cons, Option.bind_some, i0, i1, i2, i4, i5, i6, i8, i10, i13, i13z, i14, i15, i17, i18, i20, i21, i22, i23, i24, i30, i30s, i30b, i31, i33, wr64, mk_int, mk_bool, mk_str, mk_fns, getD_z, getD_s, Int.reduceToNat, ↓reduceIte, Int.reduceEq, reduceCtorEq, Int.tmod_eq_emod_of_nonneg, Int.tdiv_eq_ediv_of_nonneg, f47, f48, f49, h11]
    have h20 : ∀ n, den (mkE fnP rows0 [a0, a1, a2] [] [] fun _ => undef) (n + 6) eaT_e20 = some (.int .i64 ((pFrom (a0 % 4) (pTo (a0 % 4) (dayI a1 a2))))) := by
      intro n
      simp (disch := omega) only [eaT_e20, den_i, den_b, den_s, den_sv, den_t, denL_nil, denL_cons, Option.bind_some, i0, i1, i2, i4, i5, i6, i8, i10, i13, i13z, i14, i15, i17, i18, i20, i21, i22, i23, i24, i30, i30s, i30b, i31, i33, wr64, mk_int, mk_bool, mk_str, mk_fns, getD_z, getD_s, Int.reduceToNat, ↓reduceIte, Int.reduceEq, reduceCtorEq, Int.tmod_eq_emod_of_nonneg, Int.tdiv_eq_ediv_of_nonneg, f47, f48, f49, h8, h11]
    have h21 : ∀ n, den (mkE fnP rows0 [a0, a1, a2] [] [] fun _ => undef) (n + 6) eaT_e21 = some (.int .i64 ((pTo (a0 % 4) (pTo (a0 % 4) (dayI a1 a2))))) := by
      intro n
      simp (disch := omega) only [eaT_e21, den_i, den_b, den_s, den_sv, den_t, denL_nil, denL_cons, Option.bind_some, i0, i1, i2, i4, i5, i6, i8, i10, i13, i13z, i14, i15, i17, i18, i20, i21, i22, i23, i24, i30, i30s, i30b, i31, i33, wr64, mk_int, mk_bool, mk_str, mk_fns, getD_z, getD_s, Int.reduceToNat, ↓reduceIte, Int.reduceEq, reduceCtorEq, Int.tmod_eq_emod_of_nonneg, Int.tdiv_eq_ediv_of_nonneg, f47, f48, f49, h8, h11]
    have h22 : ∀ n, den (mkE fnP rows0 [a0, a1, a2] [] [] fun _ => undef) (n + 7) eaT_e22 = some (.bool ((decide ((pFrom (a0 % 4) (pTo (a0 % 4) (dayI a1 a2))) = (pFrom (a0 % 4) (dayI a1 a2))) && decide ((pTo (a0 % 4) (pTo (a0 % 4) (dayI a1 a2))) = (pTo (a0 % 4) (dayI a1 a2)))))) := by
      intro n
      simp (disch := omega) only [eaT_e22, den_i, den_b, den_s, den_sv, den_t, denL_nil, denL_cons, Option.bind_some, i0, i1, i2, i4, i5, i6, i8, i10, i13, i13z, i14, i15, i17, i18, i20, i21, i22, i23, i24, i30, i30s, i30b, i31, i33, wr64, mk_int, mk_bool, mk_str, mk_fns, getD_z, getD_s, Int.reduceToNat, ↓reduceIte, Int.reduceEq, reduceCtorEq, Int.tmod_eq_emod_of_nonneg, Int.tdiv_eq_ediv_of_nonneg, f47, f48, f49, h20, h9, h21, h11]
    have h23 : ∀ n, den (mkE fnP rows0 [a0, a1, a2] [] [] fun _ => undef) (n + 6) eaT_e23 = some (.bool ((decide ((pTo (a0 % 4) (dayI a1 a2)) = 3652059)))) := by
      intro n
      simp (disch := omega) only [eaT_e23, den_i, den_b, den_s, den_sv, den_t, denL_nil, denL_cons, Option.bind_some, i0, i1, i2, i4, i5, i6, i8, i10, i13, i13z, i14, i15, i17, i18, i20, i21, i22, i23, i24, i30, i30s, i30b, i31, i33, wr64, mk_int, mk_bool, mk_str, mk_fns, getD_z, getD_s, Int.reduceToNat, ↓reduceIte, Int.reduceEq, reduceCtorEq, Int.tmod_eq_emod_of_nonneg, Int.tdiv_eq_ediv_of_nonneg, f47, f48, f49, h11]
    have h24 : ∀ n, den (mkE fnP rows0 [a0, a1, a2] [] [] fun _ => undef) (n + 6) eaT_e24 = some (.int .i64 (((pTo (a0 % 4) (dayI a1 a2)) + 1))) := by
      intro n
      simp (disch := omega) only [eaT_e24, den_i, den_b, den_s, den_sv, den_t, denL_nil, denL_cons, Option.bind_some, i0, i1, i2, i4, i5, i6, i8, i10, i13, i13z, i14, i15, i17, i18, i20, i21, i22, i23, i24, i30, i30s, i30b, i31, i33, wr64, mk_int, mk_bool, mk_str, mk_fns, getD_z, getD_s, Int.reduceToNat, ↓reduceIte, Int.reduceEq, reduceCtorEq, Int.tmod_eq_emod_of_nonneg, Int.tdiv_eq_ediv_of_nonneg, f47, f48, f49, h11]
    have h25 : ∀ n, den (mkE fnP rows0 [a0, a1, a2] [] [] fun _ => undef) (n + 7) eaT_e25 = some (.bool ((decide (((pTo (a0 % 4) (dayI a1 a2)) + 1) < 1)))) := by
      intro n
      simp (disch := omega) only [eaT_e25, den_i, den_b, den_s, den_sv, den_t, denL_nil, denL_cons, Option.bind_some, i0, i1, i2, i4, i5, i6, i8, i10, i13, i13z, i14, i15, i17, i18, i20, i21, i22, i23, i24, i30, i30s, i30b, i31, i33, wr64, mk_int, mk_bool, mk_str, mk_fns, getD_z, getD_s, Int.reduceToNat, ↓reduceIte, Int.reduceEq, reduceCtorEq, Int.tmod_eq_emod_of_nonneg, Int.tdiv_eq_ediv_of_nonneg, f47, f48, f49, h24]
    have h26 : ∀ n, den (mkE fnP rows0 [a0, a1, a2] [] [] fun _ => undef) (n + 7) eaT_e26 = some (.bool ((decide (3652059 < ((pTo (a0 % 4) (dayI a1 a2)) + 1))))) := by
      intro n
      simp (disch := omega) only [eaT_e26, den_i, den_b, den_s, den_sv, den_t, denL_nil, denL_cons, Option.bind_some, i0, i1, i2, i4, i5, i6, i8, i10, i13, i13z, i14, i15, i17, i18, i20, i21, i22, i23, i24, i30, i30s, i30b, i31, i33, wr64, mk_int, mk_bool, mk_str, mk_fns, getD_z, getD_s, Int.reduceToNat, ↓reduceIte, Int.reduceEq, reduceCtorEq, Int.tmod_eq_emod_of_nonneg, Int.tdiv_eq_ediv_of_nonneg, f47, f48, f49, h24]
    have h27 : ∀ n, den (mkE fnP rows0 [a0, a1, a2] [] [] fun _ => undef) (n + 7) eaT_e27 = some (.int .i64 ((pFrom (a0 % 4) ((pTo (a0 % 4) (dayI a1 a2)) + 1)))) := by
      intro n
      simp (disch := omega) only [eaT_e27, den_i, den_b, den_s, den_sv, den_t, denL_nil, denL_cons, Option.bind_some, i0, i1, i2, i4, i5, i6, i8, i10, i13, i13z, i14, i15, i17, i18, i20, i21, i22, i23, i24, i30, i30s, i30b, i31, i33, wr64, mk_int, mk_bool, mk_str, mk_fns, getD_z, getD_s, Int.reduceToNat, ↓reduceIte, Int.reduceEq, reduceCtorEq, Int.tmod_eq_emod_of_nonneg, Int.tdiv_eq_ediv_of_nonneg, f47, f48, f49, h8, h24]
    have h28 : ∀ n, den (mkE fnP rows0 [a0, a1, a2] [] [] fun _ => undef) (n + 8) eaT_e28 = some (.bool ((decide ((pFrom (a0 % 4) ((pTo (a0 % 4) (dayI a1 a2)) + 1)) = ((pTo (a0 % 4) (dayI a1 a2)) + 1))))) := by
      intro n
      simp (disch := omega) only [eaT_e28, den_i, den_b, den_s, den_sv, den_t, denL_nil, denL_cons, Option.bind_some, i0, i1, i2, i4, i5, i6, i8, i10, i13, i13z, i14, i15, i17, i18, i20, i21, i22, i23, i24, i30, i30s, i30b, i31, i33, wr64, mk_int, mk_bool, mk_str, mk_fns, getD_z, getD_s, Int.reduceToNat, ↓reduceIte, Int.reduceEq, reduceCtorEq, Int.tmod_eq_emod_of_nonneg, Int.tdiv_eq_ediv_of_nonneg, f47, f48, f49, h27, h24]
    simp only [eaT, val_leaf, val_node, val_need, pick_b, want_b, den_i, den_b, den_s, den_t, denL_nil, denL_cons, Option.bind_some, i0, i2, mk_int, mk_str, mk_fns, getD_z, getD_s, decide_eq_true_eq, decide_eq_false_iff_not, h0, h1, h2, h3, h4, h5, h6, h7, h8, h9, h10, h11, h12, h13, h14, h15, h16, h17, h18, h19, h20, h21, h22, h23, h24, h25, h26, h27, h28]
    rw [if_pos (by omega), if_pos (by omega), if_pos (by omega), if_pos (by omega), if_pos (by omega), if_pos (by omega), if_neg (by omega), if_neg (by omega), if_pos (by omega), if_pos (by omega)]
    simp only [l5, l6, l7, l8, decide_true, Bool.and_true, if_true]
    rw [if_pos (by omega), if_pos (by omega)]
    by_cases c : pTo (a0 % 4) (dayI a1 a2) = 3652059
    · rw [if_pos c]
    · rw [if_neg c, if_pos (by omega), if_pos (by omega), l9 c]
      simp
  · intro ρ hρ
    exact vr3 (vr_int hρ _ _ rfl) (vr_int hρ _ _ rfl) (vr_int hρ _ _ rfl)
end Go.Proofs.YtnbkknlljbhpgaaGreatDoor
