/- ExpandPeriods. -/
import Derived.Test.YtnbkknlljbhpgaaGreatDoorPerC
import Derived.OpenShut
namespace Go.Proofs.YtnbkknlljbhpgaaGreatDoor
set_option linter.unusedVariables false
set_option linter.unusedSimpArgs false
open Go Go.Sy Go.RowKit

def epT_e0 : Value := sv 31 [(sv 0 [.int .u32 0]), .int .u32 0]
def epT_e1 : Value := sv 31 [.int .u32 4294967295, (sv 0 [.int .u32 0])]
def epT_e2 : Value := sv 31 [(sv 0 [.int .u8 1]), .int .u8 0]
def epT_e3 : Value := sv 31 [.int .u8 255, (sv 0 [.int .u8 1])]
def epT_e4 : Value := sv 4 [.int .i64 47, (sv 0 [.int .u32 0]), (sv 0 [.int .u8 1])]
def epT_e5 : Value := sv 31 [epT_e4, .int .i64 1]
def epT_e6 : Value := sv 31 [.int .i64 3652059, epT_e4]
def epT_e7 : Value := sv 4 [.int .i64 48, .int .i64 0, epT_e4]
def epT_e8 : Value := sv 30 [epT_e7, epT_e7]
def epT_e9 : Value := sv 4 [.int .i64 49, .int .i64 0, epT_e4]
def epT_e10 : Value := sv 30 [epT_e9, epT_e9]
def epT_e11 : Value := sv 4 [.int .i64 48, .int .i64 1, epT_e4]
def epT_e12 : Value := sv 30 [epT_e11, epT_e11]
def epT_e13 : Value := sv 4 [.int .i64 49, .int .i64 1, epT_e4]
def epT_e14 : Value := sv 30 [epT_e13, epT_e13]
def epT_e15 : Value := sv 4 [.int .i64 48, .int .i64 2, epT_e4]
def epT_e16 : Value := sv 30 [epT_e15, epT_e15]
def epT_e17 : Value := sv 4 [.int .i64 49, .int .i64 2, epT_e4]
def epT_e18 : Value := sv 30 [epT_e17, epT_e17]
def epT_e19 : Value := sv 4 [.int .i64 48, .int .i64 3, epT_e4]
def epT_e20 : Value := sv 30 [epT_e19, epT_e19]
def epT_e21 : Value := sv 4 [.int .i64 49, .int .i64 3, epT_e4]
def epT_e22 : Value := sv 30 [epT_e21, epT_e21]
def epT : Tree := (.need epT_e0 false
  (.need epT_e1 false
  (.need epT_e2 false
  (.need epT_e3 false
  (.need epT_e5 false
  (.need epT_e6 false
  (.node epT_e8
  (.node epT_e10
  (.node epT_e12
  (.node epT_e14
  (.node epT_e16
  (.node epT_e18
  (.node epT_e20
  (.node epT_e22
  (.leaf (.bool true))
  (.leaf (.bool false)))
  (.leaf (.bool false)))
  (.leaf (.bool false)))
  (.leaf (.bool false)))
  (.leaf (.bool false)))
  (.leaf (.bool false)))
  (.leaf (.bool false)))
  (.leaf (.bool false)))))))))

theorem walk_ExpandPeriods (a0 a1 : Int) (w0 : (Lit.int .u32 a0).wf = true) (w1 : (Lit.int .u8 a1).wf = true) (w : World) (hs : Wld w) :
    Calls Tryz.prog 4 #[.int .u32 a0, .int .u8 a1] w fun e w' => e = .returned (.bool true) ∧ Below w.heap.size w w' := by
  have b0 := bounds_u32 w0
  have b1 := bounds_u8 w1
  have bd := dayI_bd a0 a1
  refine tree_any (FN := fnP) (cs := [awC 17, dayC, perC, fromC]) (args := [sv 0 [.int .u32 0], sv 0 [.int .u8 1]]) (T := epT) (F0 := []) (E := mkE fnP rows0 [a0, a1] [] [] fun _ => undef) ?_ (fun _ _ _ _ => by kernel_rfl) (by intro p hp; cases hp) rfl rfl ?_ ?_ hs
  · intro c hc
    simp only [List.mem_cons, List.not_mem_nil, or_false] at hc
    rcases hc with rfl | rfl | rfl | rfl
    · exact awC_ok aw5 fnP
    · exact dayC_ok fun _ _ => rfl
    · exact perC_ok (fun _ _ => rfl) fun _ _ => rfl
    · exact fromC_ok (fun _ _ => rfl) fun _ _ => rfl
  · have E0 : ∀ i, (mkE fnP rows0 [a0, a1] [] [] fun _ => undef).int i = [a0, a1].getD i 0 := fun _ => rfl
    have E2 : (mkE fnP rows0 [a0, a1] [] [] fun _ => undef).fns = fnP := rfl
    have f47 : ∀ a b, fnP.int 47 [.int .u32 a, .int .u8 b] = dayI a b := fun _ _ => rfl
    have f48 : ∀ a b, fnP.int 48 [.int .i64 a, .int .i64 b] = pFrom a b := fun _ _ => rfl
    have f49 : ∀ a b, fnP.int 49 [.int .i64 a, .int .i64 b] = pTo a b := fun _ _ => rfl
    have h0 : ∀ n, den (mkE fnP rows0 [a0, a1] [] [] fun _ => undef) (n + 3) epT_e0 = some (.bool ((decide (a0 < 0)))) := by
      intro n
      simp (disch := omega) only [epT_e0, den_i, den_b, den_s, den_sv, den_t, denL_nil, denL_cons, Option.bind_some, i0, i1, i2, i4, i5, i6, i8, i10, i13, i13z, i14, i15, i17, i18, i20, i21, i22, i23, i24, i30, i30s, i30b, i31, wr64, mk_int, mk_bool, mk_str, mk_fns, getD_z, getD_s, Int.reduceToNat, ↓reduceIte, Int.reduceEq, reduceCtorEq, Int.tmod_eq_emod_of_nonneg, Int.tdiv_eq_ediv_of_nonneg, f47, f48, f49]
    have h1 : ∀ n, den (mkE fnP rows0 [a0, a1] [] [] fun _ => undef) (n + 3) epT_e1 = some (.bool ((decide (4294967295 < a0)))) := by
      intro n
      simp (disch := omega) only [epT_e1, den_i, den_b, den_s, den_sv, den_t, denL_nil, denL_cons, Option.bind_some, i0, i1, i2, i4, i5, i6, i8, i10, i13, i13z, i14, i15, i17, i18, i20, i21, i22, i23, i24, i30, i30s, i30b, i31, wr64, mk_int, mk_bool, mk_str, mk_fns, getD_z, getD_s, Int.reduceToNat, ↓reduceIte, Int.reduceEq, reduceCtorEq, Int.tmod_eq_emod_of_nonneg, Int.tdiv_eq_ediv_of_nonneg, f47, f48, f49]
    have h2 : ∀ n, den (mkE fnP rows0 [a0, a1] [] [] fun _ => undef) (n + 3) epT_e2 = some (.bool ((decide (a1 < 0)))) := by
      intro n
      simp (disch := omega) only [epT_e2, den_i, den_b, den_s, den_sv, den_t, denL_nil, denL_cons, Option.bind_some, i0, i1, i2, i4, i5, i6, i8, i10, i13, i13z, i14, i15, i17, i18, i20, i21, i22, i23, i24, i30, i30s, i30b, i31, wr64, mk_int, mk_bool, mk_str, mk_fns, getD_z, getD_s, Int.reduceToNat, ↓reduceIte, Int.reduceEq, reduceCtorEq, Int.tmod_eq_emod_of_nonneg, Int.tdiv_eq_ediv_of_nonneg, f47, f48, f49]
    have h3 : ∀ n, den (mkE fnP rows0 [a0, a1] [] [] fun _ => undef) (n + 3) epT_e3 = some (.bool ((decide (255 < a1)))) := by
      intro n
      simp (disch := omega) only [epT_e3, den_i, den_b, den_s, den_sv, den_t, denL_nil, denL_cons, Option.bind_some, i0, i1, i2, i4, i5, i6, i8, i10, i13, i13z, i14, i15, i17, i18, i20, i21, i22, i23, i24, i30, i30s, i30b, i31, wr64, mk_int, mk_bool, mk_str, mk_fns, getD_z, getD_s, Int.reduceToNat, ↓reduceIte, Int.reduceEq, reduceCtorEq, Int.tmod_eq_emod_of_nonneg, Int.tdiv_eq_ediv_of_nonneg, f47, f48, f49]
    have h4 : ∀ n, den (mkE fnP rows0 [a0, a1] [] [] fun _ => undef) (n + 3) epT_e4 = some (.int .i64 ((dayI a0 a1))) := by
      intro n
      simp (disch := omega) only [epT_e4, den_i, den_b, den_s, den_sv, den_t, denL_nil, denL_cons, Option.bind_some, i0, i1, i2, i4, i5, i6, i8, i10, i13, i13z, i14, i15, i17, i18, i20, i21, i22, i23, i24, i30, i30s, i30b, i31, wr64, mk_int, mk_bool, mk_str, mk_fns, getD_z, getD_s, Int.reduceToNat, ↓reduceIte, Int.reduceEq, reduceCtorEq, Int.tmod_eq_emod_of_nonneg, Int.tdiv_eq_ediv_of_nonneg, f47, f48, f49]
    have h5 : ∀ n, den (mkE fnP rows0 [a0, a1] [] [] fun _ => undef) (n + 4) epT_e5 = some (.bool ((decide ((dayI a0 a1) < 1)))) := by
      intro n
      simp (disch := omega) only [epT_e5, den_i, den_b, den_s, den_sv, den_t, denL_nil, denL_cons, Option.bind_some, i0, i1, i2, i4, i5, i6, i8, i10, i13, i13z, i14, i15, i17, i18, i20, i21, i22, i23, i24, i30, i30s, i30b, i31, wr64, mk_int, mk_bool, mk_str, mk_fns, getD_z, getD_s, Int.reduceToNat, ↓reduceIte, Int.reduceEq, reduceCtorEq, Int.tmod_eq_emod_of_nonneg, Int.tdiv_eq_ediv_of_nonneg, f47, f48, f49, h4]
    have h6 : ∀ n, den (mkE fnP rows0 [a0, a1] [] [] fun _ => undef) (n + 4) epT_e6 = some (.bool ((decide (3652059 < (dayI a0 a1))))) := by
      intro n
      simp (disch := omega) only [epT_e6, den_i, den_b, den_s, den_sv, den_t, denL_nil, denL_cons, Option.bind_some, i0, i1, i2, i4, i5, i6, i8, i10, i13, i13z, i14, i15, i17, i18, i20, i21, i22, i23, i24, i30, i30s, i30b, i31, wr64, mk_int, mk_bool, mk_str, mk_fns, getD_z, getD_s, Int.reduceToNat, ↓reduceIte, Int.reduceEq, reduceCtorEq, Int.tmod_eq_emod_of_nonneg, Int.tdiv_eq_ediv_of_nonneg, f47, f48, f49, h4]
    have h7 : ∀ n, den (mkE fnP rows0 [a0, a1] [] [] fun _ => undef) (n + 4) epT_e7 = some (.int .i64 ((pFrom 0 (dayI a0 a1)))) := by
      intro n
      simp (disch := omega) only [epT_e7, den_i, den_b, den_s, den_sv, den_t, denL_nil, denL_cons, Option.bind_some, i0, i1, i2, i4, i5, i6, i8, i10, i13, i13z, i14, i15, i17, i18, i20, i21, i22, i23, i24, i30, i30s, i30b, i31, wr64, mk_int, mk_bool, mk_str, mk_fns, getD_z, getD_s, Int.reduceToNat, ↓reduceIte, Int.reduceEq, reduceCtorEq, Int.tmod_eq_emod_of_nonneg, Int.tdiv_eq_ediv_of_nonneg, f47, f48, f49, h4]
    have h8 : ∀ n, den (mkE fnP rows0 [a0, a1] [] [] fun _ => undef) (n + 5) epT_e8 = some (.bool ((decide ((pFrom 0 (dayI a0 a1)) = (pFrom 0 (dayI a0 a1)))))) := by
      intro n
      simp (disch := omega) only [epT_e8, den_i, den_b, den_s, den_sv, den_t, denL_nil, denL_cons, Option.bind_some, i0, i1, i2, i4, i5, i6, i8, i10, i13, i13z, i14, i15, i17, i18, i20, i21, i22, i23, i24, i30, i30s, i30b, i31, wr64, mk_int, mk_bool, mk_str, mk_fns, getD_z, getD_s, Int.reduceToNat, ↓reduceIte, Int.reduceEq, reduceCtorEq, Int.tmod_eq_emod_of_nonneg, Int.tdiv_eq_ediv_of_nonneg, f47, f48, f49, h7, h7]
    have h9 : ∀ n, den (mkE fnP rows0 [a0, a1] [] [] fun _ => undef) (n + 4) epT_e9 = some (.int .i64 ((pTo 0 (dayI a0 a1)))) := by
      intro n
      simp (disch := omega) only [epT_e9, den_i, den_b, den_s, den_sv, den_t, denL_nil, denL_cons, Option.bind_some, i0, i1, i2, i4, i5, i6, i8, i10, i13, i13z, i14, i15, i17, i18, i20, i21, i22, i23, i24, i30, i30s, i30b, i31, wr64, mk_int, mk_bool, mk_str, mk_fns, getD_z, getD_s, Int.reduceToNat, ↓reduceIte, Int.reduceEq, reduceCtorEq, Int.tmod_eq_emod_of_nonneg, Int.tdiv_eq_ediv_of_nonneg, f47, f48, f49, h4]
    have h10 : ∀ n, den (mkE fnP rows0 [a0, a1] [] [] fun _ => undef) (n + 5) epT_e10 = some (.bool ((decide ((pTo 0 (dayI a0 a1)) = (pTo 0 (dayI a0 a1)))))) := by
      intro n
      simp (disch := omega) only [epT_e10, den_i, den_b, den_s, den_sv, den_t, denL_nil, denL_cons, Option.bind_some, i0, i1, i2, i4, i5, i6, i8, i10, i13, i13z, i14, i15, i17, i18, i20, i21, i22, i23, i24, i30, i30s, i30b, i31, wr64, mk_int, mk_bool, mk_str, mk_fns, getD_z, getD_s, Int.reduceToNat, ↓reduceIte, Int.reduceEq, reduceCtorEq, Int.tmod_eq_emod_of_nonneg, Int.tdiv_eq_ediv_of_nonneg, f47, f48, f49, h9, h9]
    have h11 : ∀ n, den (mkE fnP rows0 [a0, a1] [] [] fun _ => undef) (n + 4) epT_e11 = some (.int .i64 ((pFrom 1 (dayI a0 a1)))) := by
      intro n
      simp (disch := omega) only [epT_e11, den_i, den_b, den_s, den_sv, den_t, denL_nil, denL_cons, Option.bind_some, i0, i1, i2, i4, i5, i6, i8, i10, i13, i13z, i14, i15, i17, i18, i20, i21, i22, i23, i24, i30, i30s, i30b, i31, wr64, mk_int, mk_bool, mk_str, mk_fns, getD_z, getD_s, Int.reduceToNat, ↓reduceIte, Int.reduceEq, reduceCtorEq, Int.tmod_eq_emod_of_nonneg, Int.tdiv_eq_ediv_of_nonneg, f47, f48, f49, h4]
    have h12 : ∀ n, den (mkE fnP rows0 [a0, a1] [] [] fun _ => undef) (n + 5) epT_e12 = some (.bool ((decide ((pFrom 1 (dayI a0 a1)) = (pFrom 1 (dayI a0 a1)))))) := by
      intro n
      simp (disch := omega) only [epT_e12, den_i, den_b, den_s, den_sv, den_t, denL_nil, denL_cons, Option.bind_some, i0, i1, i2, i4, i5, i6, i8, i10, i13, i13z, i14, i15, i17, i18, i20, i21, i22, i23, i24, i30, i30s, i30b, i31, wr64, mk_int, mk_bool, mk_str, mk_fns, getD_z, getD_s, Int.reduceToNat, ↓reduceIte, Int.reduceEq, reduceCtorEq, Int.tmod_eq_emod_of_nonneg, Int.tdiv_eq_ediv_of_nonneg, f47, f48, f49, h11, h11]
    have h13 : ∀ n, den (mkE fnP rows0 [a0, a1] [] [] fun _ => undef) (n + 4) epT_e13 = some (.int .i64 ((pTo 1 (dayI a0 a1)))) := by
      intro n
      simp (disch := omega) only [epT_e13, den_i, den_b, den_s, den_sv, den_t, denL_nil, denL_cons, Option.bind_some, i0, i1, i2, i4, i5, i6, i8, i10, i13, i13z, i14, i15, i17, i18, i20, i21, i22, i23, i24, i30, i30s, i30b, i31, wr64, mk_int, mk_bool, mk_str, mk_fns, getD_z, getD_s, Int.reduceToNat, ↓reduceIte, Int.reduceEq, reduceCtorEq, Int.tmod_eq_emod_of_nonneg, Int.tdiv_eq_ediv_of_nonneg, f47, f48, f49, h4]
    have h14 : ∀ n, den (mkE fnP rows0 [a0, a1] [] [] fun _ => undef) (n + 5) epT_e14 = some (.bool ((decide ((pTo 1 (dayI a0 a1)) = (pTo 1 (dayI a0 a1)))))) := by
      intro n
      simp (disch := omega) only [epT_e14, den_i, den_b, den_s, den_sv, den_t, denL_nil, denL_cons, Option.bind_some, i0, i1, i2, i4, i5, i6, i8, i10, i13, i13z, i14, i15, i17, i18, i20, i21, i22, i23, i24, i30, i30s, i30b, i31, wr64, mk_int, mk_bool, mk_str, mk_fns, getD_z, getD_s, Int.reduceToNat, ↓reduceIte, Int.reduceEq, reduceCtorEq, Int.tmod_eq_emod_of_nonneg, Int.tdiv_eq_ediv_of_nonneg, f47, f48, f49, h13, h13]
    have h15 : ∀ n, den (mkE fnP rows0 [a0, a1] [] [] fun _ => undef) (n + 4) epT_e15 = some (.int .i64 ((pFrom 2 (dayI a0 a1)))) := by
      intro n
      simp (disch := omega) only [epT_e15, den_i, den_b, den_s, den_sv, den_t, denL_nil, denL_cons, Option.bind_some, i0, i1, i2, i4, i5, i6, i8, i10, i13, i13z, i14, i15, i17, i18, i20, i21, i22, i23, i24, i30, i30s, i30b, i31, wr64, mk_int, mk_bool, mk_str, mk_fns, getD_z, getD_s, Int.reduceToNat, ↓reduceIte, Int.reduceEq, reduceCtorEq, Int.tmod_eq_emod_of_nonneg, Int.tdiv_eq_ediv_of_nonneg, f47, f48, f49, h4]
    have h16 : ∀ n, den (mkE fnP rows0 [a0, a1] [] [] fun _ => undef) (n + 5) epT_e16 = some (.bool ((decide ((pFrom 2 (dayI a0 a1)) = (pFrom 2 (dayI a0 a1)))))) := by
      intro n
      simp (disch := omega) only [epT_e16, den_i, den_b, den_s, den_sv, den_t, denL_nil, denL_cons, Option.bind_some, i0, i1, i2, i4, i5, i6, i8, i10, i13, i13z, i14, i15, i17, i18, i20, i21, i22, i23, i24, i30, i30s, i30b, i31, wr64, mk_int, mk_bool, mk_str, mk_fns, getD_z, getD_s, Int.reduceToNat, ↓reduceIte, Int.reduceEq, reduceCtorEq, Int.tmod_eq_emod_of_nonneg, Int.tdiv_eq_ediv_of_nonneg, f47, f48, f49, h15, h15]
    have h17 : ∀ n, den (mkE fnP rows0 [a0, a1] [] [] fun _ => undef) (n + 4) epT_e17 = some (.int .i64 ((pTo 2 (dayI a0 a1)))) := by
      intro n
      simp (disch := omega) only [epT_e17, den_i, den_b, den_s, den_sv, den_t, denL_nil, denL_cons, Option.bind_some, i0, i1, i2, i4, i5, i6, i8, i10, i13, i13z, i14, i15, i17, i18, i20, i21, i22, i23, i24, i30, i30s, i30b, i31, wr64, mk_int, mk_bool, mk_str, mk_fns, getD_z, getD_s, Int.reduceToNat, ↓reduceIte, Int.reduceEq, reduceCtorEq, Int.tmod_eq_emod_of_nonneg, Int.tdiv_eq_ediv_of_nonneg, f47, f48, f49, h4]
    have h18 : ∀ n, den (mkE fnP rows0 [a0, a1] [] [] fun _ => undef) (n + 5) epT_e18 = some (.bool ((decide ((pTo 2 (dayI a0 a1)) = (pTo 2 (dayI a0 a1)))))) := by
      intro n
      simp (disch := omega) only [epT_e18, den_i, den_b, den_s, den_sv, den_t, denL_nil, denL_cons, Option.bind_some, i0, i1, i2, i4, i5, i6, i8, i10, i13, i13z, i14, i15, i17, i18, i20, i21, i22, i23, i24, i30, i30s, i30b, i31, wr64, mk_int, mk_bool, mk_str, mk_fns, getD_z, getD_s, Int.reduceToNat, ↓reduceIte, Int.reduceEq, reduceCtorEq, Int.tmod_eq_emod_of_nonneg, Int.tdiv_eq_ediv_of_nonneg, f47, f48, f49, h17, h17]
    have h19 : ∀ n, den (mkE fnP rows0 [a0, a1] [] [] fun _ => undef) (n + 4) epT_e19 = some (.int .i64 ((pFrom 3 (dayI a0 a1)))) := by
      intro n
      simp (disch := omega) only [epT_e19, den_i, den_b, den_s, den_sv, den_t, denL_nil, denL_cons, Option.bind_some, i0, i1, i2, i4, i5, i6, i8, i10, i13, i13z, i14, i15, i17, i18, i20, i21, i22, i23, i24, i30, i30s, i30b, i31, wr64, mk_int, mk_bool, mk_str, mk_fns, getD_z, getD_s, Int.reduceToNat, ↓reduceIte, Int.reduceEq, reduceCtorEq, Int.tmod_eq_emod_of_nonneg, Int.tdiv_eq_ediv_of_nonneg, f47, f48, f49, h4]
    have h20 : ∀ n, den (mkE fnP rows0 [a0, a1] [] [] fun _ => undef) (n + 5) epT_e20 = some (.bool ((decide ((pFrom 3 (dayI a0 a1)) = (pFrom 3 (dayI a0 a1)))))) := by
      intro n
      simp (disch := omega) only [epT_e20, den_i, den_b, den_s, den_sv, den_t, denL_nil, denL_cons, Option.bind_some, i0, i1, i2, i4, i5, i6, i8, i10, i13, i13z, i14, i15, i17, i18, i20, i21, i22, i23, i24, i30, i30s, i30b, i31, wr64, mk_int, mk_bool, mk_str, mk_fns, getD_z, getD_s, Int.reduceToNat, ↓reduceIte, Int.reduceEq, reduceCtorEq, Int.tmod_eq_emod_of_nonneg, Int.tdiv_eq_ediv_of_nonneg, f47, f48, f49, h19, h19]
    have h21 : ∀ n, den (mkE fnP rows0 [a0, a1] [] [] fun _ => undef) (n + 4) epT_e21 = some (.int .i64 ((pTo 3 (dayI a0 a1)))) := by
      intro n
      simp (disch := omega) only [epT_e21, den_i, den_b, den_s, den_sv, den_t, denL_nil, denL_cons, Option.bind_some, i0, i1, i2, i4, i5, i6, i8, i10, i13, i13z, i14, i15, i17, i18, i20, i21, i22, i23, i24, i30, i30s, i30b, i31, wr64, mk_int, mk_bool, mk_str, mk_fns, getD_z, getD_s, Int.reduceToNat, ↓reduceIte, Int.reduceEq, reduceCtorEq, Int.tmod_eq_emod_of_nonneg, Int.tdiv_eq_ediv_of_nonneg, f47, f48, f49, h4]
    have h22 : ∀ n, den (mkE fnP rows0 [a0, a1] [] [] fun _ => undef) (n + 5) epT_e22 = some (.bool ((decide ((pTo 3 (dayI a0 a1)) = (pTo 3 (dayI a0 a1)))))) := by
      intro n
      simp (disch := omega) only [epT_e22, den_i, den_b, den_s, den_sv, den_t, denL_nil, denL_cons, Option.bind_some, i0, i1, i2, i4, i5, i6, i8, i10, i13, i13z, i14, i15, i17, i18, i20, i21, i22, i23, i24, i30, i30s, i30b, i31, wr64, mk_int, mk_bool, mk_str, mk_fns, getD_z, getD_s, Int.reduceToNat, ↓reduceIte, Int.reduceEq, reduceCtorEq, Int.tmod_eq_emod_of_nonneg, Int.tdiv_eq_ediv_of_nonneg, f47, f48, f49, h21, h21]
    simp only [epT, val_leaf, val_node, val_need, pick_b, want_b, den_i, den_b, den_s, den_t, denL_nil, denL_cons, Option.bind_some, i0, i2, mk_int, mk_str, mk_fns, getD_z, getD_s, decide_eq_true_eq, decide_eq_false_iff_not, h0, h1, h2, h3, h4, h5, h6, h7, h8, h9, h10, h11, h12, h13, h14, h15, h16, h17, h18, h19, h20, h21, h22]
    simp only [if_true]
    rw [if_pos (by omega), if_pos (by omega), if_pos (by omega), if_pos (by omega), if_pos (by omega), if_pos (by omega)]
  · intro ρ hρ
    exact vr2 (vr_int hρ _ _ rfl) (vr_int hρ _ _ rfl)
end Go.Proofs.YtnbkknlljbhpgaaGreatDoor
