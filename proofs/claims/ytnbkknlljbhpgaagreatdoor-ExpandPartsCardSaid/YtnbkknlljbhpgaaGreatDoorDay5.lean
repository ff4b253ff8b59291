/- kalendslaw05.Day: a day, by numbers. -/
import Derived.Test.YtnbkknlljbhpgaaGreatDoorCivK
namespace Go.Proofs.YtnbkknlljbhpgaaGreatDoor
set_option linter.unusedVariables false
set_option linter.unusedSimpArgs false
open Go Go.Sy Go.RowKit

def dayI (n e : Int) : Int := if e % 8 = 0 then 1 + n % 1500 else if e % 8 = 1 then 3652059 - n % 1500 else 1 + n % 3652059

theorem dayI_bd (n e : Int) : 1 ≤ dayI n e ∧ dayI n e ≤ 3652059 := by unfold dayI; repeat' split <;> omega

def dayT_e0 : Value := sv 24 [.int .u8 0, (sv 0 [.int .u8 1]), .int .u8 8]
def dayT_e1 : Value := sv 30 [dayT_e0, .int .u8 0]
def dayT_e2 : Value := sv 24 [.int .u32 0, (sv 0 [.int .u32 0]), .int .u32 1500]
def dayT_e3 : Value := sv 14 [.int .i64 0, dayT_e2]
def dayT_e4 : Value := sv 20 [.int .i64 0, .int .i64 1, dayT_e3]
def dayT_e5 : Value := sv 30 [dayT_e0, .int .u8 1]
def dayT_e6 : Value := sv 21 [.int .i64 0, .int .i64 3652059, dayT_e3]
def dayT_e7 : Value := sv 14 [.int .i64 0, (sv 0 [.int .u32 0])]
def dayT_e8 : Value := sv 24 [.int .i64 0, dayT_e7, .int .i64 3652059]
def dayT_e9 : Value := sv 20 [.int .i64 0, .int .i64 1, dayT_e8]
def dayT : Tree := (.node dayT_e1
  (.leaf (dayT_e4))
  (.node dayT_e5
  (.leaf (dayT_e6))
  (.leaf (dayT_e9))))

theorem day_any (a0 a1 : Int) (w : World) (hs : Wld w) (h0 : 0 ≤ a0) (h1 : a0 ≤ 4294967295) (h2 : 0 ≤ a1) (h3 : a1 ≤ 255) :
    Calls Tryz.prog 18 #[.int .u32 a0, .int .u8 a1] w fun e w' => e = .returned (.int .i64 (dayI a0 a1)) ∧ Below w.heap.size w w' := by
  refine tree_any (FN := fns0) (cs := []) (args := [sv 0 [.int .u32 0], sv 0 [.int .u8 1]]) (T := dayT) (F0 := []) (E := mkE fns0 rows0 [a0, a1] [] [] fun _ => undef) (fun c hc => by cases hc) (fun _ _ _ _ => by kernel_rfl) (by intro p hp; cases hp) rfl rfl ?_ ?_ hs
  · have E0 : ∀ i, (mkE fns0 rows0 [a0, a1] [] [] fun _ => undef).int i = [a0, a1].getD i 0 := fun _ => rfl
    have h0 : ∀ n, den (mkE fns0 rows0 [a0, a1] [] [] fun _ => undef) (n + 3) dayT_e0 = some (.int .u8 ((a1 % 8))) := by
      intro n
      simp (disch := omega) only [dayT_e0, den_i, den_b, den_s, den_sv, den_t, denL_nil, denL_cons, Option.bind_some, i0, i1, i2, i4, i5, i6, i8, i10, i13, i13z, i14, i15, i20, i21, i22, i23, i24, i30, i30s, i30b, i31, wr64, mk_int, mk_bool, mk_str, mk_fns, getD_z, getD_s, Int.reduceToNat, ↓reduceIte, Int.reduceEq, reduceCtorEq, Int.tmod_eq_emod_of_nonneg, Int.tdiv_eq_ediv_of_nonneg]
    have h1 : ∀ n, den (mkE fns0 rows0 [a0, a1] [] [] fun _ => undef) (n + 4) dayT_e1 = some (.bool ((decide ((a1 % 8) = 0)))) := by
      intro n
      simp (disch := omega) only [dayT_e1, den_i, den_b, den_s, den_sv, den_t, denL_nil, denL_cons, Option.bind_some, i0, i1, i2, i4, i5, i6, i8, i10, i13, i13z, i14, i15, i20, i21, i22, i23, i24, i30, i30s, i30b, i31, wr64, mk_int, mk_bool, mk_str, mk_fns, getD_z, getD_s, Int.reduceToNat, ↓reduceIte, Int.reduceEq, reduceCtorEq, Int.tmod_eq_emod_of_nonneg, Int.tdiv_eq_ediv_of_nonneg, h0]
    have h2 : ∀ n, den (mkE fns0 rows0 [a0, a1] [] [] fun _ => undef) (n + 3) dayT_e2 = some (.int .u32 ((a0 % 1500))) := by
      intro n
      simp (disch := omega) only [dayT_e2, den_i, den_b, den_s, den_sv, den_t, denL_nil, denL_cons, Option.bind_some, i0, i1, i2, i4, i5, i6, i8, i10, i13, i13z, i14, i15, i20, i21, i22, i23, i24, i30, i30s, i30b, i31, wr64, mk_int, mk_bool, mk_str, mk_fns, getD_z, getD_s, Int.reduceToNat, ↓reduceIte, Int.reduceEq, reduceCtorEq, Int.tmod_eq_emod_of_nonneg, Int.tdiv_eq_ediv_of_nonneg]
    have h3 : ∀ n, den (mkE fns0 rows0 [a0, a1] [] [] fun _ => undef) (n + 4) dayT_e3 = some (.int .i64 ((a0 % 1500))) := by
      intro n
      simp (disch := omega) only [dayT_e3, den_i, den_b, den_s, den_sv, den_t, denL_nil, denL_cons, Option.bind_some, i0, i1, i2, i4, i5, i6, i8, i10, i13, i13z, i14, i15, i20, i21, i22, i23, i24, i30, i30s, i30b, i31, wr64, mk_int, mk_bool, mk_str, mk_fns, getD_z, getD_s, Int.reduceToNat, ↓reduceIte, Int.reduceEq, reduceCtorEq, Int.tmod_eq_emod_of_nonneg, Int.tdiv_eq_ediv_of_nonneg, h2]
    have h4 : ∀ n, den (mkE fns0 rows0 [a0, a1] [] [] fun _ => undef) (n + 5) dayT_e4 = some (.int .i64 ((1 + (a0 % 1500)))) := by
      intro n
      simp (disch := omega) only [dayT_e4, den_i, den_b, den_s, den_sv, den_t, denL_nil, denL_cons, Option.bind_some, i0, i1, i2, i4, i5, i6, i8, i10, i13, i13z, i14, i15, i20, i21, i22, i23, i24, i30, i30s, i30b, i31, wr64, mk_int, mk_bool, mk_str, mk_fns, getD_z, getD_s, Int.reduceToNat, ↓reduceIte, Int.reduceEq, reduceCtorEq, Int.tmod_eq_emod_of_nonneg, Int.tdiv_eq_ediv_of_nonneg, h3]
    have h5 : ∀ n, den (mkE fns0 rows0 [a0, a1] [] [] fun _ => undef) (n + 4) dayT_e5 = some (.bool ((decide ((a1 % 8) = 1)))) := by
      intro n
      simp (disch := omega) only [dayT_e5, den_i, den_b, den_s, den_sv, den_t, denL_nil, denL_cons, Option.bind_some, i0, i1, i2, i4, i5, i6, i8, i10, i13, i13z, i14, i15, i20, i21, i22, i23, i24, i30, i30s, i30b, i31, wr64, mk_int, mk_bool, mk_str, mk_fns, getD_z, getD_s, Int.reduceToNat, ↓reduceIte, Int.reduceEq, reduceCtorEq, Int.tmod_eq_emod_of_nonneg, Int.tdiv_eq_ediv_of_nonneg, h0]
    have h6 : ∀ n, den (mkE fns0 rows0 [a0, a1] [] [] fun _ => undef) (n + 5) dayT_e6 = some (.int .i64 ((3652059 - (a0 % 1500)))) := by
      intro n
      simp (disch := omega) only [dayT_e6, den_i, den_b, den_s, den_sv, den_t, denL_nil, denL_cons, Option.bind_some, i0, i1, i2, i4, i5, i6, i8, i10, i13, i13z, i14, i15, i20, i21, i22, i23, i24, i30, i30s, i30b, i31, wr64, mk_int, mk_bool, mk_str, mk_fns, getD_z, getD_s, Int.reduceToNat, ↓reduceIte, Int.reduceEq, reduceCtorEq, Int.tmod_eq_emod_of_nonneg, Int.tdiv_eq_ediv_of_nonneg, h3]
    have h7 : ∀ n, den (mkE fns0 rows0 [a0, a1] [] [] fun _ => undef) (n + 3) dayT_e7 = some (.int .i64 a0) := by
      intro n
      simp (disch := omega) only [dayT_e7, den_i, den_b, den_s, den_sv, den_t, denL_nil, denL_cons, Option.bind_some, i0, i1, i2, i4, i5, i6, i8, i10, i13, i13z, i14, i15, i20, i21, i22, i23, i24, i30, i30s, i30b, i31, wr64, mk_int, mk_bool, mk_str, mk_fns, getD_z, getD_s, Int.reduceToNat, ↓reduceIte, Int.reduceEq, reduceCtorEq, Int.tmod_eq_emod_of_nonneg, Int.tdiv_eq_ediv_of_nonneg]
    have h8 : ∀ n, den (mkE fns0 rows0 [a0, a1] [] [] fun _ => undef) (n + 4) dayT_e8 = some (.int .i64 ((a0 % 3652059))) := by
      intro n
      simp (disch := omega) only [dayT_e8, den_i, den_b, den_s, den_sv, den_t, denL_nil, denL_cons, Option.bind_some, i0, i1, i2, i4, i5, i6, i8, i10, i13, i13z, i14, i15, i20, i21, i22, i23, i24, i30, i30s, i30b, i31, wr64, mk_int, mk_bool, mk_str, mk_fns, getD_z, getD_s, Int.reduceToNat, ↓reduceIte, Int.reduceEq, reduceCtorEq, Int.tmod_eq_emod_of_nonneg, Int.tdiv_eq_ediv_of_nonneg, h7]
    have h9 : ∀ n, den (mkE fns0 rows0 [a0, a1] [] [] fun _ => undef) (n + 5) dayT_e9 = some (.int .i64 ((1 + (a0 % 3652059)))) := by
      intro n
      simp (disch := omega) only [dayT_e9, den_i, den_b, den_s, den_sv, den_t, denL_nil, denL_cons, Option.bind_some, i0, i1, i2, i4, i5, i6, i8, i10, i13, i13z, i14, i15, i20, i21, i22, i23, i24, i30, i30s, i30b, i31, wr64, mk_int, mk_bool, mk_str, mk_fns, getD_z, getD_s, Int.reduceToNat, ↓reduceIte, Int.reduceEq, reduceCtorEq, Int.tmod_eq_emod_of_nonneg, Int.tdiv_eq_ediv_of_nonneg, h8]
    simp only [dayT, val_leaf, val_node, val_need, pick_b, want_b, den_i, den_b, den_s, den_t, denL_nil, denL_cons, Option.bind_some, i0, i2, mk_int, mk_str, mk_fns, getD_z, getD_s, decide_eq_true_eq, decide_eq_false_iff_not, h0, h1, h2, h3, h4, h5, h6, h7, h8, h9]
    simp only [dayI]
    split
    · rfl
    · split <;> rfl
  · intro ρ hρ
    exact vr2 (vr_int hρ _ _ rfl) (vr_int hρ _ _ rfl)
end Go.Proofs.YtnbkknlljbhpgaaGreatDoor
