/- LocaleNamed. -/
import Derived.Test.YthcfhmdoelpbdaaGreatDoorAw9
namespace Go.Proofs.YthcfhmdoelpbdaaGreatDoor
set_option linter.unusedVariables false
set_option linter.unusedSimpArgs false
open Go Go.Sy Go.RowKit

def lnT_e0 : Value := sv 30 [.string ⟨#[101, 110]⟩, (sv 2 [.int .i64 0])]
def lnT_e1 : Value := sv 30 [(sv 2 [.int .i64 0]), .string ⟨#[101, 110]⟩]
def lnT_e2 : Value := sv 30 [(sv 2 [.int .i64 0]), .string ⟨#[100, 101]⟩]
def lnT_e3 : Value := sv 30 [(sv 2 [.int .i64 0]), .string ⟨#[102, 114]⟩]
def lnT_e4 : Value := sv 30 [(sv 2 [.int .i64 0]), .string ⟨#[112, 108]⟩]
def lnT_e5 : Value := sv 30 [.string ⟨#[100, 101]⟩, (sv 2 [.int .i64 0])]
def lnT_e6 : Value := sv 30 [.string ⟨#[102, 114]⟩, (sv 2 [.int .i64 0])]
def lnT_e7 : Value := sv 30 [.string ⟨#[112, 108]⟩, (sv 2 [.int .i64 0])]
def lnT : Tree := (.node lnT_e0
  (.node lnT_e1
  (.leaf (.bool true))
  (.node lnT_e2
  (.leaf (.bool true))
  (.node lnT_e3
  (.leaf (.bool true))
  (.node lnT_e4
  (.leaf (.bool true))
  (.leaf (.bool false))))))
  (.node lnT_e5
  (.node lnT_e1
  (.leaf (.bool true))
  (.node lnT_e2
  (.leaf (.bool true))
  (.node lnT_e3
  (.leaf (.bool true))
  (.node lnT_e4
  (.leaf (.bool true))
  (.leaf (.bool false))))))
  (.node lnT_e6
  (.node lnT_e1
  (.leaf (.bool true))
  (.node lnT_e2
  (.leaf (.bool true))
  (.node lnT_e3
  (.leaf (.bool true))
  (.node lnT_e4
  (.leaf (.bool true))
  (.leaf (.bool false))))))
  (.node lnT_e7
  (.node lnT_e1
  (.leaf (.bool true))
  (.node lnT_e2
  (.leaf (.bool true))
  (.node lnT_e3
  (.leaf (.bool true))
  (.node lnT_e4
  (.leaf (.bool true))
  (.leaf (.bool false))))))
  (.node lnT_e1
  (.leaf (.bool false))
  (.node lnT_e2
  (.leaf (.bool false))
  (.node lnT_e3
  (.leaf (.bool false))
  (.node lnT_e4
  (.leaf (.bool false))
  (.leaf (.bool true))))))))))

theorem walk_LocaleNamed (a0 : ByteArray) (w0 : a0.size ≤ 9223372036854775807) (w : World) (hs : Wld8 w) :
    Calls Tryz.prog 10 #[.string a0] w fun e w' => e = .returned (.bool true) ∧ Below w.heap.size w w' := by
  refine tree8 (FN := fns0) (cs := [awC 28]) (hs := langs) (args := [sv 2 [.int .i64 0]]) (T := lnT) (F0 := []) (E := mkE fns0 rows0 [] [] [a0] fun _ => undef) ?_ (langs_ok fns0) (fun _ _ _ _ _ => by kernel_rfl) (by intro p hp; cases hp) rfl rfl ?_ ?_ hs
  · exact fun c hc => by
      simp only [List.mem_cons, List.not_mem_nil, or_false] at hc
      subst hc
      exact awC_ok8 aw9 fns0
  · have E1 : ∀ i, (mkE fns0 rows0 [] [] [a0] fun _ => undef).str i = [a0].getD i ⟨#[]⟩ := fun _ => rfl
    have h0 : ∀ n, den (mkE fns0 rows0 [] [] [a0] fun _ => undef) (n + 3) lnT_e0 = some (.bool ((decide ((⟨#[101, 110]⟩ : ByteArray) = a0)))) := by
      intro n
      simp (disch := omega) only [lnT_e0, den_i, den_b, den_s, den_sv, den_t, denL_nil, denL_cons, Option.bind_some, i0, i1, i2, i4, i5, i6, i8, i10, i13, i13z, i14, i15, i17, i18, i20, i21, i22, i23, i24, i30, i30s, i30b, i31, i33, wr64, mk_int, mk_bool, mk_str, mk_fns, getD_z, getD_s, Int.reduceToNat, ↓reduceIte, Int.reduceEq, reduceCtorEq, Int.tmod_eq_emod_of_nonneg, Int.tdiv_eq_ediv_of_nonneg]
    have h1 : ∀ n, den (mkE fns0 rows0 [] [] [a0] fun _ => undef) (n + 3) lnT_e1 = some (.bool ((decide (a0 = (⟨#[101, 110]⟩ : ByteArray))))) := by
      intro n
      simp (disch := omega) only [lnT_e1, den_i, den_b, den_s, den_sv, den_t, denL_nil, denL_cons, Option.bind_some, i0, i1, i2, i4, i5, i6, i8, i10, i13, i13z, i14, i15, i17, i18, i20, i21, i22, i23, i24, i30, i30s, i30b, i31, i33, wr64, mk_int, mk_bool, mk_str, mk_fns, getD_z, getD_s, Int.reduceToNat, ↓reduceIte, Int.reduceEq, reduceCtorEq, Int.tmod_eq_emod_of_nonneg, Int.tdiv_eq_ediv_of_nonneg]
    have h2 : ∀ n, den (mkE fns0 rows0 [] [] [a0] fun _ => undef) (n + 3) lnT_e2 = some (.bool ((decide (a0 = (⟨#[100, 101]⟩ : ByteArray))))) := by
      intro n
      simp (disch := omega) only [lnT_e2, den_i, den_b, den_s, den_sv, den_t, denL_nil, denL_cons, Option.bind_some, i0, i1, i2, i4, i5, i6, i8, i10, i13, i13z, i14, i15, i17, i18, i20, i21, i22, i23, i24, i30, i30s, i30b, i31, i33, wr64, mk_int, mk_bool, mk_str, mk_fns, getD_z, getD_s, Int.reduceToNat, ↓reduceIte, Int.reduceEq, reduceCtorEq, Int.tmod_eq_emod_of_nonneg, Int.tdiv_eq_ediv_of_nonneg]
    have h3 : ∀ n, den (mkE fns0 rows0 [] [] [a0] fun _ => undef) (n + 3) lnT_e3 = some (.bool ((decide (a0 = (⟨#[102, 114]⟩ : ByteArray))))) := by
      intro n
      simp (disch := omega) only [lnT_e3, den_i, den_b, den_s, den_sv, den_t, denL_nil, denL_cons, Option.bind_some, i0, i1, i2, i4, i5, i6, i8, i10, i13, i13z, i14, i15, i17, i18, i20, i21, i22, i23, i24, i30, i30s, i30b, i31, i33, wr64, mk_int, mk_bool, mk_str, mk_fns, getD_z, getD_s, Int.reduceToNat, ↓reduceIte, Int.reduceEq, reduceCtorEq, Int.tmod_eq_emod_of_nonneg, Int.tdiv_eq_ediv_of_nonneg]
    have h4 : ∀ n, den (mkE fns0 rows0 [] [] [a0] fun _ => undef) (n + 3) lnT_e4 = some (.bool ((decide (a0 = (⟨#[112, 108]⟩ : ByteArray))))) := by
      intro n
      simp (disch := omega) only [lnT_e4, den_i, den_b, den_s, den_sv, den_t, denL_nil, denL_cons, Option.bind_some, i0, i1, i2, i4, i5, i6, i8, i10, i13, i13z, i14, i15, i17, i18, i20, i21, i22, i23, i24, i30, i30s, i30b, i31, i33, wr64, mk_int, mk_bool, mk_str, mk_fns, getD_z, getD_s, Int.reduceToNat, ↓reduceIte, Int.reduceEq, reduceCtorEq, Int.tmod_eq_emod_of_nonneg, Int.tdiv_eq_ediv_of_nonneg]
    have h5 : ∀ n, den (mkE fns0 rows0 [] [] [a0] fun _ => undef) (n + 3) lnT_e5 = some (.bool ((decide ((⟨#[100, 101]⟩ : ByteArray) = a0)))) := by
      intro n
      simp (disch := omega) only [lnT_e5, den_i, den_b, den_s, den_sv, den_t, denL_nil, denL_cons, Option.bind_some, i0, i1, i2, i4, i5, i6, i8, i10, i13, i13z, i14, i15, i17, i18, i20, i21, i22, i23, i24, i30, i30s, i30b, i31, i33, wr64, mk_int, mk_bool, mk_str, mk_fns, getD_z, getD_s, Int.reduceToNat, ↓reduceIte, Int.reduceEq, reduceCtorEq, Int.tmod_eq_emod_of_nonneg, Int.tdiv_eq_ediv_of_nonneg]
    have h6 : ∀ n, den (mkE fns0 rows0 [] [] [a0] fun _ => undef) (n + 3) lnT_e6 = some (.bool ((decide ((⟨#[102, 114]⟩ : ByteArray) = a0)))) := by
      intro n
      simp (disch := omega) only [lnT_e6, den_i, den_b, den_s, den_sv, den_t, denL_nil, denL_cons, Option.bind_some, i0, i1, i2, i4, i5, i6, i8, i10, i13, i13z, i14, i15, i17, i18, i20, i21, i22, i23, i24, i30, i30s, i30b, i31, i33, wr64, mk_int, mk_bool, mk_str, mk_fns, getD_z, getD_s, Int.reduceToNat, ↓reduceIte, Int.reduceEq, reduceCtorEq, Int.tmod_eq_emod_of_nonneg, Int.tdiv_eq_ediv_of_nonneg]
    have h7 : ∀ n, den (mkE fns0 rows0 [] [] [a0] fun _ => undef) (n + 3) lnT_e7 = some (.bool ((decide ((⟨#[112, 108]⟩ : ByteArray) = a0)))) := by
      intro n
      simp (disch := omega) only [lnT_e7, den_i, den_b, den_s, den_sv, den_t, denL_nil, denL_cons, Option.bind_some, i0, i1, i2, i4, i5, i6, i8, i10, i13, i13z, i14, i15, i17, i18, i20, i21, i22, i23, i24, i30, i30s, i30b, i31, i33, wr64, mk_int, mk_bool, mk_str, mk_fns, getD_z, getD_s, Int.reduceToNat, ↓reduceIte, Int.reduceEq, reduceCtorEq, Int.tmod_eq_emod_of_nonneg, Int.tdiv_eq_ediv_of_nonneg]
    simp only [lnT, val_leaf, val_node, val_need, pick_b, want_b, den_i, den_b, den_s, den_t, denL_nil, denL_cons, Option.bind_some, i0, i2, mk_int, mk_str, mk_fns, getD_z, getD_s, decide_eq_true_eq, decide_eq_false_iff_not, h0, h1, h2, h3, h4, h5, h6, h7]
    repeat' split
    all_goals first | rfl | (subst_vars; contradiction)
  · intro ρ hρ
    exact vr1 (vr_str hρ _ _ rfl)
end Go.Proofs.YthcfhmdoelpbdaaGreatDoor
