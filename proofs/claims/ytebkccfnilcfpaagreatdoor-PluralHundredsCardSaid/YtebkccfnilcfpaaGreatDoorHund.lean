/- PluralHundreds, by the evaluator. -/
import Derived.Test.YtebkccfnilcfpaaGreatDoorOrdP
import Derived.Test.YtebkccfnilcfpaaGreatDoorSyAw7
import Derived.Test.YtebkccfnilcfpaaGreatDoorStdC
import Derived.Lib.SlTrimSet
import Derived.OpenShut
import Derived.Shelf.Strings.SlTrimAscii
namespace Go.Proofs.YtebkccfnilcfpaaGreatDoor
set_option linter.unusedVariables false
set_option linter.unusedSimpArgs false
open Go Go.Sy Go.RowKit

def digs : ByteArray := ⟨#[48, 49, 50, 51, 52, 53, 54, 55, 56, 57]⟩
def isDigs (v : Value) : Bool := match v with
  | .string c => bytesEq c.data.toList digs.data.toList
  | _ => false

theorem isDigs_ok {v : Value} (h : isDigs v = true) : v = .string digs := by
  unfold isDigs at h
  split at h
  · rename_i c
    rw [bytesEq_eq] at h
    have e : c = digs := ByteArray.ext (Array.toList_inj.1 (by simpa using h))
    rw [e]
  · cases h

/-! ### Contracts -/

theorem sorts2 {s t : Option Srt} {args : List Value} (h : sortsOk [s, t] args = true) : ∃ a b, args = [a, b] := sorts2' h

def ordC : Ctr where
  f := 23
  sorts := [some (.int .i64), some (.int .i64)]
  wants l := match l with
    | [_, n] => [(sv 31 [n, .int .i64 0], false), (sv 31 [.int .i64 1000000000000, n], false)]
    | _ => []
  dec _ := none
  res _ l := sv 6 (.int .i64 1 :: l)

def trimC : Ctr where
  f := 22
  sorts := [some .str, some .str]
  wants l := match l with
    | [_, c] => cond (isDigs c) [] [(.bool false, true)]
    | _ => [(.bool false, true)]
  dec _ := none
  res _ l := match l with
    | [s, _] => sv 6 [.int .i64 20, s]
    | _ => .bool false

def formC : Ctr where
  f := 24
  sorts := [some (.int .i64), some (.int .i64)]
  wants l := match l with
    | [_, n] => [(sv 31 [n, .int .i64 0], false), (sv 31 [.int .i64 1000000000000, n], false)]
    | _ => []
  dec _ := none
  res _ l := sv 4 (.int .i64 3 :: l)

/-- What functions hand back. -/
def fnH : Fns where
  int i l := match i, l with
    | 3, [.int _ k, .int _ n] => formP k n
    | _, _ => 0
  bool _ _ := false
  str i l := match i, l with
    | 1, [.int _ k, .int _ n] => ordT k n
    | 20, [.string s] => ⟨(Lib.trimLeftS s.data.toList digs.data.toList).toArray⟩
    | _, _ => ⟨#[]⟩
  val _ _ := .bool false

theorem ordC_ok : CtrOk fnH ordC := by
  intro S args q hF hs hw _ ρ args' w g hv hd _
  obtain ⟨a, b, rfl⟩ := sorts2 hs
  simp only [ordC, sortsOk, Bool.and_true, Bool.and_eq_true, decide_eq_true_eq] at hs
  obtain ⟨x, y, rfl, vx, vy⟩ := vrs2_inv hv
  obtain ⟨k, rfl⟩ := HasS.of hs.1 vx
  obtain ⟨n, rfl⟩ := HasS.of hs.2 vy
  simp only [ordC, List.mem_cons, List.not_mem_nil, or_false, forall_eq_or_imp, forall_eq] at hw
  have h1 := holds_lt g hw.1 vy (.int _ _)
  have h2 := holds_lt g hw.2 (.int _ _) vy
  simp only [decide_eq_false_iff_not] at h1 h2
  exact (ordP_any k n w hd.std (by omega) (by omega)).mono fun e w' ⟨he, hb⟩ => ⟨_, he, sv_vr (VRs.cons (.int _ _) (vr2 vx vy)) (by simp [interp, g.fns, hF, fnH]), hb⟩

theorem trimC_ok : CtrOk fnH trimC := by
  intro S args q hF hs hw _ ρ args' w g hv hd _
  obtain ⟨a, b, rfl⟩ := sorts2 hs
  simp only [trimC, sortsOk, Bool.and_true, Bool.and_eq_true, decide_eq_true_eq] at hs
  obtain ⟨x, y, rfl, vx, vy⟩ := vrs2_inv hv
  obtain ⟨s, rfl⟩ := HasS.of hs.1 vx
  simp only [trimC] at hw ⊢
  cases hq : isDigs b with
  | false =>
    rw [hq] at hw
    simp only [cond_false, List.mem_cons, List.not_mem_nil, or_false, forall_eq] at hw
    simp [holds, truth] at hw
  | true =>
    have hb := isDigs_ok hq
    subst hb
    cases vy
    have hcon := Any.strings_TrimLeft_laid Tryz.lays161 (by kernel_rfl) s digs w (by decide) (ascii_of_all (by decide))
    exact hcon.mono fun e w' ⟨he, hb⟩ => ⟨_, he, sv_vr (VRs.cons (.int _ _) (vr1 vx)) (by simp [interp, g.fns, hF, fnH]), hb⟩

theorem formC_ok : CtrOk fnH formC := by
  intro S args q hF hs hw _ ρ args' w g hv hd _
  obtain ⟨a, b, rfl⟩ := sorts2 hs
  simp only [formC, sortsOk, Bool.and_true, Bool.and_eq_true, decide_eq_true_eq] at hs
  obtain ⟨x, y, rfl, vx, vy⟩ := vrs2_inv hv
  obtain ⟨k, rfl⟩ := HasS.of hs.1 vx
  obtain ⟨n, rfl⟩ := HasS.of hs.2 vy
  simp only [formC, List.mem_cons, List.not_mem_nil, or_false, forall_eq_or_imp, forall_eq] at hw
  have h1 := holds_lt g hw.1 vy (.int _ _)
  have h2 := holds_lt g hw.2 (.int _ _) vy
  simp only [decide_eq_false_iff_not] at h1 h2
  exact (form_any k n w (by omega) (by omega)).mono fun e w' ⟨he, hb⟩ => ⟨_, he, sv_vr (VRs.cons (.int _ _) (vr2 vx vy)) (by simp [interp, g.fns, hF, fnH]), by rw [← hb]; exact Below.refl _ _⟩

/-! ### The plain law -/

theorem trim_ord (k n : Int) (h : 0 ≤ n) : Lib.trimLeftS (ordT k n).data.toList digs.data.toList = sufP k n := by
  obtain ⟨u, rfl⟩ := Int.eq_ofNat_of_zero_le h
  rw [ordT_eq, Lib.itoa_nonneg]
  show Lib.trimLeftS (Lib.decDigits u ++ sufP k u) digs.data.toList = sufP k u
  obtain ⟨c, r, hc, hb⟩ := sufP_head k u
  unfold Lib.trimLeftS
  have key : ∀ l : List UInt8, (∀ x ∈ l, 48 ≤ x.toNat ∧ x.toNat ≤ 57) → (l ++ sufP k u).dropWhile (digs.data.toList.contains ·) = sufP k u := by
    intro l
    induction l with
    | nil =>
      intro _
      rw [List.nil_append, hc, List.dropWhile_cons]
      have : digs.data.toList.contains c = false := by
        rw [Bool.eq_false_iff]
        intro hh
        have hm : c ∈ digs.data.toList := by simpa using hh
        have hall : ∀ x ∈ digs.data.toList, 48 ≤ x.toNat ∧ x.toNat ≤ 57 := by decide
        have := hall c hm
        omega
      rw [this]
      rfl
    | cons x l ih =>
      intro hx
      rw [List.cons_append, List.dropWhile_cons]
      have : digs.data.toList.contains x = true := by
        have hx' := hx x (by simp)
        have hall : ∀ n : Fin 256, 48 ≤ n.val → n.val ≤ 57 → UInt8.ofNat n.val ∈ digs.data.toList := of_decide_eq_true (by kernel_rfl)
        have := hall ⟨x.toNat, x.toNat_lt⟩ hx'.1 hx'.2
        rw [List.contains_iff_mem]
        simpa using this
      rw [this, if_pos rfl]
      exact ih fun y hy => hx y (by simp [hy])
  exact key _ fun x hx => digits_bd u x hx

theorem sufP_hundred (k n : Int) (h : 2 ≤ n) : sufP k (n + 100) = sufP k n := by
  unfold sufP
  rw [show (n + 100) % 100 = n % 100 by omega, show (n + 100) % 10 = n % 10 by omega]
  simp only [show ¬ (n + 100 = 1) by omega, show ¬ (n = 1) by omega]

theorem formP_hundred (k n : Int) (h : 2 ≤ n) : formP k (n + 100) = formP k n := by
  unfold formP
  rw [show (n + 100) % 100 = n % 100 by omega, show (n + 100) % 10 = n % 10 by omega]
  simp only [show ¬ (n + 100 = 1) by omega, show ¬ (n = 1) by omega, show ¬ (n + 100 = 0) by omega, show ¬ (n = 0) by omega]

/-! ### The law -/

def hx : Value := sv 20 [.int .i64 0, .int .i64 2, (sv 14 [.int .i64 0, (sv 0 [.int .u16 0])])]
def hy : Value := sv 20 [.int .i64 0, hx, .int .i64 100]
def hk : Value := sv 14 [.int .i64 0, sv 24 [.int .u8 0, sv 0 [.int .u8 1], .int .u8 3]]
def hs : Value := sv 14 [.int .i64 0, sv 24 [.int .u8 0, sv 0 [.int .u8 2], .int .u8 3]]
def hundT : Tree := (.need (sv 31 [hx, .int .i64 0]) false (.need (sv 31 [.int .i64 1000000000000, hx]) false (.need (sv 31 [hy, .int .i64 0]) false (.need (sv 31 [.int .i64 1000000000000, hy]) false (.node (sv 30 [(sv 4 [.int .i64 3, hk, hx]), (sv 4 [.int .i64 3, hk, hy])])
  (.leaf ((sv 30 [(sv 6 [.int .i64 20, (sv 6 [.int .i64 1, hs, hx])]), (sv 6 [.int .i64 20, (sv 6 [.int .i64 1, hs, hy])])])))
  (.leaf (.bool false)))))))

theorem walk_PluralHundreds (a0 a1 a2 : Int) (w0 : (Lit.int .u16 a0).wf = true) (w1 : (Lit.int .u8 a1).wf = true) (w2 : (Lit.int .u8 a2).wf = true) (w : World) (hw : Wld w) :
    Calls Tryz.prog 6 #[.int .u16 a0, .int .u8 a1, .int .u8 a2] w fun e w' => e = .returned (.bool true) ∧ Below w.heap.size w w' := by
  have b0 := bounds_u16 w0
  have b1 := bounds_u8 w1
  have b2 := bounds_u8 w2
  refine tree_any (FN := fnH) (cs := [awC 11, ordC, trimC, formC]) (args := [sv 0 [.int .u16 0], sv 0 [.int .u8 1], sv 0 [.int .u8 2]]) (T := hundT) (F0 := []) (E := mkE fnH rows0 [a0, a1, a2] [] [] fun _ => undef) ?_ (fun _ _ _ _ => by kernel_rfl) (by intro p hp; cases hp) rfl rfl ?_ ?_ hw
  · intro c hc
    simp only [List.mem_cons, List.not_mem_nil, or_false] at hc
    rcases hc with rfl | rfl | rfl | rfl
    · exact awC_ok aw7 fnH
    · exact ordC_ok
    · exact trimC_ok
    · exact formC_ok
  · have hF : ∀ k n, fnH.int 3 [.int .i64 k, .int .i64 n] = formP k n := fun _ _ => rfl
    have hO : ∀ k n, fnH.str 1 [.int .i64 k, .int .i64 n] = ordT k n := fun _ _ => rfl
    have hT : ∀ s, fnH.str 20 [.string s] = ⟨(Lib.trimLeftS s.data.toList digs.data.toList).toArray⟩ := fun _ => rfl
    simp (disch := omega) only [hundT, hx, hy, hk, hs, val_leaf, val_node, val_need, pick_b, want_b, den_i, den_b, den_s, den_sv, den_t, denL_nil, denL_cons, Option.bind_some, i0, i4, i6, i14, i17, i18, i20, i24, i30, i30s, i30b, i31, wr64, mk_int, mk_fns, getD_z, getD_s, Int.reduceToNat, hF, hO, hT, ↓reduceIte, Int.reduceEq, reduceCtorEq, Int.tmod_eq_emod_of_nonneg, decide_eq_true_eq, decide_eq_false_iff_not]
    rw [if_pos (by omega), if_pos (by omega), if_pos (by omega), if_pos (by omega), if_pos (formP_hundred _ _ (by omega)).symm]
    rw [trim_ord _ _ (by omega), trim_ord _ _ (by omega), sufP_hundred _ _ (by omega)]
    simp
  · intro ρ hρ
    refine VRs.cons ?_ (vr2 ?_ ?_) <;> exact vr_int hρ _ _ rfl
end Go.Proofs.YtebkccfnilcfpaaGreatDoor
