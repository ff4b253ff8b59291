/- kalendslaw10.Small: at any text. -/
import Derived.Test.YtebkccfnilcfpaaGreatDoorLowL
import Derived.Test.YtebkccfnilcfpaaGreatDoorFoldQ
namespace Go.Proofs.YtebkccfnilcfpaaGreatDoor
set_option linter.unusedVariables false
set_option linter.unusedSimpArgs false
open Go Go.Sy Go.RowKit

def grL : List ByteArray := [⟨#[65]⟩, ⟨#[66]⟩, ⟨#[67]⟩, ⟨#[68]⟩, ⟨#[69]⟩, ⟨#[70]⟩, ⟨#[71]⟩, ⟨#[72]⟩, ⟨#[73]⟩, ⟨#[74]⟩, ⟨#[75]⟩, ⟨#[76]⟩, ⟨#[77]⟩, ⟨#[78]⟩, ⟨#[79]⟩, ⟨#[80]⟩, ⟨#[81]⟩, ⟨#[82]⟩, ⟨#[83]⟩, ⟨#[84]⟩, ⟨#[85]⟩, ⟨#[86]⟩, ⟨#[87]⟩, ⟨#[88]⟩, ⟨#[89]⟩, ⟨#[90]⟩, ⟨#[195, 128]⟩, ⟨#[195, 130]⟩, ⟨#[195, 132]⟩, ⟨#[195, 134]⟩, ⟨#[195, 135]⟩, ⟨#[195, 136]⟩, ⟨#[195, 137]⟩, ⟨#[195, 138]⟩, ⟨#[195, 139]⟩, ⟨#[195, 142]⟩, ⟨#[195, 143]⟩, ⟨#[195, 148]⟩, ⟨#[195, 150]⟩, ⟨#[197, 146]⟩, ⟨#[195, 153]⟩, ⟨#[195, 155]⟩, ⟨#[195, 156]⟩, ⟨#[197, 184]⟩, ⟨#[196, 132]⟩, ⟨#[196, 134]⟩, ⟨#[196, 152]⟩, ⟨#[197, 129]⟩, ⟨#[197, 131]⟩, ⟨#[195, 147]⟩, ⟨#[197, 154]⟩, ⟨#[197, 185]⟩, ⟨#[197, 187]⟩]
def smL : List ByteArray := [⟨#[97]⟩, ⟨#[98]⟩, ⟨#[99]⟩, ⟨#[100]⟩, ⟨#[101]⟩, ⟨#[102]⟩, ⟨#[103]⟩, ⟨#[104]⟩, ⟨#[105]⟩, ⟨#[106]⟩, ⟨#[107]⟩, ⟨#[108]⟩, ⟨#[109]⟩, ⟨#[110]⟩, ⟨#[111]⟩, ⟨#[112]⟩, ⟨#[113]⟩, ⟨#[114]⟩, ⟨#[115]⟩, ⟨#[116]⟩, ⟨#[117]⟩, ⟨#[118]⟩, ⟨#[119]⟩, ⟨#[120]⟩, ⟨#[121]⟩, ⟨#[122]⟩, ⟨#[195, 160]⟩, ⟨#[195, 162]⟩, ⟨#[195, 164]⟩, ⟨#[195, 166]⟩, ⟨#[195, 167]⟩, ⟨#[195, 168]⟩, ⟨#[195, 169]⟩, ⟨#[195, 170]⟩, ⟨#[195, 171]⟩, ⟨#[195, 174]⟩, ⟨#[195, 175]⟩, ⟨#[195, 180]⟩, ⟨#[195, 182]⟩, ⟨#[197, 147]⟩, ⟨#[195, 185]⟩, ⟨#[195, 187]⟩, ⟨#[195, 188]⟩, ⟨#[195, 191]⟩, ⟨#[196, 133]⟩, ⟨#[196, 135]⟩, ⟨#[196, 153]⟩, ⟨#[197, 130]⟩, ⟨#[197, 132]⟩, ⟨#[195, 179]⟩, ⟨#[197, 155]⟩, ⟨#[197, 186]⟩, ⟨#[197, 188]⟩]

/-- With small letters, by the law. -/
def lawSmallB (s : ByteArray) : ByteArray := lawG grL smL ⟨#[]⟩ ((letters s.data.toList).map mkB)

/-! ### It is the package's -/

theorem lawG_list (fr tt : List ByteArray) : ∀ (l : List ByteArray) (acc : ByteArray), (lawG fr tt acc l).data.toList = acc.data.toList ++ (l.map fun x => (lawOne fr tt x).data.toList).flatten
  | [], acc => by simp [lawG]
  | x :: l, acc => by
    rw [lawG, lawG_list fr tt l, cat_list]
    simp

theorem one_tbl : tblL.all (fun p => decide (lawOne grL smL (mkB (Lib.encodeRune p.1)) = mkB (Lib.encodeRune p.2))) = true := by decide +kernel
theorem gr_tbl : grL.all (fun g => decide (tblN (Lib.decodeL g.data.toList).1 ≠ none)) = true := by decide +kernel

theorem idx_miss : ∀ (l : List ByteArray) (x : ByteArray) (i : Nat), ¬ x ∈ l → Lib.idxFromS l x i = -1
  | [], _, _, _ => rfl
  | y :: l, x, i, h => by
    have h1 : ¬ (y = x) := fun e => h (by simp [e])
    have h2 : ¬ x ∈ l := fun e => h (List.mem_cons_of_mem _ e)
    simp only [Lib.idxFromS]
    rw [if_neg (by simpa using h1)]
    exact idx_miss l x (i + 1) h2

theorem one_low {x : List UInt8} {c : Nat} (h : Letter x c) : (lawOne grL smL (mkB x)).data.toList = low tblN x := by
  have hd := letter_code h
  unfold low
  rw [hd]
  simp only
  cases ht : tblN c with
  | some y =>
    obtain ⟨p, hp, e1, e2⟩ := tblN_some ht
    have := of_decide_eq_true (List.all_eq_true.1 one_tbl p hp)
    rw [e1, e2, letter_enc h] at this
    rw [this]
    simp [mkB]
  | none =>
    have hm : ¬ mkB x ∈ grL := fun hm => by
      have := of_decide_eq_true (List.all_eq_true.1 gr_tbl _ hm)
      have e : (mkB x).data.toList = x := by simp [mkB]
      rw [e, hd] at this
      exact this ht
    unfold lawOne Lib.idxOfS
    rw [idx_miss _ _ _ hm, if_pos (by omega)]
    simp [mkB]

theorem law_small {s : ByteArray} (h : bad s.data.toList = none) : lawSmallB s = smallB s := by
  apply ba_ext
  rw [lawSmallB, lawG_list]
  show _ = (smallB s).data.toList
  have e : (smallB s).data.toList = small tblN s.data.toList := by simp [smallB]
  rw [e, small_good h, List.map_map]
  show [] ++ _ = _
  rw [List.nil_append]
  congr 1
  refine List.map_congr_left fun x hx => ?_
  obtain ⟨c, hc⟩ := (good_letters h).1 x hx
  exact one_low hc

/-! ### The walk -/

theorem letters_len : ∀ (n : Nat) (l : List UInt8), l.length ≤ n → (letters l).length ≤ l.length ∧ ∀ x ∈ letters l, x.length ≤ 4
  | 0, l, h => by
    rw [List.length_eq_zero_iff.1 (Nat.le_zero.1 h)]
    exact ⟨Nat.le_refl _, fun x hx => by cases hx⟩
  | n + 1, l, h => by
    by_cases hne : l = []
    · subst hne; exact ⟨Nat.le_refl _, fun x hx => by cases hx⟩
    have hl : 0 < l.length := List.length_pos_iff.2 hne
    by_cases h0 : okL l = 0
    · rw [letters_stop h0]; exact ⟨Nat.zero_le _, fun x hx => by cases hx⟩
    · obtain ⟨h1, h2⟩ := letters_len n (l.drop (okL l)) (by simp; omega)
      rw [letters_step hne h0]
      have h4 : okL l ≤ 4 := okN_le4 _ _ _ _ _
      refine ⟨by simp at h1 ⊢; omega, fun x hx => ?_⟩
      rcases List.mem_cons.1 hx with rfl | hx
      · simp; omega
      · exact h2 x hx

theorem den_strs {E : Env} (l : List ByteArray) (m : Nat) : den E (m + 2) (strs l) = some (strs l) := by
  have key : ∀ l : List ByteArray, denL (den E (m + 1)) (l.map Value.string) = some (l.map Value.string) := by
    intro l
    induction l with
    | nil => rfl
    | cons x l ih => rw [List.map_cons, denL_cons, ih]; rfl
  show (match denL (den E (m + 1)) (l.map Value.string).toArray.toList with | some vs => some (Value.agg vs.toArray) | none => none) = _
  rw [show (l.map Value.string).toArray.toList = l.map Value.string by simp, key]
  rfl

def fnL : Fns where
  int i l := match i, l with
    | 42, [.string s] => badI s.data.toList
    | 48, [.agg c, .string x] => Lib.idxOfS (c.toList.map fun v => match v with | .string s => s | _ => ⟨#[]⟩) x
    | _, _ => 0
  bool i l := match i, l with
    | 43, [.string s] => (bad s.data.toList).isSome
    | 45, [.string s] => (letters s.data.toList).isEmpty
    | 49, [.agg c] => shortB (c.toList.map fun v => match v with | .string s => s | _ => ⟨#[]⟩)
    | _, _ => false
  str i l := match i, l with
    | 46, [.string s] => smallB s
    | 47, [.string s] => lawSmallB s
    | 50, [.agg a, .agg b, .agg c] => lawG (a.toList.map fun v => match v with | .string s => s | _ => ⟨#[]⟩) (b.toList.map fun v => match v with | .string s => s | _ => ⟨#[]⟩) ⟨#[]⟩ (c.toList.map fun v => match v with | .string s => s | _ => ⟨#[]⟩)
    | _, _ => ⟨#[]⟩
  val _ _ := .bool false
  lst i l := match i, l with
    | 44, [.string s] => (letters s.data.toList).map fun l => .string (mkB l)
    | _, _ => []

theorem strs_back (l : List ByteArray) : ((l.map Value.string).toArray.toList.map fun v => match v with | .string s => s | _ => ⟨#[]⟩) = l := by
  simp only [List.map_map]
  exact List.map_id' l

theorem fnL_L : FnL fnL where
  bad := fun _ => rfl
  isb := fun _ => rfl
  let_ := fun _ => rfl
  emp := fun _ => rfl
  sml := fun _ => rfl
  idx := fun l x => by show Lib.idxOfS _ x = _; rw [strs_back]
  sh := fun l => by show shortB _ = _; rw [strs_back]
  law := fun a b c => by show lawG _ _ _ _ = _; rw [strs_back, strs_back, strs_back]

def toldSl : Tolds := ⟨[], [], [runesC], [], [lsLoop]⟩
theorem toldSl_ok : TOk fnL toldSl := ⟨fun c h => (by cases h), fun c h => (by cases h), fun c h => (by
    simp only [toldSl, List.mem_cons, List.not_mem_nil, or_false] at h
    subst h
    exact runesC_ok fnL_L.toFnB), fun c h => (by cases h), fun c h => (by
    simp only [toldSl, List.mem_cons, List.not_mem_nil, or_false] at h
    subst h
    exact lsLoop_ok fnL_L)⟩

def slL : Value := sv 81 [.int .i64 44, rfS]
def slT : Tree := .need (sv 31 [.int .i64 1048576, sv 10 [rfS]]) false (.node (sv 5 [.int .i64 45, rfS]) (.leaf (.string ⟨#[]⟩))
  (.need (sv 30 [sv 74 [slL, .int .i64 1], sv 74 [slL, .int .i64 1]]) true (.need (sv 31 [sv 74 [slL, .int .i64 1], .int .i64 1048577]) true (.need (sv 5 [.int .i64 49, slL]) true (.need (sv 5 [.int .i64 49, strs smL]) true
    (.leaf (sv 6 [.int .i64 50, strs grL, strs smL, slL])))))))

theorem sl_run : ∀ t1 t2 t3 t4, slT.ok (fun F => (arun (cfgH fnL noRows toldSl F) 1000 29 [sv 2 [.int .i64 0]] (heapOf 20 (vars t1 t2 t3 t4))).map (·.1)) [] = true := fun t1 t2 t3 t4 => by kernel_rfl

theorem lsmall_any (s : ByteArray) (hs : s.size ≤ 1048576) (w : World) (hw : Wld w) : Calls Tryz.prog 29 #[.string s] w fun e w' => e = .returned (.string (lawSmallB s)) ∧ Below w.heap.size w w' := by
  obtain ⟨E, hEq⟩ : ∃ E, E = mkE fnL rows0 [] [] [s] fun _ => undef := ⟨_, rfl⟩
  have hfn : E.fns = fnL := by rw [hEq]; rfl
  have e0 : E.str 0 = s := by rw [hEq]; rfl
  refine tree_h toldSl_ok (K := noRows) (args := [sv 2 [.int .i64 0]]) (Tr := slT) (F0 := []) sl_run (E := E) (by intro p hp; cases hp) hfn (by rw [hEq]; rfl) ?_ ?_ hw (by intro r hr; cases hr)
  · have d0 : ∀ m, den E (m + 2) rfS = some (.string s) := fun m => by simp only [rfS, den_i, den_sv, denL_cons, denL_nil, Option.bind_some, i2, Int.reduceToNat, e0]
    have k1 : den E 40 (sv 31 [.int .i64 1048576, sv 10 [rfS]]) = some (.bool false) := by
      simp only [den_i, den_sv (n := 39), den_sv (n := 38), denL_cons, denL_nil, d0, Option.bind_some, i10, i31]
      rw [decide_eq_false (by omega)]
    have k4 : den E 40 (sv 5 [.int .i64 45, rfS]) = some (.bool (letters s.data.toList).isEmpty) := by simp only [den_i, den_sv (n := 39), denL_cons, denL_nil, d0, Option.bind_some, i5, hfn, Int.reduceToNat, fnL_L.emp]
    have dL : ∀ m, den E (m + 3) slL = some (strs ((letters s.data.toList).map mkB)) := fun m => by
      simp only [slL, den_i, den_sv, denL_cons, denL_nil, d0, Option.bind_some, i81, hfn, Int.reduceToNat, fnL_L.let_]
      simp only [strs, List.map_map]
      rfl
    obtain ⟨h1, h2⟩ := letters_len _ s.data.toList (Nat.le_refl _)
    have hsz : s.data.toList.length = s.size := by simp
    have k5 : den E 40 (sv 30 [sv 74 [slL, .int .i64 1], sv 74 [slL, .int .i64 1]]) = some (.bool true) := by simp only [den_i, den_sv (n := 39), den_sv (n := 38), denL_cons, denL_nil, dL, Option.bind_some, i30, i74s, decide_true]
    have k6 : den E 40 (sv 31 [sv 74 [slL, .int .i64 1], .int .i64 1048577]) = some (.bool true) := by
      simp only [den_i, den_sv (n := 39), den_sv (n := 38), denL_cons, denL_nil, dL, Option.bind_some, i31, i74s, List.length_map]
      rw [decide_eq_true (by omega)]
    have k7 : den E 40 (sv 5 [.int .i64 49, slL]) = some (.bool true) := by
      simp only [den_i, den_sv (n := 39), denL_cons, denL_nil, dL, Option.bind_some, i5, hfn, Int.reduceToNat, fnL_L.sh]
      congr 2
      refine List.all_eq_true.2 fun y hy => decide_eq_true ?_
      obtain ⟨x, hx, rfl⟩ := List.mem_map.1 hy
      have := h2 x hx
      have e : (mkB x).size = x.length := by show x.toArray.size = _; simp
      omega
    have k8 : den E 40 (sv 5 [.int .i64 49, strs smL]) = some (.bool true) := by
      rw [den_sv, denL_cons, denL_cons, denL_nil, den_strs]
      simp only [den_i, Option.bind_some, i5, hfn, Int.reduceToNat, fnL_L.sh]
      rfl
    have k9 : den E 40 (sv 6 [.int .i64 50, strs grL, strs smL, slL]) = some (.string (lawSmallB s)) := by
      rw [den_sv, denL_cons, denL_cons, denL_cons, denL_cons, denL_nil, den_strs, den_strs, dL]
      simp only [den_i, Option.bind_some, i6, hfn, Int.reduceToNat, fnL_L.law]
      rfl
    simp only [slT, val_need, val_node, val_leaf, k1, k4, k5, k6, k7, k8, k9, want_b, pick_b, ↓reduceIte]
    cases hL : letters s.data.toList with
    | nil =>
      simp only [List.isEmpty_nil, if_true, den_s]
      unfold lawSmallB
      rw [hL]
      rfl
    | cons x r => rfl
  · intro ρ hρ
    exact vr1 (sv_vr (vr1 (.int _ _)) (by rw [hρ]; show some (Value.string (E.str 0)) = _; rw [e0]))

def lsmallC : Ctr where
  f := 29
  sorts := [some .str]
  wants l := match l with
    | [s] => [(sv 31 [.int .i64 1048576, slen s], false)]
    | _ => []
  dec _ := none
  res _ l := sv 6 (.int .i64 47 :: l)
theorem lsmallC_ok {FN : Fns} (hF : ∀ s, FN.str 47 [.string s] = lawSmallB s) : CtrOk FN lsmallC :=
  strC_ok (res := fun s => .string (lawSmallB s)) rfl (fun _ => rfl) (fun _ => rfl) (fun S ρ a s q g hS hv => sv_vr (VRs.cons (.int _ _) (vr1 hv)) (by simp only [interp, g.fns, hS, Int.reduceToNat, hF])) fun s w hw hs => lsmall_any s hs w hw
end Go.Proofs.YtebkccfnilcfpaaGreatDoor
