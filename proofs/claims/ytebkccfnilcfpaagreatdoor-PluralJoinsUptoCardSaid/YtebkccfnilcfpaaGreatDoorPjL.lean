/- PluralJoins: what plural.Join comes to; the law's run; the walk. -/
import Derived.Test.YtebkccfnilcfpaaGreatDoorPjC
import Derived.Test.YtebkccfnilcfpaaGreatDoorSyAw7
import Derived.Lib.Join
import Derived.OpenShut
namespace Go.Proofs.YtebkccfnilcfpaaGreatDoor
set_option linter.unusedVariables false
set_option linter.unusedSimpArgs false
open Go Go.Sy Go.RowKit

/-! ### The plain law -/

theorem ba_ext {a b : ByteArray} (h : a.data.toList = b.data.toList) : a = b := ByteArray.ext (Array.toList_inj.1 h)

theorem joinB_list (l : List ByteArray) (p : ByteArray) : (joinB l p).data.toList = Lib.join (l.map (·.data.toList)) p.data.toList := by simp [joinB]

theorem joinG_tail (and last : ByteArray) (n : Nat) : ∀ (r : List ByteArray) (i : Nat) (acc : ByteArray), 1 ≤ i → i + r.length + 1 = n →
    (joinG n and i acc (r ++ [last])).data.toList = acc.data.toList ++ Lib.joinTail comma.data.toList (r.map (·.data.toList)) ++ [32] ++ and.data.toList ++ [32] ++ last.data.toList
  | [], i, acc, h1, h2 => by
    have e : i = n - 1 := by simp at h2; omega
    simp only [List.nil_append, joinG, stepJ, if_pos (show 0 < i by omega), if_pos e, cat_list, Lib.joinTail, List.map_nil, List.flatten_nil, List.append_nil]
    simp [sp]
  | x :: r, i, acc, h1, h2 => by
    have e : ¬ i = n - 1 := by simp at h2; omega
    rw [List.cons_append, joinG, stepJ, if_pos (show 0 < i by omega), if_neg e, joinG_tail and last n r (i + 1) _ (by omega) (by simp at h2; omega)]
    simp only [cat_list, Lib.joinTail, List.map_cons, List.flatten_cons, List.append_assoc]

theorem pjB_small {l : List ByteArray} {and : ByteArray} (h : l.length ≤ 1) : pjB l and = joinB l comma := by
  match l, h with
  | [], _ => rfl
  | [x], _ =>
    apply ba_ext
    rw [joinB_list]
    simp [pjB, joinG, stepJ, cat_list, none0, Lib.join, List.intercalate]

theorem pjB_great {l : List ByteArray} {and last : ByteArray} {n : Nat} (hn : l.length = n + 2) (hl : l[n + 1]? = some last) :
    pjB l and = cat (cat (cat (cat (joinB (l.take (n + 1)) comma) sp) and) sp) last := by
  match l, hn, hl with
  | x :: r, hn, hl =>
    have hr : r.length = n + 1 := by simp at hn; omega
    have hl' : r[n]? = some last := by simpa using hl
    obtain ⟨hlt, he⟩ := List.getElem?_eq_some_iff.1 hl'
    have hd : r = r.take n ++ [last] := by
      have := List.take_append_getElem hlt
      rw [he] at this
      rw [this, List.take_of_length_le (by omega)]
    have hT : (x :: r).take (n + 1) = x :: r.take n := rfl
    apply ba_ext
    rw [hT]
    unfold pjB
    have e : joinG (x :: r).length and 0 none0 (x :: r) = joinG (n + 2) and 1 (cat none0 x) (r.take n ++ [last]) := by
      rw [← hd, hn]
      rfl
    rw [e, joinG_tail and last (n + 2) _ 1 _ (Nat.le_refl _) (by simp; omega)]
    simp only [cat_list, joinB_list, List.map_cons]
    rw [Lib.join_cons]
    simp [none0, sp]

theorem join_lens (q : List (List UInt8)) (p : List UInt8) : Lib.lens q ≤ (Lib.join q p).length ∧ (Lib.join q p).length ≤ p.length * q.length + Lib.lens q := by
  cases q with
  | nil => exact ⟨Nat.le_refl _, Nat.zero_le _⟩
  | cons x r =>
    rw [Lib.join_length]
    refine ⟨Nat.le_add_left _ _, ?_⟩
    have : p.length * r.length ≤ p.length * (x :: r).length := Nat.mul_le_mul_left _ (by simp)
    omega

theorem joinB_size (l : List ByteArray) (p : ByteArray) : (joinB l p).size = (Lib.join (l.map (·.data.toList)) p.data.toList).length := by
  show (Lib.join (l.map (·.data.toList)) p.data.toList).toArray.size = _
  simp

theorem joinB_none (l : List ByteArray) : (joinB l none0).size = Lib.lens (l.map (·.data.toList)) := by
  have h := join_lens (l.map (·.data.toList)) none0.data.toList
  rw [joinB_size]
  have e : none0.data.toList.length = 0 := rfl
  rw [e, Nat.zero_mul] at h
  omega

theorem joinB_comma (l : List ByteArray) : (joinB l comma).size ≤ 2 * l.length + (joinB l none0).size := by
  have h := join_lens (l.map (·.data.toList)) comma.data.toList
  rw [joinB_none, joinB_size]
  have e : comma.data.toList.length = 2 := rfl
  rw [e, List.length_map] at h
  omega

theorem joinB_take (l : List ByteArray) (k : Nat) : (joinB (l.take k) none0).size ≤ (joinB l none0).size := by
  rw [joinB_none, joinB_none, List.map_take]
  exact Lib.lens_take_le _ _

/-! ### The law's run -/

def qV : Value := sv 98 [.int .i64 1000000]
def qA : Value := sv 2 [.int .i64 1]
def qL : Value := sv 74 [qV, .int .i64 1]
def qM : Value := sv 21 [.int .i64 0, qL, .int .i64 1]
def qP : Value := sv 75 [qV, .int .i64 0, qM, .int .i64 1]
def qE : Value := .string ⟨#[]⟩
def qS : Value := .string ⟨#[32]⟩
def qC : Value := .string ⟨#[44, 32]⟩
def qJ0 : Value := sv 6 [.int .i64 30, qV, qE]
def qJP : Value := sv 6 [.int .i64 30, qP, qC]
def qJV : Value := sv 6 [.int .i64 30, qV, qC]
def qW1 : Value := sv 40 [qJP, qS]
def qW2 : Value := sv 40 [qW1, qA]
def qW3 : Value := sv 40 [qW2, qS]
def qX : Value := sv 73 [qV, qM, .int .i64 1, .int .i64 0]
def qR : Value := sv 6 [.int .i64 31, qV, qA]
def qW4 : Value := sv 40 [qW3, qX]
def plT : HTree := (.node (sv 31 [.int .i64 20, qL])
  (.leaf .ret 0 [.bool true])
  (.need (sv 31 [qL, .int .i64 1048577]) true (.need (sv 31 [(sv 10 [qJ0]), .int .i64 1099511627777]) true (.node (sv 31 [.int .i64 500, (sv 10 [qJ0])])
  (.leaf .ret 0 [.bool true])
  (.node (sv 31 [.int .i64 50, (sv 10 [qA])])
  (.leaf .ret 0 [.bool true])
  (.need (sv 31 [(sv 10 [qJV]), .int .i64 1099511627777]) true (.node (sv 31 [.int .i64 1, qL])
  (.need (sv 31 [qM, .int .i64 0]) false (.need (sv 31 [qL, qM]) false (.need (sv 31 [(sv 74 [qP, .int .i64 1]), .int .i64 1048577]) true (.need (sv 31 [(sv 10 [qJP]), .int .i64 1099511627777]) true (.need (sv 41 [qJP, qS]) true (.need (sv 41 [qW1, qA]) true (.need (sv 41 [qW2, qS]) true (.need (sv 31 [qM, qL]) true (.need (sv 41 [qW3, qX]) true (.need (sv 31 [(sv 10 [qJ0]), .int .i64 1048577]) true (.need (sv 31 [(sv 10 [qA]), .int .i64 1048577]) true (.leaf .ret 0 [(sv 30 [qR, qW4])]))))))))))))
  (.need (sv 31 [(sv 10 [qJ0]), .int .i64 1048577]) true (.need (sv 31 [(sv 10 [qA]), .int .i64 1048577]) true (.leaf .ret 0 [(sv 30 [qR, qJV])]))))))))))

def plC : FCtr where
  f := 3
  nb := 0
  nl := 2
  args := [nmR 0, lfs 1]
  objs := [.row [.str] 0]
  srts := [none, some .str]
  wants := [(sv 31 [sv 10 [sv 6 [.int .i64 30, specL 0 0, .string ⟨#[]⟩]], .int .i64 1099511627777], true)]
  dec := none
  out _ := ⟨[lfb 0], [], [.bool true]⟩

def fnJ : Fns where
  int _ _ := 0
  bool _ _ := false
  str i l := match i, l with
    | 30, [.agg c, .string p] => joinB (c.toList.map fun v => match v with | .string s => s | _ => ⟨#[]⟩) p
    | 31, [.agg c, .string p] => pjB (c.toList.map fun v => match v with | .string s => s | _ => ⟨#[]⟩) p
    | _, _ => ⟨#[]⟩
  val _ _ := .bool false

theorem fnJ_J : FnJ fnJ := by
  have e : ∀ l : List ByteArray, ((l.map Value.string).toArray.toList.map fun v => match v with | .string s => s | _ => ⟨#[]⟩) = l := fun l => by
    simp only [List.map_map]
    exact List.map_id' l
  refine ⟨fun l p => ?_, fun l p => ?_⟩
  · show joinB _ p = _
    rw [e]
  · show pjB _ p = _
    rw [e]

def toldPl : Tolds := ⟨[awC 11], [joinsC], [pjC], [], []⟩
theorem toldPl_ok : TOk fnJ toldPl := ⟨fun c h => (by
    simp only [toldPl, List.mem_cons, List.not_mem_nil, or_false] at h
    subst h
    exact awC_ok aw7 fnJ), fun c h => (by
    simp only [toldPl, List.mem_cons, List.not_mem_nil, or_false] at h
    subst h
    exact joinsC_ok fnJ_J.join), fun c h => (by
    simp only [toldPl, List.mem_cons, List.not_mem_nil, or_false] at h
    subst h
    exact pjC_ok fnJ_J), fun c h => (by cases h), fun c h => (by cases h)⟩

theorem pl_run : ∀ t1 t2 t3 t4, plT.okF (fun F => arun (cfgH fnJ noRows toldPl F) 1000 3 [nmR 0, lfs 1] (canH 0 (heapOf 20 (vars t1 t2 t3 t4)) [.row [.str] 0])) (fun F => ⟨20, F, fnJ, [], rows0⟩) 0 [⟨[(0, lfb 0)], [], 1⟩] [] = true := fun t1 t2 t3 t4 => by kernel_rfl

theorem plT_val {E : Env} {l : List ByteArray} {and : ByteArray} (E0 : E.val 1000000 = strs l) (E1 : E.str 1 = and) (E5 : E.fns = fnJ) (hb : (joinB l none0).size < 1099511627777) : plT.val E = some (.ret, 0, [.bool true]) := by
  have dV : ∀ m, den E (m + 2) qV = some (strs l) := fun m => by simp only [qV, den_sv, denL_cons, denL_nil, den_i, Option.bind_some, i98, Int.reduceToNat, E0]
  have dA : ∀ m, den E (m + 2) qA = some (.string and) := fun m => by simp only [qA, den_i, den_sv, denL_cons, denL_nil, Option.bind_some, i2, Int.reduceToNat, E1]
  have dL : ∀ m, den E (m + 3) qL = some (.int .i64 (l.length : Int)) := fun m => by simp only [qL, den_i, den_sv, denL_cons, denL_nil, dV, Option.bind_some, i74s]
  have dE : ∀ m, den E (m + 1) qE = some (.string none0) := fun m => rfl
  have dS : ∀ m, den E (m + 1) qS = some (.string sp) := fun m => rfl
  have dC : ∀ m, den E (m + 1) qC = some (.string comma) := fun m => rfl
  have dJ0 : ∀ m, den E (m + 3) qJ0 = some (.string (joinB l none0)) := fun m => by simp only [qJ0, den_i, den_sv, denL_cons, denL_nil, dV, dE, Option.bind_some, i6, E5, Int.reduceToNat, fnJ_J.join]
  have dJV : ∀ m, den E (m + 3) qJV = some (.string (joinB l comma)) := fun m => by simp only [qJV, den_i, den_sv, denL_cons, denL_nil, dV, dC, Option.bind_some, i6, E5, Int.reduceToNat, fnJ_J.join]
  have dR : ∀ m, den E (m + 3) qR = some (.string (pjB l and)) := fun m => by simp only [qR, den_i, den_sv, denL_cons, denL_nil, dV, dA, Option.bind_some, i6, E5, Int.reduceToNat, fnJ_J.pj]
  have L10 : ∀ s : ByteArray, interp E 10 [.string s] = some (.int .i64 s.size) := fun s => i10 s
  have jc := joinB_comma l
  by_cases c1 : (20 : Int) < (l.length : Int)
  · simp only [plT, HTree.val, den_i, den_b, den_sv (n := 39), denL_cons, denL_nil, dL, Option.bind_some, i31, c1, decide_true, pickC, if_true]
  by_cases c2 : (500 : Int) < ((joinB l none0).size : Int)
  · simp only [plT, HTree.val, den_i, den_b, den_sv (n := 39), den_sv (n := 38), denL_cons, denL_nil, dL, dJ0, Option.bind_some, i31, L10, c1, c2, decide_true, decide_false, pickC, wantC, if_true, Bool.false_eq_true, ↓reduceIte, show ((l.length : Int) < 1048577) from by omega, show (((joinB l none0).size : Int) < 1099511627777) from by omega]
  by_cases c3 : (50 : Int) < (and.size : Int)
  · simp only [plT, HTree.val, den_i, den_b, den_sv (n := 39), den_sv (n := 38), denL_cons, denL_nil, dL, dJ0, dA, Option.bind_some, i31, L10, c1, c2, c3, decide_true, decide_false, pickC, wantC, if_true, Bool.false_eq_true, ↓reduceIte, show ((l.length : Int) < 1048577) from by omega, show (((joinB l none0).size : Int) < 1099511627777) from by omega]
  by_cases c4 : (1 : Int) < (l.length : Int)
  · obtain ⟨n, hn⟩ : ∃ n, l.length = n + 2 := ⟨l.length - 2, by omega⟩
    obtain ⟨x, hx⟩ : ∃ x, l[n + 1]? = some x := ⟨_, List.getElem?_eq_getElem (by omega)⟩
    have hxs := join_each (List.mem_of_getElem? hx)
    have jt := joinB_take l (n + 1)
    have jt2 := joinB_comma (l.take (n + 1))
    have htl : (l.take (n + 1)).length = n + 1 := by simp; omega
    have s1 : sp.size = 1 := rfl
    have dM : ∀ m, den E (m + 4) qM = some (.int .i64 ((n + 1 : Nat) : Int)) := fun m => by
      simp (disch := omega) only [qM, den_i, den_sv, denL_cons, denL_nil, dL, Option.bind_some, i21, wr64]
      rw [show (l.length : Int) - 1 = ((n + 1 : Nat) : Int) by omega]
    have dP : ∀ m, den E (m + 5) qP = some (strs (l.take (n + 1))) := fun m => by
      simp only [qP, den_i, den_sv, denL_cons, denL_nil, dV, dM, Option.bind_some]
      have := i75s (E := E) (l := l) (a := 0) (b := n + 1) (Nat.zero_le _) (by omega) .i64 .i64 .i64
      rw [List.drop_zero, Nat.sub_zero] at this
      exact this
    have dJP : ∀ m, den E (m + 6) qJP = some (.string (joinB (l.take (n + 1)) comma)) := fun m => by simp only [qJP, den_i, den_sv, denL_cons, denL_nil, dP, dC, Option.bind_some, i6, E5, Int.reduceToNat, fnJ_J.join]
    have dX : ∀ m, den E (m + 5) qX = some (.string x) := fun m => by simp only [qX, den_i, den_sv, denL_cons, denL_nil, dV, dM, Option.bind_some, i73s hx]
    obtain ⟨J, hJ⟩ : ∃ J, J = joinB (l.take (n + 1)) comma := ⟨_, rfl⟩
    have hJs : J.size < 100000 := by rw [hJ]; omega
    have dW1 : ∀ m, den E (m + 7) qW1 = some (.string (cat J sp)) := fun m => by simp only [qW1, den_sv, denL_cons, denL_nil, dJP, dS, Option.bind_some, ← hJ]; exact i40c (by omega)
    have dW2 : ∀ m, den E (m + 8) qW2 = some (.string (cat (cat J sp) and)) := fun m => by simp only [qW2, den_sv, denL_cons, denL_nil, dW1, dA, Option.bind_some]; exact i40c (by rw [cat_size]; omega)
    have dW3 : ∀ m, den E (m + 9) qW3 = some (.string (cat (cat (cat J sp) and) sp)) := fun m => by simp only [qW3, den_sv, denL_cons, denL_nil, dW2, dS, Option.bind_some]; exact i40c (by simp only [cat_size]; omega)
    have dW4 : ∀ m, den E (m + 10) qW4 = some (.string (cat (cat (cat (cat J sp) and) sp) x)) := fun m => by simp only [qW4, den_sv, denL_cons, denL_nil, dW3, dX, Option.bind_some]; exact i40c (by simp only [cat_size]; omega)
    have q1 : den E 40 (sv 41 [qJP, qS]) = some (.bool true) := by simp only [den_sv (n := 39), denL_cons, denL_nil, dJP, dS, Option.bind_some, ← hJ]; exact i41c (by omega)
    have q2 : den E 40 (sv 41 [qW1, qA]) = some (.bool true) := by simp only [den_sv (n := 39), denL_cons, denL_nil, dW1, dA, Option.bind_some]; exact i41c (by rw [cat_size]; omega)
    have q3 : den E 40 (sv 41 [qW2, qS]) = some (.bool true) := by simp only [den_sv (n := 39), denL_cons, denL_nil, dW2, dS, Option.bind_some]; exact i41c (by simp only [cat_size]; omega)
    have q4 : den E 40 (sv 41 [qW3, qX]) = some (.bool true) := by simp only [den_sv (n := 39), denL_cons, denL_nil, dW3, dX, Option.bind_some]; exact i41c (by simp only [cat_size]; omega)
    have k1 : den E 40 (sv 31 [sv 74 [qP, .int .i64 1], .int .i64 1048577]) = some (.bool true) := by
      simp only [den_i, den_sv (n := 39), den_sv (n := 38), denL_cons, denL_nil, dP, Option.bind_some, i31, i74s, htl, show (((n + 1 : Nat) : Int) < 1048577) from by omega, decide_true]
    have k2 : den E 40 (sv 31 [sv 10 [qJP], .int .i64 1099511627777]) = some (.bool true) := by
      simp only [den_i, den_sv (n := 39), den_sv (n := 38), denL_cons, denL_nil, dJP, Option.bind_some, i31, L10, ← hJ, show ((J.size : Int) < 1099511627777) from by omega, decide_true]
    have r1 : den E 40 (sv 30 [qR, qW4]) = some (.bool true) := by
      have := pjB_great (and := and) hn hx
      rw [← hJ] at this
      simp only [den_sv (n := 39), denL_cons, denL_nil, dR, dW4, Option.bind_some, i30s, this, decide_true]
    have r2 : denL (den E 40) [sv 30 [qR, qW4]] = some [.bool true] := by rw [denL_cons, denL_nil, r1]; rfl
    simp only [plT, HTree.val, q1, q2, q3, q4, k1, k2, r2]
    simp only [den_i, den_b, den_sv (n := 39), den_sv (n := 38), denL_cons, denL_nil, dL, dJ0, dJV, dA, dM, Option.bind_some, i31, L10, c1, c2, c3, c4, decide_true, decide_false, pickC, wantC, if_true, Bool.false_eq_true, ↓reduceIte, show ((l.length : Int) < 1048577) from by omega, show (((joinB l none0).size : Int) < 1099511627777) from by omega,
      show (((joinB l comma).size : Int) < 1099511627777) from by omega, show ¬ (((n + 1 : Nat) : Int) < 0) from by omega, show ¬ ((l.length : Int) < ((n + 1 : Nat) : Int)) from by omega, show (((n + 1 : Nat) : Int) < (l.length : Int)) from by omega, show (((joinB l none0).size : Int) < 1048577) from by omega, show ((and.size : Int) < 1048577) from by omega]
  · have r1 : den E 40 (sv 30 [qR, qJV]) = some (.bool true) := by
      have := pjB_small (l := l) (and := and) (by omega)
      simp only [den_sv (n := 39), denL_cons, denL_nil, dR, dJV, Option.bind_some, i30s, this, decide_true]
    have r2 : denL (den E 40) [sv 30 [qR, qJV]] = some [.bool true] := by rw [denL_cons, denL_nil, r1]; rfl
    simp only [plT, HTree.val, r2]
    simp only [den_i, den_b, den_sv (n := 39), den_sv (n := 38), denL_cons, denL_nil, dL, dJ0, dJV, dA, Option.bind_some, i31, L10, c1, c2, c3, c4, decide_true, decide_false, pickC, wantC, if_true, Bool.false_eq_true, ↓reduceIte, show ((l.length : Int) < 1048577) from by omega, show (((joinB l none0).size : Int) < 1099511627777) from by omega,
      show (((joinB l comma).size : Int) < 1099511627777) from by omega, show (((joinB l none0).size : Int) < 1048577) from by omega, show ((and.size : Int) < 1048577) from by omega]

theorem plC_ok : FOk fnJ plC := by
  refine fok_of toldPl_ok (Tr := plT) (F0 := []) (fins := [⟨[(0, lfb 0)], [], 1⟩]) (by decide) pl_run (fun _ => 0) (fun _ => 1) (fun _ => 0) (fun q => ⟨_, rfl, rfl⟩) fun V ls q hlen hleaf hrow hask => ?_
  obtain ⟨v0, hv0, hR⟩ := hrow 0 0 [.str] (.inl rfl) (by rw [hlen]; decide)
  obtain ⟨l, rfl⟩ := hasR_strs hR
  match ls, hlen with
  | [a0, a1], _ =>
    simp only [List.getElem?_cons_zero, Option.some.injEq] at hv0
    subst hv0
    obtain ⟨and, rfl⟩ := hleaf 1 _ _ rfl rfl
    refine ⟨fun p hp => (by cases hp), .ret, [.bool true], ?_, rfl⟩
    have d0 : ∀ m, den (envL fnJ V 0 [strs l, .string and]) (m + 2) (specL 0 0) = some (strs l) := fun m => by
      show den _ _ (sv 98 [.int .i64 1000000]) = _
      simp only [den_sv, denL_cons, denL_nil, den_i, Option.bind_some, i98, Int.reduceToNat]
      rfl
    have w := asked_facts hask (e := sv 31 [sv 10 [sv 6 [.int .i64 30, specL 0 0, .string ⟨#[]⟩]], .int .i64 1099511627777]) (b := true) (by simp [plC]) (c := decide (((joinB l none0).size : Int) < 1099511627777))
      (by
        simp only [den_i, den_s, den_sv (n := 39), den_sv (n := 38), den_sv (n := 37), denL_cons, denL_nil, d0, Option.bind_some, i31, i10, i6, Int.reduceToNat]
        rw [show (envL fnJ V 0 [strs l, .string and]).fns.str 30 [strs l, .string ⟨#[]⟩] = joinB l none0 from fnJ_J.join l none0])
    simp only [decide_eq_true_eq] at w
    exact plT_val rfl rfl rfl (by omega)
end Go.Proofs.YtebkccfnilcfpaaGreatDoor
