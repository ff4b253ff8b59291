/- kalendslaw10.Small's loop. -/
import Derived.Test.YtebkccfnilcfpaaGreatDoorLowC
import Derived.Test.YtebkccfnilcfpaaGreatDoorFoldC
namespace Go.Proofs.YtebkccfnilcfpaaGreatDoor
set_option linter.unusedVariables false
set_option linter.unusedSimpArgs false
open Go Go.Sy Go.RowKit

/-- One letter, small, by the law. -/
def lawOne (fr tt : List ByteArray) (x : ByteArray) : ByteArray := if Lib.idxOfS fr x < 0 then x else if Lib.idxOfS fr x < (tt.length : Int) then tt.getD (Lib.idxOfS fr x).toNat x else x
def lawG (fr tt : List ByteArray) : ByteArray → List ByteArray → ByteArray
  | acc, [] => acc
  | acc, x :: r => lawG fr tt (cat acc (lawOne fr tt x)) r
def shortB (l : List ByteArray) : Bool := l.all fun x => decide (x.size ≤ 1000)

/-- 48 a text's place, 49 are all short, 50 the law's loop. -/
structure FnL (FN : Fns) : Prop extends FnZ FN where
  idx : ∀ l x, FN.int 48 [strs l, .string x] = Lib.idxOfS l x
  sh : ∀ l, FN.bool 49 [strs l] = shortB l
  law : ∀ fr tt l, FN.str 50 [strs fr, strs tt, strs l] = lawG fr tt ⟨#[]⟩ l

def lV0 : Value := sv 98 [.int .i64 1000000]
def lV1 : Value := sv 98 [.int .i64 1000001]
def lV2 : Value := sv 98 [.int .i64 1000002]
def lA : Value := sv 2 [.int .i64 3]
def lN : Value := sv 0 [.int .i64 4]
def lI : Value := sv 0 [.int .i64 5]
def lX : Value := sv 73 [lV0, lI, .int .i64 1, .int .i64 0]
def lJ : Value := sv 4 [.int .i64 48, lV1, lX]
def lY : Value := sv 73 [lV2, lJ, .int .i64 1, .int .i64 0]
def lLen (v : Value) : Value := sv 74 [v, .int .i64 1]
def lOut (x : Value) : HTree := .need (sv 41 [lA, x]) true (.leaf .normal 0 [lV0, lV1, lV2, sv 40 [lA, x], lN, sv 20 [.int .i64 0, lI, .int .i64 1]])
def lsT : HTree := .node (sv 31 [lI, lN]) (.need (sv 31 [lI, .int .i64 0]) false (.need (sv 31 [lI, lLen lV0]) true (.need (sv 31 [lLen lV1, .int .i64 1048577]) true (.node (sv 31 [lJ, .int .i64 0]) (lOut lX) (.node (sv 31 [lJ, lLen lV2]) (lOut lY) (lOut lX)))))) (.leaf (.exit 0) 0 [lA])

def lsIns : List (Nat × Value) := [(26, nmR 0), (3, nmR 1), (5, nmR 2), (9, lfs 3), (27, lfi .i64 4), (28, lfi .i64 5)]
def lsObj : List PObj := [.own [.str] 9 0, .own [.str] 9 1, .own [.str] 9 2]
def lsSh : List Shape := [⟨lsIns, lsObj, 6⟩]
def lsFi : List Shape := [⟨[(9, lfs 0)], [], 1⟩]
def lsK : List Nat := [3, 5, 9, 11, 12, 26, 27, 28, 29, 30, 31, 32, 33, 34, 35, 36, 37, 38, 39, 40, 41, 42, 43, 44, 45, 46, 47, 48, 49, 50]
def toldLs : Tolds := ⟨[], [indexC], [], [], []⟩
theorem toldLs_ok {FN : Fns} (hF : FnL FN) : TOk FN toldLs := ⟨fun c h => (by cases h), fun c h => (by
    simp only [toldLs, List.mem_cons, List.not_mem_nil, or_false] at h
    subst h
    exact indexC_ok hF.idx), fun c h => (by cases h), fun c h => (by cases h), fun c h => (by cases h)⟩

theorem lsRounds {FN : Fns} : RoundsOk FN toldLs 29 506 52 0 lsSh lsFi lsK [lsT] [[]] := fun t1 t2 t3 t4 => by kernel_rfl

structure LsS where
  l : List ByteArray
  fr : List ByteArray
  tt : List ByteArray
  acc : ByteArray
  i : Nat
def LsS.st (s : LsS) : List Value := [strs s.l, strs s.fr, strs s.tt, .string s.acc, .int .i64 (s.l.length : Int), .int .i64 (s.i : Int)]

theorem lawG_drop {fr tt l : List ByteArray} {acc x : ByteArray} {i : Nat} (h : l[i]? = some x) : lawG fr tt acc (l.drop i) = lawG fr tt (cat acc (lawOne fr tt x)) (l.drop (i + 1)) := by
  obtain ⟨hi, he⟩ := List.getElem?_eq_some_iff.1 h
  rw [List.drop_eq_getElem_cons hi, he]
  rfl

theorem short_mem {l : List ByteArray} (h : shortB l = true) {x : ByteArray} (hx : x ∈ l) : x.size ≤ 1000 := of_decide_eq_true (List.all_eq_true.1 h x hx)

theorem lawOne_size {fr tt : List ByteArray} {x : ByteArray} (h1 : shortB tt = true) (h2 : x.size ≤ 1000) : (lawOne fr tt x).size ≤ 1000 := by
  unfold lawOne
  split
  · exact h2
  · split
    · rw [List.getD_eq_getElem?_getD]
      cases h : tt[(Lib.idxOfS fr x).toNat]? with
      | none => exact h2
      | some y => exact short_mem h1 (List.mem_of_getElem? h)
    · exact h2

def lsR {FN : Fns} (hF : FnL FN) : RoundH FN 52 lsSh lsFi [lsT] [[]] LsS where
  sh _ := 0
  st s := s.st
  Inv s := s.i ≤ s.l.length ∧ s.l.length ≤ 1048576 ∧ s.fr.length ≤ 1048576 ∧ shortB s.l = true ∧ shortB s.tt = true ∧ s.acc.size ≤ s.i * 1000
  μ s := s.l.length - s.i
  fin s := (.exit 0, 0, [.string (lawG s.fr s.tt s.acc (s.l.drop s.i))])
  step V s hI := by
    obtain ⟨l, fr, tt, acc, i⟩ := s
    obtain ⟨h1, h2, h3, h4, h5, h6⟩ := hI
    simp only at h1 h2 h3 h4 h5 h6
    refine ⟨lsT, [], ?_⟩
    have E0 : (envL FN V 52 (LsS.st ⟨l, fr, tt, acc, i⟩)).val 1000000 = strs l := rfl
    have E1 : (envL FN V 52 (LsS.st ⟨l, fr, tt, acc, i⟩)).val 1000001 = strs fr := rfl
    have E2 : (envL FN V 52 (LsS.st ⟨l, fr, tt, acc, i⟩)).val 1000002 = strs tt := rfl
    have E3 : (envL FN V 52 (LsS.st ⟨l, fr, tt, acc, i⟩)).str 3 = acc := rfl
    have E4 : (envL FN V 52 (LsS.st ⟨l, fr, tt, acc, i⟩)).int 4 = (l.length : Int) := rfl
    have E5 : (envL FN V 52 (LsS.st ⟨l, fr, tt, acc, i⟩)).int 5 = (i : Int) := rfl
    have Ef : (envL FN V 52 (LsS.st ⟨l, fr, tt, acc, i⟩)).fns = FN := rfl
    generalize hE : envL FN V 52 (LsS.st ⟨l, fr, tt, acc, i⟩) = E at *
    have d0 : ∀ m, den E (m + 2) lV0 = some (strs l) := fun m => by simp only [lV0, den_i, den_sv, denL_cons, denL_nil, Option.bind_some, i98, Int.reduceToNat, E0]
    have d1 : ∀ m, den E (m + 2) lV1 = some (strs fr) := fun m => by simp only [lV1, den_i, den_sv, denL_cons, denL_nil, Option.bind_some, i98, Int.reduceToNat, E1]
    have d2 : ∀ m, den E (m + 2) lV2 = some (strs tt) := fun m => by simp only [lV2, den_i, den_sv, denL_cons, denL_nil, Option.bind_some, i98, Int.reduceToNat, E2]
    have d3 : ∀ m, den E (m + 2) lA = some (.string acc) := fun m => by simp only [lA, den_i, den_sv, denL_cons, denL_nil, Option.bind_some, i2, Int.reduceToNat, E3]
    have d4 : ∀ m, den E (m + 2) lN = some (.int .i64 (l.length : Int)) := fun m => by simp only [lN, den_i, den_sv, denL_cons, denL_nil, Option.bind_some, i0, Int.reduceToNat, E4]
    have d5 : ∀ m, den E (m + 2) lI = some (.int .i64 (i : Int)) := fun m => by simp only [lI, den_i, den_sv, denL_cons, denL_nil, Option.bind_some, i0, Int.reduceToNat, E5]
    by_cases hk : i < l.length
    · obtain ⟨x, hx⟩ : ∃ x, l[i]? = some x := ⟨_, List.getElem?_eq_getElem hk⟩
      have hxs := short_mem h4 (List.mem_of_getElem? hx)
      have hos := lawOne_size (fr := fr) h5 hxs
      have hi6 : i * 1000 ≤ 1048576 * 1000 := Nat.mul_le_mul_right _ (by omega)
      have dX : ∀ m, den E (m + 3) lX = some (.string x) := fun m => by simp only [lX, den_i, den_sv, denL_cons, denL_nil, d0, d5, Option.bind_some, i73s hx]
      obtain ⟨j, hj⟩ : ∃ j, j = Lib.idxOfS fr x := ⟨_, rfl⟩
      have dJ : ∀ m, den E (m + 4) lJ = some (.int .i64 j) := fun m => by simp only [lJ, den_i, den_sv, denL_cons, denL_nil, d1, dX, Option.bind_some, i4, Ef, Int.reduceToNat, hF.idx, ← hj]
      have hout : ∀ (v : Value) (y : ByteArray), (∀ m, den E (m + 5) v = some (.string y)) → y.size ≤ 1000 → (lOut v).val E = some (.normal, 0, [strs l, strs fr, strs tt, .string (cat acc y), .int .i64 (l.length : Int), .int .i64 ((i : Int) + 1)]) := fun v y hv hy => by
        have q1 : den E 40 (sv 41 [lA, v]) = some (.bool true) := by simp only [den_sv (n := 39), denL_cons, denL_nil, d3, hv, Option.bind_some]; exact i41c (by omega)
        have q2 : den E 40 (sv 40 [lA, v]) = some (.string (cat acc y)) := by simp only [den_sv (n := 39), denL_cons, denL_nil, d3, hv, Option.bind_some]; exact i40c (by omega)
        simp (disch := omega) only [lOut, HTree.val, q1, q2, wantC, ↓reduceIte, denL_cons, denL_nil, d0, d1, d2, d4, d5, den_i, den_sv (n := 39), Option.bind_some, i20, wr64]
      have hval : lsT.val E = some (.normal, 0, [strs l, strs fr, strs tt, .string (cat acc (lawOne fr tt x)), .int .i64 (l.length : Int), .int .i64 ((i : Int) + 1)]) := by
        simp only [lsT, lLen, HTree.val, den_i, den_sv (n := 39), den_sv (n := 38), denL_cons, denL_nil, d0, d1, d2, d4, d5, dJ, Option.bind_some, i31, i74s, pickC, wantC, show (i : Int) < (l.length : Int) by omega, show ¬ (i : Int) < 0 by omega, show (fr.length : Int) < 1048577 by omega, decide_true, decide_false, if_true, ↓reduceIte, decide_eq_true_eq]
        unfold lawOne
        rw [← hj]
        by_cases c1 : j < 0
        · rw [if_pos c1, if_pos c1]
          exact hout _ _ (fun m => dX (m + 2)) hxs
        · rw [if_neg c1, if_neg c1]
          by_cases c2 : j < (tt.length : Int)
          · rw [if_pos c2, if_pos c2]
            obtain ⟨k, rfl⟩ := Int.eq_ofNat_of_zero_le (show 0 ≤ j by omega)
            obtain ⟨y, hy⟩ : ∃ y, tt[k]? = some y := ⟨_, List.getElem?_eq_getElem (by omega)⟩
            have e : tt.getD (Int.toNat (k : Int)) x = y := by rw [Int.toNat_natCast, List.getD_eq_getElem?_getD, hy]; rfl
            rw [e]
            refine hout _ _ (fun m => ?_) (short_mem h5 (List.mem_of_getElem? hy))
            simp only [lY, den_i, den_sv, denL_cons, denL_nil, d2, dJ, Option.bind_some, i73s hy]
          · rw [if_neg c2, if_neg c2]
            exact hout _ _ (fun m => dX (m + 2)) hxs
      rw [hval]
      refine ⟨_, _, _, rfl, rfl, (fun p hp => by cases hp), rfl, .inl ⟨rfl, ⟨l, fr, tt, cat acc (lawOne fr tt x), i + 1⟩, ⟨hk, h2, h3, h4, h5, by simp only [cat_size]; omega⟩, by simp only; omega, ?_, rfl, rfl⟩⟩
      simp only [lawG_drop hx]
    · have hval : lsT.val E = some (.exit 0, 0, [.string acc]) := by
        simp only [lsT, HTree.val, den_sv (n := 39), denL_cons, denL_nil, d3, d4, d5, Option.bind_some, i31, pickC, show ¬ (i : Int) < (l.length : Int) by omega, decide_false, Bool.false_eq_true, ↓reduceIte]
      rw [hval]
      refine ⟨_, _, _, rfl, rfl, (fun p hp => by cases hp), rfl, .inr ⟨by simp, ?_⟩⟩
      simp only [List.drop_eq_nil_of_le (show l.length ≤ i by omega), lawG]

def lsLoop : HLCtr where
  f := 29
  p := 506
  nt := 52
  nb := 0
  nl := 6
  ins := lsIns
  objs := lsObj
  srts := [none, none, none, some .str, some (.int .i64), some (.int .i64)]
  wants := [(sv 30 [lfi .i64 5, .int .i64 0], true), (sv 30 [lfi .i64 4, sv 74 [specL 52 0, .int .i64 1]], true), (sv 30 [lfs 3, .string ⟨#[]⟩], true), (sv 31 [sv 74 [specL 52 0, .int .i64 1], .int .i64 1048577], true), (sv 31 [sv 74 [specL 52 1, .int .i64 1], .int .i64 1048577], true),
    (sv 5 [.int .i64 49, specL 52 0], true), (sv 5 [.int .i64 49, specL 52 2], true)]
  dec := none
  ex _ := .exit 0
  tmps _ := [9]
  out _ := ⟨[lfs 0], [], [sv 6 [.int .i64 50, specL 52 1, specL 52 2, specL 52 0]]⟩
  kills := lsK

theorem lsLoop_ok {FN : Fns} (hF : FnL FN) : HLOk FN lsLoop := by
  refine hlok_of (toldLs_ok hF) (by kernel_rfl) (by decide) lsRounds (lsR hF) 0 rfl (fun _ => 0) (fun _ => 1) (fun q => by cases q <;> exact ⟨rfl, rfl, by decide⟩) fun V ls q hlen hleaf hrow hask => ?_
  obtain ⟨v0, hv0, hR0⟩ := hrow 0 0 [.str] (.inr ⟨_, rfl⟩) (by rw [hlen]; decide)
  obtain ⟨v1, hv1, hR1⟩ := hrow 1 1 [.str] (.inr ⟨_, rfl⟩) (by rw [hlen]; decide)
  obtain ⟨v2, hv2, hR2⟩ := hrow 2 2 [.str] (.inr ⟨_, rfl⟩) (by rw [hlen]; decide)
  obtain ⟨l, rfl⟩ := hasR_strs hR0
  obtain ⟨fr, rfl⟩ := hasR_strs hR1
  obtain ⟨tt, rfl⟩ := hasR_strs hR2
  match ls, hlen with
  | [a0, a1, a2, a3, a4, a5], _ =>
    simp only [List.getElem?_cons_zero, List.getElem?_cons_succ, Option.some.injEq] at hv0 hv1 hv2
    subst hv0; subst hv1; subst hv2
    obtain ⟨acc, rfl⟩ := hleaf 3 _ _ rfl rfl
    obtain ⟨n, rfl⟩ := hleaf 4 _ _ rfl rfl
    obtain ⟨i, rfl⟩ := hleaf 5 _ _ rfl rfl
    have E0 : (envL FN V 52 [strs l, strs fr, strs tt, .string acc, .int .i64 n, .int .i64 i]).val 1000000 = strs l := rfl
    have E1 : (envL FN V 52 [strs l, strs fr, strs tt, .string acc, .int .i64 n, .int .i64 i]).val 1000001 = strs fr := rfl
    have E2 : (envL FN V 52 [strs l, strs fr, strs tt, .string acc, .int .i64 n, .int .i64 i]).val 1000002 = strs tt := rfl
    have E3 : (envL FN V 52 [strs l, strs fr, strs tt, .string acc, .int .i64 n, .int .i64 i]).str 3 = acc := rfl
    have E4 : (envL FN V 52 [strs l, strs fr, strs tt, .string acc, .int .i64 n, .int .i64 i]).int 4 = n := rfl
    have E5 : (envL FN V 52 [strs l, strs fr, strs tt, .string acc, .int .i64 n, .int .i64 i]).int 5 = i := rfl
    have Ef : (envL FN V 52 [strs l, strs fr, strs tt, .string acc, .int .i64 n, .int .i64 i]).fns = FN := rfl
    have hask' : Asked (envL FN V 52 [strs l, strs fr, strs tt, .string acc, .int .i64 n, .int .i64 i]) lsLoop.wants lsLoop.dec q := hask
    generalize hE : envL FN V 52 [strs l, strs fr, strs tt, .string acc, .int .i64 n, .int .i64 i] = E at *
    have d0 : ∀ m, den E (m + 2) (specL 52 0) = some (strs l) := fun m => by simp only [specL, Nat.reduceAdd, Int.toNat_natCast, den_sv, denL_cons, denL_nil, den_i, Option.bind_some, i98, Int.reduceToNat, E0]
    have d1 : ∀ m, den E (m + 2) (specL 52 1) = some (strs fr) := fun m => by simp only [specL, Nat.reduceAdd, Int.toNat_natCast, den_sv, denL_cons, denL_nil, den_i, Option.bind_some, i98, Int.reduceToNat, E1]
    have d2 : ∀ m, den E (m + 2) (specL 52 2) = some (strs tt) := fun m => by simp only [specL, Nat.reduceAdd, Int.toNat_natCast, den_sv, denL_cons, denL_nil, den_i, Option.bind_some, i98, Int.reduceToNat, E2]
    have d3 : ∀ m, den E (m + 2) (lfs 3) = some (.string acc) := fun m => by simp only [lfs, den_i, den_sv, denL_cons, denL_nil, Option.bind_some, i2, Int.toNat_natCast, E3]
    have w1 := asked_facts hask' (e := sv 30 [lfi .i64 5, .int .i64 0]) (b := true) (by simp [lsLoop]) (c := decide (i = 0)) (by simp only [lfi, den_i, den_sv, denL_cons, denL_nil, Option.bind_some, i0, i30, Int.toNat_natCast, E5])
    have w2 := asked_facts hask' (e := sv 30 [lfi .i64 4, sv 74 [specL 52 0, .int .i64 1]]) (b := true) (by simp [lsLoop]) (c := decide (n = (l.length : Int))) (by simp only [lfi, den_i, den_sv, denL_cons, denL_nil, d0, Option.bind_some, i0, i30, i74s, Int.toNat_natCast, E4])
    have w3 := asked_facts hask' (e := sv 30 [lfs 3, .string ⟨#[]⟩]) (b := true) (by simp [lsLoop]) (c := decide (acc = ⟨#[]⟩)) (by simp only [den_s, den_sv (n := 39), denL_cons, denL_nil, d3, Option.bind_some, i30s])
    have w4 := asked_facts hask' (e := sv 31 [sv 74 [specL 52 0, .int .i64 1], .int .i64 1048577]) (b := true) (by simp [lsLoop]) (c := decide ((l.length : Int) < 1048577)) (by simp only [den_i, den_sv (n := 39), den_sv (n := 38), denL_cons, denL_nil, d0, Option.bind_some, i31, i74s])
    have w5 := asked_facts hask' (e := sv 31 [sv 74 [specL 52 1, .int .i64 1], .int .i64 1048577]) (b := true) (by simp [lsLoop]) (c := decide ((fr.length : Int) < 1048577)) (by simp only [den_i, den_sv (n := 39), den_sv (n := 38), denL_cons, denL_nil, d1, Option.bind_some, i31, i74s])
    have w6 := asked_facts hask' (e := sv 5 [.int .i64 49, specL 52 0]) (b := true) (by simp [lsLoop]) (c := shortB l) (by simp only [den_i, den_sv (n := 39), denL_cons, denL_nil, d0, Option.bind_some, i5, Ef, Int.reduceToNat, hF.sh])
    have w7 := asked_facts hask' (e := sv 5 [.int .i64 49, specL 52 2]) (b := true) (by simp [lsLoop]) (c := shortB tt) (by simp only [den_i, den_sv (n := 39), denL_cons, denL_nil, d2, Option.bind_some, i5, Ef, Int.reduceToNat, hF.sh])
    simp only [decide_eq_true_eq] at w1 w2 w3 w4 w5
    subst w1; subst w2; subst w3
    refine ⟨⟨l, fr, tt, ⟨#[]⟩, 0⟩, ⟨Nat.zero_le _, by simp only; omega, by simp only; omega, w6, w7, by simp only; decide⟩, rfl, rfl, rfl, rfl, ?_⟩
    have goal2 : denL (den E 40) [sv 6 [.int .i64 50, specL 52 1, specL 52 2, specL 52 0]] = some [.string (lawG fr tt ⟨#[]⟩ l)] := by
      rw [denL_cons, denL_nil, den_sv, denL_cons, denL_cons, denL_cons, denL_cons, denL_nil, d0 37, d1 37, d2 37]
      simp only [den_i, Option.bind_some, i6, Ef, Int.reduceToNat, hF.law]
    rw [← hE] at goal2
    exact goal2
end Go.Proofs.YtebkccfnilcfpaaGreatDoor
