/- FoldLetters. -/
import Derived.Test.YtebkccfnilcfpaaGreatDoorFoldL
import Derived.Test.YtebkccfnilcfpaaGreatDoorLowS
import Derived.Test.YtebkccfnilcfpaaGreatDoorToldH
import Derived.Test.YtebkccfnilcfpaaGreatDoorOpenG
namespace Go.Proofs.YtebkccfnilcfpaaGreatDoor
set_option linter.unusedVariables false
set_option linter.unusedSimpArgs false
open Go Go.Sy Go.RowKit

def dash : ByteArray := ⟨#[195, 159, 45, 195, 177]⟩
/-- One letter more. -/
def stepF (m : Nat) (L : List ByteArray) (acc : ByteArray) (n : Int) : ByteArray := cat (if n.tmod 5 = 4 then cat acc dash else acc) (L.getD (n.tmod (m : Int)).toNat ⟨#[]⟩)
def bldF (m : Nat) (L : List ByteArray) : ByteArray → List Int → ByteArray
  | acc, [] => acc
  | acc, n :: r => bldF m L (stepF m L acc n) r
def allB (l : List Int) : Bool := l.all fun n => decide (0 ≤ n) && decide (n ≤ 255)

/-- 49 are all short, 51 the letters, one behind the other, 52 are all bytes. -/
structure FnT (FN : Fns) : Prop extends FnZ FN where
  sh : ∀ l, FN.bool 49 [strs l] = shortB l
  bld : ∀ (m : Int) L l, FN.str 51 [.int .i64 m, strs L, ints .u8 l] = bldF m.toNat L ⟨#[]⟩ l
  byt : ∀ l, FN.bool 52 [ints .u8 l] = allB l

def tA : Value := sv 2 [.int .i64 3]
def tB : Value := sv 2 [.int .i64 4]
def tN : Value := sv 0 [.int .i64 5]
def tI : Value := sv 0 [.int .i64 6]
def tD : Value := .string ⟨#[195, 159, 45, 195, 177]⟩
def tX : Value := sv 72 [.int .u8 0, lV0, tI, .int .i64 1, .int .i64 0]
def tK : Value := sv 24 [.int .i64 0, sv 14 [.int .i64 0, tX], lLen lV1]
def tY (v : Value) : Value := sv 73 [v, tK, .int .i64 1, .int .i64 0]
def tOut (a b : Value) : HTree := .need (sv 31 [tK, .int .i64 0]) false (.need (sv 31 [tK, lLen lV1]) true (.need (sv 41 [a, tY lV1]) true (.need (sv 31 [tK, lLen lV2]) true (.need (sv 41 [b, tY lV2]) true
  (.leaf .normal 0 [lV0, lV1, lV2, sv 40 [a, tY lV1], sv 40 [b, tY lV2], tN, sv 20 [.int .i64 0, tI, .int .i64 1]])))))
def ftT : HTree := .node (sv 31 [tI, tN]) (.need (sv 31 [tI, .int .i64 0]) false (.need (sv 31 [tI, lLen lV0]) true (.need (sv 30 [lLen lV1, .int .i64 0]) false (.node (sv 30 [sv 24 [.int .u8 0, tX, .int .u8 5], .int .u8 4])
  (.need (sv 41 [tA, tD]) true (.need (sv 41 [tB, tD]) true (tOut (sv 40 [tA, tD]) (sv 40 [tB, tD])))) (tOut tA tB))))) (.leaf (.exit 0) 0 [tA, tB])

def ftIns : List (Nat × Value) := [(25, nmR 0), (3, nmR 1), (5, nmR 2), (7, lfs 3), (8, lfs 4), (26, lfi .i64 5), (27, lfi .i64 6)]
def ftObj : List PObj := [.row [.int .u8] 0, .own [.str] 9 1, .own [.str] 9 2]
def ftSh : List Shape := [⟨ftIns, ftObj, 7⟩]
def ftFi : List Shape := [⟨[(7, lfs 0), (8, lfs 1)], [], 2⟩]
def ftKi : List Nat := [3, 5, 7, 8, 10, 11, 25, 26, 27, 28, 29, 30, 31, 32, 33, 34, 35, 36, 37, 38, 39, 40, 41, 42, 43, 44, 45, 46, 47, 48, 49, 50, 51, 52, 53, 54, 55]
theorem none_ok {FN : Fns} : TOk FN ⟨[], [], [], [], []⟩ := ⟨fun c h => (by cases h), fun c h => (by cases h), fun c h => (by cases h), fun c h => (by cases h), fun c h => (by cases h)⟩

theorem ftRounds {FN : Fns} : RoundsOk FN ⟨[], [], [], [], []⟩ 9 1018 65 0 ftSh ftFi ftKi [ftT] [[]] := fun t1 t2 t3 t4 => by kernel_rfl

structure FtS where
  l : List Int
  fr : List ByteArray
  tt : List ByteArray
  a : ByteArray
  b : ByteArray
  i : Nat
def FtS.st (s : FtS) : List Value := [ints .u8 s.l, strs s.fr, strs s.tt, .string s.a, .string s.b, .int .i64 (s.l.length : Int), .int .i64 (s.i : Int)]

theorem bldF_drop {m : Nat} {L : List ByteArray} {acc : ByteArray} {l : List Int} {n : Int} {i : Nat} (h : l[i]? = some n) : bldF m L acc (l.drop i) = bldF m L (stepF m L acc n) (l.drop (i + 1)) := by
  obtain ⟨hi, he⟩ := List.getElem?_eq_some_iff.1 h
  rw [List.drop_eq_getElem_cons hi, he]
  rfl

theorem getD_size {L : List ByteArray} (h : shortB L = true) (k : Nat) : (L.getD k ⟨#[]⟩).size ≤ 1000 := by
  rw [List.getD_eq_getElem?_getD]
  cases hk : L[k]? with
  | none => exact Nat.zero_le _
  | some y => exact short_mem h (List.mem_of_getElem? hk)

theorem stepF_size {m : Nat} {L : List ByteArray} (h : shortB L = true) (acc : ByteArray) (n : Int) : (stepF m L acc n).size ≤ acc.size + 1010 := by
  have h1 := getD_size h (n.tmod (m : Int)).toNat
  have h2 : dash.size = 5 := rfl
  unfold stepF
  rw [cat_size]
  split
  · rw [cat_size]; omega
  · omega

def ftR {FN : Fns} : RoundH FN 65 ftSh ftFi [ftT] [[]] FtS where
  sh _ := 0
  st s := s.st
  Inv s := s.i ≤ s.l.length ∧ s.l.length ≤ 1048576 ∧ 0 < s.fr.length ∧ s.fr.length = s.tt.length ∧ s.fr.length ≤ 1048576 ∧ shortB s.fr = true ∧ shortB s.tt = true ∧ allB s.l = true ∧ s.a.size ≤ s.i * 1010 ∧ s.b.size ≤ s.i * 1010
  μ s := s.l.length - s.i
  fin s := (.exit 0, 0, [.string (bldF s.fr.length s.fr s.a (s.l.drop s.i)), .string (bldF s.fr.length s.tt s.b (s.l.drop s.i))])
  step V s hI := by
    obtain ⟨l, fr, tt, a, b, i⟩ := s
    obtain ⟨h1, h2, h3, h4, h5, h6, h7, h8, h9, h10⟩ := hI
    simp only at h1 h2 h3 h4 h5 h6 h7 h8 h9 h10
    refine ⟨ftT, [], ?_⟩
    have E0 : (envL FN V 65 (FtS.st ⟨l, fr, tt, a, b, i⟩)).val 1000000 = ints .u8 l := rfl
    have E1 : (envL FN V 65 (FtS.st ⟨l, fr, tt, a, b, i⟩)).val 1000001 = strs fr := rfl
    have E2 : (envL FN V 65 (FtS.st ⟨l, fr, tt, a, b, i⟩)).val 1000002 = strs tt := rfl
    have E3 : (envL FN V 65 (FtS.st ⟨l, fr, tt, a, b, i⟩)).str 3 = a := rfl
    have E4 : (envL FN V 65 (FtS.st ⟨l, fr, tt, a, b, i⟩)).str 4 = b := rfl
    have E5 : (envL FN V 65 (FtS.st ⟨l, fr, tt, a, b, i⟩)).int 5 = (l.length : Int) := rfl
    have E6 : (envL FN V 65 (FtS.st ⟨l, fr, tt, a, b, i⟩)).int 6 = (i : Int) := rfl
    generalize hE : envL FN V 65 (FtS.st ⟨l, fr, tt, a, b, i⟩) = E at *
    have d0 : ∀ m, den E (m + 2) lV0 = some (ints .u8 l) := fun m => by simp only [lV0, den_i, den_sv, denL_cons, denL_nil, Option.bind_some, i98, Int.reduceToNat, E0]
    have d1 : ∀ m, den E (m + 2) lV1 = some (strs fr) := fun m => by simp only [lV1, den_i, den_sv, denL_cons, denL_nil, Option.bind_some, i98, Int.reduceToNat, E1]
    have d2 : ∀ m, den E (m + 2) lV2 = some (strs tt) := fun m => by simp only [lV2, den_i, den_sv, denL_cons, denL_nil, Option.bind_some, i98, Int.reduceToNat, E2]
    have d3 : ∀ m, den E (m + 2) tA = some (.string a) := fun m => by simp only [tA, den_i, den_sv, denL_cons, denL_nil, Option.bind_some, i2, Int.reduceToNat, E3]
    have d4 : ∀ m, den E (m + 2) tB = some (.string b) := fun m => by simp only [tB, den_i, den_sv, denL_cons, denL_nil, Option.bind_some, i2, Int.reduceToNat, E4]
    have d5 : ∀ m, den E (m + 2) tN = some (.int .i64 (l.length : Int)) := fun m => by simp only [tN, den_i, den_sv, denL_cons, denL_nil, Option.bind_some, i0, Int.reduceToNat, E5]
    have d6 : ∀ m, den E (m + 2) tI = some (.int .i64 (i : Int)) := fun m => by simp only [tI, den_i, den_sv, denL_cons, denL_nil, Option.bind_some, i0, Int.reduceToNat, E6]
    have dD : ∀ m, den E (m + 1) tD = some (.string dash) := fun m => rfl
    by_cases hk : i < l.length
    · obtain ⟨n, hn⟩ : ∃ n, l[i]? = some n := ⟨_, List.getElem?_eq_getElem hk⟩
      have hn2 : 0 ≤ n ∧ n ≤ 255 := by
        have := List.all_eq_true.1 h8 n (List.mem_of_getElem? hn)
        simpa using this
      have hi6 : i * 1010 ≤ 1048576 * 1010 := Nat.mul_le_mul_right _ (by omega)
      have dX : ∀ m, den E (m + 3) tX = some (.int .u8 n) := fun m => by simp only [tX, den_i, den_sv, denL_cons, denL_nil, d0, d6, Option.bind_some, i72i hn]
      obtain ⟨k, hkk⟩ : ∃ k, k = (n.tmod (fr.length : Int)).toNat := ⟨_, rfl⟩
      have hm0 : 0 ≤ n.tmod (fr.length : Int) := by rw [Int.tmod_eq_emod_of_nonneg hn2.1]; exact Int.emod_nonneg _ (by omega)
      have hm1 : n.tmod (fr.length : Int) < (fr.length : Int) := by rw [Int.tmod_eq_emod_of_nonneg hn2.1]; exact Int.emod_lt_of_pos _ (by omega)
      have hkI : n.tmod (fr.length : Int) = (k : Int) := by omega
      have hklt : k < fr.length := by omega
      have dK : ∀ m, den E (m + 5) tK = some (.int .i64 (k : Int)) := fun m => by
        have hne : ¬ ((fr.length : Int) = 0) := by omega
        simp (disch := omega) only [tK, lLen, den_i, den_sv, denL_cons, denL_nil, d1, dX, Option.bind_some, i14, i24, i74s, wr64]
        rw [hkI, if_neg hne]
      obtain ⟨y1, hy1⟩ : ∃ y, fr[k]? = some y := ⟨_, List.getElem?_eq_getElem hklt⟩
      obtain ⟨y2, hy2⟩ : ∃ y, tt[k]? = some y := ⟨_, List.getElem?_eq_getElem (by omega)⟩
      have g1 : fr.getD k ⟨#[]⟩ = y1 := by rw [List.getD_eq_getElem?_getD, hy1]; rfl
      have g2 : tt.getD k ⟨#[]⟩ = y2 := by rw [List.getD_eq_getElem?_getD, hy2]; rfl
      have s1 := short_mem h6 (List.mem_of_getElem? hy1)
      have s2 := short_mem h7 (List.mem_of_getElem? hy2)
      have dY1 : ∀ m, den E (m + 6) (tY lV1) = some (.string y1) := fun m => by simp only [tY, den_i, den_sv, denL_cons, denL_nil, d1, dK, Option.bind_some, i73s hy1]
      have dY2 : ∀ m, den E (m + 6) (tY lV2) = some (.string y2) := fun m => by simp only [tY, den_i, den_sv, denL_cons, denL_nil, d2, dK, Option.bind_some, i73s hy2]
      have sd : dash.size = 5 := rfl
      have hout : ∀ (u v : Value) (x y : ByteArray), (∀ m, den E (m + 5) u = some (.string x)) → (∀ m, den E (m + 5) v = some (.string y)) → x.size ≤ 2000000000 → y.size ≤ 2000000000 →
          (tOut u v).val E = some (.normal, 0, [ints .u8 l, strs fr, strs tt, .string (cat x y1), .string (cat y y2), .int .i64 (l.length : Int), .int .i64 ((i : Int) + 1)]) := fun u v x y hu hv hx hy => by
        have q1 : den E 40 (sv 41 [u, tY lV1]) = some (.bool true) := by simp only [den_sv (n := 39), denL_cons, denL_nil, hu, dY1, Option.bind_some]; exact i41c (by omega)
        have q2 : den E 40 (sv 40 [u, tY lV1]) = some (.string (cat x y1)) := by simp only [den_sv (n := 39), denL_cons, denL_nil, hu, dY1, Option.bind_some]; exact i40c (by omega)
        have q3 : den E 40 (sv 41 [v, tY lV2]) = some (.bool true) := by simp only [den_sv (n := 39), denL_cons, denL_nil, hv, dY2, Option.bind_some]; exact i41c (by omega)
        have q4 : den E 40 (sv 40 [v, tY lV2]) = some (.string (cat y y2)) := by simp only [den_sv (n := 39), denL_cons, denL_nil, hv, dY2, Option.bind_some]; exact i40c (by omega)
        simp (disch := omega) only [tOut, lLen, HTree.val, q1, q2, q3, q4, wantC, ↓reduceIte, denL_cons, denL_nil, d0, d1, d2, d5, d6, dK, den_i, den_sv (n := 39), den_sv (n := 38), Option.bind_some, i20, i31, i74s, wr64, show ¬ (k : Int) < 0 by omega, show (k : Int) < (fr.length : Int) by omega, show (k : Int) < (tt.length : Int) by omega, decide_true, decide_false]
      have hval : ftT.val E = some (.normal, 0, [ints .u8 l, strs fr, strs tt, .string (stepF fr.length fr a n), .string (stepF fr.length tt b n), .int .i64 (l.length : Int), .int .i64 ((i : Int) + 1)]) := by
        have q5 : den E 40 (sv 41 [tA, tD]) = some (.bool true) := by simp only [den_sv (n := 39), denL_cons, denL_nil, d3, dD, Option.bind_some]; exact i41c (by omega)
        have q6 : den E 40 (sv 41 [tB, tD]) = some (.bool true) := by simp only [den_sv (n := 39), denL_cons, denL_nil, d4, dD, Option.bind_some]; exact i41c (by omega)
        have kM : den E 40 (sv 30 [sv 24 [.int .u8 0, tX, .int .u8 5], .int .u8 4]) = some (.bool (decide (n.tmod 5 = 4))) := by
          simp (disch := omega) only [den_i, den_sv (n := 39), den_sv (n := 38), denL_cons, denL_nil, dX, Option.bind_some, i24, i30, Int.reduceEq, ↓reduceIte, wr64]
        have k0 : den E 40 (sv 30 [lLen lV1, .int .i64 0]) = some (.bool false) := by
          simp only [lLen, den_i, den_sv (n := 39), den_sv (n := 38), denL_cons, denL_nil, d1, Option.bind_some, i30, i74s]
          rw [decide_eq_false (by omega)]
        simp only [ftT, lLen, HTree.val, q5, q6, kM]
        rw [show sv 74 [lV1, .int .i64 1] = lLen lV1 from rfl, k0]
        simp only [den_i, den_sv (n := 39), den_sv (n := 38), denL_cons, denL_nil, d0, d5, d6, Option.bind_some, i31, i74i, pickC, wantC, show (i : Int) < (l.length : Int) by omega, show ¬ (i : Int) < 0 by omega, decide_true, decide_false, if_true, ↓reduceIte, decide_eq_true_eq]
        unfold stepF
        rw [← hkk, g1, g2]
        by_cases c4 : n.tmod 5 = 4
        · rw [if_pos c4, if_pos c4, if_pos c4]
          refine hout _ _ _ _ (fun m => ?_) (fun m => ?_) (by rw [cat_size]; omega) (by rw [cat_size]; omega)
          · simp only [den_sv, denL_cons, denL_nil, d3, dD, Option.bind_some]; exact i40c (by omega)
          · simp only [den_sv, denL_cons, denL_nil, d4, dD, Option.bind_some]; exact i40c (by omega)
        · rw [if_neg c4, if_neg c4, if_neg c4]
          exact hout _ _ _ _ (fun m => d3 (m + 3)) (fun m => d4 (m + 3)) (by omega) (by omega)
      rw [hval]
      have z1 := stepF_size (m := fr.length) h6 a n
      have z2 := stepF_size (m := fr.length) h7 b n
      refine ⟨_, _, _, rfl, rfl, (fun p hp => by cases hp), rfl, .inl ⟨rfl, ⟨l, fr, tt, stepF fr.length fr a n, stepF fr.length tt b n, i + 1⟩, ⟨hk, h2, h3, h4, h5, h6, h7, h8, by simp only; omega, by simp only; omega⟩, by simp only; omega, ?_, rfl, rfl⟩⟩
      simp only [bldF_drop hn]
    · have hval : ftT.val E = some (.exit 0, 0, [.string a, .string b]) := by
        simp only [ftT, HTree.val, den_sv (n := 39), denL_cons, denL_nil, d3, d4, d5, d6, Option.bind_some, i31, pickC, show ¬ (i : Int) < (l.length : Int) by omega, decide_false, Bool.false_eq_true, ↓reduceIte]
      rw [hval]
      refine ⟨_, _, _, rfl, rfl, (fun p hp => by cases hp), rfl, .inr ⟨by simp, ?_⟩⟩
      simp only [List.drop_eq_nil_of_le (show l.length ≤ i by omega), bldF]

def ftLoop : HLCtr where
  f := 9
  p := 1018
  nt := 65
  nb := 0
  nl := 7
  ins := ftIns
  objs := ftObj
  srts := [none, none, none, some .str, some .str, some (.int .i64), some (.int .i64)]
  wants := [(sv 30 [lfi .i64 6, .int .i64 0], true), (sv 30 [lfi .i64 5, sv 74 [specL 65 0, .int .i64 1]], true), (sv 30 [lfs 3, .string ⟨#[]⟩], true), (sv 30 [lfs 4, .string ⟨#[]⟩], true), (sv 31 [sv 74 [specL 65 0, .int .i64 1], .int .i64 1048577], true),
    (sv 31 [sv 74 [specL 65 1, .int .i64 1], .int .i64 1048577], true), (sv 31 [.int .i64 0, sv 74 [specL 65 1, .int .i64 1]], true), (sv 30 [sv 74 [specL 65 1, .int .i64 1], sv 74 [specL 65 2, .int .i64 1]], true),
    (sv 5 [.int .i64 49, specL 65 1], true), (sv 5 [.int .i64 49, specL 65 2], true), (sv 5 [.int .i64 52, specL 65 0], true)]
  dec := none
  ex _ := .exit 0
  tmps _ := [7, 8]
  out _ := ⟨[lfs 0, lfs 1], [], [sv 6 [.int .i64 51, sv 74 [specL 65 1, .int .i64 1], specL 65 1, specL 65 0], sv 6 [.int .i64 51, sv 74 [specL 65 1, .int .i64 1], specL 65 2, specL 65 0]]⟩
  kills := ftKi

theorem ftLoop_ok {FN : Fns} (hF : FnT FN) : HLOk FN ftLoop := by
  refine hlok_of none_ok (by kernel_rfl) (by decide) ftRounds ftR 0 rfl (fun _ => 0) (fun _ => 2) (fun q => by cases q <;> exact ⟨rfl, rfl, by decide⟩) fun V ls q hlen hleaf hrow hask => ?_
  obtain ⟨v0, hv0, hR0⟩ := hrow 0 0 [.int .u8] (.inl rfl) (by rw [hlen]; decide)
  obtain ⟨v1, hv1, hR1⟩ := hrow 1 1 [.str] (.inr ⟨_, rfl⟩) (by rw [hlen]; decide)
  obtain ⟨v2, hv2, hR2⟩ := hrow 2 2 [.str] (.inr ⟨_, rfl⟩) (by rw [hlen]; decide)
  obtain ⟨l, rfl⟩ := hasR_ints hR0
  obtain ⟨fr, rfl⟩ := hasR_strs hR1
  obtain ⟨tt, rfl⟩ := hasR_strs hR2
  match ls, hlen with
  | [a0, a1, a2, a3, a4, a5, a6], _ =>
    simp only [List.getElem?_cons_zero, List.getElem?_cons_succ, Option.some.injEq] at hv0 hv1 hv2
    subst hv0; subst hv1; subst hv2
    obtain ⟨a, rfl⟩ := hleaf 3 _ _ rfl rfl
    obtain ⟨b, rfl⟩ := hleaf 4 _ _ rfl rfl
    obtain ⟨n, rfl⟩ := hleaf 5 _ _ rfl rfl
    obtain ⟨i, rfl⟩ := hleaf 6 _ _ rfl rfl
    have E0 : (envL FN V 65 [ints .u8 l, strs fr, strs tt, .string a, .string b, .int .i64 n, .int .i64 i]).val 1000000 = ints .u8 l := rfl
    have E1 : (envL FN V 65 [ints .u8 l, strs fr, strs tt, .string a, .string b, .int .i64 n, .int .i64 i]).val 1000001 = strs fr := rfl
    have E2 : (envL FN V 65 [ints .u8 l, strs fr, strs tt, .string a, .string b, .int .i64 n, .int .i64 i]).val 1000002 = strs tt := rfl
    have E3 : (envL FN V 65 [ints .u8 l, strs fr, strs tt, .string a, .string b, .int .i64 n, .int .i64 i]).str 3 = a := rfl
    have E4 : (envL FN V 65 [ints .u8 l, strs fr, strs tt, .string a, .string b, .int .i64 n, .int .i64 i]).str 4 = b := rfl
    have E5 : (envL FN V 65 [ints .u8 l, strs fr, strs tt, .string a, .string b, .int .i64 n, .int .i64 i]).int 5 = n := rfl
    have E6 : (envL FN V 65 [ints .u8 l, strs fr, strs tt, .string a, .string b, .int .i64 n, .int .i64 i]).int 6 = i := rfl
    have Ef : (envL FN V 65 [ints .u8 l, strs fr, strs tt, .string a, .string b, .int .i64 n, .int .i64 i]).fns = FN := rfl
    have hask' : Asked (envL FN V 65 [ints .u8 l, strs fr, strs tt, .string a, .string b, .int .i64 n, .int .i64 i]) ftLoop.wants ftLoop.dec q := hask
    generalize hE : envL FN V 65 [ints .u8 l, strs fr, strs tt, .string a, .string b, .int .i64 n, .int .i64 i] = E at *
    have d0 : ∀ m, den E (m + 2) (specL 65 0) = some (ints .u8 l) := fun m => by simp only [specL, Nat.reduceAdd, Int.toNat_natCast, den_sv, denL_cons, denL_nil, den_i, Option.bind_some, i98, Int.reduceToNat, E0]
    have d1 : ∀ m, den E (m + 2) (specL 65 1) = some (strs fr) := fun m => by simp only [specL, Nat.reduceAdd, Int.toNat_natCast, den_sv, denL_cons, denL_nil, den_i, Option.bind_some, i98, Int.reduceToNat, E1]
    have d2 : ∀ m, den E (m + 2) (specL 65 2) = some (strs tt) := fun m => by simp only [specL, Nat.reduceAdd, Int.toNat_natCast, den_sv, denL_cons, denL_nil, den_i, Option.bind_some, i98, Int.reduceToNat, E2]
    have d3 : ∀ m, den E (m + 2) (lfs 3) = some (.string a) := fun m => by simp only [lfs, den_i, den_sv, denL_cons, denL_nil, Option.bind_some, i2, Int.toNat_natCast, E3]
    have d4 : ∀ m, den E (m + 2) (lfs 4) = some (.string b) := fun m => by simp only [lfs, den_i, den_sv, denL_cons, denL_nil, Option.bind_some, i2, Int.toNat_natCast, E4]
    have w1 := asked_facts hask' (e := sv 30 [lfi .i64 6, .int .i64 0]) (b := true) (by simp [ftLoop]) (c := decide (i = 0)) (by simp only [lfi, den_i, den_sv, denL_cons, denL_nil, Option.bind_some, i0, i30, Int.toNat_natCast, E6])
    have w2 := asked_facts hask' (e := sv 30 [lfi .i64 5, sv 74 [specL 65 0, .int .i64 1]]) (b := true) (by simp [ftLoop]) (c := decide (n = (l.length : Int))) (by simp only [lfi, den_i, den_sv, denL_cons, denL_nil, d0, Option.bind_some, i0, i30, i74i, Int.toNat_natCast, E5])
    have w3 := asked_facts hask' (e := sv 30 [lfs 3, .string ⟨#[]⟩]) (b := true) (by simp [ftLoop]) (c := decide (a = ⟨#[]⟩)) (by simp only [den_s, den_sv (n := 39), denL_cons, denL_nil, d3, Option.bind_some, i30s])
    have w3' := asked_facts hask' (e := sv 30 [lfs 4, .string ⟨#[]⟩]) (b := true) (by simp [ftLoop]) (c := decide (b = ⟨#[]⟩)) (by simp only [den_s, den_sv (n := 39), denL_cons, denL_nil, d4, Option.bind_some, i30s])
    have w4 := asked_facts hask' (e := sv 31 [sv 74 [specL 65 0, .int .i64 1], .int .i64 1048577]) (b := true) (by simp [ftLoop]) (c := decide ((l.length : Int) < 1048577)) (by simp only [den_i, den_sv (n := 39), den_sv (n := 38), denL_cons, denL_nil, d0, Option.bind_some, i31, i74i])
    have w5 := asked_facts hask' (e := sv 31 [sv 74 [specL 65 1, .int .i64 1], .int .i64 1048577]) (b := true) (by simp [ftLoop]) (c := decide ((fr.length : Int) < 1048577)) (by simp only [den_i, den_sv (n := 39), den_sv (n := 38), denL_cons, denL_nil, d1, Option.bind_some, i31, i74s])
    have w6 := asked_facts hask' (e := sv 31 [.int .i64 0, sv 74 [specL 65 1, .int .i64 1]]) (b := true) (by simp [ftLoop]) (c := decide ((0 : Int) < (fr.length : Int))) (by simp only [den_i, den_sv (n := 39), den_sv (n := 38), denL_cons, denL_nil, d1, Option.bind_some, i31, i74s])
    have w7 := asked_facts hask' (e := sv 30 [sv 74 [specL 65 1, .int .i64 1], sv 74 [specL 65 2, .int .i64 1]]) (b := true) (by simp [ftLoop]) (c := decide ((fr.length : Int) = (tt.length : Int))) (by simp only [den_i, den_sv (n := 39), den_sv (n := 38), denL_cons, denL_nil, d1, d2, Option.bind_some, i30, i74s])
    have w8 := asked_facts hask' (e := sv 5 [.int .i64 49, specL 65 1]) (b := true) (by simp [ftLoop]) (c := shortB fr) (by simp only [den_i, den_sv (n := 39), denL_cons, denL_nil, d1, Option.bind_some, i5, Ef, Int.reduceToNat, hF.sh])
    have w9 := asked_facts hask' (e := sv 5 [.int .i64 49, specL 65 2]) (b := true) (by simp [ftLoop]) (c := shortB tt) (by simp only [den_i, den_sv (n := 39), denL_cons, denL_nil, d2, Option.bind_some, i5, Ef, Int.reduceToNat, hF.sh])
    have w10 := asked_facts hask' (e := sv 5 [.int .i64 52, specL 65 0]) (b := true) (by simp [ftLoop]) (c := allB l) (by simp only [den_i, den_sv (n := 39), denL_cons, denL_nil, d0, Option.bind_some, i5, Ef, Int.reduceToNat, hF.byt])
    simp only [decide_eq_true_eq] at w1 w2 w3 w3' w4 w5 w6 w7
    subst w1; subst w2; subst w3; subst w3'
    refine ⟨⟨l, fr, tt, ⟨#[]⟩, ⟨#[]⟩, 0⟩, ⟨Nat.zero_le _, by simp only; omega, by simp only; omega, by simp only; omega, by simp only; omega, w8, w9, w10, by simp only; decide, by simp only; decide⟩, rfl, rfl, rfl, rfl, ?_⟩
    have goal2 : denL (den E 40) [sv 6 [.int .i64 51, sv 74 [specL 65 1, .int .i64 1], specL 65 1, specL 65 0], sv 6 [.int .i64 51, sv 74 [specL 65 1, .int .i64 1], specL 65 2, specL 65 0]] = some [.string (bldF fr.length fr ⟨#[]⟩ l), .string (bldF fr.length tt ⟨#[]⟩ l)] := by
      have e74 : den E 39 (sv 74 [specL 65 1, .int .i64 1]) = some (.int .i64 (fr.length : Int)) := by simp only [den_i, den_sv (n := 38), denL_cons, denL_nil, d1, Option.bind_some, i74s]
      simp only [den_sv (n := 39), denL_cons, denL_nil, den_i, e74, d0, d1, d2, Option.bind_some, i6, Ef, Int.reduceToNat, hF.bld, Int.toNat_natCast]
    rw [← hE] at goal2
    exact goal2

/-! ### The plain law -/

def pcs (m : Nat) (L : List ByteArray) (n : Int) : List (List UInt8) := (if n.tmod 5 = 4 then [[195, 159], [45], [195, 177]] else []) ++ [(L.getD (n.tmod (m : Int)).toNat ⟨#[]⟩).data.toList]

theorem bldF_list (m : Nat) (L : List ByteArray) : ∀ (l : List Int) (acc : ByteArray), (bldF m L acc l).data.toList = acc.data.toList ++ (l.flatMap (pcs m L)).flatten
  | [], acc => by simp [bldF]
  | n :: l, acc => by
    rw [bldF, bldF_list m L l, List.flatMap_cons, List.flatten_append, ← List.append_assoc]
    congr 1
    unfold stepF pcs
    rw [cat_list]
    by_cases h : n.tmod 5 = 4
    · rw [if_pos h, if_pos h, cat_list]; simp [dash]
    · rw [if_neg h, if_neg h]; simp

theorem gr_all : ((List.range 53).all fun k => decide (okL (grL.getD k ⟨#[]⟩).data.toList = (grL.getD k ⟨#[]⟩).data.toList.length) && decide (0 < (grL.getD k ⟨#[]⟩).data.toList.length) && decide (low tblN (grL.getD k ⟨#[]⟩).data.toList = (smL.getD k ⟨#[]⟩).data.toList)) = true := by decide +kernel
theorem dash_all : ([[195, 159], [45], [195, 177]] : List (List UInt8)).all (fun x => decide (okL x = x.length) && decide (0 < x.length) && decide (low tblN x = x)) = true := by decide +kernel

theorem pcs_ok {n : Int} (h0 : 0 ≤ n) : (∀ x ∈ pcs 53 grL n, ∃ c, Letter x c) ∧ (pcs 53 grL n).map (low tblN) = pcs 53 smL n := by
  have hm0 : 0 ≤ n.tmod 53 := by rw [Int.tmod_eq_emod_of_nonneg h0]; exact Int.emod_nonneg _ (by omega)
  have hm1 : n.tmod 53 < 53 := by rw [Int.tmod_eq_emod_of_nonneg h0]; exact Int.emod_lt_of_pos _ (by omega)
  have hg := List.all_eq_true.1 gr_all (n.tmod 53).toNat (List.mem_range.2 (by omega))
  simp only [Bool.and_eq_true, decide_eq_true_eq] at hg
  obtain ⟨⟨g1, g2⟩, g3⟩ := hg
  have hd := fun x hx => List.all_eq_true.1 dash_all x hx
  refine ⟨fun x hx => ?_, ?_⟩
  · unfold pcs at hx
    rcases List.mem_append.1 hx with hx | hx
    · by_cases h : n.tmod 5 = 4
      · rw [if_pos h] at hx
        have := hd x hx
        simp only [Bool.and_eq_true, decide_eq_true_eq] at this
        exact ⟨_, letter_self (List.length_pos_iff.1 this.1.2) this.1.1⟩
      · rw [if_neg h] at hx; cases hx
    · rw [List.mem_singleton.1 hx]
      exact ⟨_, letter_self (List.length_pos_iff.1 g2) g1⟩
  · unfold pcs
    rw [List.map_append]
    congr 1
    · by_cases h : n.tmod 5 = 4
      · rw [if_pos h]
        conv => rhs; rw [← List.map_id ([[195, 159], [45], [195, 177]] : List (List UInt8))]
        refine List.map_congr_left fun x hx => ?_
        have := hd x hx
        simp only [Bool.and_eq_true, decide_eq_true_eq] at this
        exact this.2
      · rw [if_neg h]; rfl
    · show [low tblN _] = _
      rw [show ((53 : Nat) : Int) = 53 from rfl, g3]

theorem bld_small {l : List Int} (h : allB l = true) : small tblN (bldF 53 grL ⟨#[]⟩ l).data.toList = (bldF 53 smL ⟨#[]⟩ l).data.toList ∧ bad (bldF 53 grL ⟨#[]⟩ l).data.toList = none := by
  have hn : ∀ n ∈ l, 0 ≤ n := fun n hn => by
    have := List.all_eq_true.1 h n hn
    simp only [Bool.and_eq_true, decide_eq_true_eq] at this
    exact this.1
  have hall : ∀ x ∈ l.flatMap (pcs 53 grL), ∃ c, Letter x c := fun x hx => by
    obtain ⟨n, h1, h2⟩ := List.mem_flatMap.1 hx
    exact (pcs_ok (hn n h1)).1 x h2
  rw [bldF_list, bldF_list]
  show small tblN ([] ++ _) = [] ++ _ ∧ bad ([] ++ _) = none
  rw [List.nil_append, List.nil_append]
  refine ⟨?_, bad_letters hall⟩
  have := small_flatten (tbl := tblN) (l.flatMap (pcs 53 grL)) [] hall
  rw [List.append_nil, small_nil, List.append_nil] at this
  rw [this]
  congr 1
  rw [List.map_flatMap]
  rw [List.flatMap_def, List.flatMap_def]
  exact congrArg List.flatten (List.map_congr_left fun n h1 => (pcs_ok (hn n h1)).2)

theorem bldF_size {m : Nat} {L : List ByteArray} (h : shortB L = true) : ∀ (l : List Int) (acc : ByteArray), (bldF m L acc l).size ≤ acc.size + l.length * 1010
  | [], acc => by simp [bldF]
  | n :: l, acc => by
    have h1 := stepF_size (m := m) h acc n
    have h2 := bldF_size (m := m) h l (stepF m L acc n)
    rw [bldF, List.length_cons]
    omega
end Go.Proofs.YtebkccfnilcfpaaGreatDoor
