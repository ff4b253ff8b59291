/- kalendslaw10.runes, kalendslaw10.Bad: contracts. -/
import Derived.Test.YtebkccfnilcfpaaGreatDoorRunD
namespace Go.Proofs.YtebkccfnilcfpaaGreatDoor
set_option linter.unusedVariables false
set_option linter.unusedSimpArgs false
open Go Go.Sy Go.RowKit

def mkB (l : List UInt8) : ByteArray := ⟨l.toArray⟩
theorem mkB_list (s : ByteArray) : mkB s.data.toList = s := ba_ext (by simp [mkB])

/-- What functions hand back: 42 where it is bad, 43 is it, 44 its letters, 45 are there none. -/
structure FnB (FN : Fns) : Prop where
  bad : ∀ s, FN.int 42 [.string s] = badI s.data.toList
  isb : ∀ s, FN.bool 43 [.string s] = (Go.Proofs.YtebkccfnilcfpaaGreatDoor.bad s.data.toList).isSome
  let_ : ∀ s, FN.lst 44 [.string s] = (letters s.data.toList).map fun l => .string (mkB l)
  emp : ∀ s, FN.bool 45 [.string s] = (letters s.data.toList).isEmpty

structure RnS where
  s : ByteArray
  i : Nat
  acc : List ByteArray

def RnS.st (x : RnS) : List Value := [.string x.s, .int .i64 (x.i : Int)] ++ (match x.acc with | [] => [] | _ => [strs x.acc])
def RnS.rest (x : RnS) : List UInt8 := x.s.data.toList.drop x.i
def RnS.all (x : RnS) : List ByteArray := x.acc ++ (letters x.rest).map mkB
def RnS.out (x : RnS) : AEx × Nat × List Value := match bad x.rest, x.all with
  | some k, [] => (.ret, 0, [.int .i64 ((x.i + k : Nat) : Int)])
  | some k, a :: r => (.ret, 1, [strs (a :: r), .int .i64 ((x.i + k : Nat) : Int)])
  | none, [] => (.exit 0, 2, [])
  | none, a :: r => (.exit 0, 3, [strs (a :: r)])

theorem bext_list (s : ByteArray) (l h : Nat) : (bext s l h).data.toList = (s.data.toList.drop l).take (h - l) := by simp [bext]

theorem RnS.next {s : ByteArray} {i : Nat} {acc : List ByteArray} (hl : i < s.size) (h0 : okL (s.data.toList.drop i) ≠ 0) (hle : i + okL (s.data.toList.drop i) ≤ s.size) :
    RnS.out ⟨s, i + okL (s.data.toList.drop i), acc ++ [bext s i (i + okL (s.data.toList.drop i))]⟩ = RnS.out ⟨s, i, acc⟩ := by
  have hne : s.data.toList.drop i ≠ [] := by
    intro e
    have := congrArg List.length e
    simp at this
    omega
  obtain ⟨n, hn⟩ : ∃ n, n = okL (s.data.toList.drop i) := ⟨_, rfl⟩
  have h1 := letters_step hne h0
  have h2 := bad_step hne h0
  rw [← hn] at h0 hle h1 h2 ⊢
  have hall : RnS.all ⟨s, i + n, acc ++ [bext s i (i + n)]⟩ = RnS.all ⟨s, i, acc⟩ := by
    simp only [RnS.all, RnS.rest]
    rw [h1, List.map_cons, List.drop_drop, List.append_assoc]
    congr 2
    rw [List.singleton_append]
    congr 1
    exact ba_ext (by rw [bext_list]; simp [mkB])
  have hbad : bad (RnS.rest ⟨s, i, acc⟩) = (bad (RnS.rest ⟨s, i + n, acc ++ [bext s i (i + n)]⟩)).map (· + n) := by
    simp only [RnS.rest]
    rw [h2, List.drop_drop]
  unfold RnS.out
  rw [hall, hbad]
  generalize RnS.all ⟨s, i, acc⟩ = A
  generalize bad (RnS.rest ⟨s, i + n, acc ++ [bext s i (i + n)]⟩) = B
  cases B with
  | none => cases A <;> rfl
  | some k => cases A <;> simp only [Option.map_some, show i + (k + n) = i + n + k by omega]

def rnR {FN : Fns} : RoundH FN 98 rnSh rnFi [rnT rR0 rO0 rD0, rnT rR1 rO1 rD1] [[], []] RnS where
  sh x := match x.acc with | [] => 0 | _ => 1
  st x := x.st
  Inv x := x.i ≤ x.s.size ∧ x.s.size ≤ 1048576 ∧ x.acc.length ≤ x.i
  μ x := x.s.size - x.i
  fin x := x.out
  step V x hI := by
    obtain ⟨s, i, acc⟩ := x
    obtain ⟨h1, h2, h3⟩ := hI
    simp only at h1 h2 h3
    have stop : okL (s.data.toList.drop i) = 0 → i < s.size → bad (s.data.toList.drop i) = some 0 ∧ letters (s.data.toList.drop i) = [] := fun h hl => ⟨bad_stop (okL_ne h) h, letters_stop h⟩
    have done : ¬ i < s.size → bad (s.data.toList.drop i) = none ∧ letters (s.data.toList.drop i) = [] := fun h => by
      rw [List.drop_eq_nil_of_le (by simp; omega)]; exact ⟨rfl, rfl⟩
    have step1 : i < s.size → okL (s.data.toList.drop i) ≤ s.size - i := fun h => by
      have hne : s.data.toList.drop i ≠ [] := by
        intro e
        have := congrArg List.length e
        simp at this
        omega
      have := okL_le hne
      simpa using this
    cases acc with
    | nil =>
      refine ⟨rnT rR0 rO0 rD0, [], ?_⟩
      have E0 : (envL FN V 98 (RnS.st ⟨s, i, []⟩)).str 0 = s := rfl
      have E1 : (envL FN V 98 (RnS.st ⟨s, i, []⟩)).int 1 = (i : Int) := rfl
      generalize hE : envL FN V 98 (RnS.st ⟨s, i, []⟩) = E at *
      have hv := rnT_v E0 E1 (by omega) h1 rR0 rO0 rD0
      by_cases hl : i < s.size
      · rw [if_pos hl] at hv
        by_cases h0 : okL (s.data.toList.drop i) = 0
        · rw [if_pos h0] at hv
          have hr : rR0.val E = some (.ret, 0, [.int .i64 (i : Int)]) := by simp only [rR0, HTree.val, denL_cons, denL_nil, rI_d E1, Option.bind_some]
          refine ⟨_, _, _, rfl, rfl, (fun p hp => by cases hp), hv.trans hr, .inr ⟨by simp, ?_⟩⟩
          simp only [RnS.out, RnS.all, RnS.rest, (stop h0 hl).1, (stop h0 hl).2, List.map_nil, List.append_nil, Nat.add_zero]
        · rw [if_neg h0] at hv
          have hle := step1 hl
          have hnx := RnS.next (acc := []) hl h0 (by omega)
          obtain ⟨n, hn⟩ : ∃ n, n = okL (s.data.toList.drop i) := ⟨_, rfl⟩
          have hn4 : n ≤ 4 := by rw [hn]; exact okN_le4 _ _ _ _ _
          rw [← hn] at h0 hle hv hnx
          have hr : (rO0 n).val E = some (.normal, 1, [.string s, .int .i64 ((i + n : Nat) : Int), strs [bext s i (i + n)]]) := by
            have hp := fun m => rP_d E1 (by omega) hn4 m
            have c1 : ¬ (((i + n : Nat) : Int) < (i : Int)) := by omega
            simp only [rO0, rPart, HTree.val, den_sv (n := 39), den_sv (n := 38), den_ag, denL_cons, denL_nil, rS_d E0, rI_d E1, hp, Option.bind_some, i31, c1, decide_false, wantC, ↓reduceIte, i13 .i64 .i64 (show i ≤ i + n by omega) (show i + n ≤ s.size by omega)]
            rfl
          exact ⟨_, _, _, rfl, rfl, (fun p hp => by cases hp), hv.trans hr, .inl ⟨rfl, ⟨s, i + n, [bext s i (i + n)]⟩, ⟨by simp only; omega, h2, by simp; omega⟩, by simp only; omega, hnx, rfl, rfl⟩⟩
      · rw [if_neg hl] at hv
        have hr : rD0.val E = some (.exit 0, 2, []) := rfl
        refine ⟨_, _, _, rfl, rfl, (fun p hp => by cases hp), hv.trans hr, .inr ⟨by simp, ?_⟩⟩
        simp only [RnS.out, RnS.all, RnS.rest, (done hl).1, (done hl).2, List.map_nil, List.append_nil]
    | cons a r =>
      refine ⟨rnT rR1 rO1 rD1, [], ?_⟩
      obtain ⟨acc, hacc⟩ : ∃ acc, acc = a :: r := ⟨_, rfl⟩
      have E0 : (envL FN V 98 (RnS.st ⟨s, i, a :: r⟩)).str 0 = s := rfl
      have E1 : (envL FN V 98 (RnS.st ⟨s, i, a :: r⟩)).int 1 = (i : Int) := rfl
      have E2 : (envL FN V 98 (RnS.st ⟨s, i, a :: r⟩)).val 1000002 = strs acc := by rw [hacc]; rfl
      generalize hE : envL FN V 98 (RnS.st ⟨s, i, a :: r⟩) = E at *
      have hV : ∀ m, den E (m + 2) rV = some (strs acc) := fun m => by simp only [rV, den_i, den_sv, denL_cons, denL_nil, Option.bind_some, i98, Int.reduceToNat, E2]
      have hv := rnT_v E0 E1 (by omega) h1 rR1 rO1 rD1
      by_cases hl : i < s.size
      · rw [if_pos hl] at hv
        by_cases h0 : okL (s.data.toList.drop i) = 0
        · rw [if_pos h0] at hv
          have hr : rR1.val E = some (.ret, 1, [strs acc, .int .i64 (i : Int)]) := by simp only [rR1, HTree.val, denL_cons, denL_nil, hV, rI_d E1, Option.bind_some]
          refine ⟨_, _, _, rfl, rfl, (fun p hp => by cases hp), hv.trans hr, .inr ⟨by simp, ?_⟩⟩
          simp only [RnS.out, RnS.all, RnS.rest, (stop h0 hl).1, (stop h0 hl).2, List.map_nil, List.append_nil, Nat.add_zero, hacc]
        · rw [if_neg h0] at hv
          have hle := step1 hl
          have hnx := RnS.next (acc := a :: r) hl h0 (by omega)
          obtain ⟨n, hn⟩ : ∃ n, n = okL (s.data.toList.drop i) := ⟨_, rfl⟩
          have hn4 : n ≤ 4 := by rw [hn]; exact okN_le4 _ _ _ _ _
          rw [← hn] at h0 hle hv hnx
          have hal : acc.length ≤ i := by rw [hacc]; exact h3
          have hr : (rO1 n).val E = some (.normal, 1, [.string s, .int .i64 ((i + n : Nat) : Int), strs (acc ++ [bext s i (i + n)])]) := by
            have hp := fun m => rP_d E1 (by omega) hn4 m
            have c1 : ¬ (((i + n : Nat) : Int) < (i : Int)) := by omega
            have c2 : ((acc.length : Nat) : Int) < 16777216 := by omega
            simp only [rO1, rPart, HTree.val, den_i, den_sv (n := 39), den_sv (n := 38), den_ag, denL_cons, denL_nil, rS_d E0, rI_d E1, hV, hp, Option.bind_some, i31, i74s, i76s, c1, c2, decide_false, decide_true, wantC, ↓reduceIte, i13 .i64 .i64 (show i ≤ i + n by omega) (show i + n ≤ s.size by omega)]
          refine ⟨_, _, _, rfl, rfl, (fun p hp => by cases hp), hv.trans hr, .inl ⟨rfl, ⟨s, i + n, acc ++ [bext s i (i + n)]⟩, ⟨by simp only; omega, h2, by simp; omega⟩, by simp only; omega, ?_, ?_, ?_⟩⟩
          · rw [hacc]; exact hnx
          · rw [hacc]; rfl
          · rw [hacc]; rfl
      · rw [if_neg hl] at hv
        have hr : rD1.val E = some (.exit 0, 3, [strs acc]) := by simp only [rD1, HTree.val, denL_cons, denL_nil, hV, Option.bind_some]
        refine ⟨_, _, _, rfl, rfl, (fun p hp => by cases hp), hv.trans hr, .inr ⟨by simp, ?_⟩⟩
        simp only [RnS.out, RnS.all, RnS.rest, (done hl).1, (done hl).2, List.map_nil, List.append_nil, hacc]

/-! ### The loop, told: where some byte is bad, where none is -/

def rnLoop (b : Bool) : HLCtr where
  f := 30
  p := 60
  nt := 98
  nb := 0
  nl := 2
  ins := [(0, lfs 0), (5, lfi .i64 1), (4, .slice none 0 0)]
  objs := []
  srts := [some .str, some (.int .i64)]
  wants := [(sv 30 [lfi .i64 1, .int .i64 0], true), (sv 31 [.int .i64 1048576, sv 10 [lfs 0]], false), (sv 5 [.int .i64 43, lfs 0], b)]
  dec := some (sv 5 [.int .i64 45, lfs 0])
  ex _ := cond b .ret (.exit 0)
  tmps _ := cond b [2, 3] [4]
  out q := cond b
    (cond q ⟨[.slice none 0 0, lfi .i64 0], [], [sv 4 [.int .i64 42, lfs 0]]⟩ ⟨[nmR 0, lfi .i64 1], [.own [.str] 9 0], [sv 81 [.int .i64 44, lfs 0], sv 4 [.int .i64 42, lfs 0]]⟩)
    (cond q ⟨[.slice none 0 0], [], []⟩ ⟨[nmR 0], [.own [.str] 9 0], [sv 81 [.int .i64 44, lfs 0]]⟩)
  kills := rnK

theorem rnLoop_ok {FN : Fns} (hF : FnB FN) (b : Bool) : HLOk FN (rnLoop b) := by
  refine hlok_of (T := ⟨[], [], [], [], []⟩) ⟨fun c h => (by cases h), fun c h => (by cases h), fun c h => (by cases h), fun c h => (by cases h), fun c h => (by cases h)⟩ (by show isLoop 30 60 = true; kernel_rfl) (by show (98 : Nat) < 100000; decide) rnRounds rnR 0 rfl
    (fun q => cond b (cond q 0 1) (cond q 2 3)) (fun q => cond b (cond q 1 2) (cond q 0 1)) (fun q => by cases q <;> cases b <;> exact ⟨rfl, rfl, by decide⟩) fun V ls q hlen hleaf hrow hask => ?_
  match ls, hlen with
  | [a0, a1], _ =>
    obtain ⟨s, rfl⟩ := hleaf 0 _ _ rfl rfl
    obtain ⟨i, rfl⟩ := hleaf 1 _ _ rfl rfl
    have E0 : (envL FN V 98 [.string s, .int .i64 i]).str 0 = s := rfl
    have E1 : (envL FN V 98 [.string s, .int .i64 i]).int 1 = i := rfl
    have E5 : (envL FN V 98 [.string s, .int .i64 i]).fns = FN := rfl
    have hask' : Asked (envL FN V 98 [.string s, .int .i64 i]) (rnLoop b).wants (rnLoop b).dec q := hask
    generalize hE : envL FN V 98 [.string s, .int .i64 i] = E at *
    have d0 : ∀ m, den E (m + 2) (lfs 0) = some (.string s) := fun m => by simp only [lfs, den_i, den_sv, denL_cons, denL_nil, Option.bind_some, i2, Int.toNat_natCast, E0]
    have w1 := asked_facts hask' (e := sv 30 [lfi .i64 1, .int .i64 0]) (b := true) (by simp [rnLoop]) (c := decide (i = 0)) (by simp only [lfi, den_i, den_sv, denL_cons, denL_nil, Option.bind_some, i0, i30, Int.toNat_natCast, E1])
    have w2 := asked_facts hask' (e := sv 31 [.int .i64 1048576, sv 10 [lfs 0]]) (b := false) (by simp [rnLoop]) (c := decide ((1048576 : Int) < (s.size : Int))) (by simp only [den_i, den_sv (n := 39), den_sv (n := 38), denL_cons, denL_nil, d0, Option.bind_some, i10, i31])
    have w3 := asked_facts hask' (e := sv 5 [.int .i64 43, lfs 0]) (b := b) (by simp [rnLoop]) (c := (bad s.data.toList).isSome) (by simp only [den_i, den_sv (n := 39), denL_cons, denL_nil, d0, Option.bind_some, i5, E5, Int.reduceToNat, hF.isb])
    have w4 := asked_dec (e := sv 5 [.int .i64 45, lfs 0]) hask' (c := (letters s.data.toList).isEmpty) (by simp only [den_i, den_sv (n := 39), denL_cons, denL_nil, d0, Option.bind_some, i5, E5, Int.reduceToNat, hF.emp])
    simp only [decide_eq_true_eq, decide_eq_false_iff_not] at w1 w2
    subst w1
    have e81 : den E 40 (sv 81 [.int .i64 44, lfs 0]) = some (strs ((letters s.data.toList).map mkB)) := by
      simp only [den_i, den_sv (n := 39), denL_cons, denL_nil, d0, Option.bind_some, i81, E5, Int.reduceToNat, hF.let_]
      simp only [strs, List.map_map]
      rfl
    have e4 : den E 40 (sv 4 [.int .i64 42, lfs 0]) = some (.int .i64 (badI s.data.toList)) := by
      simp only [den_i, den_sv (n := 39), denL_cons, denL_nil, d0, Option.bind_some, i4, E5, Int.reduceToNat, hF.bad]
    refine ⟨⟨s, 0, []⟩, ⟨Nat.zero_le _, by simp only; omega, Nat.le_refl _⟩, rfl, rfl, ?_⟩
    have hout : RnS.out ⟨s, 0, []⟩ = (match bad s.data.toList, (letters s.data.toList).map mkB with
        | some k, [] => (.ret, 0, [.int .i64 ((k : Nat) : Int)])
        | some k, a :: r => (.ret, 1, [strs (a :: r), .int .i64 ((k : Nat) : Int)])
        | none, [] => (.exit 0, 2, [])
        | none, a :: r => (.exit 0, 3, [strs (a :: r)])) := by
      simp only [RnS.out, RnS.all, RnS.rest, List.drop_zero, List.nil_append, Nat.zero_add]
    show (RnS.out ⟨s, 0, []⟩).1 = _ ∧ (RnS.out ⟨s, 0, []⟩).2.1 = _ ∧ denL _ _ = some (RnS.out ⟨s, 0, []⟩).2.2
    rw [hout]
    show _ ∧ _ ∧ denL (den (envL FN V 98 [.string s, .int .i64 0]) 40) ((rnLoop b).out q).exprs = _
    rw [hE]
    unfold badI at e4
    cases hb : bad s.data.toList with
    | none =>
      rw [hb] at w3 e4
      cases b with
      | true => cases w3
      | false =>
        cases hL : letters s.data.toList with
        | nil =>
          rw [hL] at w4
          cases q with
          | false => cases w4
          | true => exact ⟨rfl, rfl, rfl⟩
        | cons x r =>
          rw [hL] at w4 e81
          cases q with
          | true => cases w4
          | false =>
            refine ⟨rfl, rfl, ?_⟩
            show denL (den E 40) [sv 81 [.int .i64 44, lfs 0]] = _
            rw [denL_cons, denL_nil, e81]
            rfl
    | some k =>
      rw [hb] at w3 e4
      cases b with
      | false => cases w3
      | true =>
        cases hL : letters s.data.toList with
        | nil =>
          rw [hL] at w4
          cases q with
          | false => cases w4
          | true =>
            refine ⟨rfl, rfl, ?_⟩
            show denL (den E 40) [sv 4 [.int .i64 42, lfs 0]] = _
            rw [denL_cons, denL_nil, e4]
            rfl
        | cons x r =>
          rw [hL] at w4 e81
          cases q with
          | true => cases w4
          | false =>
            refine ⟨rfl, rfl, ?_⟩
            show denL (den E 40) [sv 81 [.int .i64 44, lfs 0], sv 4 [.int .i64 42, lfs 0]] = _
            rw [denL_cons, denL_cons, denL_nil, e81, e4]
            rfl
end Go.Proofs.YtebkccfnilcfpaaGreatDoor
