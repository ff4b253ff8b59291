/- strings.Join, plural.Join: contracts. -/
import Derived.Test.YtebkccfnilcfpaaGreatDoorSyCtrH
namespace Go.Proofs.YtebkccfnilcfpaaGreatDoor
set_option linter.unusedVariables false
set_option linter.unusedSimpArgs false
open Go Go.Sy Go.RowKit

/-- Texts in a row, cell by cell. -/
theorem rowIs_strs {ρ : Rho} {w : World} {spec x : Value} (h : RowIs ρ w [.str] spec x) : ∃ a c l, x = .slice a l.length c ∧ VR ρ spec (strs l) ∧ l.length ≤ c ∧
    (0 < l.length → ∃ b o, a = some ⟨b, o, none⟩ ∧ b < w.heap.size ∧ ∀ (j : Nat) y, l[j]? = some y → w.cell? ⟨b, o + j, none⟩ = some (.string y)) := by
  obtain ⟨a, n, c, cells, rfl, h2, h3, h4, h5, h6⟩ := h
  obtain ⟨l, hl⟩ := hasR_strs ⟨cells, n, rfl, h3, h4⟩
  have hsz : cells.size = l.length := by injection hl with hl; rw [hl]; simp
  have hn : n = l.length := by simp at h3; omega
  subst hn
  refine ⟨a, c, l, rfl, by rw [← hl]; exact h2, h6, fun h0 => ?_⟩
  obtain ⟨b, o, ccs, el, fr, e1, e2, e3, e4⟩ := h5 h0
  refine ⟨b, o, e1, (Array.getElem?_eq_some_iff.1 e2).1, fun j y hy => ?_⟩
  have hj : j < l.length := (List.getElem?_eq_some_iff.1 hy).1
  have := e4 j (by simpa using hj)
  unfold World.cell?
  simp only [e2]
  injection hl with hl
  rw [this, hl]
  simp [hy]

def joinB (l : List ByteArray) (sep : ByteArray) : ByteArray := ⟨(Lib.join (l.map (·.data.toList)) sep.data.toList).toArray⟩

def joinsC : GCtr where
  f := 12
  open_ a := some a
  sorts := [.row [.str], .sc .str]
  wants l := match l with
    | [s, p] => [(sv 31 [hlen [.str] s, .int .i64 1048577], true), (sv 31 [sv 10 [sv 6 [.int .i64 30, s, p]], .int .i64 1099511627777], true)]
    | _ => [(.bool false, true)]
  dec _ := none
  val _ l _ := sv 6 (.int .i64 30 :: l)
  rows _ _ := []

theorem leafRs {ρ : Rho} {w : World} {srts : List Srt} {s : Srt} {vs l' : List Value} (h : LeafR ρ w [.row srts, .sc s] vs l') : ∃ a b x y, vs = [a, b] ∧ l' = [x, y] ∧ RowIs ρ w srts a x ∧ VR ρ b y ∧ HasS s y := by
  match vs, l', h with
  | [], _, h => exact h.elim
  | [_], [], h => exact h.elim
  | [_], [_], h => exact h.2.elim
  | [_], _ :: _ :: _, h => exact h.2.elim
  | _ :: _ :: _, [], h => exact h.elim
  | _ :: _ :: _, [_], h => exact h.2.elim
  | [a, b], [x, y], h => exact ⟨a, b, x, y, rfl, rfl, h.1, h.2.1.1, h.2.1.2⟩
  | [a, b], x :: y :: z :: r, h => exact h.2.2.elim
  | a :: b :: c :: r, [x, y], h => exact h.2.2.elim
  | a :: b :: c :: r, x :: y :: z :: r', h => exact h.2.2.elim

theorem joinsC_ok {FN : Fns} (hF : ∀ l p, FN.str 30 [strs l, .string p] = joinB l p) : GCtrOk FN joinsC := by
  intro S args ls vs q hFN hopen hw _ ρ args' w g hv hd hleaf
  cases hopen
  have hl := hleaf _ hv
  simp only [joinsC] at hl hw
  obtain ⟨s, x, a', x', rfl, hq, h1, h2, h3⟩ := leafRs hl
  obtain ⟨p, rfl⟩ := h3
  obtain ⟨a, c, l, rfl, e1, e2, e3⟩ := rowIs_strs h1
  have hres : VR ρ (sv 6 [.int .i64 30, s, x]) (.string (joinB l p)) := sv_vr (VRs.cons (.int _ _) (vr2 e1 h2)) (by
    show some (Value.string (ρ.env.fns.str 30 [strs l, .string p])) = _
    rw [g.fns, hFN, hF])
  have hlt : l.length < 1048577 := by
    have := holds_lt g (hw _ List.mem_cons_self) (hlen_vr (srts := [.str]) e1 (n := l.length) (by simp [strs]) (by simp)) (.int _ _)
    simp only [decide_eq_true_eq] at this
    omega
  have hlt2 : (joinB l p).size < 1099511627777 := by
    have := holds_lt g (hw _ (List.mem_cons_of_mem _ List.mem_cons_self)) (show VR ρ (sv 10 [sv 6 [.int .i64 30, s, x]]) (.int .i64 (joinB l p).data.toList.length) from slen_vr hres) (.int _ _)
    simp only [decide_eq_true_eq] at this
    have h4 : (joinB l p).data.toList.length = (joinB l p).size := by simp
    omega
  have hsz : (Lib.join (l.map (·.data.toList)) p.data.toList).length = (joinB l p).size := by
    show _ = (Lib.join (l.map (·.data.toList)) p.data.toList).toArray.size
    simp
  have ha : args' = #[.slice a l.length c, .string p] := by apply Array.ext'; simpa using hq
  subst ha
  have hcall : Calls Tryz.prog 12 #[.slice a l.length c, .string p] w fun e w' => e = .returned (.string (joinB l p)) ∧ Below w.heap.size w w' := by
    rcases Nat.eq_zero_or_pos l.length with h0 | h0
    · have hl0 : l = [] := List.length_eq_zero_iff.1 h0
      subst hl0
      exact (Tryz.strings_Join_none a c p w).mono fun e w' ⟨he, hw⟩ => ⟨by rw [he]; rfl, by rw [hw]; exact Below.refl _ _⟩
    · obtain ⟨b, o, rfl, hb, f2⟩ := e3 h0
      exact (Tryz.strings_Join b o c l p w f2 hb (by omega) e2 (by rw [hsz]; omega)).mono fun e w' ⟨he, hw⟩ => ⟨by rw [he]; rfl, hw⟩
  refine hcall.mono fun e w' ⟨he, hb⟩ => ⟨_, [], he, hb, trivial, fun ρ' nx ext _ => hres.mono ext⟩

/-! ### Texts put together -/

def cat (a b : ByteArray) : ByteArray := ⟨(a.data.toList ++ b.data.toList).toArray⟩
theorem cat_size (a b : ByteArray) : (cat a b).size = a.size + b.size := by
  show (a.data.toList ++ b.data.toList).toArray.size = _
  simp
theorem cat_list (a b : ByteArray) : (cat a b).data.toList = a.data.toList ++ b.data.toList := by simp [cat]

theorem i41c {E : Env} {a b : ByteArray} (h : a.size + b.size < 4611686018427387904) : interp E 41 [.string a, .string b] = some (.bool true) := by
  have e : a.data.toList.length + b.data.toList.length = a.size + b.size := by simp
  have hb : Nat.blt (a.size + b.size) 4611686018427387904 = true := by rw [Nat.blt_eq]; exact h
  simp only [interp, e, hb]
theorem i40c {E : Env} {a b : ByteArray} (h : a.size + b.size < 4611686018427387904) : interp E 40 [.string a, .string b] = some (.string (cat a b)) := by
  have e : a.data.toList.length + b.data.toList.length = a.size + b.size := by simp
  have hb : Nat.blt (a.size + b.size) 4611686018427387904 = true := by rw [Nat.blt_eq]; exact h
  simp only [interp, astrop, e, hb, cond_true]
  rfl

def sp : ByteArray := ⟨#[32]⟩
def comma : ByteArray := ⟨#[44, 32]⟩
def none0 : ByteArray := ⟨#[]⟩

/-- One text more. -/
def stepJ (n : Nat) (and : ByteArray) (i : Nat) (acc x : ByteArray) : ByteArray :=
  if 0 < i then (if i = n - 1 then cat (cat acc (cat (cat sp and) sp)) x else cat (cat acc comma) x) else cat acc x
def joinG (n : Nat) (and : ByteArray) : Nat → ByteArray → List ByteArray → ByteArray
  | _, acc, [] => acc
  | i, acc, x :: r => joinG n and (i + 1) (stepJ n and i acc x) r
/-- What plural.Join hands back. -/
def pjB (l : List ByteArray) (and : ByteArray) : ByteArray := joinG l.length and 0 none0 l

theorem stepJ_size (n i : Nat) (and acc x : ByteArray) : (stepJ n and i acc x).size ≤ acc.size + and.size + x.size + 4 := by
  have h1 : sp.size = 1 := rfl
  have h2 : comma.size = 2 := rfl
  unfold stepJ
  split
  · split <;> simp only [cat_size] <;> omega
  · rw [cat_size]; omega

theorem join_each {l : List ByteArray} {x : ByteArray} (h : x ∈ l) : x.size ≤ (joinB l none0).size := by
  have key : ∀ (l : List ByteArray), (joinB l none0).size = (l.map (·.size)).sum := by
    intro l
    have e : (joinB l none0).size = (Lib.join (l.map (·.data.toList)) []).length := by
      show (Lib.join (l.map (·.data.toList)) none0.data.toList).toArray.size = _
      simp [none0]
    rw [e]
    have e2 : ∀ (q : List (List UInt8)), Lib.join q [] = q.flatten := by
      intro q
      unfold Lib.join
      cases q with
      | nil => rfl
      | cons a r =>
        induction r generalizing a with
        | nil => simp [List.intercalate]
        | cons b r ih => 
          rw [List.intercalate_cons_cons, ih b]
          simp
    rw [e2]
    induction l with
    | nil => rfl
    | cons a r ih =>
      simp only [List.map_cons, List.flatten_cons, List.length_append, List.sum_cons]
      have h1 : a.data.toList.length = a.size := by simp
      rw [h1]
      congr 1
      rw [List.length_flatten, List.map_map]
      exact congrArg List.sum (List.map_congr_left fun y _ => by simp)
  rw [key]
  induction l with
  | nil => cases h
  | cons a r ih =>
    simp only [List.map_cons, List.sum_cons]
    rcases List.mem_cons.1 h with rfl | h
    · omega
    · have := ih h; omega

/-! ### plural.Join's loop -/

def pjSh : List Shape := [⟨[(8, nmR 0), (0, nmR 0), (1, lfs 1), (5, lfs 2), (9, lfi .i64 3), (10, lfi .i64 4)], [.row [.str] 0], 5⟩]
def pjFi : List Shape := [⟨[(5, lfs 0)], [], 1⟩]
def pjK : List Nat := [0, 1, 5, 6, 7, 8, 9, 10, 11, 12, 13, 14, 15, 16, 17, 18, 19, 20, 21, 22, 23, 24, 25, 26, 27, 28, 29, 30, 31, 32, 33, 34, 35, 36, 37, 38]
def pjT : HTree := (.node (sv 31 [(sv 0 [.int .i64 4]), (sv 0 [.int .i64 3])])
  (.need (sv 31 [(sv 0 [.int .i64 4]), .int .i64 0]) false (.need (sv 31 [(sv 0 [.int .i64 4]), (sv 74 [(sv 98 [.int .i64 1000000]), .int .i64 1])]) true (.node (sv 31 [.int .i64 0, (sv 0 [.int .i64 4])])
  (.node (sv 30 [(sv 0 [.int .i64 4]), (sv 21 [.int .i64 0, (sv 74 [(sv 98 [.int .i64 1000000]), .int .i64 1]), .int .i64 1])])
  (.need (sv 41 [.string ⟨#[32]⟩, (sv 2 [.int .i64 1])]) true (.need (sv 41 [(sv 40 [.string ⟨#[32]⟩, (sv 2 [.int .i64 1])]), .string ⟨#[32]⟩]) true (.need (sv 41 [(sv 2 [.int .i64 2]), (sv 40 [(sv 40 [.string ⟨#[32]⟩, (sv 2 [.int .i64 1])]), .string ⟨#[32]⟩])]) true (.need (sv 41 [(sv 40 [(sv 2 [.int .i64 2]), (sv 40 [(sv 40 [.string ⟨#[32]⟩, (sv 2 [.int .i64 1])]), .string ⟨#[32]⟩])]), (sv 73 [(sv 98 [.int .i64 1000000]), (sv 0 [.int .i64 4]), .int .i64 1, .int .i64 0])]) true (.leaf .normal 0 [(sv 98 [.int .i64 1000000]), (sv 2 [.int .i64 1]), (sv 40 [(sv 40 [(sv 2 [.int .i64 2]), (sv 40 [(sv 40 [.string ⟨#[32]⟩, (sv 2 [.int .i64 1])]), .string ⟨#[32]⟩])]), (sv 73 [(sv 98 [.int .i64 1000000]), (sv 0 [.int .i64 4]), .int .i64 1, .int .i64 0])]), (sv 0 [.int .i64 3]), (sv 20 [.int .i64 0, (sv 0 [.int .i64 4]), .int .i64 1])])))))
  (.need (sv 41 [(sv 2 [.int .i64 2]), .string ⟨#[44, 32]⟩]) true (.need (sv 41 [(sv 40 [(sv 2 [.int .i64 2]), .string ⟨#[44, 32]⟩]), (sv 73 [(sv 98 [.int .i64 1000000]), (sv 0 [.int .i64 4]), .int .i64 1, .int .i64 0])]) true (.leaf .normal 0 [(sv 98 [.int .i64 1000000]), (sv 2 [.int .i64 1]), (sv 40 [(sv 40 [(sv 2 [.int .i64 2]), .string ⟨#[44, 32]⟩]), (sv 73 [(sv 98 [.int .i64 1000000]), (sv 0 [.int .i64 4]), .int .i64 1, .int .i64 0])]), (sv 0 [.int .i64 3]), (sv 20 [.int .i64 0, (sv 0 [.int .i64 4]), .int .i64 1])]))))
  (.need (sv 41 [(sv 2 [.int .i64 2]), (sv 73 [(sv 98 [.int .i64 1000000]), (sv 0 [.int .i64 4]), .int .i64 1, .int .i64 0])]) true (.leaf .normal 0 [(sv 98 [.int .i64 1000000]), (sv 2 [.int .i64 1]), (sv 40 [(sv 2 [.int .i64 2]), (sv 73 [(sv 98 [.int .i64 1000000]), (sv 0 [.int .i64 4]), .int .i64 1, .int .i64 0])]), (sv 0 [.int .i64 3]), (sv 20 [.int .i64 0, (sv 0 [.int .i64 4]), .int .i64 1])])))))
  (.leaf (.exit 0) 0 [(sv 2 [.int .i64 2])]))

def pjLoop : HLCtr where
  f := 13
  p := 58
  nt := 40
  nb := 0
  nl := 5
  ins := [(8, nmR 0), (0, nmR 0), (1, lfs 1), (5, lfs 2), (9, lfi .i64 3), (10, lfi .i64 4)]
  objs := [.row [.str] 0]
  srts := [none, some .str, some .str, some (.int .i64), some (.int .i64)]
  wants := [(sv 30 [lfi .i64 4, .int .i64 0], true), (sv 30 [lfi .i64 3, sv 74 [specL 40 0, .int .i64 1]], true), (sv 30 [lfs 2, .string ⟨#[]⟩], true), (sv 31 [sv 74 [specL 40 0, .int .i64 1], .int .i64 1048577], true),
    (sv 31 [sv 10 [sv 6 [.int .i64 30, specL 40 0, .string ⟨#[]⟩]], .int .i64 1048577], true), (sv 31 [sv 10 [lfs 1], .int .i64 1048577], true)]
  dec := none
  ex _ := .exit 0
  tmps _ := [5]
  out _ := ⟨[lfs 0], [], [sv 6 [.int .i64 31, specL 40 0, lfs 1]]⟩
  kills := pjK

theorem pjRounds {FN : Fns} : RoundsOk FN ⟨[], [], [], [], []⟩ 13 58 40 0 pjSh pjFi pjK [pjT] [[]] := fun t1 t2 t3 t4 => by kernel_rfl

structure PjS where
  l : List ByteArray
  and : ByteArray
  acc : ByteArray
  i : Nat

def PjS.st (s : PjS) : List Value := [strs s.l, .string s.and, .string s.acc, .int .i64 (s.l.length : Int), .int .i64 (s.i : Int)]

theorem joinG_drop {n : Nat} {and acc x : ByteArray} {l : List ByteArray} {i : Nat} (h : l[i]? = some x) : joinG n and i acc (l.drop i) = joinG n and (i + 1) (stepJ n and i acc x) (l.drop (i + 1)) := by
  obtain ⟨hi, he⟩ := List.getElem?_eq_some_iff.1 h
  rw [List.drop_eq_getElem_cons hi, he]
  rfl

def pjR {FN : Fns} : RoundH FN 40 pjSh pjFi [pjT] [[]] PjS where
  sh _ := 0
  st s := s.st
  Inv s := s.i ≤ s.l.length ∧ s.l.length ≤ 1048576 ∧ s.and.size ≤ 1048576 ∧ (∀ x ∈ s.l, x.size ≤ 1048576) ∧ s.acc.size ≤ s.i * 4000000
  μ s := s.l.length - s.i
  fin s := (.exit 0, 0, [.string (joinG s.l.length s.and s.i s.acc (s.l.drop s.i))])
  step V s hI := by
    obtain ⟨l, and, acc, i⟩ := s
    obtain ⟨h1, h2, h3, h4, h5⟩ := hI
    simp only at h1 h2 h3 h4 h5
    refine ⟨pjT, [], ?_⟩
    have E0 : (envL FN V 40 (PjS.st ⟨l, and, acc, i⟩)).val 1000000 = strs l := rfl
    have E1 : (envL FN V 40 (PjS.st ⟨l, and, acc, i⟩)).str 1 = and := rfl
    have E2 : (envL FN V 40 (PjS.st ⟨l, and, acc, i⟩)).str 2 = acc := rfl
    have E3 : (envL FN V 40 (PjS.st ⟨l, and, acc, i⟩)).int 3 = (l.length : Int) := rfl
    have E4 : (envL FN V 40 (PjS.st ⟨l, and, acc, i⟩)).int 4 = (i : Int) := rfl
    generalize hE : envL FN V 40 (PjS.st ⟨l, and, acc, i⟩) = E at *
    by_cases hk : i < l.length
    · obtain ⟨x, hx⟩ : ∃ x, l[i]? = some x := ⟨_, List.getElem?_eq_getElem hk⟩
      have hx4 := h4 x (List.mem_of_getElem? hx)
      have hi5 : i * 4000000 ≤ 1048576 * 4000000 := Nat.mul_le_mul_right _ (by omega)
      have c1 : (i : Int) < (l.length : Int) := by omega
      have c2 : ¬ (i : Int) < 0 := by omega
      have s1 : sp.size = 1 := rfl
      have s2 : comma.size = 2 := rfl
      have hval : pjT.val E = some (.normal, 0, [strs l, .string and, .string (stepJ l.length and i acc x), .int .i64 l.length, .int .i64 ((i : Int) + 1)]) := by
        have q1 : interp E 41 [.string sp, .string and] = some (.bool true) := i41c (by omega)
        have q2 : interp E 41 [.string (cat sp and), .string sp] = some (.bool true) := i41c (by rw [cat_size]; omega)
        have q3 : interp E 41 [.string acc, .string (cat (cat sp and) sp)] = some (.bool true) := i41c (by simp only [cat_size]; omega)
        have q4 : interp E 41 [.string (cat acc (cat (cat sp and) sp)), .string x] = some (.bool true) := i41c (by simp only [cat_size]; omega)
        have q5 : interp E 41 [.string acc, .string comma] = some (.bool true) := i41c (by omega)
        have q6 : interp E 41 [.string (cat acc comma), .string x] = some (.bool true) := i41c (by simp only [cat_size]; omega)
        have q7 : interp E 41 [.string acc, .string x] = some (.bool true) := i41c (by omega)
        have p1 : interp E 40 [.string sp, .string and] = some (.string (cat sp and)) := i40c (by omega)
        have p2 : interp E 40 [.string (cat sp and), .string sp] = some (.string (cat (cat sp and) sp)) := i40c (by rw [cat_size]; omega)
        have p3 : interp E 40 [.string acc, .string (cat (cat sp and) sp)] = some (.string (cat acc (cat (cat sp and) sp))) := i40c (by simp only [cat_size]; omega)
        have p4 : interp E 40 [.string (cat acc (cat (cat sp and) sp)), .string x] = some (.string (cat (cat acc (cat (cat sp and) sp)) x)) := i40c (by simp only [cat_size]; omega)
        have p5 : interp E 40 [.string acc, .string comma] = some (.string (cat acc comma)) := i40c (by omega)
        have p6 : interp E 40 [.string (cat acc comma), .string x] = some (.string (cat (cat acc comma) x)) := i40c (by simp only [cat_size]; omega)
        have p7 : interp E 40 [.string acc, .string x] = some (.string (cat acc x)) := i40c (by omega)
        simp (disch := omega) only [pjT, show (⟨#[32]⟩ : ByteArray) = sp from rfl, show (⟨#[44, 32]⟩ : ByteArray) = comma from rfl, HTree.val, pickC, wantC, den_i, den_b, den_s, den_sv, den_ag, denL_nil, denL_cons, Option.bind_some, i0, i2, i20, i21, i30, i31, i74s, i73s hx, i98, q1, q2, q3, q4, q5, q6, q7, p1, p2, p3, p4, p5, p6, p7, Int.reduceToNat, decide_true, decide_false, E0, E1, E2, E3, E4, c1, c2, wr64, if_true, Bool.false_eq_true, ↓reduceIte, if_false, decide_eq_true_eq]
        unfold stepJ
        by_cases hz : 0 < i
        · rw [if_pos (show (0 : Int) < (i : Int) by omega), if_pos hz]
          by_cases hl : i = l.length - 1
          · rw [if_pos (show (i : Int) = (l.length : Int) - 1 by omega), if_pos hl]
          · rw [if_neg (show ¬ (i : Int) = (l.length : Int) - 1 by omega), if_neg hl]
        · rw [if_neg (show ¬ (0 : Int) < (i : Int) by omega), if_neg hz]
      rw [hval]
      have hst := stepJ_size l.length i and acc x
      refine ⟨_, _, _, rfl, rfl, (fun p hp => by cases hp), rfl, .inl ⟨rfl, ⟨l, and, stepJ l.length and i acc x, i + 1⟩, ⟨hk, h2, h3, h4, by simp only; omega⟩, by simp only; omega, ?_, rfl, rfl⟩⟩
      simp only [joinG_drop hx]
    · have c1 : ¬ (i : Int) < (l.length : Int) := by omega
      have hval : pjT.val E = some (.exit 0, 0, [.string acc]) := by
        simp only [pjT, HTree.val, pickC, den_i, den_sv, denL_nil, denL_cons, Option.bind_some, i0, i2, i31, Int.reduceToNat, E2, E3, E4, c1, decide_false, Bool.false_eq_true, ↓reduceIte]
      rw [hval]
      refine ⟨_, _, _, rfl, rfl, (fun p hp => by cases hp), rfl, .inr ⟨by simp, ?_⟩⟩
      simp only [List.drop_eq_nil_of_le (show l.length ≤ i by omega), joinG]

/-- What functions hand back: 30 strings.Join, 31 plural.Join. -/
structure FnJ (FN : Fns) : Prop where
  join : ∀ l p, FN.str 30 [strs l, .string p] = joinB l p
  pj : ∀ l p, FN.str 31 [strs l, .string p] = pjB l p

theorem pjLoop_ok {FN : Fns} (hF : FnJ FN) : HLOk FN pjLoop := by
  refine hlok_of (T := ⟨[], [], [], [], []⟩) ⟨fun c h => (by cases h), fun c h => (by cases h), fun c h => (by cases h), fun c h => (by cases h), fun c h => (by cases h)⟩ (by kernel_rfl) (by decide) pjRounds pjR 0 rfl (fun _ => 0) (fun _ => 1) (fun q => by cases q <;> exact ⟨rfl, rfl, by decide⟩) fun V ls q hlen hleaf hrow hask => ?_
  obtain ⟨v0, hv0, hR⟩ := hrow 0 0 [.str] (.inl rfl) (by rw [hlen]; decide)
  obtain ⟨l, rfl⟩ := hasR_strs hR
  match ls, hlen with
  | [a0, a1, a2, a3, a4], _ =>
    simp only [List.getElem?_cons_zero, Option.some.injEq] at hv0
    subst hv0
    obtain ⟨and, rfl⟩ := hleaf 1 _ _ rfl rfl
    obtain ⟨acc, rfl⟩ := hleaf 2 _ _ rfl rfl
    obtain ⟨n, rfl⟩ := hleaf 3 _ _ rfl rfl
    obtain ⟨i, rfl⟩ := hleaf 4 _ _ rfl rfl
    have E0 : (envL FN V 40 [strs l, .string and, .string acc, .int .i64 n, .int .i64 i]).val 1000000 = strs l := rfl
    have E1 : (envL FN V 40 [strs l, .string and, .string acc, .int .i64 n, .int .i64 i]).str 1 = and := rfl
    have E2 : (envL FN V 40 [strs l, .string and, .string acc, .int .i64 n, .int .i64 i]).str 2 = acc := rfl
    have E3 : (envL FN V 40 [strs l, .string and, .string acc, .int .i64 n, .int .i64 i]).int 3 = n := rfl
    have E4 : (envL FN V 40 [strs l, .string and, .string acc, .int .i64 n, .int .i64 i]).int 4 = i := rfl
    have E5 : (envL FN V 40 [strs l, .string and, .string acc, .int .i64 n, .int .i64 i]).fns = FN := rfl
    have hask' : Asked (envL FN V 40 [strs l, .string and, .string acc, .int .i64 n, .int .i64 i]) pjLoop.wants pjLoop.dec q := hask
    generalize hE : envL FN V 40 [strs l, .string and, .string acc, .int .i64 n, .int .i64 i] = E at *
    have d0 : ∀ m, den E (m + 2) (specL 40 0) = some (strs l) := fun m => by simp only [specL, Nat.reduceAdd, Int.toNat_natCast, den_sv, denL_cons, denL_nil, den_i, Option.bind_some, i98, Int.reduceToNat, E0]
    have d1 : ∀ m, den E (m + 2) (lfs 1) = some (.string and) := fun m => by simp only [lfs, den_i, den_sv, denL_cons, denL_nil, Option.bind_some, i2, Int.toNat_natCast, E1]
    have d2 : ∀ m, den E (m + 2) (lfs 2) = some (.string acc) := fun m => by simp only [lfs, den_i, den_sv, denL_cons, denL_nil, Option.bind_some, i2, Int.toNat_natCast, E2]
    have hS : ∀ a b : ByteArray, interp E 30 [.string a, .string b] = some (.bool (decide (a = b))) := fun a b => i30s a b
    have w1 := asked_facts hask' (e := sv 30 [lfi .i64 4, .int .i64 0]) (b := true) (by simp [pjLoop]) (c := decide (i = 0)) (by simp only [lfi, den_i, den_sv, denL_cons, denL_nil, Option.bind_some, i0, i30, Int.toNat_natCast, E4])
    have w2 := asked_facts hask' (e := sv 30 [lfi .i64 3, sv 74 [specL 40 0, .int .i64 1]]) (b := true) (by simp [pjLoop]) (c := decide (n = (l.length : Int))) (by simp only [lfi, den_i, den_sv, denL_cons, denL_nil, d0, Option.bind_some, i0, i30, i74s, Int.toNat_natCast, E3])
    have w3 := asked_facts hask' (e := sv 30 [lfs 2, .string ⟨#[]⟩]) (b := true) (by simp [pjLoop]) (c := decide (acc = ⟨#[]⟩)) (by simp only [den_s, den_sv (n := 39), denL_cons, denL_nil, d2, Option.bind_some, hS])
    have w4 := asked_facts hask' (e := sv 31 [sv 74 [specL 40 0, .int .i64 1], .int .i64 1048577]) (b := true) (by simp [pjLoop]) (c := decide ((l.length : Int) < 1048577)) (by simp only [den_i, den_sv (n := 39), den_sv (n := 38), denL_cons, denL_nil, d0, Option.bind_some, i31, i74s])
    have w5 := asked_facts hask' (e := sv 31 [sv 10 [sv 6 [.int .i64 30, specL 40 0, .string ⟨#[]⟩]], .int .i64 1048577]) (b := true) (by simp [pjLoop]) (c := decide (((joinB l none0).size : Int) < 1048577))
      (by simp only [den_i, den_s, den_sv (n := 39), den_sv (n := 38), den_sv (n := 37), denL_cons, denL_nil, d0, Option.bind_some, i31, i10, i6, E5, Int.reduceToNat, hF.join]; rfl)
    have w6 := asked_facts hask' (e := sv 31 [sv 10 [lfs 1], .int .i64 1048577]) (b := true) (by simp [pjLoop]) (c := decide ((and.size : Int) < 1048577)) (by simp only [den_i, den_sv (n := 39), den_sv (n := 38), denL_cons, denL_nil, d1, Option.bind_some, i31, i10])
    simp only [decide_eq_true_eq] at w1 w2 w3 w4 w5 w6
    subst w1; subst w2; subst w3
    refine ⟨⟨l, and, ⟨#[]⟩, 0⟩, ⟨Nat.zero_le _, by simp only; omega, by simp only; omega, fun x hx => (by have := join_each hx; simp only at *; omega), by simp only; decide⟩, rfl, rfl, rfl, rfl, ?_⟩
    have goal2 : denL (den E 40) [sv 6 [.int .i64 31, specL 40 0, lfs 1]] = some [.string (pjB l and)] := by
      rw [denL_cons, denL_nil, den_sv, denL_cons, denL_cons, denL_cons, denL_nil, d0 37, d1 37]
      simp only [den_i, Option.bind_some, i6, E5, Int.reduceToNat, hF.pj]
    rw [← hE] at goal2
    exact goal2

/-! ### plural.Join -/

def pjWants (nt : Nat) : List (Value × Bool) := [(sv 31 [sv 74 [specL nt 0, .int .i64 1], .int .i64 1048577], true), (sv 31 [sv 10 [sv 6 [.int .i64 30, specL nt 0, .string ⟨#[]⟩]], .int .i64 1048577], true), (sv 31 [sv 10 [lfs 1], .int .i64 1048577], true)]
def pjC : FCtr where
  f := 13
  nb := 0
  nl := 2
  args := [nmR 0, lfs 1]
  objs := [.row [.str] 0]
  srts := [none, some .str]
  wants := pjWants 0
  dec := none
  out _ := ⟨[lfs 0], [], [sv 6 [.int .i64 31, specL 0 0, lfs 1]]⟩

def pjFT : HTree := .need (sv 30 [sv 74 [sv 98 [.int .i64 1000000], .int .i64 1], sv 74 [sv 98 [.int .i64 1000000], .int .i64 1]]) true (.need (sv 31 [sv 74 [sv 98 [.int .i64 1000000], .int .i64 1], .int .i64 1048577]) true (.need (sv 31 [sv 10 [sv 6 [.int .i64 30, sv 98 [.int .i64 1000000], .string ⟨#[]⟩]], .int .i64 1048577]) true (.need (sv 31 [sv 10 [sv 2 [.int .i64 1]], .int .i64 1048577]) true
  (.leaf .ret 0 [sv 6 [.int .i64 31, sv 98 [.int .i64 1000000], sv 2 [.int .i64 1]]]))))

theorem pj_run {FN : Fns} : ∀ t1 t2 t3 t4, pjFT.okF (fun F => arun (cfgH FN noRows ⟨[], [], [], [], [pjLoop]⟩ F) 1000 13 [nmR 0, lfs 1] (canH 0 (heapOf 20 (vars t1 t2 t3 t4)) [.row [.str] 0])) (fun F => ⟨20, F, FN, [], rows0⟩) 0 [⟨[(0, lfs 0)], [], 1⟩] [] = true := fun t1 t2 t3 t4 => by kernel_rfl

theorem pjC_ok {FN : Fns} (hF : FnJ FN) : FOk FN pjC := by
  refine fok_of (T := ⟨[], [], [], [], [pjLoop]⟩) ⟨fun c h => (by cases h), fun c h => (by cases h), fun c h => (by cases h), fun c h => (by cases h), fun c h => (by
    simp only [List.mem_cons, List.not_mem_nil, or_false] at h
    subst h
    exact pjLoop_ok hF)⟩ (Tr := pjFT) (F0 := []) (fins := [⟨[(0, lfs 0)], [], 1⟩]) (by decide) pj_run (fun _ => 0) (fun _ => 1) (fun _ => 0) (fun q => ⟨_, rfl, rfl⟩) fun V ls q hlen hleaf hrow hask => ?_
  obtain ⟨v0, hv0, hR⟩ := hrow 0 0 [.str] (.inl rfl) (by rw [hlen]; decide)
  obtain ⟨l, rfl⟩ := hasR_strs hR
  match ls, hlen with
  | [a0, a1], _ =>
    simp only [List.getElem?_cons_zero, Option.some.injEq] at hv0
    subst hv0
    obtain ⟨and, rfl⟩ := hleaf 1 _ _ rfl rfl
    refine ⟨fun p hp => (by cases hp), ?_⟩
    have E0 : (envL FN V 0 [strs l, .string and]).val 1000000 = strs l := rfl
    have E1 : (envL FN V 0 [strs l, .string and]).str 1 = and := rfl
    have E5 : (envL FN V 0 [strs l, .string and]).fns = FN := rfl
    have hask' : Asked (envL FN V 0 [strs l, .string and]) (pjWants 0) none q := hask
    generalize hE : envL FN V 0 [strs l, .string and] = E at *
    have d0 : ∀ m, den E (m + 2) (sv 98 [.int .i64 1000000]) = some (strs l) := fun m => by simp only [den_sv, denL_cons, denL_nil, den_i, Option.bind_some, i98, Int.reduceToNat, E0]
    have d1 : ∀ m, den E (m + 2) (sv 2 [.int .i64 1]) = some (.string and) := fun m => by simp only [den_i, den_sv, denL_cons, denL_nil, Option.bind_some, i2, Int.reduceToNat, E1]
    have n1 : den E 40 (sv 30 [sv 74 [sv 98 [.int .i64 1000000], .int .i64 1], sv 74 [sv 98 [.int .i64 1000000], .int .i64 1]]) = some (.bool true) := by
      simp only [den_i, den_sv (n := 39), den_sv (n := 38), denL_cons, denL_nil, d0, Option.bind_some, i30, i74s, decide_true]
    have k4 : den E 40 (sv 31 [sv 74 [sv 98 [.int .i64 1000000], .int .i64 1], .int .i64 1048577]) = some (.bool (decide ((l.length : Int) < 1048577))) := by
      simp only [den_i, den_sv (n := 39), den_sv (n := 38), denL_cons, denL_nil, d0, Option.bind_some, i31, i74s]
    have k5 : den E 40 (sv 31 [sv 10 [sv 6 [.int .i64 30, sv 98 [.int .i64 1000000], .string ⟨#[]⟩]], .int .i64 1048577]) = some (.bool (decide (((joinB l none0).size : Int) < 1048577))) := by
      simp only [den_i, den_s, den_sv (n := 39), den_sv (n := 38), den_sv (n := 37), denL_cons, denL_nil, d0, Option.bind_some, i31, i10, i6, E5, Int.reduceToNat, hF.join]; rfl
    have k6 : den E 40 (sv 31 [sv 10 [sv 2 [.int .i64 1]], .int .i64 1048577]) = some (.bool (decide ((and.size : Int) < 1048577))) := by
      simp only [den_i, den_sv (n := 39), den_sv (n := 38), denL_cons, denL_nil, d1, Option.bind_some, i31, i10]
    have w4 := asked_facts hask' (e := sv 31 [sv 74 [specL 0 0, .int .i64 1], .int .i64 1048577]) (b := true) (by simp [pjWants]) (c := decide ((l.length : Int) < 1048577)) k4
    have w5 := asked_facts hask' (e := sv 31 [sv 10 [sv 6 [.int .i64 30, specL 0 0, .string ⟨#[]⟩]], .int .i64 1048577]) (b := true) (by simp [pjWants]) (c := decide (((joinB l none0).size : Int) < 1048577)) k5
    have w6 := asked_facts hask' (e := sv 31 [sv 10 [lfs 1], .int .i64 1048577]) (b := true) (by simp [pjWants]) (c := decide ((and.size : Int) < 1048577)) k6
    rw [w4] at k4
    rw [w5] at k5
    rw [w6] at k6
    have goal2 : denL (den E 40) [sv 6 [.int .i64 31, sv 98 [.int .i64 1000000], sv 2 [.int .i64 1]]] = some [.string (pjB l and)] := by
      rw [denL_cons, denL_nil, den_sv, denL_cons, denL_cons, denL_cons, denL_nil, d0 37, d1 37]
      simp only [den_i, Option.bind_some, i6, E5, Int.reduceToNat, hF.pj]
    refine ⟨.ret, [.string (pjB l and)], ?_, goal2⟩
    simp only [pjFT, HTree.val, n1, k4, k5, k6, wantC, ↓reduceIte, goal2]
end Go.Proofs.YtebkccfnilcfpaaGreatDoor
