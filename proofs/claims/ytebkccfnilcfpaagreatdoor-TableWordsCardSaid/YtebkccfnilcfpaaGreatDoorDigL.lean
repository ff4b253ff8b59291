/- Loops that go over digits. -/
import Derived.Test.YtebkccfnilcfpaaGreatDoorSyAw
namespace Go.Proofs.YtebkccfnilcfpaaGreatDoor
set_option linter.unusedVariables false
set_option linter.unusedSimpArgs false
open Go Go.Sy Go.RowKit

def isDig (c : UInt8) : Bool := Nat.ble 48 c.toNat && Nat.ble c.toNat 57

theorem isDig_iff {c : UInt8} : isDig c = true ↔ 48 ≤ c.toNat ∧ c.toNat ≤ 57 := by simp [isDig, Nat.ble_eq]
theorem isDig_no {c : UInt8} (h : ¬ (48 ≤ c.toNat ∧ c.toNat ≤ 57)) : isDig c = false := by rw [Bool.eq_false_iff]; exact fun h' => h (isDig_iff.1 h')

/-- How many digits there are from some place on. -/
def digRun (s : ByteArray) (k : Nat) : Nat := ((s.data.toList.drop k).takeWhile isDig).length

theorem digRun_end {s : ByteArray} {k : Nat} (h : s.size ≤ k) : digRun s k = 0 := by
  unfold digRun
  rw [List.drop_eq_nil_of_le (by simpa using h)]
  rfl

theorem digRun_stop {s : ByteArray} {k : Nat} {c : UInt8} (h : s.data.toList[k]? = some c) (hc : isDig c = false) : digRun s k = 0 := by
  unfold digRun
  obtain ⟨hk, he⟩ := List.getElem?_eq_some_iff.1 h
  rw [List.drop_eq_getElem_cons hk, he, List.takeWhile_cons, hc]
  rfl

theorem digRun_next {s : ByteArray} {k : Nat} {c : UInt8} (h : s.data.toList[k]? = some c) (hc : isDig c = true) : digRun s k = digRun s (k + 1) + 1 := by
  unfold digRun
  obtain ⟨hk, he⟩ := List.getElem?_eq_some_iff.1 h
  rw [List.drop_eq_getElem_cons hk, he, List.takeWhile_cons, hc]
  simp

theorem digRun_le {s : ByteArray} {k : Nat} (h : k ≤ s.size) : k + digRun s k ≤ s.size := by
  unfold digRun
  have h1 : ((s.data.toList.drop k).takeWhile isDig).length ≤ (s.data.toList.drop k).length := (List.takeWhile_sublist _).length_le
  have h2 : (s.data.toList.drop k).length = s.size - k := by simp
  omega

/-- The round of such a loop: the text in one temporary, the place in another. -/
def digRT (a b id : Nat) : CTree :=
  .node (sv 31 [sv 0 [.int .i64 0], sv 10 [sv 2 [.int .i64 0]]])
    (.need (sv 31 [sv 0 [.int .i64 0], .int .i64 0]) false
      (.node (sv 31 [sv 12 [sv 2 [.int .i64 0], sv 0 [.int .i64 0]], .int .u8 48])
        (.leaf (.exit id) [(a, sv 2 [.int .i64 0]), (b, sv 0 [.int .i64 0])])
        (.node (sv 31 [.int .u8 57, sv 12 [sv 2 [.int .i64 0], sv 0 [.int .i64 0]]])
          (.leaf (.exit id) [(a, sv 2 [.int .i64 0]), (b, sv 0 [.int .i64 0])])
          (.leaf .normal [(a, sv 2 [.int .i64 0]), (b, sv 20 [.int .i64 0, sv 0 [.int .i64 0], .int .i64 1])]))))
    (.leaf (.exit id) [(a, sv 2 [.int .i64 0]), (b, sv 0 [.int .i64 0])])

def digRound (FN : Fns) (K : RowsK) (nt a b id : Nat) (hab : a ≠ b) (kills : List Nat) : Round FN K nt [(a, sv 2 [.int .i64 0]), (b, sv 0 [.int .i64 0])] kills (digRT a b id) [] (ByteArray × Nat) where
  env V s := mkE FN K.r [(s.2 : Int)] [] [s.1] V
  st s := [(a, .string s.1), (b, .int .i64 s.2)]
  Inv s := s.2 ≤ s.1.size ∧ s.1.size ≤ 4611686018427387904
  μ s := s.1.size - s.2
  fin s := (.exit id, [(a, .string s.1), (b, .int .i64 ((s.2 + digRun s.1 s.2 : Nat) : Int))])
  facts V s _ p hp := by cases hp
  base V s := ⟨rfl, rfl, rfl⟩
  keys s t := rfl
  vals V s _ p hp ρ hρ := by
    simp only [List.mem_cons, List.not_mem_nil, or_false] at hp
    rcases hp with rfl | rfl
    · exact ⟨.string s.1, by simp, vr_str hρ _ _ rfl⟩
    · exact ⟨.int .i64 s.2, by simp, vr_int hρ _ _ rfl⟩
  step V s hI := by
    obtain ⟨s, k⟩ := s
    obtain ⟨h1, h2⟩ := hI
    simp only at h1 h2
    have E0 : ∀ i, (mkE FN K.r [(k : Int)] [] [s] V).int i = [(k : Int)].getD i 0 := fun _ => rfl
    have E1 : ∀ i, (mkE FN K.r [(k : Int)] [] [s] V).str i = [s].getD i ⟨#[]⟩ := fun _ => rfl
    by_cases hk : k < s.size
    · have hget : s.data.toList[k]? = some s.data.toList[k] := List.getElem?_eq_getElem (by simpa using hk)
      generalize s.data.toList[k]'(by simpa using hk) = c at hget
      have hkI : (k : Int) < (s.size : Int) := by omega
      have hkI0 : ¬ (k : Int) < 0 := by omega
      have hval : (digRT a b id).val (mkE FN K.r [(k : Int)] [] [s] V) = if (c.toNat : Int) < 48 then some (.exit id, [(a, .string s), (b, .int .i64 k)]) else if (57 : Int) < c.toNat then some (.exit id, [(a, .string s), (b, .int .i64 k)]) else some (.normal, [(a, .string s), (b, .int .i64 ((k : Int) + 1))]) := by
        simp (disch := omega) only [digRT, CTree.val, pickC, wantC, den_i, den_s, den_sv, denL_nil, denL_cons, denO, Option.bind_some, i0, i2, i10, i12 _ hget, i20, i31, E0, E1, getD_z, Int.reduceToNat, wr64, hkI, hkI0, decide_true, decide_false, if_true, decide_eq_true_eq]
      rw [hval]
      by_cases c1 : (c.toNat : Int) < 48
      · rw [if_pos c1]
        refine ⟨_, _, rfl, fun t => rfl, .inr ⟨by simp, ?_⟩⟩
        simp only [digRun_stop hget (isDig_no (by omega)), Nat.add_zero]
      · rw [if_neg c1]
        by_cases c2 : (57 : Int) < c.toNat
        · rw [if_pos c2]
          refine ⟨_, _, rfl, fun t => rfl, .inr ⟨by simp, ?_⟩⟩
          simp only [digRun_stop hget (isDig_no (by omega)), Nat.add_zero]
        · rw [if_neg c2]
          refine ⟨_, _, rfl, fun t => rfl, .inl ⟨rfl, (s, k + 1), ⟨by simp only; omega, h2⟩, by simp only; omega, ?_, by simp⟩⟩
          simp only [digRun_next hget (isDig_iff.2 (by omega))]
          rw [show k + 1 + digRun s (k + 1) = k + (digRun s (k + 1) + 1) by omega]
    · have hkI : ¬ (k : Int) < (s.size : Int) := by omega
      have hval : (digRT a b id).val (mkE FN K.r [(k : Int)] [] [s] V) = some (.exit id, [(a, .string s), (b, .int .i64 k)]) := by
        simp (disch := omega) only [digRT, CTree.val, pickC, den_i, den_s, den_sv, denL_nil, denL_cons, denO, Option.bind_some, i0, i2, i10, i31, E0, E1, getD_z, Int.reduceToNat, hkI, decide_false, Bool.false_eq_true, if_false]
      rw [hval]
      refine ⟨_, _, rfl, fun t => rfl, .inr ⟨by simp, ?_⟩⟩
      simp only [digRun_end (show s.size ≤ k by omega), Nat.add_zero]

/-- Such a loop, as it is told. -/
def digLC (f : FuncId) (p nt a b id : Nat) (kills : List Nat) : LCtr where
  f := f
  p := p
  nt := nt
  ins := [(a, some .str), (b, some (.int .i64))]
  wants l := match l with
    | [s, k] => [(sv 31 [k, .int .i64 0], false), (sv 31 [slen s, k], false), (sv 31 [.int .i64 4611686018427387904, slen s], false)]
    | _ => []
  dec _ := none
  outs _ l := match l with
    | [s, k] => (.exit id, [(a, s), (b, sv 4 [.int .i64 10, s, k])])
    | _ => (.normal, [])
  kills := kills

theorem sorts2' {s t : Option Srt} {args : List Value} (h : sortsOk [s, t] args = true) : ∃ a b, args = [a, b] := by
  match args with
  | [a, b] => exact ⟨a, b, rfl⟩
  | [] => simp [sortsOk] at h
  | [_] => cases s <;> simp [sortsOk] at h
  | _ :: _ :: _ :: _ => cases s <;> cases t <;> simp [sortsOk] at h

theorem vrsl2_inv {ρ : Rho} {a b x y : Value} (h : VRs ρ [a, b] [x, y]) : VR ρ a x ∧ VR ρ b y := by
  obtain ⟨_, _, e, h1, h2⟩ := h.cons_inv
  cases e
  obtain ⟨_, _, e, h3, h4⟩ := h2.cons_inv
  cases e
  exact ⟨h1, h3⟩

theorem digLC_ok {FN : Fns} (hFN : ∀ s k, FN.int 10 [.string s, .int .i64 (k : Nat)] = ((k + digRun s k : Nat) : Int)) {f : FuncId} {p nt a b id : Nat} {kills : List Nat} (hab : a ≠ b) (hl : isLoop f p = true) (hn : nt < 100000) (ha : a < nt) (hb : b < nt)
    (h : ∀ t1 t2 t3 t4, (digRT a b id).ok (fun F => ev (cfgS FN noRows [] [] F) 1000 (some (f, 2 * p)) none (loopAt f p) (frCan nt [(a, sv 2 [.int .i64 0]), (b, sv 0 [.int .i64 0])]) (heapOf 20 (vars t1 t2 t3 t4))) nt kills [] = true) :
    LCtrOk FN (digLC f p nt a b id kills) := by
  obtain ⟨fn, bd, k, h1, h2, h3⟩ := loop_at hl
  refine ⟨fn, bd, _, k, h1, h2, h3, fun S args q hF hs hw hq ρ ac w g hv hwl hrow hsz hd n => ?_⟩
  obtain ⟨x, y, rfl⟩ := sorts2' hs
  simp only [digLC, List.map_cons, List.map_nil, sortsOk, Bool.and_true, Bool.and_eq_true, decide_eq_true_eq] at hs
  obtain ⟨vx, vy⟩ := vrsl2_inv hv
  obtain ⟨s, es⟩ := HasS.of hs.1 vx
  obtain ⟨m, em⟩ := HasS.of hs.2 vy
  rw [es] at vx
  rw [em] at vy
  simp only [digLC, List.mem_cons, List.not_mem_nil, or_false, forall_eq_or_imp, forall_eq] at hw
  have w1 := holds_lt g hw.1 vy (.int _ _)
  have w2 := holds_lt g hw.2.1 (slen_vr vx) vy
  have w3 := holds_lt g hw.2.2 (.int _ _) (slen_vr vx)
  simp only [decide_eq_false_iff_not] at w1 w2 w3
  obtain ⟨m, rfl⟩ := Int.eq_ofNat_of_zero_le (show 0 ≤ m by omega)
  have es' : s.data.toList.length = s.size := by simp
  have R := round_loop (cs := []) (ls := []) (by intro c h; cases h) (by intro c h; cases h) h1 h2 h3 hn (by intro p hp; simp only [List.mem_cons, List.not_mem_nil, or_false] at hp; rcases hp with rfl | rfl <;> assumption) h
    (digRound FN noRows nt a b id hab kills) (s := (s, m)) ⟨by simp only; omega, by simp only; omega⟩ (a := ac) (w := w) hsz hd
    (by intro p hp; simp only [digRound, List.mem_cons, List.not_mem_nil, or_false] at hp; rcases hp with rfl | rfl <;> assumption) hwl (by intro r hr; cases hr) n
  refine wpIn_mono R fun e a' w' ⟨q1, q2, q3, q4, q5, q6⟩ => ⟨q1, q2, q3, fun p hp => ?_, fun t ht hk ho => q5 t ht hk ?_, q6⟩
  · simp only [digLC, List.mem_cons, List.not_mem_nil, or_false] at hp
    rcases hp with rfl | rfl
    · rw [q4 (a, .string s) (by simp [digRound])]; exact vx
    · rw [q4 (b, .int .i64 ((m + digRun s m : Nat) : Int)) (by simp [digRound])]
      exact sv_vr (vr3 (.int _ _) vx vy) (by simp only [interp, g.fns, hF]; rw [← hFN s m]; rfl)
  · simpa [digLC, hasT] using ho
end Go.Proofs.YtebkccfnilcfpaaGreatDoor
