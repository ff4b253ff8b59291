/- OrdC: joined of EqC, EqN, SameC, OrdC. -/
import Derived.Test.YthpapjdjnnkdbaaGreatDoorNthP

/- Contracts of slices.Equal at numbers (proved) and at weekdays (told). -/
namespace Go.Proofs.YthpapjdjnnkdbaaGreatDoor
set_option linter.unusedVariables false
set_option linter.unusedSimpArgs false
open Go Go.Sy Go.RowKit

theorem leafRR {ρ : Rho} {w : World} {s1 s2 : List Srt} {vs l' : List Value} (h : LeafR ρ w [.row s1, .row s2] vs l') : ∃ a b x y, vs = [a, b] ∧ l' = [x, y] ∧ RowIs ρ w s1 a x ∧ RowIs ρ w s2 b y := by
  rcases vs with _ | ⟨a, vs⟩
  · rcases l' with _ | ⟨x, l'⟩ <;> exact h.elim
  rcases l' with _ | ⟨x, l'⟩
  · exact h.elim
  obtain ⟨h1, h⟩ := h
  rcases vs with _ | ⟨b, vs⟩
  · rcases l' with _ | ⟨y, l'⟩ <;> exact h.elim
  rcases l' with _ | ⟨y, l'⟩
  · exact h.elim
  obtain ⟨h2, h⟩ := h
  rcases vs with _ | ⟨d, vs⟩
  · rcases l' with _ | ⟨u, l'⟩
    · exact ⟨a, b, x, y, rfl, rfl, h1, h2⟩
    · exact False.elim h
  · rcases l' with _ | ⟨u, l'⟩ <;> exact False.elim h

def equalI : GCtr where
  f := 8
  open_ a := some a
  sorts := [.row [.int .i64], .row [.int .i64]]
  wants l := match l with
    | [s, t] => [(sv 31 [hlen [.int .i64] s, .int .i64 16777216], true), (sv 31 [hlen [.int .i64] t, .int .i64 16777216], true)]
    | _ => [(.bool false, true)]
  dec _ := none
  val _ l _ := sv 5 (.int .i64 140 :: l)
  rows _ _ := []

def equalN : GCtr where
  f := 9
  open_ a := some a
  sorts := [.row [.int .i64, .int .i64], .row [.int .i64, .int .i64]]
  wants l := match l with
    | [s, t] => [(sv 31 [hlen [.int .i64, .int .i64] s, .int .i64 16777216], true), (sv 31 [hlen [.int .i64, .int .i64] t, .int .i64 16777216], true)]
    | _ => [(.bool false, true)]
  dec _ := none
  val _ l _ := sv 5 (.int .i64 141 :: l)
  rows _ _ := []

structure FnE (FN : Fns) : Prop where
  eqI : ∀ l m, FN.bool 140 [ints .i64 l, ints .i64 m] = decide (l = m)
  eqN : ∀ l m, FN.bool 141 [prs .i64 .i64 l, prs .i64 .i64 m] = decide (l = m)

theorem equalI_ok {FN : Fns} (hF : FnE FN) : GCtrOk FN equalI := by
  intro S args ls vs q hFN hopen hw _ ρ args' w g hv hd hleaf
  cases hopen
  have hl := hleaf _ hv
  simp only [equalI] at hl hw
  obtain ⟨s, t, x, y, rfl, hq, h1, h2⟩ := leafRR hl
  obtain ⟨a, c, l, rfl, e1, e2, e3⟩ := rowIs_ints h1
  obtain ⟨b, d, m, rfl, f1, f2, f3⟩ := rowIs_ints h2
  have hlt : l.length < 16777216 := by
    have := holds_lt g (hw (sv 31 [hlen [.int .i64] s, .int .i64 16777216], true) (by simp)) (hlen_vr (srts := [.int .i64]) e1 (n := l.length) (by simp [ints]) (by simp)) (.int _ _)
    simp only [decide_eq_true_eq] at this
    omega
  have hmt : m.length < 16777216 := by
    have := holds_lt g (hw (sv 31 [hlen [.int .i64] t, .int .i64 16777216], true) (by simp)) (hlen_vr (srts := [.int .i64]) f1 (n := m.length) (by simp [ints]) (by simp)) (.int _ _)
    simp only [decide_eq_true_eq] at this
    omega
  have ha : args' = #[.slice a l.length c, .slice b m.length d] := by apply Array.ext'; simpa using hq
  subst ha
  have hres : VR ρ (sv 5 [.int .i64 140, s, t]) (.bool (decide (l = m))) := sv_vr (VRs.cons (.int _ _) (vr2 e1 f1)) (by
    show some (Value.bool (ρ.env.fns.bool 140 [ints .i64 l, ints .i64 m])) = _
    rw [g.fns, hFN, hF.eqI])
  have hcall : Calls Tryz.prog 8 #[.slice a l.length c, .slice b m.length d] w fun e w' => e = .returned (.bool (decide (l = m))) ∧ Below w.heap.size w w' := by
    by_cases hn : l.length = m.length
    · rcases Nat.eq_zero_or_pos l.length with h0 | h0
      · have hl0 : l = [] := List.length_eq_zero_iff.1 h0
        have hm0 : m = [] := List.length_eq_zero_iff.1 (by omega)
        subst hl0; subst hm0
        exact (Tryz.slices_Equal_int_empty a b c 0 d w (by omega)).mono fun e w' ⟨he, hw⟩ => ⟨by simpa using he, Below.of_eq hw.symm⟩
      · obtain ⟨b1, o1, rfl, _, k1⟩ := e3 h0
        obtain ⟨b2, o2, rfl, _, k2⟩ := f3 (by omega)
        refine (Tryz.slices_Equal_int b1 o1 l.length c b2 o2 m.length d l m w (Nat.le_refl _) (Nat.le_refl _) (by omega) (by omega) k1 k2).mono fun e w' ⟨he, qq, hw⟩ => ⟨?_, ?_⟩
        · rw [he, List.take_length, List.take_length]
          congr 2
          rw [Bool.eq_iff_iff]
          simp
        · rw [hw]; exact below_drewN (Below.refl _ _) _
    · refine (Tryz.slices_Equal_int_lens a b l.length c m.length d w hn).mono fun e w' ⟨he, hw⟩ => ⟨?_, Below.of_eq hw.symm⟩
      rw [he]
      congr 2
      exact (decide_eq_false fun e => hn (by rw [e])).symm
  exact hcall.mono fun e w' ⟨he, hw'⟩ => ⟨_, [], he, hw', trivial, fun ρ' nx ext _ => hres.mono ext⟩

end Go.Proofs.YthpapjdjnnkdbaaGreatDoor

/- Contract of slices.Equal at weekdays: proved. -/
namespace Go.Proofs.YthpapjdjnnkdbaaGreatDoor
set_option linter.unusedVariables false
set_option linter.unusedSimpArgs false
open Go Go.Sy Go.RowKit Go.Proofs Go.Shelf

theorem neN : NeqAt Tryz.prog 23 (fun x => .agg (encN x).toArray) (fun x y => x.1 == y.1 && x.2 == y.2) := by
  refine ⟨fun x y w => ?_, GuardAt.agg _ (by kernel_rfl)⟩
  have u3 := Tryz.underlying3
  have a3 := Tryz.isAgg3
  have z3 := Tryz.sizeOf3
  have hS : Tryz.prog.underlying 23 = some (.struct (Tryz.prog.fieldsOf 23)) := by kernel_rfl
  have hp : Tryz.prog.stoodInHeld 23 = false := by kernel_rfl
  simp only [encN]
  rw [run_neq_struct, show (10000 : Nat) = 9999 + 1 from rfl, run_equalIn_agg w 9999 23 _ _ hS hp]
  simp only [Program.fieldsOf, Tryz.underlying23]
  go_simp
  by_cases h1 : x.fst = y.fst <;> by_cases h2 : x.snd = y.snd <;> simp [h1, h2]

theorem equal_lens (a1 a2 : Option Addr) (n c m d : Nat) (w : World) (h : n ≠ m) (hn : n < 16777216) (hm : m < 16777216) : Calls Tryz.prog 9 #[.slice a1 n c, .slice a2 m d] w fun e w' => e = .returned (.bool false) ∧ Below w.heap.size w w' := by
  have hne : ¬ ((n : Int) = (m : Int)) := by omega
  go_enter Tryz.func9, Tryz.ntmps9
  go_wp2
  go_ret
  exact ⟨rfl, (by (repeat (first | exact Below.refl _ _ | assumption | refine Below.drew ?_ | refine below_drewN ?_ _ | refine Below.alloc ?_ (by first | exact Nat.le_refl _ | omega | (simp <;> omega)) _ | refine Below.setCell ?_ (by first | exact Nat.le_refl _ | omega | (simp <;> omega)) _)))⟩

theorem equal_nil (a1 a2 : Option Addr) (c d : Nat) (w : World) : Calls Tryz.prog 9 #[.slice a1 0 c, .slice a2 0 d] w fun e w' => e = .returned (.bool true) ∧ Below w.heap.size w w' := by
  go_enter Tryz.func9, Tryz.ntmps9
  go_wp2
  go_loop [13] (fun i => i = .int .i64 0) (fun i => 0)
  case atStart => exact rfl
  case round =>
    subst hrel
    go_wp2
    go_ret
    exact ⟨rfl, (by (repeat (first | exact Below.refl _ _ | assumption | refine Below.drew ?_ | refine below_drewN ?_ _ | refine Below.alloc ?_ (by first | exact Nat.le_refl _ | omega | (simp <;> omega)) _ | refine Below.setCell ?_ (by first | exact Nat.le_refl _ | omega | (simp <;> omega)) _)))⟩

theorem allEq_dec : ∀ (l m : List (Int × Int)), Lib.allEq (fun x y => x.1 == y.1 && x.2 == y.2) l m = decide (l = m)
  | [], [] => by simp [Lib.allEq]
  | [], _ :: _ => by simp [Lib.allEq]
  | _ :: _, [] => by simp [Lib.allEq]
  | (a, b) :: r, (c, d) :: s => by
    have := allEq_dec r s
    rw [Bool.eq_iff_iff] at this ⊢
    simp only [decide_eq_true_eq] at this
    simp [Lib.allEq, this]

theorem equalN_ok {FN : Fns} (hF : FnE FN) : GCtrOk FN equalN := by
  intro S args ls vs q hFN hopen hw _ ρ args' w g hv hd hleaf
  cases hopen
  have hl := hleaf _ hv
  simp only [equalN] at hl hw
  obtain ⟨s, t, x, y, rfl, hq, h1, h2⟩ := leafRR hl
  obtain ⟨a, c, l, rfl, e1, e2, e3⟩ := rowIs_prs h1
  obtain ⟨b, d, m, rfl, f1, f2, f3⟩ := rowIs_prs h2
  have hlt : l.length < 16777216 := by
    have := holds_lt g (hw (sv 31 [hlen [.int .i64, .int .i64] s, .int .i64 16777216], true) (by simp)) (hlen_vr (srts := [.int .i64, .int .i64]) e1 (n := l.length) (by show (l.flatMap encN).toArray.size = _; simpa using flat_len l) (by simp)) (.int _ _)
    simp only [decide_eq_true_eq] at this
    omega
  have hmt : m.length < 16777216 := by
    have := holds_lt g (hw (sv 31 [hlen [.int .i64, .int .i64] t, .int .i64 16777216], true) (by simp)) (hlen_vr (srts := [.int .i64, .int .i64]) f1 (n := m.length) (by show (m.flatMap encN).toArray.size = _; simpa using flat_len m) (by simp)) (.int _ _)
    simp only [decide_eq_true_eq] at this
    omega
  have ha : args' = #[.slice a l.length c, .slice b m.length d] := by apply Array.ext'; simpa using hq
  subst ha
  have hres : VR ρ (sv 5 [.int .i64 141, s, t]) (.bool (decide (l = m))) := sv_vr (VRs.cons (.int _ _) (vr2 e1 f1)) (by
    show some (Value.bool (ρ.env.fns.bool 141 [prs .i64 .i64 l, prs .i64 .i64 m])) = _
    rw [g.fns, hFN, hF.eqN])
  have hcall : Calls Tryz.prog 9 #[.slice a l.length c, .slice b m.length d] w fun e w' => e = .returned (.bool (decide (l = m))) ∧ Below w.heap.size w w' := by
    by_cases hn : l.length = m.length
    · rcases Nat.eq_zero_or_pos l.length with h0 | h0
      · have hl0 : l = [] := List.length_eq_zero_iff.1 h0
        have hm0 : m = [] := List.length_eq_zero_iff.1 (by omega)
        subst hl0; subst hm0
        exact (equal_nil a b c d w).mono fun e w' ⟨he, hw⟩ => ⟨by simpa using he, hw⟩
      · obtain ⟨b1, o1, rfl, _, k1⟩ := e3 h0
        obtain ⟨b2, o2, rfl, _, k2⟩ := f3 (by omega)
        have cellsAt : ∀ {b o : Nat} {l : List (Int × Int)}, (∀ j, j < l.length * 2 → w.cell? ⟨b, o + j, none⟩ = (l.flatMap encN)[j]?) → ∀ j, j < l.length → ∀ i v, (encN l[j]!)[i]? = some v → w.cell? ⟨b, o + j * 2 + i, none⟩ = some v := by
          intro b o l k j hj i v hv
          have hi : i < 2 := by
            have := (List.getElem?_eq_some_iff.1 hv).1
            simpa [encN] using this
          rw [show o + j * 2 + i = o + (j * 2 + i) by omega, k (j * 2 + i) (by omega), flat_get l j i hj hi, ← hv]
          congr 2
          rw [getElem!_pos l j hj]
          simp [List.getD, List.getElem?_eq_getElem hj]
        refine (AnyQ.slices_Equal Tryz.equalNth 2 Tryz.isAgg23 Tryz.sizeOf23 encN (fun _ => rfl) _ neN b1 o1 l.length c b2 o2 m.length d l m w (Nat.le_refl _) (Nat.le_refl _) (by omega) (by omega) (cellsAt k1) (cellsAt k2)).mono fun e w' ⟨he, qq, hw⟩ => ⟨?_, ?_⟩
        · rw [he, List.take_length, List.take_length]
          congr 2
          exact allEq_dec l m
        · rw [hw]; exact below_drewN (Below.refl _ _) _
    · refine (equal_lens a b l.length c m.length d w hn hlt hmt).mono fun e w' ⟨he, hw⟩ => ⟨?_, hw⟩
      rw [he]
      congr 2
      exact (decide_eq_false fun e => hn (by rw [e])).symm
  exact hcall.mono fun e w' ⟨he, hw'⟩ => ⟨_, [], he, hw', trivial, fun ρ' nx ext _ => hres.mono ext⟩

end Go.Proofs.YthpapjdjnnkdbaaGreatDoor

/- rule.Same, told with memory. -/
namespace Go.Proofs.YthpapjdjnnkdbaaGreatDoor
set_option linter.unusedVariables false
set_option linter.unusedSimpArgs false
open Go Go.Sy Go.RowKit

def sameC : FCtr where
  f := 10
  nb := 0
  nl := 16
  args := [.agg #[lfi .i64 0, lfi .i64 1, lfi .i64 2, lfi .i64 3, nmR 0, nmR 1, nmR 2, nmR 3], .agg #[lfi .i64 4, lfi .i64 5, lfi .i64 6, lfi .i64 7, nmR 4, nmR 5, nmR 6, nmR 7]]
  objs := [.row [.int .i64] 8, .row [.int .i64] 9, .row [.int .i64, .int .i64] 10, .row [.int .i64] 11, .row [.int .i64] 12, .row [.int .i64] 13, .row [.int .i64, .int .i64] 14, .row [.int .i64] 15]
  srts := [some (.int .i64), some (.int .i64), some (.int .i64), some (.int .i64), some (.int .i64), some (.int .i64), some (.int .i64), some (.int .i64), none, none, none, none, none, none, none, none]
  wants := [(sv 31 [sv 74 [specL 0 8, .int .i64 1], .int .i64 16777216], true), (sv 31 [sv 74 [specL 0 9, .int .i64 1], .int .i64 16777216], true), (sv 31 [sv 74 [specL 0 10, .int .i64 2], .int .i64 16777216], true), (sv 31 [sv 74 [specL 0 11, .int .i64 1], .int .i64 16777216], true), (sv 31 [sv 74 [specL 0 12, .int .i64 1], .int .i64 16777216], true), (sv 31 [sv 74 [specL 0 13, .int .i64 1], .int .i64 16777216], true), (sv 31 [sv 74 [specL 0 14, .int .i64 2], .int .i64 16777216], true), (sv 31 [sv 74 [specL 0 15, .int .i64 1], .int .i64 16777216], true)]
  dec := none
  out _ := ⟨[lfb 0], [], [sv 5 [.int .i64 142, lfi .i64 0, lfi .i64 1, lfi .i64 2, lfi .i64 3, lfi .i64 4, lfi .i64 5, lfi .i64 6, lfi .i64 7, specL 0 8, specL 0 9, specL 0 10, specL 0 11, specL 0 12, specL 0 13, specL 0 14, specL 0 15]]⟩

structure FnQ (FN : Fns) : Prop extends FnE FN where
  same : ∀ a0 a1 a2 a3 b0 b1 b2 b3 m d k p m' d' k' p', FN.bool 142 [.int .i64 a0, .int .i64 a1, .int .i64 a2, .int .i64 a3, .int .i64 b0, .int .i64 b1, .int .i64 b2, .int .i64 b3, ints .i64 m, ints .i64 d, prs .i64 .i64 k, ints .i64 p, ints .i64 m', ints .i64 d', prs .i64 .i64 k', ints .i64 p'] = decide ((⟨a0, a1, a2, a3, m, d, k, p⟩ : RuleD) = ⟨b0, b1, b2, b3, m', d', k', p'⟩)

def toldSm : Tolds := ⟨[], [equalI, equalN], [], [], []⟩
theorem toldSm_ok {FN : Fns} (hF : FnE FN) : TOk FN toldSm := ⟨fun c h => (by cases h), fun c h => (by
    simp only [toldSm, List.mem_cons, List.not_mem_nil, or_false] at h
    rcases h with rfl | rfl
    · exact equalI_ok hF
    · exact equalN_ok hF), fun c h => (by cases h), fun c h => (by cases h), fun c h => (by cases h)⟩

def sameT : HTree := (.node (sv 30 [(sv 0 [.int .i64 0]), (sv 0 [.int .i64 4])])
  (.node (sv 30 [(sv 0 [.int .i64 1]), (sv 0 [.int .i64 5])])
  (.node (sv 30 [(sv 0 [.int .i64 2]), (sv 0 [.int .i64 6])])
  (.node (sv 30 [(sv 0 [.int .i64 3]), (sv 0 [.int .i64 7])])
  (.need (sv 31 [(sv 74 [(sv 98 [.int .i64 1000008]), .int .i64 1]), .int .i64 16777216]) true (.need (sv 31 [(sv 74 [(sv 98 [.int .i64 1000012]), .int .i64 1]), .int .i64 16777216]) true (.node (sv 5 [.int .i64 140, (sv 98 [.int .i64 1000008]), (sv 98 [.int .i64 1000012])])
  (.need (sv 31 [(sv 74 [(sv 98 [.int .i64 1000009]), .int .i64 1]), .int .i64 16777216]) true (.need (sv 31 [(sv 74 [(sv 98 [.int .i64 1000013]), .int .i64 1]), .int .i64 16777216]) true (.node (sv 5 [.int .i64 140, (sv 98 [.int .i64 1000009]), (sv 98 [.int .i64 1000013])])
  (.need (sv 31 [(sv 74 [(sv 98 [.int .i64 1000010]), .int .i64 2]), .int .i64 16777216]) true (.need (sv 31 [(sv 74 [(sv 98 [.int .i64 1000014]), .int .i64 2]), .int .i64 16777216]) true (.node (sv 5 [.int .i64 141, (sv 98 [.int .i64 1000010]), (sv 98 [.int .i64 1000014])])
  (.need (sv 31 [(sv 74 [(sv 98 [.int .i64 1000011]), .int .i64 1]), .int .i64 16777216]) true (.need (sv 31 [(sv 74 [(sv 98 [.int .i64 1000015]), .int .i64 1]), .int .i64 16777216]) true (.leaf .ret 0 [(sv 5 [.int .i64 140, (sv 98 [.int .i64 1000011]), (sv 98 [.int .i64 1000015])])])))
  (.leaf .ret 0 [.bool false]))))
  (.leaf .ret 0 [.bool false]))))
  (.leaf .ret 0 [.bool false]))))
  (.leaf .ret 0 [.bool false]))
  (.leaf .ret 0 [.bool false]))
  (.leaf .ret 0 [.bool false]))
  (.leaf .ret 0 [.bool false]))

theorem same_run {FN : Fns} : ∀ t1 t2 t3 t4, sameT.okF (fun F => arun (cfgH FN noRows toldSm F) 1000 10 sameC.args (canH 0 (heapOf 20 (vars t1 t2 t3 t4)) sameC.objs)) (fun F => ⟨20, F, FN, [], rows0⟩) 0 [⟨[(0, lfb 0)], [], 1⟩] [] = true := fun t1 t2 t3 t4 => by kernel_rfl

theorem sameC_ok {FN : Fns} (hF : FnQ FN) : FOk FN sameC := by
  refine fok_of (toldSm_ok hF.toFnE) (Tr := sameT) (F0 := []) (fins := [⟨[(0, lfb 0)], [], 1⟩]) (by decide) same_run (fun _ => 0) (fun _ => 1) (fun _ => 0) (fun q => ⟨_, rfl, rfl⟩) fun V ls q hlen hleaf hrow hask => ?_
  refine ⟨fun p hp => (by cases hp), ?_⟩
  obtain ⟨x0, hx0, hR0⟩ := hrow 0 8 [.int .i64] (.inl rfl) (by rw [hlen]; decide)
  obtain ⟨m, rfl⟩ := hasR_ints hR0
  obtain ⟨x1, hx1, hR1⟩ := hrow 1 9 [.int .i64] (.inl rfl) (by rw [hlen]; decide)
  obtain ⟨d, rfl⟩ := hasR_ints hR1
  obtain ⟨x2, hx2, hR2⟩ := hrow 2 10 [.int .i64, .int .i64] (.inl rfl) (by rw [hlen]; decide)
  obtain ⟨k, rfl⟩ := hasR_prs hR2
  obtain ⟨x3, hx3, hR3⟩ := hrow 3 11 [.int .i64] (.inl rfl) (by rw [hlen]; decide)
  obtain ⟨p, rfl⟩ := hasR_ints hR3
  obtain ⟨x4, hx4, hR4⟩ := hrow 4 12 [.int .i64] (.inl rfl) (by rw [hlen]; decide)
  obtain ⟨m', rfl⟩ := hasR_ints hR4
  obtain ⟨x5, hx5, hR5⟩ := hrow 5 13 [.int .i64] (.inl rfl) (by rw [hlen]; decide)
  obtain ⟨d', rfl⟩ := hasR_ints hR5
  obtain ⟨x6, hx6, hR6⟩ := hrow 6 14 [.int .i64, .int .i64] (.inl rfl) (by rw [hlen]; decide)
  obtain ⟨k', rfl⟩ := hasR_prs hR6
  obtain ⟨x7, hx7, hR7⟩ := hrow 7 15 [.int .i64] (.inl rfl) (by rw [hlen]; decide)
  obtain ⟨p', rfl⟩ := hasR_ints hR7
  match ls, hlen with
  | [y0, y1, y2, y3, y4, y5, y6, y7, y8, y9, y10, y11, y12, y13, y14, y15], _ =>
    simp only [List.getElem?_cons_zero, List.getElem?_cons_succ, Option.some.injEq] at hx0 hx1 hx2 hx3 hx4 hx5 hx6 hx7
    subst hx0; subst hx1; subst hx2; subst hx3; subst hx4; subst hx5; subst hx6; subst hx7
    obtain ⟨a0, rfl⟩ := hleaf 0 _ _ rfl rfl
    obtain ⟨a1, rfl⟩ := hleaf 1 _ _ rfl rfl
    obtain ⟨a2, rfl⟩ := hleaf 2 _ _ rfl rfl
    obtain ⟨a3, rfl⟩ := hleaf 3 _ _ rfl rfl
    obtain ⟨b0, rfl⟩ := hleaf 4 _ _ rfl rfl
    obtain ⟨b1, rfl⟩ := hleaf 5 _ _ rfl rfl
    obtain ⟨b2, rfl⟩ := hleaf 6 _ _ rfl rfl
    obtain ⟨b3, rfl⟩ := hleaf 7 _ _ rfl rfl
    have hask' : Asked (envL FN V 0 [.int .i64 a0, .int .i64 a1, .int .i64 a2, .int .i64 a3, .int .i64 b0, .int .i64 b1, .int .i64 b2, .int .i64 b3, ints .i64 m, ints .i64 d, prs .i64 .i64 k, ints .i64 p, ints .i64 m', ints .i64 d', prs .i64 .i64 k', ints .i64 p']) sameC.wants sameC.dec q := hask
    have I0 : (envL FN V 0 [.int .i64 a0, .int .i64 a1, .int .i64 a2, .int .i64 a3, .int .i64 b0, .int .i64 b1, .int .i64 b2, .int .i64 b3, ints .i64 m, ints .i64 d, prs .i64 .i64 k, ints .i64 p, ints .i64 m', ints .i64 d', prs .i64 .i64 k', ints .i64 p']).int 0 = a0 := rfl
    have I1 : (envL FN V 0 [.int .i64 a0, .int .i64 a1, .int .i64 a2, .int .i64 a3, .int .i64 b0, .int .i64 b1, .int .i64 b2, .int .i64 b3, ints .i64 m, ints .i64 d, prs .i64 .i64 k, ints .i64 p, ints .i64 m', ints .i64 d', prs .i64 .i64 k', ints .i64 p']).int 1 = a1 := rfl
    have I2 : (envL FN V 0 [.int .i64 a0, .int .i64 a1, .int .i64 a2, .int .i64 a3, .int .i64 b0, .int .i64 b1, .int .i64 b2, .int .i64 b3, ints .i64 m, ints .i64 d, prs .i64 .i64 k, ints .i64 p, ints .i64 m', ints .i64 d', prs .i64 .i64 k', ints .i64 p']).int 2 = a2 := rfl
    have I3 : (envL FN V 0 [.int .i64 a0, .int .i64 a1, .int .i64 a2, .int .i64 a3, .int .i64 b0, .int .i64 b1, .int .i64 b2, .int .i64 b3, ints .i64 m, ints .i64 d, prs .i64 .i64 k, ints .i64 p, ints .i64 m', ints .i64 d', prs .i64 .i64 k', ints .i64 p']).int 3 = a3 := rfl
    have I4 : (envL FN V 0 [.int .i64 a0, .int .i64 a1, .int .i64 a2, .int .i64 a3, .int .i64 b0, .int .i64 b1, .int .i64 b2, .int .i64 b3, ints .i64 m, ints .i64 d, prs .i64 .i64 k, ints .i64 p, ints .i64 m', ints .i64 d', prs .i64 .i64 k', ints .i64 p']).int 4 = b0 := rfl
    have I5 : (envL FN V 0 [.int .i64 a0, .int .i64 a1, .int .i64 a2, .int .i64 a3, .int .i64 b0, .int .i64 b1, .int .i64 b2, .int .i64 b3, ints .i64 m, ints .i64 d, prs .i64 .i64 k, ints .i64 p, ints .i64 m', ints .i64 d', prs .i64 .i64 k', ints .i64 p']).int 5 = b1 := rfl
    have I6 : (envL FN V 0 [.int .i64 a0, .int .i64 a1, .int .i64 a2, .int .i64 a3, .int .i64 b0, .int .i64 b1, .int .i64 b2, .int .i64 b3, ints .i64 m, ints .i64 d, prs .i64 .i64 k, ints .i64 p, ints .i64 m', ints .i64 d', prs .i64 .i64 k', ints .i64 p']).int 6 = b2 := rfl
    have I7 : (envL FN V 0 [.int .i64 a0, .int .i64 a1, .int .i64 a2, .int .i64 a3, .int .i64 b0, .int .i64 b1, .int .i64 b2, .int .i64 b3, ints .i64 m, ints .i64 d, prs .i64 .i64 k, ints .i64 p, ints .i64 m', ints .i64 d', prs .i64 .i64 k', ints .i64 p']).int 7 = b3 := rfl
    have V0 : (envL FN V 0 [.int .i64 a0, .int .i64 a1, .int .i64 a2, .int .i64 a3, .int .i64 b0, .int .i64 b1, .int .i64 b2, .int .i64 b3, ints .i64 m, ints .i64 d, prs .i64 .i64 k, ints .i64 p, ints .i64 m', ints .i64 d', prs .i64 .i64 k', ints .i64 p']).val 1000008 = ints .i64 m := rfl
    have V1 : (envL FN V 0 [.int .i64 a0, .int .i64 a1, .int .i64 a2, .int .i64 a3, .int .i64 b0, .int .i64 b1, .int .i64 b2, .int .i64 b3, ints .i64 m, ints .i64 d, prs .i64 .i64 k, ints .i64 p, ints .i64 m', ints .i64 d', prs .i64 .i64 k', ints .i64 p']).val 1000009 = ints .i64 d := rfl
    have V2 : (envL FN V 0 [.int .i64 a0, .int .i64 a1, .int .i64 a2, .int .i64 a3, .int .i64 b0, .int .i64 b1, .int .i64 b2, .int .i64 b3, ints .i64 m, ints .i64 d, prs .i64 .i64 k, ints .i64 p, ints .i64 m', ints .i64 d', prs .i64 .i64 k', ints .i64 p']).val 1000010 = prs .i64 .i64 k := rfl
    have V3 : (envL FN V 0 [.int .i64 a0, .int .i64 a1, .int .i64 a2, .int .i64 a3, .int .i64 b0, .int .i64 b1, .int .i64 b2, .int .i64 b3, ints .i64 m, ints .i64 d, prs .i64 .i64 k, ints .i64 p, ints .i64 m', ints .i64 d', prs .i64 .i64 k', ints .i64 p']).val 1000011 = ints .i64 p := rfl
    have V4 : (envL FN V 0 [.int .i64 a0, .int .i64 a1, .int .i64 a2, .int .i64 a3, .int .i64 b0, .int .i64 b1, .int .i64 b2, .int .i64 b3, ints .i64 m, ints .i64 d, prs .i64 .i64 k, ints .i64 p, ints .i64 m', ints .i64 d', prs .i64 .i64 k', ints .i64 p']).val 1000012 = ints .i64 m' := rfl
    have V5 : (envL FN V 0 [.int .i64 a0, .int .i64 a1, .int .i64 a2, .int .i64 a3, .int .i64 b0, .int .i64 b1, .int .i64 b2, .int .i64 b3, ints .i64 m, ints .i64 d, prs .i64 .i64 k, ints .i64 p, ints .i64 m', ints .i64 d', prs .i64 .i64 k', ints .i64 p']).val 1000013 = ints .i64 d' := rfl
    have V6 : (envL FN V 0 [.int .i64 a0, .int .i64 a1, .int .i64 a2, .int .i64 a3, .int .i64 b0, .int .i64 b1, .int .i64 b2, .int .i64 b3, ints .i64 m, ints .i64 d, prs .i64 .i64 k, ints .i64 p, ints .i64 m', ints .i64 d', prs .i64 .i64 k', ints .i64 p']).val 1000014 = prs .i64 .i64 k' := rfl
    have V7 : (envL FN V 0 [.int .i64 a0, .int .i64 a1, .int .i64 a2, .int .i64 a3, .int .i64 b0, .int .i64 b1, .int .i64 b2, .int .i64 b3, ints .i64 m, ints .i64 d, prs .i64 .i64 k, ints .i64 p, ints .i64 m', ints .i64 d', prs .i64 .i64 k', ints .i64 p']).val 1000015 = ints .i64 p' := rfl
    have E9 : (envL FN V 0 [.int .i64 a0, .int .i64 a1, .int .i64 a2, .int .i64 a3, .int .i64 b0, .int .i64 b1, .int .i64 b2, .int .i64 b3, ints .i64 m, ints .i64 d, prs .i64 .i64 k, ints .i64 p, ints .i64 m', ints .i64 d', prs .i64 .i64 k', ints .i64 p']).fns = FN := rfl
    show ∃ ex lo, sameT.val (envL FN V 0 [.int .i64 a0, .int .i64 a1, .int .i64 a2, .int .i64 a3, .int .i64 b0, .int .i64 b1, .int .i64 b2, .int .i64 b3, ints .i64 m, ints .i64 d, prs .i64 .i64 k, ints .i64 p, ints .i64 m', ints .i64 d', prs .i64 .i64 k', ints .i64 p']) = _ ∧ denL (den (envL FN V 0 [.int .i64 a0, .int .i64 a1, .int .i64 a2, .int .i64 a3, .int .i64 b0, .int .i64 b1, .int .i64 b2, .int .i64 b3, ints .i64 m, ints .i64 d, prs .i64 .i64 k, ints .i64 p, ints .i64 m', ints .i64 d', prs .i64 .i64 k', ints .i64 p']) 40) _ = _
    generalize envL FN V 0 [.int .i64 a0, .int .i64 a1, .int .i64 a2, .int .i64 a3, .int .i64 b0, .int .i64 b1, .int .i64 b2, .int .i64 b3, ints .i64 m, ints .i64 d, prs .i64 .i64 k, ints .i64 p, ints .i64 m', ints .i64 d', prs .i64 .i64 k', ints .i64 p'] = E at *
    have z0 := asked_facts hask' (e := sv 31 [sv 74 [specL 0 8, .int .i64 1], .int .i64 16777216]) (b := true) (by simp [sameC]) (c := decide ((m.length : Int) < 16777216)) (by simp [specL, den_sv, denL_cons, denL_nil, den_i, i98, i74i, i31, V0])
    have z1 := asked_facts hask' (e := sv 31 [sv 74 [specL 0 9, .int .i64 1], .int .i64 16777216]) (b := true) (by simp [sameC]) (c := decide ((d.length : Int) < 16777216)) (by simp [specL, den_sv, denL_cons, denL_nil, den_i, i98, i74i, i31, V1])
    have z2 := asked_facts hask' (e := sv 31 [sv 74 [specL 0 10, .int .i64 2], .int .i64 16777216]) (b := true) (by simp [sameC]) (c := decide ((k.length : Int) < 16777216)) (by simp [specL, den_sv, denL_cons, denL_nil, den_i, i98, i74p, i31, V2])
    have z3 := asked_facts hask' (e := sv 31 [sv 74 [specL 0 11, .int .i64 1], .int .i64 16777216]) (b := true) (by simp [sameC]) (c := decide ((p.length : Int) < 16777216)) (by simp [specL, den_sv, denL_cons, denL_nil, den_i, i98, i74i, i31, V3])
    have z4 := asked_facts hask' (e := sv 31 [sv 74 [specL 0 12, .int .i64 1], .int .i64 16777216]) (b := true) (by simp [sameC]) (c := decide ((m'.length : Int) < 16777216)) (by simp [specL, den_sv, denL_cons, denL_nil, den_i, i98, i74i, i31, V4])
    have z5 := asked_facts hask' (e := sv 31 [sv 74 [specL 0 13, .int .i64 1], .int .i64 16777216]) (b := true) (by simp [sameC]) (c := decide ((d'.length : Int) < 16777216)) (by simp [specL, den_sv, denL_cons, denL_nil, den_i, i98, i74i, i31, V5])
    have z6 := asked_facts hask' (e := sv 31 [sv 74 [specL 0 14, .int .i64 2], .int .i64 16777216]) (b := true) (by simp [sameC]) (c := decide ((k'.length : Int) < 16777216)) (by simp [specL, den_sv, denL_cons, denL_nil, den_i, i98, i74p, i31, V6])
    have z7 := asked_facts hask' (e := sv 31 [sv 74 [specL 0 15, .int .i64 1], .int .i64 16777216]) (b := true) (by simp [sameC]) (c := decide ((p'.length : Int) < 16777216)) (by simp [specL, den_sv, denL_cons, denL_nil, den_i, i98, i74i, i31, V7])
    simp only [decide_eq_true_eq] at z0 z1 z2 z3 z4 z5 z6 z7
    have hval : sameT.val E = some (.ret, 0, [.bool (decide ((⟨a0, a1, a2, a3, m, d, k, p⟩ : RuleD) = ⟨b0, b1, b2, b3, m', d', k', p'⟩))]) := by
      simp only [sameT, HTree.val, pickC, wantC, den_i, den_b, den_sv, denL_nil, denL_cons, Option.bind_some, i0, i5, i30, i31, i74i, i74p, i98, Int.reduceToNat, decide_true, if_true, I0, I1, I2, I3, I4, I5, I6, I7, V0, V1, V2, V3, V4, V5, V6, V7, E9, hF.eqI, hF.eqN, z0, z1, z2, z3, z4, z5, z6, z7, decide_eq_true_eq, RuleD.mk.injEq]
      by_cases c0 : a0 = b0 <;> by_cases c1 : a1 = b1 <;> by_cases c2 : a2 = b2 <;> by_cases c3 : a3 = b3 <;> by_cases c4 : m = m' <;> by_cases c5 : d = d' <;> by_cases c6 : k = k' <;> simp [c0, c1, c2, c3, c4, c5, c6]
    refine ⟨_, _, hval, ?_⟩
    simp only [sameC, lfi, specL, den_sv, denL_cons, denL_nil, den_i, Option.bind_some, i0, i5, i98, Int.reduceToNat, Int.toNat_natCast, Nat.reduceAdd, I0, I1, I2, I3, I4, I5, I6, I7, E9]
    simp [V0, V1, V2, V3, V4, V5, V6, V7, hF.same, i98]

end Go.Proofs.YthpapjdjnnkdbaaGreatDoor

/- rule.Order, told. -/
namespace Go.Proofs.YthpapjdjnnkdbaaGreatDoor
set_option linter.unusedVariables false
set_option linter.unusedSimpArgs false
open Go Go.Sy Go.RowKit

def orderC : FCtr where
  f := 6
  nb := 0
  nl := 4
  args := [.agg #[lfi .i64 0, lfi .i64 1], .agg #[lfi .i64 2, lfi .i64 3]]
  objs := []
  srts := [some (.int .i64), some (.int .i64), some (.int .i64), some (.int .i64)]
  wants := []
  dec := none
  out _ := ⟨[lfi .i64 0], [], [sv 4 [.int .i64 143, lfi .i64 0, lfi .i64 1, lfi .i64 2, lfi .i64 3]]⟩

def toldNo : Tolds := ⟨[], [], [], [], []⟩
theorem toldNo_ok {FN : Fns} : TOk FN toldNo := ⟨fun c h => (by cases h), fun c h => (by cases h), fun c h => (by cases h), fun c h => (by cases h), fun c h => (by cases h)⟩
def orderT : HTree := (.need (sv 30 [(sv 0 [.int .i64 0]), (sv 0 [.int .i64 0])]) true (.need (sv 30 [(sv 0 [.int .i64 2]), (sv 0 [.int .i64 2])]) true (.node (sv 31 [(sv 0 [.int .i64 0]), (sv 0 [.int .i64 2])])
  (.need (sv 30 [(sv 0 [.int .i64 1]), (sv 0 [.int .i64 1])]) true (.need (sv 30 [(sv 0 [.int .i64 3]), (sv 0 [.int .i64 3])]) true (.node (sv 31 [(sv 0 [.int .i64 1]), (sv 0 [.int .i64 3])])
  (.leaf .ret 0 [.int .i64 (-1)])
  (.node (sv 31 [(sv 0 [.int .i64 3]), (sv 0 [.int .i64 1])])
  (.leaf .ret 0 [.int .i64 (-1)])
  (.leaf .ret 0 [.int .i64 (-1)])))))
  (.node (sv 31 [(sv 0 [.int .i64 2]), (sv 0 [.int .i64 0])])
  (.need (sv 30 [(sv 0 [.int .i64 1]), (sv 0 [.int .i64 1])]) true (.need (sv 30 [(sv 0 [.int .i64 3]), (sv 0 [.int .i64 3])]) true (.node (sv 31 [(sv 0 [.int .i64 1]), (sv 0 [.int .i64 3])])
  (.leaf .ret 0 [.int .i64 1])
  (.node (sv 31 [(sv 0 [.int .i64 3]), (sv 0 [.int .i64 1])])
  (.leaf .ret 0 [.int .i64 1])
  (.leaf .ret 0 [.int .i64 1])))))
  (.need (sv 30 [(sv 0 [.int .i64 1]), (sv 0 [.int .i64 1])]) true (.need (sv 30 [(sv 0 [.int .i64 3]), (sv 0 [.int .i64 3])]) true (.node (sv 31 [(sv 0 [.int .i64 1]), (sv 0 [.int .i64 3])])
  (.leaf .ret 0 [.int .i64 (-1)])
  (.node (sv 31 [(sv 0 [.int .i64 3]), (sv 0 [.int .i64 1])])
  (.leaf .ret 0 [.int .i64 1])
  (.leaf .ret 0 [.int .i64 0])))))))))
theorem order_run {FN : Fns} : ∀ t1 t2 t3 t4, orderT.okF (fun F => arun (cfgH FN noRows toldNo F) 1000 6 orderC.args (canH 0 (heapOf 20 (vars t1 t2 t3 t4)) orderC.objs)) (fun F => ⟨20, F, FN, [], rows0⟩) 0 [⟨[(0, lfi .i64 0)], [], 1⟩] [] = true := fun t1 t2 t3 t4 => by kernel_rfl

theorem orderC_ok {FN : Fns} (hF : ∀ a b c d, FN.int 143 [.int .i64 a, .int .i64 b, .int .i64 c, .int .i64 d] = cmpN (a, b) (c, d)) : FOk FN orderC := by
  refine fok_of toldNo_ok (Tr := orderT) (F0 := []) (fins := [⟨[(0, lfi .i64 0)], [], 1⟩]) (by decide) order_run (fun _ => 0) (fun _ => 1) (fun _ => 0) (fun q => ⟨_, rfl, rfl⟩) fun V ls q hlen hleaf hrow hask => ?_
  refine ⟨fun p hp => (by cases hp), ?_⟩
  match ls, hlen with
  | [y0, y1, y2, y3], _ =>
    obtain ⟨a, rfl⟩ := hleaf 0 _ _ rfl rfl
    obtain ⟨b, rfl⟩ := hleaf 1 _ _ rfl rfl
    obtain ⟨c, rfl⟩ := hleaf 2 _ _ rfl rfl
    obtain ⟨d, rfl⟩ := hleaf 3 _ _ rfl rfl
    have I0 : (envL FN V 0 [.int .i64 a, .int .i64 b, .int .i64 c, .int .i64 d]).int 0 = a := rfl
    have I1 : (envL FN V 0 [.int .i64 a, .int .i64 b, .int .i64 c, .int .i64 d]).int 1 = b := rfl
    have I2 : (envL FN V 0 [.int .i64 a, .int .i64 b, .int .i64 c, .int .i64 d]).int 2 = c := rfl
    have I3 : (envL FN V 0 [.int .i64 a, .int .i64 b, .int .i64 c, .int .i64 d]).int 3 = d := rfl
    have E9 : (envL FN V 0 [.int .i64 a, .int .i64 b, .int .i64 c, .int .i64 d]).fns = FN := rfl
    show ∃ ex lo, orderT.val (envL FN V 0 [.int .i64 a, .int .i64 b, .int .i64 c, .int .i64 d]) = _ ∧ denL (den (envL FN V 0 [.int .i64 a, .int .i64 b, .int .i64 c, .int .i64 d]) 40) _ = _
    generalize envL FN V 0 [.int .i64 a, .int .i64 b, .int .i64 c, .int .i64 d] = E at *
    have hval : orderT.val E = some (.ret, 0, [.int .i64 (cmpN (a, b) (c, d))]) := by
      simp only [orderT, HTree.val, pickC, wantC, den_i, den_sv, denL_nil, denL_cons, Option.bind_some, i0, i30, i31, Int.reduceToNat, decide_true, if_true, I0, I1, I2, I3, decide_eq_true_eq, cmpN, cmpI]
      by_cases h1 : a < c <;> by_cases h2 : c < a <;> by_cases h3 : b < d <;> by_cases h4 : d < b <;> first | omega | simp [h1, h2, h3, h4]
    refine ⟨_, _, hval, ?_⟩
    simp only [orderC, lfi, den_sv, denL_cons, denL_nil, den_i, Option.bind_some, i0, i4, Int.reduceToNat, Int.toNat_natCast, I0, I1, I2, I3, E9]
    simp [I0, I1, I2, I3, hF]

end Go.Proofs.YthpapjdjnnkdbaaGreatDoor
