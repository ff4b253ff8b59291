/- MkBX: joined of MkW, MkS, MkB. -/
import Derived.Test.YthpapjdjnnkdbaaGreatDoorFewW
import Derived.Test.YthpapjdjnnkdbaaGreatDoorShelfG
import Derived.Laws.StructEq

/- Library functions at weekdays: slices.Contains, slices.SortFunc with Make's own comparison. -/
namespace Go.Proofs.YthpapjdjnnkdbaaGreatDoor
set_option linter.unusedVariables false
set_option linter.unusedSimpArgs false
open Go.RowKit Go.Proofs Go.Shelf

def encN (x : Int × Int) : List Value := [.int .i64 x.1, .int .i64 x.2]

theorem eqN : EqlAt Tryz.prog 23 (fun x => .agg (encN x).toArray) (fun x y => x.1 == y.1 && x.2 == y.2) := by
  refine ⟨fun x y w => ?_, GuardAt.agg _ (by kernel_rfl)⟩
  have u3 := Tryz.underlying3
  have a3 := Tryz.isAgg3
  have z3 := Tryz.sizeOf3
  have hS : Tryz.prog.underlying 23 = some (.struct (Tryz.prog.fieldsOf 23)) := by kernel_rfl
  have hp : Tryz.prog.stoodInHeld 23 = false := by kernel_rfl
  simp only [encN]
  rw [run_eql_struct, show (10000 : Nat) = 9999 + 1 from rfl, run_equalIn_agg w 9999 23 _ _ hS hp]
  simp only [Program.fieldsOf, Tryz.underlying23]
  go_simp
  by_cases h1 : x.fst = y.fst <;> by_cases h2 : x.snd = y.snd <;> simp [h1, h2]

theorem flat_get (l : List (Int × Int)) : ∀ (j i : Nat), j < l.length → i < 2 → (l.flatMap encN)[j * 2 + i]? = (encN (l.getD j (0, 0)))[i]? := by
  induction l with
  | nil => intro j i h; simp at h
  | cons a r ih =>
    intro j i hj hi
    match j with
    | 0 =>
      rw [List.flatMap_cons, List.getElem?_append_left (by simp [encN]; omega)]
      simp [List.getD]
    | j + 1 =>
      rw [List.flatMap_cons, List.getElem?_append_right (by simp [encN]; omega)]
      have e : (j + 1) * 2 + i - (encN a).length = j * 2 + i := by simp [encN]; omega
      rw [e, ih j i (by simpa using hj) hi]
      simp [List.getD]

theorem index_nil (N D : Int) (c : Nat) (w : World) : Calls Tryz.prog 31 #[.slice none 0 c, .agg #[.int .i64 N, .int .i64 D]] w fun e w' => e = .returned (.int .i64 (-1)) ∧ Below w.heap.size w w' := by
  go_enter Tryz.func31, Tryz.ntmps31
  go_wp2
  go_loop [8] (fun i => i = .int .i64 0) (fun i => 0)
  case atStart => exact rfl
  case round =>
    subst hrel
    go_wp2
    go_ret
    exact ⟨rfl, (by (repeat (first | exact Below.refl _ _ | assumption | refine Below.drew ?_ | refine below_drewN ?_ _ | refine Below.alloc ?_ (by first | exact Nat.le_refl _ | omega | (simp <;> omega)) _ | refine Below.setCell ?_ (by first | exact Nat.le_refl _ | omega | (simp <;> omega)) _)))⟩

theorem contains_nth {base : Nat} {v : Value} {l : List (Int × Int)} {w : World} (h : w.ownsRow base 23 2 v l.length (l.flatMap encN)) (x : Int × Int) (hl : l.length ≤ 1000000) :
    Calls Tryz.prog 18 #[v, .agg #[.int .i64 x.1, .int .i64 x.2]] w fun e w' => e = .returned (.bool (decide (x ∈ l))) ∧ Below w.heap.size w w' := by
  rcases h.2 with ⟨rfl, hz⟩ | ⟨g, cap, cur, rfl, hb, hg, _⟩
  · have hl0 : l = [] := List.length_eq_zero_iff.1 hz
    subst hl0
    have IX := index_nil x.1 x.2 0
    go_enter Tryz.func18, Tryz.ntmps18
    go_wp2_with fail
    refine (IX _).mono ?_
    rintro e w1 ⟨rfl, hb1⟩
    go_wp2
    go_ret
    exact ⟨by simp, ((Below.refl _ _).alloc (Nat.le_refl _) _).trans (hb1.mono (by simp))⟩
  · refine (AnyQ.slices_Contains Tryz.containsNth 2 Tryz.isAgg23 Tryz.sizeOf23 encN (fun _ => rfl) _ eqN g 0 l.length cap l x w (Nat.le_refl _) (by omega) ?_).mono fun e w' ⟨he, hw⟩ => ⟨?_, hw⟩
    · intro j hj i v hv
      have hi : i < 2 := by
        have := (List.getElem?_eq_some_iff.1 hv).1
        simpa [encN] using this
      rw [Nat.zero_add, h.cellAt (j * 2 + i) (by omega), flat_get l j i hj hi, ← hv]
      congr 2
      rw [getElem!_pos l j hj]
      simp [List.getD, List.getElem?_eq_getElem hj]
    · rw [he, List.take_length]
      congr 2
      rw [Bool.eq_iff_iff]
      simp only [List.any_eq_true, Bool.and_eq_true, beq_iff_eq, decide_eq_true_eq]
      constructor
      · rintro ⟨y, hy, h1, h2⟩
        have : x = y := Prod.ext h1 h2
        rw [this]; exact hy
      · intro hx
        exact ⟨x, hx, rfl, rfl⟩
end Go.Proofs.YthpapjdjnnkdbaaGreatDoor

/- Make's own comparison of weekdays, for slices.SortFunc. -/
namespace Go.Proofs.YthpapjdjnnkdbaaGreatDoor
set_option linter.unusedVariables false
set_option linter.unusedSimpArgs false
open Go.RowKit Go.Proofs Go.Shelf Go.Sort

abbrev NthS := { x : Int × Int // -100 ≤ x.1 ∧ x.1 ≤ 100 ∧ 0 ≤ x.2 ∧ x.2 ≤ 6 }
instance : Inhabited NthS := ⟨⟨(0, 0), by decide⟩⟩
def encS (x : NthS) : List Value := encN x.1
def cfS (x y : NthS) : Int := wdCmp x.1 y.1

theorem cfS_total (x y : NthS) (h1 : ltOf cfS x y = false) (h2 : ltOf cfS y x = false) : x = y := by
  obtain ⟨⟨a, b⟩, hx⟩ := x
  obtain ⟨⟨c, d⟩, hy⟩ := y
  have k1 : ¬ ((a - c) * 100 + b - d < 0) := of_decide_eq_false h1
  have k2 : ¬ ((c - a) * 100 + d - b < 0) := of_decide_eq_false h2
  simp only at hx hy
  apply Subtype.ext
  exact Prod.ext (by simp only; omega) (by simp only; omega)

theorem ltS (x y : NthS) : ltOf cfS x y = decide ((x.1.1 - y.1.1) * 100 + x.1.2 - y.1.2 < 0) := rfl

theorem cfS_swo : SWO (ltOf cfS) where
  irrefl x := by rw [ltS, decide_eq_false_iff_not]; omega
  trans x y z h1 h2 := by
    rw [ltS, decide_eq_true_iff] at h1 h2 ⊢
    omega
  ntrans x y z h1 h2 := by
    rw [ltS, decide_eq_false_iff_not] at h1 h2 ⊢
    omega

theorem closureN (x y : NthS) (W : World) : Calls Tryz.prog 20 #[.agg (encS x).toArray, .agg (encS y).toArray] W fun e w' => e = .returned (.int .i64 (cfS x y)) ∧ ∃ q os', w' = grow (W.drewN q) os' := by
  obtain ⟨⟨a, b⟩, a1, a2, b1, b2⟩ := x
  obtain ⟨⟨c, d⟩, c1, c2, d1, d2⟩ := y
  simp only at a1 a2 b1 b2 c1 c2 d1 d2
  have HR : Hid ((a - c) * 100 + b - d = cfS ⟨(a, b), a1, a2, b1, b2⟩ ⟨(c, d), c1, c2, d1, d2⟩) := rfl
  generalize cfS ⟨(a, b), a1, a2, b1, b2⟩ ⟨(c, d), c1, c2, d1, d2⟩ = r at *
  show Calls Tryz.prog 20 #[.agg #[.int .i64 a, .int .i64 b], .agg #[.int .i64 c, .int .i64 d]] W _
  go_enter Tryz.func20, Tryz.ntmps20
  go_wp2
  go_ret
  exact ⟨ret_int HR.out, 0, _, by rw [alloc_eq_grow, alloc_eq_grow, grow_grow]; rfl⟩

theorem cmpLaysN (blk off size : Nat) (w : World) : CmpLays Tryz.prog 20 #[] encS 2 cfS blk off size w :=
  fun _ _ _ _ x y => closureN x y _
end Go.Proofs.YthpapjdjnnkdbaaGreatDoor

/- From an owned row of weekdays to the sort's words and back. -/
namespace Go.Proofs.YthpapjdjnnkdbaaGreatDoor
set_option linter.unusedVariables false
set_option linter.unusedSimpArgs false
open Go.RowKit Go.Proofs Go.Shelf Go.Sort

theorem flat_len (l : List (Int × Int)) : (l.flatMap encN).length = l.length * 2 := by
  induction l with
  | nil => rfl
  | cons a r ih => rw [List.flatMap_cons, List.length_append, ih]; simp [encN]; omega

theorem flat_eq (ls : List NthS) : (flatK encS 2 ls.toArray).toList = (ls.map (·.1)).flatMap encN := by
  have hz : (flatK encS 2 ls.toArray).toList.length = ls.length * 2 := by simp
  apply List.ext_getElem?
  intro t
  by_cases ht : t < ls.length * 2
  · have h2 : t / 2 < ls.length := by omega
    have e : t = t / 2 * 2 + t % 2 := by omega
    have h3 := flat_get (ls.map (·.1)) (t / 2) (t % 2) (by simpa using h2) (by omega)
    rw [← e] at h3
    rw [h3, List.getElem?_eq_getElem (by rw [hz]; exact ht)]
    have h4 := get_flatK encS 2 ls.toArray t (by simpa using ht)
    rw [getElem!_pos _ t (by simpa using ht)] at h4
    rw [Array.getElem_toList, h4]
    have h5 : ls.toArray[t / 2]! = ls[t / 2] := by rw [getElem!_pos ls.toArray _ (by simpa using h2), List.getElem_toArray]
    have h6 : (ls.map (·.1)).getD (t / 2) (0, 0) = (ls[t / 2]).1 := by simp [List.getD, h2]
    rw [h5, h6]
    have h7 : t % 2 < (encN (ls[t / 2]).1).length := by simp [encN]; omega
    rw [List.getElem?_eq_getElem h7, encS, getElem!_pos (encN (ls[t / 2]).1) (t % 2) h7]
  · rw [List.getElem?_eq_none (by rw [hz]; omega), List.getElem?_eq_none (by rw [flat_len]; simp; omega)]

theorem holdsK_of_own {base : Nat} {e : TypeId} {g cap : Nat} {w : World} (ls : List NthS) (h : w.ownsRow base e 2 (.slice (some ⟨g, 0, none⟩) ls.length cap) ls.length ((ls.map (·.1)).flatMap encN)) : HoldsK encS 2 w g 0 ls.toArray := by
  intro j hj
  have hj' : j < ls.length * 2 := by simpa using hj
  refine ⟨?_, by rw [Nat.zero_add]; exact h.frozenAt j⟩
  rw [Nat.zero_add, h.cellAt j hj', ← flat_eq, Array.getElem?_toList, Array.getElem?_eq_getElem hj, getElem!_pos (flatK encS 2 ls.toArray) j hj]
  rfl

theorem ownsRow_putRowK {base : Nat} {e : TypeId} {g cap q : Nat} {w : World} (ls ms : List NthS) (hl : ms.length = ls.length) (h : w.ownsRow base e 2 (.slice (some ⟨g, 0, none⟩) ls.length cap) ls.length ((ls.map (·.1)).flatMap encN)) :
    (putRowK encS 2 (Sort.ahead w q) g 0 ms.toArray).ownsRow base e 2 (.slice (some ⟨g, 0, none⟩) ls.length cap) ls.length ((ms.map (·.1)).flatMap encN) := by
  rcases h.2 with ⟨e0, _⟩ | ⟨g', cap', cur, e0, hb, hg, hn, hm, hs, ht⟩
  · cases e0
  · injection e0 with e1 _ e3
    injection e1 with e1
    injection e1 with e1
    subst e1; subst e3
    refine ⟨by rw [flat_len]; simp [hl], .inr ⟨g, cap, putCells id 0 (flatK encS 2 ms.toArray) cur, rfl, hb, ?_, hn, hm, by simpa [putCells] using hs, ?_⟩⟩
    · simp [putRowK, putRow, mapBlock, Sort.ahead, Array.getElem?_modify, hg, onCells]
    · apply List.ext_getElem?
      intro j
      rw [List.getElem?_take, ← flat_eq, Array.getElem?_toList, Array.getElem?_toList]
      by_cases hj : j < ls.length * 2
      · have hjc : j < cur.size := by omega
        have hjf : j < (flatK encS 2 ms.toArray).size := by simp; omega
        rw [if_pos hj]
        simp only [putCells, Array.getElem?_mapIdx, Array.getElem?_eq_getElem hjc, Option.map_some]
        rw [if_pos (by simp; omega), Array.getElem?_eq_getElem hjf, Nat.sub_zero, getElem!_pos (flatK encS 2 ms.toArray) j hjf]
        rfl
      · rw [if_neg hj, Array.getElem?_eq_none (by simp; omega)]

theorem sort_nth {base : Nat} {v : Value} {l : List (Int × Int)} {w : World} (h : w.ownsRow base 23 2 v l.length (l.flatMap encN)) (hm : ∀ x ∈ l, -100 ≤ x.1 ∧ x.1 ≤ 100 ∧ 0 ≤ x.2 ∧ x.2 ≤ 6) (hl : l.length ≤ 1000000) (hb : base ≤ w.heap.size) :
    Calls Tryz.prog 19 #[v, .func (.func 20) #[] #[]] w fun e w' => e = .returned (.tuple #[]) ∧ ∃ wl : List (Int × Int), wl.Perm l ∧ wl.Pairwise (fun a b => ¬ wdCmp b a < 0) ∧ w'.ownsRow base 23 2 v l.length (wl.flatMap encN) ∧ Below base w w' := by
  rcases h.2 with ⟨rfl, hz⟩ | ⟨g, cap, cur, rfl, hbg, hg, _⟩
  · have hl0 : l = [] := List.length_eq_zero_iff.1 hz
    subst hl0
    refine (AnyF.slices_SortFunc_none Tryz.sortNth none 0 _ w).mono fun e w' ⟨he, hw⟩ => ⟨he, [], List.Perm.refl _, List.Pairwise.nil, ?_, Below.of_eq hw.symm⟩
    rw [hw]
    exact h
  · obtain ⟨ls, hls⟩ : ∃ ls : List NthS, ls.map (·.1) = l := ⟨l.attach.map fun x => ⟨x.1, hm x.1 x.2⟩, by rw [List.map_map]; exact List.attach_map_subtype_val l⟩
    subst hls
    rw [List.length_map] at h hl
    have hlt : g < w.heap.size := (Array.getElem?_eq_some_iff.1 hg).1
    have eg : ∀ args w, (callFunc 20 args).run Tryz.prog w = .ok (.enter 20 args) w := enters_of Tryz.func20 (by kernel_rfl) rfl
    have hcon := AnyQ.slices_SortFunc_total Tryz.sortNth 2 Tryz.isAgg23 Tryz.sizeOf23 encS (fun _ => rfl) (fun x v hv => by simp [encS, encN] at hv; rcases hv with rfl | rfl <;> rfl) cfS cfS_swo 20 #[] g 0 cap ls.toArray w eg (cmpLaysN g 0 ls.toArray.size w) (holdsK_of_own ls h) hlt (by simp; omega) cfS_total
    rw [List.length_map]
    refine (show Calls Tryz.prog 19 #[.slice (some ⟨g, 0, none⟩) ls.length cap, .func (.func 20) #[] #[]] w _ from hcon).mono fun e w' ⟨he, n, os, hw⟩ => ⟨he, (ls.mergeSort fun x y => !(ltOf cfS) y x).map (·.1), (List.mergeSort_perm ls _).map _, ?_, ?_, ?_⟩
    · rw [List.pairwise_map]
      have hp := List.pairwise_mergeSort (le := fun x y : NthS => !(ltOf cfS) y x) (by
        intro a b c h1 h2
        simp only [ltS, Bool.not_eq_true', decide_eq_false_iff_not] at h1 h2 ⊢
        omega) (by
        intro a b
        simp only [ltS, Bool.or_eq_true, Bool.not_eq_true', decide_eq_false_iff_not]
        omega) ls
      exact hp.imp fun hab => by
        simp only [ltS, Bool.not_eq_true', decide_eq_false_iff_not] at hab
        exact hab
    · rw [hw]
      exact Lib.ownsRow_grow (ownsRow_putRowK (q := n) ls (ls.mergeSort fun x y => !(ltOf cfS) y x) (List.length_mergeSort _) h) 0 os
    · rw [hw]
      have h1 : Below base w (putRow id (Sort.ahead w n) g 0 (flatK encS 2 (ls.mergeSort fun x y => !(ltOf cfS) y x).toArray)) := Lib.below_putRow (Below.refl _ _) hbg
      exact h1.trans (Lib.below_grow base _ (Nat.le_trans hb h1.size) 0 os)
end Go.Proofs.YthpapjdjnnkdbaaGreatDoor
