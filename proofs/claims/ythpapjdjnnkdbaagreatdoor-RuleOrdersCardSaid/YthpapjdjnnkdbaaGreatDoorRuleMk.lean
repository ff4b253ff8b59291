/- The plain meaning of chapter 2's maker of rules (kalendslaw02.Make): its lists rise, each may be; no program in sight. -/
import Derived.Test.YthpapjdjnnkdbaaGreatDoorRuleM
import Derived.Lib.SlicesCompact
namespace Go.Proofs.YthpapjdjnnkdbaaGreatDoor
set_option linter.unusedVariables false
set_option linter.unusedSimpArgs false

theorem chk_zero {α : Type} {may : α → Bool} {ord : α → α → Int} : ∀ (l : List α) (p : Option α), (∀ x ∈ l, may x = true) → (∀ q, p = some q → ∀ x ∈ l, ord q x < 0) → l.Pairwise (fun a b => ord a b < 0) → chkFrom may ord p l = 0
  | [], _, _, _, _ => rfl
  | x :: r, p, hm, hp, hl => by
    simp only [chkFrom]
    have h1 := hm x (by simp)
    have h2 : lateB ord p x = false := by
      cases p with
      | none => rfl
      | some q => rw [lateB_some, decide_eq_false_iff_not]; have := hp q rfl x (by simp); omega
    rw [h1, h2]
    rw [List.pairwise_cons] at hl
    simp only [Bool.true_eq_false, if_false, Bool.false_eq_true]
    exact chk_zero r (some x) (fun y hy => hm y (by simp [hy])) (fun q hq y hy => by injection hq with hq; subst hq; exact hl.1 y hy) hl.2

theorem chkList_zero {α : Type} {may : α → Bool} {ord : α → α → Int} {l : List α} (h : l.length ≤ 64) (hm : ∀ x ∈ l, may x = true) (hl : l.Pairwise (fun a b => ord a b < 0)) : chkList may ord l = 0 := by
  rw [chkList, if_neg (by omega)]
  exact chk_zero l none hm (fun q hq => by cases hq) hl

/-- sorted, each once -/
theorem compact_rises {zs : List Int} (h : zs.Pairwise (· ≤ ·)) : (Lib.compact zs).Pairwise (· < ·) := by
  unfold Lib.compact Lib.compactUpTo
  rw [List.pairwise_map]
  have hr : ((List.range zs.length).filter (Lib.keeps zs.toArray)).Pairwise (fun i j => i < j ∧ Lib.keeps zs.toArray j = true ∧ j < zs.length) := by
    have h1 : (List.range zs.length).Pairwise (· < ·) := List.pairwise_lt_range
    have h2 := h1.filter (Lib.keeps zs.toArray)
    rw [List.pairwise_iff_forall_sublist] at h2 ⊢
    intro a b hab
    have hb : b ∈ (List.range zs.length).filter (Lib.keeps zs.toArray) := hab.subset (by simp)
    rw [List.mem_filter, List.mem_range] at hb
    exact ⟨h2 hab, hb.2, hb.1⟩
  refine hr.imp ?_
  rintro i j ⟨hij, hk, hj⟩
  have hle : ∀ a b, a ≤ b → (hb : b < zs.length) → zs[a]! ≤ zs[b]! := by
    intro a b hab hb
    rcases Nat.lt_or_ge a b with hl | hg
    · have := List.pairwise_iff_getElem.1 h a b (by omega) hb hl
      rw [getElem!_pos zs a (by omega), getElem!_pos zs b hb]
      exact this
    · have : a = b := by omega
      subst this
      exact Int.le_refl _
  have hne : zs[j]! ≠ zs[j - 1]! := by
    unfold Lib.keeps at hk
    simp at hk
    rcases hk with hk | hk
    · omega
    · simpa using hk
  have h1 := hle i (j - 1) (by omega) (by omega)
  have h2 := hle (j - 1) j (by omega) hj
  show (zs.toArray)[i]! < (zs.toArray)[j]!
  have e : ∀ k, k < zs.length → (zs.toArray)[k]! = zs[k]! := fun k hk => by
    rw [getElem!_pos zs.toArray k (by simpa using hk), getElem!_pos zs k hk, List.getElem_toArray]
  rw [e i (by omega), e j hj]
  omega

theorem compact_mem {zs : List Int} {x : Int} (h : x ∈ Lib.compact zs) : x ∈ zs := by
  unfold Lib.compact Lib.compactUpTo at h
  obtain ⟨i, hi, rfl⟩ := List.mem_map.1 h
  have hi2 := List.mem_range.1 (List.mem_filter.1 hi).1
  rw [getElem!_pos zs.toArray i (by simpa using hi2), List.getElem_toArray]
  exact List.getElem_mem hi2

theorem compact_len (zs : List Int) : (Lib.compact zs).length ≤ zs.length := by
  unfold Lib.compact Lib.compactUpTo
  rw [List.length_map]
  exact Nat.le_trans (List.length_filter_le _ _) (by simp)

theorem sort_pair (zs : List Int) : (zs.mergeSort fun x y => decide (x ≤ y)).Pairwise (· ≤ ·) := by
  have := List.pairwise_mergeSort (le := fun x y : Int => decide (x ≤ y)) (by intro a b c h1 h2; simp only [decide_eq_true_eq] at *; omega) (by intro a b; simp only [Bool.or_eq_true, decide_eq_true_eq]; omega) zs
  exact this.imp fun h => by simpa using h

/-- few's gathering: each number's remainder, once, but 0 -/
def fewU (most : Int) (l : List Int) : List Int := l.foldl (fun acc n => if n.tmod (most + 1) ≠ 0 ∧ ¬ (n.tmod (most + 1) ∈ acc) then acc ++ [n.tmod (most + 1)] else acc) []
def fewL (most : Int) (l : List Int) : List Int := (fewU most l).mergeSort fun x y => decide (x ≤ y)

theorem fewU_snoc (most : Int) (l : List Int) (n : Int) : fewU most (l ++ [n]) = if n.tmod (most + 1) ≠ 0 ∧ ¬ (n.tmod (most + 1) ∈ fewU most l) then fewU most l ++ [n.tmod (most + 1)] else fewU most l := by
  unfold fewU; rw [List.foldl_append]; rfl

theorem fewU_inv (most : Int) (h0 : 0 ≤ most) : ∀ (l : List Int) (acc : List Int), acc.Nodup → (∀ x ∈ acc, mayNear most x = true) →
    (l.foldl (fun acc n => if n.tmod (most + 1) ≠ 0 ∧ ¬ (n.tmod (most + 1) ∈ acc) then acc ++ [n.tmod (most + 1)] else acc) acc).Nodup ∧
    (∀ x ∈ l.foldl (fun acc n => if n.tmod (most + 1) ≠ 0 ∧ ¬ (n.tmod (most + 1) ∈ acc) then acc ++ [n.tmod (most + 1)] else acc) acc, mayNear most x = true) ∧
    (l.foldl (fun acc n => if n.tmod (most + 1) ≠ 0 ∧ ¬ (n.tmod (most + 1) ∈ acc) then acc ++ [n.tmod (most + 1)] else acc) acc).length ≤ acc.length + l.length := by
  intro l
  induction l with
  | nil => intro acc h1 h2; exact ⟨h1, h2, by simp⟩
  | cons n r ih =>
    intro acc h1 h2
    simp only [List.foldl_cons]
    by_cases hc : n.tmod (most + 1) ≠ 0 ∧ ¬ (n.tmod (most + 1) ∈ acc)
    · rw [if_pos hc]
      have hb1 := Int.tmod_lt_of_pos n (b := most + 1) (by omega)
      have hb2 := Int.lt_tmod_of_pos n (b := most + 1) (by omega)
      have := ih (acc ++ [n.tmod (most + 1)]) (by
        rw [List.nodup_append]
        exact ⟨h1, by simp, fun a ha b hb => by simp only [List.mem_singleton] at hb; subst hb; rintro rfl; exact hc.2 ha⟩) (by
        intro x hx
        rcases List.mem_append.1 hx with hx | hx
        · exact h2 x hx
        · simp only [List.mem_singleton] at hx
          subst hx
          simp only [mayNear, decide_eq_true_eq]
          exact ⟨hc.1, by omega, by omega⟩)
      refine ⟨this.1, this.2.1, ?_⟩
      have := this.2.2
      simp at this ⊢
      omega
    · rw [if_neg hc]
      have := ih acc h1 h2
      refine ⟨this.1, this.2.1, ?_⟩
      have := this.2.2
      simp at this ⊢
      omega

theorem fewL_ok (most : Int) (h0 : 0 ≤ most) (l : List Int) : (fewL most l).Pairwise (· < ·) ∧ (∀ x ∈ fewL most l, mayNear most x = true) ∧ (fewL most l).length ≤ l.length := by
  obtain ⟨h1, h2, h3⟩ := fewU_inv most h0 l [] (by simp) (by simp)
  have hp : (fewL most l).Perm (fewU most l) := List.mergeSort_perm _ _
  refine ⟨?_, fun x hx => h2 x (hp.mem_iff.1 hx), by rw [hp.length_eq]; have h4 := h3; rw [List.length_nil, Nat.zero_add] at h4; exact h4⟩
  have hs := sort_pair (fewU most l)
  have hn : (fewL most l).Nodup := hp.nodup_iff.2 h1
  exact (List.Pairwise.and hs hn).imp fun ⟨a, b⟩ => by have : _ ≠ _ := b; omega

def monthsL (l : List Int) : List Int := Lib.compact ((l.map fun m => 1 + m % 12).mergeSort fun x y => decide (x ≤ y))

theorem monthsL_ok (l : List Int) : (monthsL l).Pairwise (· < ·) ∧ (∀ x ∈ monthsL l, mayMonth x = true) ∧ (monthsL l).length ≤ l.length := by
  refine ⟨compact_rises (sort_pair _), fun x hx => ?_, Nat.le_trans (compact_len _) (by rw [List.length_mergeSort, List.length_map]; exact Nat.le_refl _)⟩
  have h1 := compact_mem hx
  rw [List.mem_mergeSort] at h1
  obtain ⟨m, _, rfl⟩ := List.mem_map.1 h1
  simp only [mayMonth, decide_eq_true_eq]
  omega

/-- the weekdays, gathered: each once -/
def wdOf (most : Int) (w : Int × Int) : Int × Int := (w.1.tmod (most + 1), w.2 % 7)
def wdsU (most : Int) (l : List (Int × Int)) : List (Int × Int) := l.foldl (fun acc w => if wdOf most w ∈ acc then acc else acc ++ [wdOf most w]) []
theorem wdsU_snoc (most : Int) (l : List (Int × Int)) (w : Int × Int) : wdsU most (l ++ [w]) = if wdOf most w ∈ wdsU most l then wdsU most l else wdsU most l ++ [wdOf most w] := by
  unfold wdsU; rw [List.foldl_append]; rfl

theorem wdOf_may (most : Int) (h0 : 0 ≤ most) (w : Int × Int) : mayNth most (wdOf most w) = true := by
  have hb1 := Int.tmod_lt_of_pos w.1 (b := most + 1) (by omega)
  have hb2 := Int.lt_tmod_of_pos w.1 (b := most + 1) (by omega)
  unfold mayNth wdOf
  rw [decide_eq_true_iff]
  have h7 := Int.emod_lt_of_pos w.2 (b := 7) (by omega)
  exact ⟨Int.emod_nonneg _ (by omega), show w.2 % 7 ≤ 6 by omega, show -most ≤ w.1.tmod (most + 1) by omega, show w.1.tmod (most + 1) ≤ most by omega⟩

theorem wdsU_inv (most : Int) (h0 : 0 ≤ most) : ∀ (l acc : List (Int × Int)), acc.Nodup → (∀ x ∈ acc, mayNth most x = true) →
    (l.foldl (fun acc w => if wdOf most w ∈ acc then acc else acc ++ [wdOf most w]) acc).Nodup ∧
    (∀ x ∈ l.foldl (fun acc w => if wdOf most w ∈ acc then acc else acc ++ [wdOf most w]) acc, mayNth most x = true) ∧
    (l.foldl (fun acc w => if wdOf most w ∈ acc then acc else acc ++ [wdOf most w]) acc).length ≤ acc.length + l.length := by
  intro l
  induction l with
  | nil => intro acc h1 h2; exact ⟨h1, h2, by simp⟩
  | cons n r ih =>
    intro acc h1 h2
    simp only [List.foldl_cons]
    by_cases hc : wdOf most n ∈ acc
    · rw [if_pos hc]
      have := ih acc h1 h2
      refine ⟨this.1, this.2.1, ?_⟩
      have := this.2.2
      simp at this ⊢
      omega
    · rw [if_neg hc]
      have := ih (acc ++ [wdOf most n]) (by
        rw [List.nodup_append]
        exact ⟨h1, by simp, fun a ha b hb => by simp only [List.mem_singleton] at hb; subst hb; rintro rfl; exact hc ha⟩) (by
        intro x hx
        rcases List.mem_append.1 hx with hx | hx
        · exact h2 x hx
        · simp only [List.mem_singleton] at hx
          subst hx
          exact wdOf_may most h0 n)
      refine ⟨this.1, this.2.1, ?_⟩
      have := this.2.2
      simp at this ⊢
      omega

/-- how Make's own comparison orders two weekdays -/
def wdCmp (a b : Int × Int) : Int := (a.1 - b.1) * 100 + a.2 - b.2
theorem wdCmp_iff {most : Int} (hmost : most ≤ 100) {a b : Int × Int} (ha : mayNth most a = true) (hb : mayNth most b = true) : wdCmp a b < 0 ↔ cmpN a b < 0 := by
  rw [cmpN_lt]
  simp only [mayNth, decide_eq_true_eq] at ha hb
  unfold wdCmp
  omega
/-- a list of weekdays, each once, that Make's comparison has sorted, rises -/
theorem wds_rises {most : Int} (hmost : most ≤ 100) {l : List (Int × Int)} (hm : ∀ x ∈ l, mayNth most x = true) (hn : l.Nodup) (hs : l.Pairwise fun a b => ¬ wdCmp b a < 0) : l.Pairwise fun a b => cmpN a b < 0 := by
  have h := List.Pairwise.and hs hn
  rw [List.pairwise_iff_forall_sublist] at h ⊢
  intro a b hab
  obtain ⟨k1, k2⟩ := h hab
  have ha := hm a (hab.subset (by simp))
  have hb := hm b (hab.subset (by simp))
  rw [wdCmp_iff hmost hb ha, cmpN_lt] at k1
  rw [cmpN_lt]
  have : ¬ (a.1 = b.1 ∧ a.2 = b.2) := fun ⟨e1, e2⟩ => k2 (Prod.ext e1 e2)
  omega

/-- a rule's lists may be -/
structure OkLists (r : RuleD) : Prop where
  m1 : r.months.Pairwise (· < ·)
  m2 : ∀ x ∈ r.months, mayMonth x = true
  m3 : r.months.length ≤ 64
  d1 : r.days.Pairwise (· < ·)
  d2 : ∀ x ∈ r.days, mayNear 31 x = true
  d3 : r.days.length ≤ 64
  w1 : r.wds.Pairwise fun a b => cmpN a b < 0
  w2 : ∀ x ∈ r.wds, mayNth (mostOf r.freq) x = true
  w3 : r.wds.length ≤ 64
  p1 : r.pos.Pairwise (· < ·)
  p2 : ∀ x ∈ r.pos, mayNear 366 x = true
  p3 : r.pos.length ≤ 64

theorem rises_cmp {l : List Int} (h : l.Pairwise (· < ·)) : l.Pairwise fun a b => cmpI a b < 0 := h.imp fun h => (cmpI_lt _ _).2 h

theorem OkLists.lst {r : RuleD} (h : OkLists r) : lstOf r = 0 := by
  rw [lstOf, chkList_zero h.m3 h.m2 (rises_cmp h.m1), chkList_zero h.d3 h.d2 (rises_cmp h.d1), chkList_zero h.w3 h.w2 h.w1, chkList_zero h.p3 h.p2 (rises_cmp h.p1)]
  rfl

/-- a rule whose numbers and lists may be: none, or the last error -/
theorem OkLists.chk {r : RuleD} (h : OkLists r) (h1 : 0 ≤ r.freq ∧ r.freq < 4) (h2 : 1 ≤ r.itv ∧ r.itv ≤ 999) (h3 : 0 ≤ r.cnt ∧ r.cnt ≤ 9999) (h4 : r.untl = 0 ∨ isDay r.untl = true) (h5 : r.cnt ≤ 0 ∨ r.untl ≤ 0) :
    chkOf r = if (r.freq = 1 ∧ r.days ≠ []) ∨ (r.pos ≠ [] ∧ r.months = [] ∧ r.days = [] ∧ r.wds = []) then 6 else 0 := by
  have h0 : ¬ (r.freq < 0 ∨ 4 ≤ r.freq) := by omega
  have h6 : ¬ (r.itv < 1 ∨ 999 < r.itv ∨ r.cnt < 0 ∨ 9999 < r.cnt ∨ (r.untl ≠ 0 ∧ isDay r.untl = false)) := by
    rcases h4 with h4 | h4 <;> rw [h4] <;> simp <;> omega
  rw [chkOf, if_neg h0, if_neg h6, if_neg (by omega), h.lst, if_neg (by simp)]

/-- lists that are less by some -/
theorem OkLists.fewer {r s : RuleD} (h : OkLists r) (hf : s.freq = r.freq) (hm : s.months.Sublist r.months) (hd : s.days.Sublist r.days) (hw : s.wds.Sublist r.wds) (hp : s.pos.Sublist r.pos) : OkLists s :=
  ⟨h.m1.sublist hm, fun x hx => h.m2 x (hm.subset hx), Nat.le_trans hm.length_le h.m3, h.d1.sublist hd, fun x hx => h.d2 x (hd.subset hx), Nat.le_trans hd.length_le h.d3,
    h.w1.sublist hw, fun x hx => by rw [hf]; exact h.w2 x (hw.subset hx), Nat.le_trans hw.length_le h.w3, h.p1.sublist hp, fun x hx => h.p2 x (hp.subset hx), Nat.le_trans hp.length_le h.p3⟩

theorem mostOf_bd (f : Int) : 0 ≤ mostOf f ∧ mostOf f ≤ 100 := by unfold mostOf; split <;> (try split) <;> omega

/-- what Make makes of lists may be -/
theorem made_ok {f itv cnt untl : Int} {ms ds ps : List Int} {ws wl : List (Int × Int)} (hms : ms.length ≤ 20) (hds : ds.length ≤ 20) (hws : ws.length ≤ 20) (hps : ps.length ≤ 20)
    (hp : wl.Perm (wdsU (mostOf f) ws)) (hs : wl.Pairwise fun a b => ¬ wdCmp b a < 0) (days pos : List Int) (hd : days = [] ∨ days = fewL 31 ds) (hpo : pos = [] ∨ pos = fewL 366 ps) :
    OkLists ⟨f, itv, cnt, untl, monthsL ms, days, wl, pos⟩ := by
  obtain ⟨a1, a2, a3⟩ := monthsL_ok ms
  obtain ⟨b1, b2, b3⟩ := fewL_ok 31 (by omega) ds
  obtain ⟨c1, c2, c3⟩ := fewL_ok 366 (by omega) ps
  have mb := mostOf_bd f
  obtain ⟨e1, e2, e3⟩ := wdsU_inv (mostOf f) mb.1 ws [] (by simp) (by simp)
  have e2' : ∀ x ∈ wl, mayNth (mostOf f) x = true := fun x hx => e2 x (hp.mem_iff.1 hx)
  have e3' : wl.length ≤ 20 := by rw [hp.length_eq]; have h4 := e3; rw [List.length_nil, Nat.zero_add] at h4; exact Nat.le_trans h4 hws
  refine ⟨a1, a2, by simp only; omega, ?_, ?_, ?_, wds_rises mb.2 e2' (hp.nodup_iff.2 e1) hs, e2', by simp only; omega, ?_, ?_, ?_⟩
  · rcases hd with rfl | rfl
    · exact List.Pairwise.nil
    · exact b1
  · rcases hd with rfl | rfl
    · intro x hx; cases hx
    · exact b2
  · rcases hd with rfl | rfl
    · simp
    · simp only; omega
  · rcases hpo with rfl | rfl
    · exact List.Pairwise.nil
    · exact c1
  · rcases hpo with rfl | rfl
    · intro x hx; cases hx
    · exact c2
  · rcases hpo with rfl | rfl
    · simp
    · simp only; omega
end Go.Proofs.YthpapjdjnnkdbaaGreatDoor
