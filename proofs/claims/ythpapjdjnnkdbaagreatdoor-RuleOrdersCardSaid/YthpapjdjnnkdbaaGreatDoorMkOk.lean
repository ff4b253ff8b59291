/- What Make makes: its lists may be; its rule has no error. No program in sight. -/
import Derived.Test.YthpapjdjnnkdbaaGreatDoorMkF
namespace Go.Proofs.YthpapjdjnnkdbaaGreatDoor
set_option linter.unusedVariables false
set_option linter.unusedSimpArgs false
open Go Go.Sy

theorem mkMs_eq {l : List Int} (h : ∀ x ∈ l, 0 ≤ x) : mkMs l = monthsL l := by
  have : l.map mkAF = l.map fun m => 1 + m % 12 := List.map_congr_left fun x hx => by
    rw [mkAF, Int.tmod_eq_emod_of_nonneg (h x hx)]
  rw [mkMs, monthsL, this]

/-- numbers that a small kind may bear -/
def SmI (l : List Int) : Prop := ∀ x ∈ l, -32768 ≤ x ∧ x ≤ 32767
def SmP (l : List (Int × Int)) : Prop := ∀ x ∈ l, -128 ≤ x.1 ∧ x.1 ≤ 127 ∧ 0 ≤ x.2

theorem wrap_all {l : List Int} (h : SmI l) : l.map IntKind.i64.wrap = l := by
  conv => rhs; rw [← List.map_id l]
  exact List.map_congr_left fun x hx => by have := h x hx; rw [wr64 (by omega) (by omega)]; rfl

theorem mkB_eq {l : List Int} (h : SmI l) : l.map mkBF = l := wrap_all h
theorem mkD_eq {l : List Int} (h : SmI l) : l.map mkDF = l := wrap_all h

theorem wdX_eq {m : Int} {x : Int × Int} (h : -128 ≤ x.1 ∧ x.1 ≤ 127 ∧ 0 ≤ x.2) : wdX m x = wdOf m x := by
  rw [wdX, wdOf, wr64 (by omega) (by omega), Int.tmod_eq_emod_of_nonneg h.2.2]

theorem wdsX_eq {m : Int} {l : List (Int × Int)} (h : SmP l) : wdsX m l = wdsU m l := by
  have key : ∀ (l acc : List (Int × Int)), SmP l → l.foldl (fun acc w => if wdX m w ∈ acc then acc else acc ++ [wdX m w]) acc = l.foldl (fun acc w => if wdOf m w ∈ acc then acc else acc ++ [wdOf m w]) acc := by
    intro l
    induction l with
    | nil => intro acc _; rfl
    | cons x r ih =>
      intro acc h
      simp only [List.foldl_cons, wdX_eq (h x (by simp))]
      exact ih _ fun y hy => h y (by simp [hy])
  exact key l [] h

theorem mkWs_perm (m : Int) (l : List (Int × Int)) : (mkWs m l).Perm (wdsX m l) := List.mergeSort_perm _ _

theorem mkWs_sorted {m : Int} (l : List (Int × Int)) : (mkWs m l).Pairwise fun a b => ¬ wdCmp b a < 0 := by
  have := List.pairwise_mergeSort (le := fun a b : Int × Int => decide (¬ wdCmp b a < 0)) (by
    intro a b c h1 h2
    have h1 := of_decide_eq_true h1
    have h2 := of_decide_eq_true h2
    refine decide_eq_true ?_
    unfold wdCmp at *
    omega) (by
    intro a b
    rw [Bool.or_eq_true, decide_eq_true_iff, decide_eq_true_iff]
    unfold wdCmp
    omega) (wdsX m l)
  exact this.imp fun h => by simpa using h

theorem mkMost_eq (f : Int) : mkMost f = mostOf f := rfl

structure Small (ms ds : List Int) (ws : List (Int × Int)) (ps : List Int) : Prop where
  m : ∀ x ∈ ms, 0 ≤ x
  d : SmI ds
  w : SmP ws
  p : SmI ps
  lm : ms.length ≤ 20
  ld : ds.length ≤ 20
  lw : ws.length ≤ 20
  lp : ps.length ≤ 20

theorem mk_ok {f itv cnt untl : Int} {ms ds ps : List Int} {ws : List (Int × Int)} (h : Small ms ds ws ps) :
    OkLists ⟨f, itv, cnt, untl, mkMs ms, mkDsL f ds, mkWs (mkMost f) ws, mkPs f ms ds ws ps⟩ := by
  rw [mkMs_eq h.m]
  refine made_ok h.lm h.ld h.lw h.lp (wl := mkWs (mkMost f) ws) (by rw [← mkMost_eq, ← wdsX_eq h.w]; exact mkWs_perm _ _) (mkWs_sorted ws) _ _ ?_ ?_
  · rw [mkDsL, mkB_eq h.d]
    split
    · exact .inl rfl
    · exact .inr rfl
  · rw [mkPs, mkD_eq h.p]
    split
    · exact .inr rfl
    · exact .inl rfl

theorem mk_none {f : Int} {ms ds ps : List Int} {ws : List (Int × Int)} : ¬ ((f = 1 ∧ mkDsL f ds ≠ []) ∨ (mkPs f ms ds ws ps ≠ [] ∧ mkMs ms = [] ∧ mkDsL f ds = [] ∧ mkWs (mkMost f) ws = [])) := by
  rintro (⟨h1, h2⟩ | ⟨h1, h2, h3, h4⟩)
  · exact h2 (by rw [mkDsL, if_pos h1])
  · exact h1 (by rw [mkPs, h2, h3, h4]; rfl)

theorem mkIv_bd {n : Int} (h0 : 0 ≤ n) (h1 : n ≤ 255) : 1 ≤ mkIv n ∧ mkIv n ≤ 999 := by
  unfold mkIv
  have a1 := Int.tmod_nonneg 5 h0
  have a2 := Int.tmod_lt_of_pos n (b := 5) (by omega)
  have b1 := Int.tmod_nonneg 6 h0
  have b2 := Int.tmod_lt_of_pos n (b := 6) (by omega)
  rw [wr64 (n := n.tmod 5) (by omega) (by omega), wr64 (n := n.tmod 6) (by omega) (by omega), wr64 (by omega) (by omega), wr64 (by omega) (by omega)]
  split <;> omega

theorem mkCo_bd {a b : Int} (h0 : 0 ≤ b) (h1 : b ≤ 65535) : 0 ≤ mkCo a b ∧ mkCo a b ≤ 9999 := by
  unfold mkCo
  rw [wr64 (n := b) (by omega) (by omega)]
  have a1 := Int.tmod_nonneg 9999 h0
  have a2 := Int.tmod_lt_of_pos b (b := 9999) (by omega)
  rw [wr64 (by omega) (by omega)]
  split <;> omega

theorem isDay_of {n : Int} (h0 : 1 ≤ n) (h1 : n ≤ 3652059) : isDay n = true := by
  simp only [isDay, Bool.and_eq_true, decide_eq_true_eq]
  omega

theorem untl_bd {b : Int} (h0 : 0 ≤ b) : IntKind.i64.wrap (1 + IntKind.i64.wrap (b.tmod 3652059)) = 1 + b.tmod 3652059 ∧ 0 ≤ b.tmod 3652059 ∧ b.tmod 3652059 < 3652059 := by
  have a1 := Int.tmod_nonneg 3652059 h0
  have a2 := Int.tmod_lt_of_pos b (b := 3652059) (by omega)
  rw [wr64 (n := b.tmod 3652059) (by omega) (by omega), wr64 (by omega) (by omega)]
  exact ⟨rfl, a1, a2⟩

theorem mkTo_ok {a b : Int} (h0 : 0 ≤ b) : mkTo a b = 0 ∨ isDay (mkTo a b) = true := by
  obtain ⟨h1, h2, h3⟩ := untl_bd h0
  unfold mkTo
  rw [h1]
  split
  · exact .inl rfl
  · split
    · exact .inr (isDay_of (by omega) (by omega))
    · exact .inl rfl

theorem mk_one {a b c : Int} : mkCo a b ≤ 0 ∨ mkTo a c ≤ 0 := by
  unfold mkCo mkTo
  by_cases h : a.tmod 4 = 0
  · right; rw [if_pos h]; exact Int.le_refl 0
  · left; rw [if_neg h]; exact Int.le_refl 0

/-- What Make makes has no error. -/
theorem mk_chk {n0 n1 n2 n3 n4 : Int} {ms ds ps : List Int} {ws : List (Int × Int)} (h : Small ms ds ws ps) (h0 : 0 ≤ n0) (h1 : 0 ≤ n1 ∧ n1 ≤ 255) (h3 : 0 ≤ n3 ∧ n3 ≤ 65535) (h4 : 0 ≤ n4) :
    chkOf ⟨n0.tmod 4, mkIv n1, mkCo n2 n3, mkTo n2 n4, mkMs ms, mkDsL (n0.tmod 4) ds, mkWs (mkMost (n0.tmod 4)) ws, mkPs (n0.tmod 4) ms ds ws ps⟩ = 0 := by
  have r0 := Int.tmod_nonneg 4 h0
  have r1 := Int.tmod_lt_of_pos n0 (b := 4) (by omega)
  generalize n0.tmod 4 = f at *
  exact ((mk_ok h).chk ⟨r0, r1⟩ (mkIv_bd h1.1 h1.2) (mkCo_bd h3.1 h3.2) (mkTo_ok h4) mk_one).trans (if_neg mk_none)
end Go.Proofs.YthpapjdjnnkdbaaGreatDoor
