/- The walks of a rule's check. -/
import Derived.Test.YtbmdlcagaikdaaaDoorRuleN
namespace Go.Proofs.YtbmdlcagaikdaaaDoor
set_option linter.unusedVariables false
set_option linter.unusedSimpArgs false
open Go.RowKit Go.Proofs

/-- a rule's four lists lie in memory -/
structure RuleIn (w : World) (r : RuleD) (A1 : Option Addr) (n1 : Nat) (A2 : Option Addr) (n2 : Nat) (A3 : Option Addr) (n3 : Nat) (A4 : Option Addr) (n4 : Nat) : Prop where
  months : SlI w A1 n1 r.months
  days : SlI w A2 n2 r.days
  wds : SlN w A3 n3 r.wds
  pos : SlI w A4 n4 r.pos

theorem RuleIn.below {w w' : World} {r : RuleD} {A1 : Option Addr} {n1 : Nat} {A2 : Option Addr} {n2 : Nat} {A3 : Option Addr} {n3 : Nat} {A4 : Option Addr} {n4 : Nat} (h : RuleIn w r A1 n1 A2 n2 A3 n3 A4 n4) (hb : Below w.heap.size w w') :
    RuleIn w' r A1 n1 A2 n2 A3 n3 A4 n4 := ⟨h.months.below hb, h.days.below hb, h.wds.below hb, h.pos.below hb⟩

/-- has a rule one of months, days, weekdays? -/
def hasLists (r : RuleD) : Bool := decide (0 < r.months.length + r.days.length + r.wds.length)

theorem hasLists_any (r : RuleD) (A1 : Option Addr) (n1 c1 : Nat) (A2 : Option Addr) (n2 c2 : Nat) (A3 : Option Addr) (n3 c3 : Nat) (v4 : Value) (w : World)
    (h1 : r.months.length = n1) (h2 : r.days.length = n2) (h3 : r.wds.length = n3) (s1 : n1 ≤ 2000000000000000000) (s2 : n2 ≤ 2000000000000000000) (s3 : n3 ≤ 2000000000000000000) (hv : v4.oneCell' = true) :
    Calls Tryd.prog 13 #[.agg #[.int .i64 r.freq, .int .i64 r.itv, .int .i64 r.cnt, .int .i64 r.untl, .slice A1 n1 c1, .slice A2 n2 c2, .slice A3 n3 c3, v4]] w
      fun e w' => e = .returned (.bool (hasLists r)) ∧ Below w.heap.size w w' := by
  have H1 := Lib.hid h1
  have H2 := Lib.hid h2
  have H3 := Lib.hid h3
  clear h1 h2 h3
  have HR : Hid (hasLists r = decide ((0 : Int) < ↑n1 + ↑n2 + ↑n3)) := by show _ = _; rw [hasLists, H1.out, H2.out, H3.out, decide_eq_decide]; omega
  go_enter Tryd.func13, Tryd.ntmps13
  go_wp2
  go_ret
  exact ⟨ret_bool HR.out.symm, (by (repeat (first | exact Below.refl _ _ | assumption | refine Below.drew ?_ | refine below_drewN ?_ _ | refine Below.alloc ?_ (by first | exact Nat.le_refl _ | omega | (simp <;> omega)) _ | refine Below.setCell ?_ (by first | exact Nat.le_refl _ | omega | (simp <;> omega)) _)))⟩


set_option maxRecDepth 100000 in
set_option maxHeartbeats 1000000 in
theorem lists_5 (r : RuleD) (A1 : Option Addr) (n1 c1 : Nat) (A2 : Option Addr) (n2 c2 : Nat) (A3 : Option Addr) (n3 c3 : Nat) (A4 : Option Addr) (n4 c4 : Nat) (w : World) (h : RuleIn w r A1 n1 A2 n2 A3 n3 A4 n4) (hf : r.freq = 2) :
    Calls Tryd.prog 16 #[.agg #[.int .i64 r.freq, .int .i64 r.itv, .int .i64 r.cnt, .int .i64 r.untl, .slice A1 n1 c1, .slice A2 n2 c2, .slice A3 n3 c3, .slice A4 n4 c4]] w
      fun e w' => e = .returned (.int .i64 (lstOf r)) ∧ Below w.heap.size w w' := by
  obtain ⟨m1, m2, m3, m4⟩ := h
  have HV : Hid (or4 (chkList mayMonth cmpI r.months) (chkList (mayNear 31) cmpI r.days) (chkList (mayNth 5) cmpN r.wds) (chkList (mayNear 366) cmpI r.pos) = lstOf r) := by show _ = _; rw [lstOf, hf]; rfl
  have hmf : ∀ (fn : Fn) (first cap : Array Value) (w : World), (Instr.makeFunc fn first cap).run Tryd.prog w = .ok (.func fn first cap) w := fun _ _ _ _ => rfl
  have e2 : (r.freq == 2) = true := by rw [hf]; rfl
  have e3 : (r.freq == 3) = false := by rw [hf]; rfl
  clear hf
  go_enter Tryd.func16, Tryd.ntmps16
  go_wp2
  have hbW : Below w.heap.size w ((w.alloc (.cells #[.int .i64 r.freq, .int .i64 r.itv, .int .i64 r.cnt, .int .i64 r.untl, .slice A1 n1 c1, .slice A2 n2 c2, .slice A3 n3 c3, .slice A4 n4 c4] 27)).alloc (.cells #[.int .i64 5] 3)) := ((Below.refl _ _).alloc (Nat.le_refl _) _).alloc (by simp) _
  have l1 : w.heap.size + 1 < ((w.alloc (.cells #[.int .i64 r.freq, .int .i64 r.itv, .int .i64 r.cnt, .int .i64 r.untl, .slice A1 n1 c1, .slice A2 n2 c2, .slice A3 n3 c3, .slice A4 n4 c4] 27)).alloc (.cells #[.int .i64 5] 3)).heap.size := by simp
  have k4 : ((w.alloc (.cells #[.int .i64 r.freq, .int .i64 r.itv, .int .i64 r.cnt, .int .i64 r.untl, .slice A1 n1 c1, .slice A2 n2 c2, .slice A3 n3 c3, .slice A4 n4 c4] 27)).alloc (.cells #[.int .i64 5] 3)).cell? ⟨w.heap.size, 4, none⟩ = some (.slice A1 n1 c1) := by go_simp
  have k5 : ((w.alloc (.cells #[.int .i64 r.freq, .int .i64 r.itv, .int .i64 r.cnt, .int .i64 r.untl, .slice A1 n1 c1, .slice A2 n2 c2, .slice A3 n3 c3, .slice A4 n4 c4] 27)).alloc (.cells #[.int .i64 5] 3)).cell? ⟨w.heap.size, 5, none⟩ = some (.slice A2 n2 c2) := by go_simp
  have k6 : ((w.alloc (.cells #[.int .i64 r.freq, .int .i64 r.itv, .int .i64 r.cnt, .int .i64 r.untl, .slice A1 n1 c1, .slice A2 n2 c2, .slice A3 n3 c3, .slice A4 n4 c4] 27)).alloc (.cells #[.int .i64 5] 3)).cell? ⟨w.heap.size, 6, none⟩ = some (.slice A3 n3 c3) := by go_simp
  have k7 : ((w.alloc (.cells #[.int .i64 r.freq, .int .i64 r.itv, .int .i64 r.cnt, .int .i64 r.untl, .slice A1 n1 c1, .slice A2 n2 c2, .slice A3 n3 c3, .slice A4 n4 c4] 27)).alloc (.cells #[.int .i64 5] 3)).cell? ⟨w.heap.size, 7, none⟩ = some (.slice A4 n4 c4) := by go_simp
  have km : ((w.alloc (.cells #[.int .i64 r.freq, .int .i64 r.itv, .int .i64 r.cnt, .int .i64 r.untl, .slice A1 n1 c1, .slice A2 n2 c2, .slice A3 n3 c3, .slice A4 n4 c4] 27)).alloc (.cells #[.int .i64 5] 3)).cell? ⟨w.heap.size + 1, 0, none⟩ = some (.int .i64 5) := by go_simp
  generalize ((w.alloc (.cells #[.int .i64 r.freq, .int .i64 r.itv, .int .i64 r.cnt, .int .i64 r.untl, .slice A1 n1 c1, .slice A2 n2 c2, .slice A3 n3 c3, .slice A4 n4 c4] 27)).alloc (.cells #[.int .i64 5] 3)) = W at *
  have l0 : w.heap.size < W.heap.size := by omega
  go_region_held3 (fun w' => w'.cell? ⟨w.heap.size, 4, none⟩ = some (.slice A1 n1 c1) ∧ w'.cell? ⟨w.heap.size, 5, none⟩ = some (.slice A2 n2 c2) ∧ w'.cell? ⟨w.heap.size, 6, none⟩ = some (.slice A3 n3 c3) ∧ w'.cell? ⟨w.heap.size, 7, none⟩ = some (.slice A4 n4 c4))
    (first | go_keep | (exact ⟨(hb2.cell (p := ⟨w.heap.size, 4, none⟩) (by simp; omega)).trans (by go_simp), (hb2.cell (p := ⟨w.heap.size, 5, none⟩) (by simp; omega)).trans (by go_simp), (hb2.cell (p := ⟨w.heap.size, 6, none⟩) (by simp; omega)).trans (by go_simp), (hb2.cell (p := ⟨w.heap.size, 7, none⟩) (by simp; omega)).trans (by go_simp)⟩))
    ((first
      | (go_at_call 28; (with_reducible refine (list_month A1 n1 c1 _ _ (m1.below ?_)).mono ?_); · exact (by (repeat (first | exact Below.refl _ _ | assumption | refine Below.drew ?_ | refine below_drewN ?_ _ | refine Below.alloc ?_ (by first | exact Nat.le_refl _ | omega | (simp <;> omega)) _ | refine Below.setCell ?_ (by first | exact Nat.le_refl _ | omega | (simp <;> omega)) _)))
         rintro e w' ⟨rfl, rfl⟩)
      | (go_at_call 31; (with_reducible refine (near_any _ _).mono ?_); rintro e w' ⟨rfl, rfl⟩)
      | (go_at_call 28; (with_reducible refine (list_near A2 n2 c2 _ _ (m2.below ?_) 31 W.heap.size (by omega) (by omega) ?_).mono ?_); · exact (by (repeat (first | exact Below.refl _ _ | assumption | refine Below.drew ?_ | refine below_drewN ?_ _ | refine Below.alloc ?_ (by first | exact Nat.le_refl _ | omega | (simp <;> omega)) _ | refine Below.setCell ?_ (by first | exact Nat.le_refl _ | omega | (simp <;> omega)) _)))
         · go_simp
         rintro e w' ⟨rfl, rfl⟩)
      | (go_at_call 32; (with_reducible refine (list_nth A3 n3 c3 _ 5 (w.heap.size + 1) _ (m3.below ?_) (by omega) (by omega) ?_ ?_).mono ?_); · exact (by (repeat (first | exact Below.refl _ _ | assumption | refine Below.drew ?_ | refine below_drewN ?_ _ | refine Below.alloc ?_ (by first | exact Nat.le_refl _ | omega | (simp <;> omega)) _ | refine Below.setCell ?_ (by first | exact Nat.le_refl _ | omega | (simp <;> omega)) _)))
         · go_simp
         · (simp; omega)
         rintro e w2 ⟨rfl, hb2⟩
         have hb3 : Below w.heap.size w w2 := (hbW.drew.alloc (by simp; omega) _).trans (hb2.mono (by simp; omega))
         have hz3 := hb3.size)
      | (go_at_call 28; (with_reducible refine (list_near A4 n4 c4 _ _ (m4.below ?_) 366 w2.heap.size (by omega) (by omega) ?_).mono ?_); · exact (by (repeat (first | exact Below.refl _ _ | assumption | refine Below.drew ?_ | refine below_drewN ?_ _ | refine Below.alloc ?_ (by first | exact Nat.le_refl _ | omega | (simp <;> omega)) _ | refine Below.setCell ?_ (by first | exact Nat.le_refl _ | omega | (simp <;> omega)) _)))
         · go_simp
         rintro e w' ⟨rfl, rfl⟩)
      | (go_at_call 27; (with_reducible refine (orErr_any (chkList mayMonth cmpI r.months) (chkList (mayNear 31) cmpI r.days) (chkList (mayNth 5) cmpN r.wds) (chkList (mayNear 366) cmpI r.pos) (w2.heap.size + 1) 4 _ ?_ ?_ ?_ ?_).mono ?_); · go_simp
         · go_simp
         · go_simp
         · go_simp
         rintro e w' ⟨rfl, rfl⟩)))
  all_goals
    go_wp2
    go_ret
    exact ⟨ret_int HV.out, (by (repeat (first | exact Below.refl _ _ | assumption | refine Below.drew ?_ | refine below_drewN ?_ _ | refine Below.alloc ?_ (by first | exact Nat.le_refl _ | omega | (simp <;> omega)) _ | refine Below.setCell ?_ (by first | exact Nat.le_refl _ | omega | (simp <;> omega)) _)))⟩
set_option maxRecDepth 100000 in
set_option maxHeartbeats 1000000 in
theorem lists_53 (r : RuleD) (A1 : Option Addr) (n1 c1 : Nat) (A2 : Option Addr) (n2 c2 : Nat) (A3 : Option Addr) (n3 c3 : Nat) (A4 : Option Addr) (n4 c4 : Nat) (w : World) (h : RuleIn w r A1 n1 A2 n2 A3 n3 A4 n4) (hf : r.freq = 3) :
    Calls Tryd.prog 16 #[.agg #[.int .i64 r.freq, .int .i64 r.itv, .int .i64 r.cnt, .int .i64 r.untl, .slice A1 n1 c1, .slice A2 n2 c2, .slice A3 n3 c3, .slice A4 n4 c4]] w
      fun e w' => e = .returned (.int .i64 (lstOf r)) ∧ Below w.heap.size w w' := by
  obtain ⟨m1, m2, m3, m4⟩ := h
  have HV : Hid (or4 (chkList mayMonth cmpI r.months) (chkList (mayNear 31) cmpI r.days) (chkList (mayNth 53) cmpN r.wds) (chkList (mayNear 366) cmpI r.pos) = lstOf r) := by show _ = _; rw [lstOf, hf]; rfl
  have hmf : ∀ (fn : Fn) (first cap : Array Value) (w : World), (Instr.makeFunc fn first cap).run Tryd.prog w = .ok (.func fn first cap) w := fun _ _ _ _ => rfl
  have e2 : (r.freq == 2) = false := by rw [hf]; rfl
  have e3 : (r.freq == 3) = true := by rw [hf]; rfl
  clear hf
  go_enter Tryd.func16, Tryd.ntmps16
  go_wp2
  have hbW : Below w.heap.size w ((w.alloc (.cells #[.int .i64 r.freq, .int .i64 r.itv, .int .i64 r.cnt, .int .i64 r.untl, .slice A1 n1 c1, .slice A2 n2 c2, .slice A3 n3 c3, .slice A4 n4 c4] 27)).alloc (.cells #[.int .i64 53] 3)) := ((Below.refl _ _).alloc (Nat.le_refl _) _).alloc (by simp) _
  have l1 : w.heap.size + 1 < ((w.alloc (.cells #[.int .i64 r.freq, .int .i64 r.itv, .int .i64 r.cnt, .int .i64 r.untl, .slice A1 n1 c1, .slice A2 n2 c2, .slice A3 n3 c3, .slice A4 n4 c4] 27)).alloc (.cells #[.int .i64 53] 3)).heap.size := by simp
  have k4 : ((w.alloc (.cells #[.int .i64 r.freq, .int .i64 r.itv, .int .i64 r.cnt, .int .i64 r.untl, .slice A1 n1 c1, .slice A2 n2 c2, .slice A3 n3 c3, .slice A4 n4 c4] 27)).alloc (.cells #[.int .i64 53] 3)).cell? ⟨w.heap.size, 4, none⟩ = some (.slice A1 n1 c1) := by go_simp
  have k5 : ((w.alloc (.cells #[.int .i64 r.freq, .int .i64 r.itv, .int .i64 r.cnt, .int .i64 r.untl, .slice A1 n1 c1, .slice A2 n2 c2, .slice A3 n3 c3, .slice A4 n4 c4] 27)).alloc (.cells #[.int .i64 53] 3)).cell? ⟨w.heap.size, 5, none⟩ = some (.slice A2 n2 c2) := by go_simp
  have k6 : ((w.alloc (.cells #[.int .i64 r.freq, .int .i64 r.itv, .int .i64 r.cnt, .int .i64 r.untl, .slice A1 n1 c1, .slice A2 n2 c2, .slice A3 n3 c3, .slice A4 n4 c4] 27)).alloc (.cells #[.int .i64 53] 3)).cell? ⟨w.heap.size, 6, none⟩ = some (.slice A3 n3 c3) := by go_simp
  have k7 : ((w.alloc (.cells #[.int .i64 r.freq, .int .i64 r.itv, .int .i64 r.cnt, .int .i64 r.untl, .slice A1 n1 c1, .slice A2 n2 c2, .slice A3 n3 c3, .slice A4 n4 c4] 27)).alloc (.cells #[.int .i64 53] 3)).cell? ⟨w.heap.size, 7, none⟩ = some (.slice A4 n4 c4) := by go_simp
  have km : ((w.alloc (.cells #[.int .i64 r.freq, .int .i64 r.itv, .int .i64 r.cnt, .int .i64 r.untl, .slice A1 n1 c1, .slice A2 n2 c2, .slice A3 n3 c3, .slice A4 n4 c4] 27)).alloc (.cells #[.int .i64 53] 3)).cell? ⟨w.heap.size + 1, 0, none⟩ = some (.int .i64 53) := by go_simp
  generalize ((w.alloc (.cells #[.int .i64 r.freq, .int .i64 r.itv, .int .i64 r.cnt, .int .i64 r.untl, .slice A1 n1 c1, .slice A2 n2 c2, .slice A3 n3 c3, .slice A4 n4 c4] 27)).alloc (.cells #[.int .i64 53] 3)) = W at *
  have l0 : w.heap.size < W.heap.size := by omega
  go_region_held3 (fun w' => w'.cell? ⟨w.heap.size, 4, none⟩ = some (.slice A1 n1 c1) ∧ w'.cell? ⟨w.heap.size, 5, none⟩ = some (.slice A2 n2 c2) ∧ w'.cell? ⟨w.heap.size, 6, none⟩ = some (.slice A3 n3 c3) ∧ w'.cell? ⟨w.heap.size, 7, none⟩ = some (.slice A4 n4 c4))
    (first | go_keep | (exact ⟨(hb2.cell (p := ⟨w.heap.size, 4, none⟩) (by simp; omega)).trans (by go_simp), (hb2.cell (p := ⟨w.heap.size, 5, none⟩) (by simp; omega)).trans (by go_simp), (hb2.cell (p := ⟨w.heap.size, 6, none⟩) (by simp; omega)).trans (by go_simp), (hb2.cell (p := ⟨w.heap.size, 7, none⟩) (by simp; omega)).trans (by go_simp)⟩))
    ((first
      | (go_at_call 28; (with_reducible refine (list_month A1 n1 c1 _ _ (m1.below ?_)).mono ?_); · exact (by (repeat (first | exact Below.refl _ _ | assumption | refine Below.drew ?_ | refine below_drewN ?_ _ | refine Below.alloc ?_ (by first | exact Nat.le_refl _ | omega | (simp <;> omega)) _ | refine Below.setCell ?_ (by first | exact Nat.le_refl _ | omega | (simp <;> omega)) _)))
         rintro e w' ⟨rfl, rfl⟩)
      | (go_at_call 31; (with_reducible refine (near_any _ _).mono ?_); rintro e w' ⟨rfl, rfl⟩)
      | (go_at_call 28; (with_reducible refine (list_near A2 n2 c2 _ _ (m2.below ?_) 31 W.heap.size (by omega) (by omega) ?_).mono ?_); · exact (by (repeat (first | exact Below.refl _ _ | assumption | refine Below.drew ?_ | refine below_drewN ?_ _ | refine Below.alloc ?_ (by first | exact Nat.le_refl _ | omega | (simp <;> omega)) _ | refine Below.setCell ?_ (by first | exact Nat.le_refl _ | omega | (simp <;> omega)) _)))
         · go_simp
         rintro e w' ⟨rfl, rfl⟩)
      | (go_at_call 32; (with_reducible refine (list_nth A3 n3 c3 _ 53 (w.heap.size + 1) _ (m3.below ?_) (by omega) (by omega) ?_ ?_).mono ?_); · exact (by (repeat (first | exact Below.refl _ _ | assumption | refine Below.drew ?_ | refine below_drewN ?_ _ | refine Below.alloc ?_ (by first | exact Nat.le_refl _ | omega | (simp <;> omega)) _ | refine Below.setCell ?_ (by first | exact Nat.le_refl _ | omega | (simp <;> omega)) _)))
         · go_simp
         · (simp; omega)
         rintro e w2 ⟨rfl, hb2⟩
         have hb3 : Below w.heap.size w w2 := (hbW.drew.alloc (by simp; omega) _).trans (hb2.mono (by simp; omega))
         have hz3 := hb3.size)
      | (go_at_call 28; (with_reducible refine (list_near A4 n4 c4 _ _ (m4.below ?_) 366 w2.heap.size (by omega) (by omega) ?_).mono ?_); · exact (by (repeat (first | exact Below.refl _ _ | assumption | refine Below.drew ?_ | refine below_drewN ?_ _ | refine Below.alloc ?_ (by first | exact Nat.le_refl _ | omega | (simp <;> omega)) _ | refine Below.setCell ?_ (by first | exact Nat.le_refl _ | omega | (simp <;> omega)) _)))
         · go_simp
         rintro e w' ⟨rfl, rfl⟩)
      | (go_at_call 27; (with_reducible refine (orErr_any (chkList mayMonth cmpI r.months) (chkList (mayNear 31) cmpI r.days) (chkList (mayNth 53) cmpN r.wds) (chkList (mayNear 366) cmpI r.pos) (w2.heap.size + 1) 4 _ ?_ ?_ ?_ ?_).mono ?_); · go_simp
         · go_simp
         · go_simp
         · go_simp
         rintro e w' ⟨rfl, rfl⟩)))
  all_goals
    go_wp2
    go_ret
    exact ⟨ret_int HV.out, (by (repeat (first | exact Below.refl _ _ | assumption | refine Below.drew ?_ | refine below_drewN ?_ _ | refine Below.alloc ?_ (by first | exact Nat.le_refl _ | omega | (simp <;> omega)) _ | refine Below.setCell ?_ (by first | exact Nat.le_refl _ | omega | (simp <;> omega)) _)))⟩
set_option maxRecDepth 100000 in
set_option maxHeartbeats 1000000 in
theorem lists_0 (r : RuleD) (A1 : Option Addr) (n1 c1 : Nat) (A2 : Option Addr) (n2 c2 : Nat) (A3 : Option Addr) (n3 c3 : Nat) (A4 : Option Addr) (n4 c4 : Nat) (w : World) (h : RuleIn w r A1 n1 A2 n2 A3 n3 A4 n4) (hf : r.freq ≠ 2) (hf3 : r.freq ≠ 3) :
    Calls Tryd.prog 16 #[.agg #[.int .i64 r.freq, .int .i64 r.itv, .int .i64 r.cnt, .int .i64 r.untl, .slice A1 n1 c1, .slice A2 n2 c2, .slice A3 n3 c3, .slice A4 n4 c4]] w
      fun e w' => e = .returned (.int .i64 (lstOf r)) ∧ Below w.heap.size w w' := by
  obtain ⟨m1, m2, m3, m4⟩ := h
  have HV : Hid (or4 (chkList mayMonth cmpI r.months) (chkList (mayNear 31) cmpI r.days) (chkList (mayNth 0) cmpN r.wds) (chkList (mayNear 366) cmpI r.pos) = lstOf r) := by show _ = _; rw [lstOf, mostOf, if_neg hf, if_neg hf3]
  have hmf : ∀ (fn : Fn) (first cap : Array Value) (w : World), (Instr.makeFunc fn first cap).run Tryd.prog w = .ok (.func fn first cap) w := fun _ _ _ _ => rfl
  have e2 : (r.freq == 2) = false := by simpa using hf
  have e3 : (r.freq == 3) = false := by simpa using hf3
  clear hf hf3
  go_enter Tryd.func16, Tryd.ntmps16
  go_wp2
  have hbW : Below w.heap.size w ((w.alloc (.cells #[.int .i64 r.freq, .int .i64 r.itv, .int .i64 r.cnt, .int .i64 r.untl, .slice A1 n1 c1, .slice A2 n2 c2, .slice A3 n3 c3, .slice A4 n4 c4] 27)).alloc (.cells #[.int .i64 0] 3)) := ((Below.refl _ _).alloc (Nat.le_refl _) _).alloc (by simp) _
  have l1 : w.heap.size + 1 < ((w.alloc (.cells #[.int .i64 r.freq, .int .i64 r.itv, .int .i64 r.cnt, .int .i64 r.untl, .slice A1 n1 c1, .slice A2 n2 c2, .slice A3 n3 c3, .slice A4 n4 c4] 27)).alloc (.cells #[.int .i64 0] 3)).heap.size := by simp
  have k4 : ((w.alloc (.cells #[.int .i64 r.freq, .int .i64 r.itv, .int .i64 r.cnt, .int .i64 r.untl, .slice A1 n1 c1, .slice A2 n2 c2, .slice A3 n3 c3, .slice A4 n4 c4] 27)).alloc (.cells #[.int .i64 0] 3)).cell? ⟨w.heap.size, 4, none⟩ = some (.slice A1 n1 c1) := by go_simp
  have k5 : ((w.alloc (.cells #[.int .i64 r.freq, .int .i64 r.itv, .int .i64 r.cnt, .int .i64 r.untl, .slice A1 n1 c1, .slice A2 n2 c2, .slice A3 n3 c3, .slice A4 n4 c4] 27)).alloc (.cells #[.int .i64 0] 3)).cell? ⟨w.heap.size, 5, none⟩ = some (.slice A2 n2 c2) := by go_simp
  have k6 : ((w.alloc (.cells #[.int .i64 r.freq, .int .i64 r.itv, .int .i64 r.cnt, .int .i64 r.untl, .slice A1 n1 c1, .slice A2 n2 c2, .slice A3 n3 c3, .slice A4 n4 c4] 27)).alloc (.cells #[.int .i64 0] 3)).cell? ⟨w.heap.size, 6, none⟩ = some (.slice A3 n3 c3) := by go_simp
  have k7 : ((w.alloc (.cells #[.int .i64 r.freq, .int .i64 r.itv, .int .i64 r.cnt, .int .i64 r.untl, .slice A1 n1 c1, .slice A2 n2 c2, .slice A3 n3 c3, .slice A4 n4 c4] 27)).alloc (.cells #[.int .i64 0] 3)).cell? ⟨w.heap.size, 7, none⟩ = some (.slice A4 n4 c4) := by go_simp
  have km : ((w.alloc (.cells #[.int .i64 r.freq, .int .i64 r.itv, .int .i64 r.cnt, .int .i64 r.untl, .slice A1 n1 c1, .slice A2 n2 c2, .slice A3 n3 c3, .slice A4 n4 c4] 27)).alloc (.cells #[.int .i64 0] 3)).cell? ⟨w.heap.size + 1, 0, none⟩ = some (.int .i64 0) := by go_simp
  generalize ((w.alloc (.cells #[.int .i64 r.freq, .int .i64 r.itv, .int .i64 r.cnt, .int .i64 r.untl, .slice A1 n1 c1, .slice A2 n2 c2, .slice A3 n3 c3, .slice A4 n4 c4] 27)).alloc (.cells #[.int .i64 0] 3)) = W at *
  have l0 : w.heap.size < W.heap.size := by omega
  go_region_held3 (fun w' => w'.cell? ⟨w.heap.size, 4, none⟩ = some (.slice A1 n1 c1) ∧ w'.cell? ⟨w.heap.size, 5, none⟩ = some (.slice A2 n2 c2) ∧ w'.cell? ⟨w.heap.size, 6, none⟩ = some (.slice A3 n3 c3) ∧ w'.cell? ⟨w.heap.size, 7, none⟩ = some (.slice A4 n4 c4))
    (first | go_keep | (exact ⟨(hb2.cell (p := ⟨w.heap.size, 4, none⟩) (by simp; omega)).trans (by go_simp), (hb2.cell (p := ⟨w.heap.size, 5, none⟩) (by simp; omega)).trans (by go_simp), (hb2.cell (p := ⟨w.heap.size, 6, none⟩) (by simp; omega)).trans (by go_simp), (hb2.cell (p := ⟨w.heap.size, 7, none⟩) (by simp; omega)).trans (by go_simp)⟩))
    ((first
      | (go_at_call 28; (with_reducible refine (list_month A1 n1 c1 _ _ (m1.below ?_)).mono ?_); · exact (by (repeat (first | exact Below.refl _ _ | assumption | refine Below.drew ?_ | refine below_drewN ?_ _ | refine Below.alloc ?_ (by first | exact Nat.le_refl _ | omega | (simp <;> omega)) _ | refine Below.setCell ?_ (by first | exact Nat.le_refl _ | omega | (simp <;> omega)) _)))
         rintro e w' ⟨rfl, rfl⟩)
      | (go_at_call 31; (with_reducible refine (near_any _ _).mono ?_); rintro e w' ⟨rfl, rfl⟩)
      | (go_at_call 28; (with_reducible refine (list_near A2 n2 c2 _ _ (m2.below ?_) 31 W.heap.size (by omega) (by omega) ?_).mono ?_); · exact (by (repeat (first | exact Below.refl _ _ | assumption | refine Below.drew ?_ | refine below_drewN ?_ _ | refine Below.alloc ?_ (by first | exact Nat.le_refl _ | omega | (simp <;> omega)) _ | refine Below.setCell ?_ (by first | exact Nat.le_refl _ | omega | (simp <;> omega)) _)))
         · go_simp
         rintro e w' ⟨rfl, rfl⟩)
      | (go_at_call 32; (with_reducible refine (list_nth A3 n3 c3 _ 0 (w.heap.size + 1) _ (m3.below ?_) (by omega) (by omega) ?_ ?_).mono ?_); · exact (by (repeat (first | exact Below.refl _ _ | assumption | refine Below.drew ?_ | refine below_drewN ?_ _ | refine Below.alloc ?_ (by first | exact Nat.le_refl _ | omega | (simp <;> omega)) _ | refine Below.setCell ?_ (by first | exact Nat.le_refl _ | omega | (simp <;> omega)) _)))
         · go_simp
         · (simp; omega)
         rintro e w2 ⟨rfl, hb2⟩
         have hb3 : Below w.heap.size w w2 := (hbW.drew.alloc (by simp; omega) _).trans (hb2.mono (by simp; omega))
         have hz3 := hb3.size)
      | (go_at_call 28; (with_reducible refine (list_near A4 n4 c4 _ _ (m4.below ?_) 366 w2.heap.size (by omega) (by omega) ?_).mono ?_); · exact (by (repeat (first | exact Below.refl _ _ | assumption | refine Below.drew ?_ | refine below_drewN ?_ _ | refine Below.alloc ?_ (by first | exact Nat.le_refl _ | omega | (simp <;> omega)) _ | refine Below.setCell ?_ (by first | exact Nat.le_refl _ | omega | (simp <;> omega)) _)))
         · go_simp
         rintro e w' ⟨rfl, rfl⟩)
      | (go_at_call 27; (with_reducible refine (orErr_any (chkList mayMonth cmpI r.months) (chkList (mayNear 31) cmpI r.days) (chkList (mayNth 0) cmpN r.wds) (chkList (mayNear 366) cmpI r.pos) (w2.heap.size + 1) 4 _ ?_ ?_ ?_ ?_).mono ?_); · go_simp
         · go_simp
         · go_simp
         · go_simp
         rintro e w' ⟨rfl, rfl⟩)))
  all_goals
    go_wp2
    go_ret
    exact ⟨ret_int HV.out, (by (repeat (first | exact Below.refl _ _ | assumption | refine Below.drew ?_ | refine below_drewN ?_ _ | refine Below.alloc ?_ (by first | exact Nat.le_refl _ | omega | (simp <;> omega)) _ | refine Below.setCell ?_ (by first | exact Nat.le_refl _ | omega | (simp <;> omega)) _)))⟩

theorem lists_any (r : RuleD) (A1 : Option Addr) (n1 c1 : Nat) (A2 : Option Addr) (n2 c2 : Nat) (A3 : Option Addr) (n3 c3 : Nat) (A4 : Option Addr) (n4 c4 : Nat) (w : World) (h : RuleIn w r A1 n1 A2 n2 A3 n3 A4 n4) :
    Calls Tryd.prog 16 #[.agg #[.int .i64 r.freq, .int .i64 r.itv, .int .i64 r.cnt, .int .i64 r.untl, .slice A1 n1 c1, .slice A2 n2 c2, .slice A3 n3 c3, .slice A4 n4 c4]] w
      fun e w' => e = .returned (.int .i64 (lstOf r)) ∧ Below w.heap.size w w' := by
  by_cases h2 : r.freq = 2
  · exact lists_5 r A1 n1 c1 A2 n2 c2 A3 n3 c3 A4 n4 c4 w h h2
  · by_cases h3 : r.freq = 3
    · exact lists_53 r A1 n1 c1 A2 n2 c2 A3 n3 c3 A4 n4 c4 w h h3
    · exact lists_0 r A1 n1 c1 A2 n2 c2 A3 n3 c3 A4 n4 c4 w h h2 h3
end Go.Proofs.YtbmdlcagaikdaaaDoor
