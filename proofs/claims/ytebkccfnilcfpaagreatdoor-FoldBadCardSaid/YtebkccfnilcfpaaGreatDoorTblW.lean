/- fold.table: a run; what lies in the map that it hands back. -/
import Derived.Test.YtebkccfnilcfpaaGreatDoorSyCtrH
namespace Go.Proofs.YtebkccfnilcfpaaGreatDoor
set_option linter.unusedVariables false
set_option linter.unusedSimpArgs false
open Go Go.Sy Go.RowKit

/-- Each great letter, its small one: as the table has them, one behind the other. -/
def tblL : List (Int × Int) := [(192, 224), (194, 226), (196, 228), (198, 230), (199, 231), (200, 232), (201, 233), (202, 234), (203, 235), (206, 238), (207, 239), (212, 244), (214, 246), (338, 339), (217, 249), (219, 251), (220, 252), (376, 255), (260, 261), (262, 263), (280, 281), (321, 322), (323, 324), (211, 243), (346, 347), (377, 378), (379, 380), (65, 97), (66, 98), (67, 99), (68, 100), (69, 101), (70, 102), (71, 103), (72, 104), (73, 105), (74, 106), (75, 107), (76, 108), (77, 109), (78, 110), (79, 111), (80, 112), (81, 113), (82, 114), (83, 115), (84, 116), (85, 117), (86, 118), (87, 119), (88, 120), (89, 121), (90, 122)]

def entsB : List MapEntry → List (Int × Int) → Bool
  | [], [] => true
  | e :: r, p :: l => (match e.key, e.val with
    | .int .i32 a, .int .i32 c => decide (a = p.1) && decide (c = p.2)
    | _, _ => false) && entsB r l
  | _, _ => false

def tblB (r : Option (Value × Heap)) : Bool := match r with
  | some (.map (some b), H) => match Go.Sy.look H b with
    | some (.map es _ _) => entsB es tblL
    | _ => false
  | _ => false

/-- A map's entries are these. -/
def EntsAre (es : List MapEntry) (l : List (Int × Int)) : Prop := es.map (fun e => (e.key, e.val)) = l.map fun p => (Value.int .i32 p.1, Value.int .i32 p.2)

theorem entsB_ok {ρ : Rho} : ∀ {es : List MapEntry} {l : List (Int × Int)} {es' : List MapEntry}, entsB es l = true → EntsR ρ es es' → EntsAre es' l
  | [], [], es', _, h => by
    have : es' = [] := List.length_eq_zero_iff.1 h.1
    subst this
    rfl
  | e :: r, p :: l, es', hb, h => by
    obtain ⟨e', r', rfl, h1, h2⟩ := h.cons_inv
    simp only [entsB, Bool.and_eq_true] at hb
    have ih := entsB_ok hb.2 h2
    obtain ⟨hk, hv, _⟩ := h1
    have hb1 := hb.1
    split at hb1
    · rename_i a c ha hc
      simp only [Bool.and_eq_true, decide_eq_true_eq] at hb1
      rw [ha] at hk
      rw [hc] at hv
      unfold EntsAre at ih ⊢
      rw [List.map_cons, List.map_cons, ih, ← hb1.1, ← hb1.2]
      generalize e'.key = k' at hk ⊢
      generalize e'.val = v' at hv ⊢
      cases hk
      cases hv
      rfl
    · cases hb1
  | [], _ :: _, _, hb, _ => by cases hb
  | _ :: _, [], _, hb, _ => by cases hb

def told0 : Tolds := ⟨[], [], [], [], []⟩
theorem told0_ok {FN : Fns} : TOk FN told0 := ⟨fun c h => (by cases h), fun c h => (by cases h), fun c h => (by cases h), fun c h => (by cases h), fun c h => (by cases h)⟩

theorem tbl_run : ∀ t1 t2 t3 t4, tblB (arun (cfgH fns0 noRows told0 []) 1000 44 [] (heapOf 20 (vars t1 t2 t3 t4))) = true := fun _ _ _ _ => by kernel_rfl

theorem table_any (w : World) (hs : Wld w) : Calls Tryz.prog 44 #[] w fun e w' => ∃ m es clock, e = .returned (.map (some m)) ∧ w'.heap[m]? = some (.map es clock) ∧ EntsAre es.toList tblL ∧ Below w.heap.size w w' := by
  obtain ⟨t1, t2, t3, t4, hw⟩ := hs.gv
  have h := tbl_run t1 t2 t3 t4
  have hg := goodH (FN := fns0) (K := noRows) told0_ok (fun r hr => by cases hr) t1 t2 t3 t4 []
  obtain ⟨r, hr⟩ : ∃ r, r = arun (cfgH fns0 noRows told0 []) 1000 44 [] (heapOf 20 (vars t1 t2 t3 t4)) := ⟨_, rfl⟩
  rw [← hr] at h
  unfold tblB at h
  split at h
  · rename_i b H
    split at h
    · rename_i es clock wr hl
      refine (run_sym hg (E := env0 fns0 rows0) (by intro p hp; cases hp) rfl rfl hr.symm (args' := #[]) (fun ρ _ => VRs.nil ρ) hw ⟨hs.x, fun r hr => (by cases hr)⟩).mono fun e w' ⟨v', he, ρ', _, h1, h2⟩ => ?_
      obtain ⟨es', g0, g1, g2⟩ := h2.rel.obj _ _ hl
      cases h1
      exact ⟨_, es', _, he, g0, entsB_ok h ⟨by simpa using g1, fun i e e' h1 h2 => g2 i e e' h1 (by simpa using h2)⟩, h2.below⟩
    · cases h
  · cases h
end Go.Proofs.YtebkccfnilcfpaaGreatDoor
