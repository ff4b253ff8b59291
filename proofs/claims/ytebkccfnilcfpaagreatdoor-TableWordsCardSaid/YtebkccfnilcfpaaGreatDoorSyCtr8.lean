/- Chapters 8, 9: one variable more. -/
import Derived.Test.YtebkccfnilcfpaaGreatDoorSyAw7
import Derived.Test.YtebkccfnilcfpaaGreatDoorSyV
namespace Go.Proofs.YtebkccfnilcfpaaGreatDoor
set_option linter.unusedVariables false
set_option linter.unusedSimpArgs false
open Go Go.Sy Go.RowKit

/-- What a world holds, for all chapters up to 9. -/
structure Wld8 (w : World) : Prop where
  old : Wld w
  many : VarIs w 0 vMany

def vars8 (t1 t2 t3 t4 t5 : TypeId) : List Gv := (0, t5, vMany) :: vars t1 t2 t3 t4

theorem vars8_ok (t1 t2 t3 t4 t5 : TypeId) : ∀ x ∈ vars8 t1 t2 t3 t4 t5, x.1 < 20 ∧ x.2.2.all (flat 40) = true := by
  intro x hx
  rcases List.mem_cons.1 hx with rfl | hx
  · exact ⟨by simp, by kernel_rfl⟩
  · exact vars_ok t1 t2 t3 t4 x hx

theorem Wld8.below {w w' : World} (h : Wld8 w) (hb : Below w.heap.size w w') : Wld8 w' := ⟨h.old.below hb, h.many.below hb⟩

def WldX8 (base : Nat) (w : World) : Prop := WldR noRows base w ∧ 0 < base ∧ VarIs w 0 vMany

theorem Wld8.x {w : World} (h : Wld8 w) : WldX8 w.heap.size w := ⟨⟨h.old.x, fun r hr => (by cases hr)⟩, h.many.lt, h.many⟩

/-- A contract, in such worlds. -/
def CtrOk8 (FN : Fns) (c : Ctr) : Prop := ∀ (S : Knw) args q, S.fns = FN → sortsOk c.sorts args = true → (∀ p ∈ c.wants args, holds S p = true) → wayOf S (c.dec args) = some q → ∀ ρ (args' : Array Value) w, Glob S ρ → VRs ρ args args'.toList → Wld8 w → S.rowS = [] →
  Calls Tryz.prog c.f args' w fun e w' => ∃ v', e = .returned v' ∧ VR ρ (c.res q args) v' ∧ Below w.heap.size w w'

theorem CtrOk.to8 {FN : Fns} {c : Ctr} (h : CtrOk FN c) : CtrOk8 FN c := fun S args q h1 h2 h3 h4 ρ args' w g hv hw hr => h S args q h1 h2 h3 h4 ρ args' w g hv hw.old fun r hm => by rw [hr] at hm; cases hm

noncomputable def cfg8 (FN : Fns) (cs : List Ctr) (hs : List HCtr) (F : List (Value × Bool)) : Cfg where
  P := Tryz.prog
  NG := ⟨20, F, FN, noRows.s, noRows.r⟩
  orc f l := match orcL ⟨20, F, FN, noRows.s, noRows.r⟩ cs f l with
    | some v => some v
    | none => orcC f l
  ext := extC
  orcG f args H := orcHL 20 hs f args H
  keepG f args H r _ h := let ⟨_, _, _, hc⟩ := orcHL_ok h; HCtr.keep hc
  lorc _ _ _ _ := none
  keepL _ _ _ _ _ _ h := by cases h

/-- What a function leaves in memory: a run at the plain heap has shown it. -/
def HOk (FN : Fns) (c : HCtr) : Prop := ∃ C0 n, Go.Sy.Good C0 [] WldX8 ∧ C0.P = Tryz.prog ∧ C0.NG.n = 20 ∧ C0.NG.facts = [] ∧ C0.NG.fns = FN ∧ C0.NG.rows = noRows.r ∧ hchk C0 n c = true

theorem good8l {FN : Fns} {cs : List Ctr} {hs : List HCtr} (hc : ∀ c ∈ cs, CtrOk8 FN c) (hh : ∀ c ∈ hs, HOk FN c) {l : List Gv} (hl : ∀ x ∈ l, x.1 < 20 ∧ x.2.2.all (flat 40) = true) (F : List (Value × Bool)) : Go.Sy.Good (cfg8 FN cs hs F) l WldX8 := by
  have g0 := goodS (FN := FN) (K := noRows) (cs := []) (ls := []) (by intro c h; cases h) (by intro c h; cases h) (fun r hr => (by cases hr)) 0 0 0 0 F
  refine ⟨fun base w w' h hb => ⟨g0.keepX base w w' h.1 hb, h.2.1, let ⟨t, fr, q⟩ := h.2.2; ⟨t, fr, by rw [hb.block _ h.2.1]; exact q⟩⟩, fun base w h => g0.pos base w h.1, g0.mixed, hl, fun f args v h ρ args' w base g hv hw hX hb => ?_, fun f args H r h base => ?_, extC_ok,
    fun r hr => (by cases hr), fun w base hX r hr => (by cases hr), fun base f p fr H r c hl hr => (by cases hr)⟩
  · have h' : (match orcL ⟨20, F, FN, noRows.s, noRows.r⟩ cs f args with | some v => some v | none => orcC f args) = some v := h
    split at h'
    · rename_i u hu
      cases h'
      have key : ∀ {cs : List Ctr}, (∀ c ∈ cs, CtrOk8 FN c) → orcL ⟨20, F, FN, noRows.s, noRows.r⟩ cs f args = some v → ∃ c, CtrOk8 FN c ∧ c.f = f ∧ c.run ⟨20, F, FN, noRows.s, noRows.r⟩ args = some v := by
        intro cs
        induction cs with
        | nil => intro _ h; cases h
        | cons c r ih =>
          intro hc h
          simp only [orcL] at h
          cases hq : Nat.beq f c.f with
          | true => rw [hq] at h; exact ⟨c, hc c (by simp), (Nat.eq_of_beq_eq_true hq).symm, h⟩
          | false => rw [hq] at h; exact ih (fun c hc' => hc c (List.mem_cons_of_mem _ hc')) h
      obtain ⟨c, h1, rfl, h3⟩ := key hc hu
      unfold Ctr.run at h3
      obtain ⟨h4, h3⟩ := cond_some' h3
      simp only [Bool.and_eq_true, List.all_eq_true] at h4
      split at h3
      · rename_i q hq
        cases h3
        exact h1 ⟨20, F, FN, noRows.s, noRows.r⟩ args q rfl h4.1 h4.2 hq ρ args' w g hv ⟨hX.1.1.2, hX.2.2⟩ rfl
      · cases h3
    · obtain ⟨h1, h2, h3⟩ := orcC_ok f args v h'
      exact orc_flat h1 h2 (h3 w w.heap.size hX.1.1.2.max) hv
  · obtain ⟨c, hc1, rfl, hrun⟩ := orcHL_ok (cs := hs) h
    obtain ⟨C0, n, k1, k2, k3, k4, k5, k6, k7⟩ := hh c hc1
    exact HCtr.snd (C := cfg8 FN cs hs F) k1 k2 k3 k4 k5 k6 (fun w hw => Wld8.x ⟨hw.2.1.1.2, hw.2.2.2⟩) k7 hrun

theorem good8 {FN : Fns} {cs : List Ctr} {hs : List HCtr} (hc : ∀ c ∈ cs, CtrOk8 FN c) (hh : ∀ c ∈ hs, HOk FN c) (t1 t2 t3 t4 t5 : TypeId) (F : List (Value × Bool)) : Go.Sy.Good (cfg8 FN cs hs F) (vars8 t1 t2 t3 t4 t5) WldX8 := good8l hc hh (vars8_ok t1 t2 t3 t4 t5) F

/-- One is told, by a run. -/
theorem hok {FN : Fns} {cs : List Ctr} {hs : List HCtr} (hc : ∀ c ∈ cs, CtrOk8 FN c) (hh : ∀ c ∈ hs, HOk FN c) {c : HCtr} (n : Nat) (h : hchk (cfg8 FN cs hs []) n c = true) : HOk FN c :=
  ⟨_, n, good8l hc hh (l := []) (by intro x hx; cases hx) [], rfl, rfl, rfl, rfl, rfl, h⟩

theorem Wld8.gv {w : World} (h : Wld8 w) : ∃ t1 t2 t3 t4 t5, ∀ x ∈ vars8 t1 t2 t3 t4 t5, GvOk w x := by
  obtain ⟨t1, t2, t3, t4, hw⟩ := h.old.gv
  obtain ⟨t5, f5, h5⟩ := h.many
  refine ⟨t1, t2, t3, t4, t5, fun x hx => ?_⟩
  rcases List.mem_cons.1 hx with rfl | hx
  · exact ⟨f5, h5⟩
  · exact hw x hx

/-- What a function hands back, its decisions told by a tree. -/
theorem tree8 {FN : Fns} {cs : List Ctr} {hs : List HCtr} (hc : ∀ c ∈ cs, CtrOk8 FN c) (hh : ∀ c ∈ hs, HOk FN c) {f : FuncId} {args : List Value} {T : Tree} {F0 : List (Value × Bool)}
    (h : ∀ t1 t2 t3 t4 t5, T.ok (fun F => (arun (cfg8 FN cs hs F) 1000 f args (heapOf 20 (vars8 t1 t2 t3 t4 t5))).map (·.1)) F0 = true) {E : Env} (hE : FactsOk E F0) (hF : E.fns = FN) (hR : E.rows = rows0) {u : Value} (hu : T.val E = some u) {args' : Array Value}
    (ha : ∀ ρ : Rho, ρ.env = E → VRs ρ args args'.toList) {w : World} (hw8 : Wld8 w) :
    Calls Tryz.prog f args' w fun e w' => e = .returned u ∧ Below w.heap.size w w' := by
  obtain ⟨t1, t2, t3, t4, t5, hw⟩ := hw8.gv
  exact run_tree (C := cfg8 FN cs hs) (fun _ => rfl) (fun _ => rfl) (fun F => good8 hc hh t1 t2 t3 t4 t5 F) (h t1 t2 t3 t4 t5) hE hF hR hu ha hw hw8.x

def AwIs8 (f : FuncId) : Prop := ∀ w, Wld8 w → Calls Tryz.prog f #[] w fun e w' => e = .returned (.bool true) ∧ Below w.heap.size w w'

theorem awC_ok8 {f : FuncId} (h : AwIs8 f) (FN : Fns) : CtrOk8 FN (awC f) := by
  intro S args q _ hs _ _ ρ args' w g hvs hw _
  have : args = [] := by
    cases args with
    | nil => rfl
    | cons => simp [awC, sortsOk] at hs
  subst this
  have : args' = #[] := by
    have := hvs.nil_inv
    cases args'; simp_all
  subst this
  exact (h w hw).mono fun e w' ⟨he, hb⟩ => ⟨_, he, .bool true, hb⟩

theorem aw_any8 {cs : List Ctr} {hs : List HCtr} (hc : ∀ c ∈ cs, CtrOk8 fns0 c) (hh : ∀ c ∈ hs, HOk fns0 c) {f : FuncId} (h : ∀ t1 t2 t3 t4 t5, okT (arun (cfg8 fns0 cs hs []) 1000 f [] (heapOf 20 (vars8 t1 t2 t3 t4 t5))) = true) : AwIs8 f := by
  intro w hw8
  obtain ⟨t1, t2, t3, t4, t5, hw⟩ := hw8.gv
  exact run_true (C := cfg8 fns0 cs hs []) (good8 hc hh t1 t2 t3 t4 t5 []) rfl (h t1 t2 t3 t4 t5) rfl hw hw8.x

theorem aw_one8 {f : FuncId} (h : AwIs8 f) : ∀ c ∈ [awC f], CtrOk8 fns0 c := fun c hc => by
  simp only [List.mem_cons, List.not_mem_nil, or_false] at hc
  subst hc
  exact awC_ok8 h fns0

theorem aw7' : AwIs8 11 := fun w hs => aw7 w hs.old
end Go.Proofs.YtebkccfnilcfpaaGreatDoor
