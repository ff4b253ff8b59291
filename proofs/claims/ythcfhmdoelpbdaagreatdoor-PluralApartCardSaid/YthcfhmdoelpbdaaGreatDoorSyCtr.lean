/- The evaluator at this program: in which worlds; contracts it is told. -/
import Derived.Test.YthcfhmdoelpbdaaGreatDoorSyCfg
namespace Go.Proofs.YthcfhmdoelpbdaaGreatDoor
set_option linter.unusedVariables false
set_option linter.unusedSimpArgs false
open Go Go.Sy Go.RowKit

def bstr (l : List UInt8) : Value := .string ⟨l.toArray⟩
def vMonths : List Value := monthsTab.map fun z => Value.int .i64 z
def vPow : List Value := Lib.pow10Tab.map fun z => Value.int .u64 z
def vFreqs : List Value := [bstr [68,65,73,76,89], bstr [87,69,69,75,76,89], bstr [77,79,78,84,72,76,89], bstr [89,69,65,82,76,89]]
def vDays : List Value := [bstr [77,79], bstr [84,85], bstr [87,69], bstr [84,72], bstr [70,82], bstr [83,65], bstr [83,85]]

def vars (t1 t2 t3 t4 : TypeId) : List Gv := [(6, t1, vMonths), (7, t2, vPow), (8, t3, vFreqs), (9, t4, vDays)]

theorem vars_ok (t1 t2 t3 t4 : TypeId) : ∀ x ∈ vars t1 t2 t3 t4, x.1 < 20 ∧ x.2.2.all (flat 40) = true := by
  intro x hx
  simp only [vars, List.mem_cons, List.not_mem_nil, or_false] at hx
  rcases hx with rfl | rfl | rfl | rfl
  · exact ⟨by simp, by kernel_rfl⟩
  · exact ⟨by simp, by kernel_rfl⟩
  · exact ⟨by simp, by kernel_rfl⟩
  · exact ⟨by simp, by kernel_rfl⟩

/-- A variable's block, whatever type it bears. -/
def VarIs (w : World) (g : Nat) (cs : List Value) : Prop := ∃ t fr, w.heap[g]? = some (.cells cs.toArray t fr)

/-- What a world holds, for all chapters up to 7. -/
structure Wld (w : World) : Prop where
  months : VarIs w 6 vMonths
  pow : VarIs w 7 vPow
  freqs : VarIs w 8 vFreqs
  days : VarIs w 9 vDays
  mx : ∃ m, w.cell? ⟨3, 0, none⟩ = some (.int .i64 m)

theorem VarIs.lt {w : World} {g : Nat} {cs : List Value} (h : VarIs w g cs) : g < w.heap.size := by
  obtain ⟨t, fr, h⟩ := h
  exact (Array.getElem?_eq_some_iff.1 h).1

theorem VarIs.below {w w' : World} {g : Nat} {cs : List Value} (h : VarIs w g cs) (hb : Below w.heap.size w w') : VarIs w' g cs := by
  have := h.lt
  obtain ⟨t, fr, h⟩ := h
  exact ⟨t, fr, by rw [hb.block g this]; exact h⟩

theorem Wld.below {w w' : World} (h : Wld w) (hb : Below w.heap.size w w') : Wld w' := by
  refine ⟨h.months.below hb, h.pow.below hb, h.freqs.below hb, h.days.below hb, ?_⟩
  obtain ⟨m, hm⟩ := h.mx
  refine ⟨m, ?_⟩
  rw [hb.cell (p := ⟨3, 0, none⟩) (Nat.lt_of_not_le fun hle => ?_)]
  · exact hm
  · have : (World.cell? w ⟨3, 0, none⟩) = none := by
      unfold World.cell?
      rw [Array.getElem?_eq_none hle]
    rw [this] at hm; cases hm

theorem pow_global : Tryz.prog.globalNamed "internal/strconv.uint64pow10" = some 7 := by kernel_rfl
theorem months_global' : Tryz.prog.globalNamed "kalends/civil.months" = some 6 := by kernel_rfl

theorem VarIs.tab {w : World} {g : Nat} {name : String} {k : IntKind} {zs : List Int} (h : VarIs w g (zs.map fun z => Value.int k z)) (hg : Tryz.prog.globalNamed name = some g) : Lib.TabIs Tryz.prog w name k zs := by
  obtain ⟨t, fr, h⟩ := h
  unfold Lib.TabIs World.var?
  rw [hg]
  simp only [Option.bind_some, h]

theorem Wld.std {w : World} (h : Wld w) : Std w := ⟨VarIs.tab (k := .i64) h.months months_global', VarIs.tab (k := .u64) h.pow pow_global⟩

theorem Wld.max {w : World} (h : Wld w) : HasMax w.heap.size w := by
  obtain ⟨m, hm⟩ := h.mx
  refine ⟨Nat.lt_of_not_le fun hle => ?_, m, hm⟩
  have : (World.cell? w ⟨3, 0, none⟩) = none := by
    unfold World.cell?
    rw [Array.getElem?_eq_none hle]
  rw [this] at hm; cases hm


/-! ### Contracts -/

/-- What one function hands back, out of its arguments: their sorts; what must be known of them. -/
structure Ctr where
  f : FuncId
  sorts : List (Option Srt)
  wants : List Value → List (Value × Bool)
  res : List Value → Value

def Ctr.run (S : Knw) (c : Ctr) (l : List Value) : Option Value := cond (sortsOk c.sorts l && (c.wants l).all (holds S)) (some (c.res l)) none

def orcL (S : Knw) : List Ctr → FuncId → List Value → Option Value
  | [], _, _ => none
  | c :: r, f, l => cond (Nat.beq f c.f) (c.run S l) (orcL S r f l)

def CtrOk (FN : Fns) (c : Ctr) : Prop := ∀ F args, sortsOk c.sorts args = true → (∀ p ∈ c.wants args, holds ⟨20, F, FN⟩ p = true) → ∀ ρ (args' : Array Value) w, Glob ⟨20, F, FN⟩ ρ → VRs ρ args args'.toList → Wld w →
  Calls Tryz.prog c.f args' w fun e w' => ∃ v', e = .returned v' ∧ VR ρ (c.res args) v' ∧ Below w.heap.size w w'

def WldX (base : Nat) (w : World) : Prop := (6 < base ∧ 7 < base ∧ 8 < base ∧ 9 < base ∧ 3 < base) ∧ Wld w

theorem Wld.x {w : World} (h : Wld w) : WldX w.heap.size w := ⟨⟨h.months.lt, h.pow.lt, h.freqs.lt, h.days.lt, h.max.1⟩, h⟩

theorem WldX.below {base : Nat} {w w' : World} (h : WldX base w) (hb : Below base w w') : WldX base w' := by
  obtain ⟨⟨b1, b2, b3, b4, b5⟩, h⟩ := h
  have v : ∀ {g cs}, g < base → VarIs w g cs → VarIs w' g cs := fun {g cs} hg ⟨t, fr, h⟩ => ⟨t, fr, by rw [hb.block g hg]; exact h⟩
  refine ⟨⟨b1, b2, b3, b4, b5⟩, v b1 h.months, v b2 h.pow, v b3 h.freqs, v b4 h.days, ?_⟩
  obtain ⟨m, hm⟩ := h.mx
  exact ⟨m, by rw [hb.cell (p := ⟨3, 0, none⟩) b5]; exact hm⟩

noncomputable def cfgS (FN : Fns) (cs : List Ctr) (F : List (Value × Bool)) : Cfg where
  P := Tryz.prog
  NG := ⟨20, F, FN⟩
  orc f l := match orcL ⟨20, F, FN⟩ cs f l with
    | some v => some v
    | none => orcC f l
  ext := extC
  orcG _ _ _ := none
  keepG _ _ _ _ _ h := by cases h

theorem orcL_ok {FN : Fns} {F : List (Value × Bool)} : ∀ {cs : List Ctr}, (∀ c ∈ cs, CtrOk FN c) → ∀ {f args v}, orcL ⟨20, F, FN⟩ cs f args = some v → ∃ c ∈ cs, c.f = f ∧ c.run ⟨20, F, FN⟩ args = some v
  | [], _, _, _, _, h => by cases h
  | c :: r, hc, f, args, v, h => by
    simp only [orcL] at h
    cases hq : Nat.beq f c.f with
    | true => rw [hq] at h; exact ⟨c, by simp, (Nat.eq_of_beq_eq_true hq).symm, h⟩
    | false =>
      rw [hq] at h
      obtain ⟨d, hd, h1, h2⟩ := orcL_ok (fun c hc' => hc c (List.mem_cons_of_mem _ hc')) h
      exact ⟨d, List.mem_cons_of_mem _ hd, h1, h2⟩

theorem goodS {FN : Fns} {cs : List Ctr} (hc : ∀ c ∈ cs, CtrOk FN c) (t1 t2 t3 t4 : TypeId) (F : List (Value × Bool)) : Go.Sy.Good (cfgS FN cs F) (vars t1 t2 t3 t4) WldX := by
  refine ⟨fun base w w' h hb => h.below hb, by kernel_rfl, vars_ok t1 t2 t3 t4, fun f args v h ρ args' w base g hv hw hX hb => ?_, fun _ _ _ _ h => (by cases h), extC_ok⟩
  have h' : (match orcL ⟨20, F, FN⟩ cs f args with | some v => some v | none => orcC f args) = some v := h
  split at h'
  · rename_i u hu
    cases h'
    obtain ⟨c, h1, rfl, h3⟩ := orcL_ok hc hu
    unfold Ctr.run at h3
    obtain ⟨h4, rfl⟩ := cond_none h3
    simp only [Bool.and_eq_true, List.all_eq_true] at h4
    exact hc c h1 F args h4.1 h4.2 ρ args' w g hv hX.2
  · obtain ⟨h1, h2, h3⟩ := orcC_ok f args v h'
    exact orc_flat h1 h2 (h3 w w.heap.size hX.2.max) hv

theorem Wld.gv {w : World} (h : Wld w) : ∃ t1 t2 t3 t4, ∀ x ∈ vars t1 t2 t3 t4, GvOk w x := by
  obtain ⟨t1, f1, h1⟩ := h.months
  obtain ⟨t2, f2, h2⟩ := h.pow
  obtain ⟨t3, f3, h3⟩ := h.freqs
  obtain ⟨t4, f4, h4⟩ := h.days
  refine ⟨t1, t2, t3, t4, fun x hx => ?_⟩
  simp only [vars, List.mem_cons, List.not_mem_nil, or_false] at hx
  rcases hx with rfl | rfl | rfl | rfl
  · exact ⟨f1, h1⟩
  · exact ⟨f2, h2⟩
  · exact ⟨f3, h3⟩
  · exact ⟨f4, h4⟩

/-- What a function hands back, its decisions told by a tree. -/
theorem tree_any {FN : Fns} {cs : List Ctr} (hc : ∀ c ∈ cs, CtrOk FN c) {f : FuncId} {args : List Value} {T : Tree} {F0 : List (Value × Bool)}
    (h : ∀ t1 t2 t3 t4, T.ok (fun F => (arun (cfgS FN cs F) 1000 f args (heapOf 20 (vars t1 t2 t3 t4))).map (·.1)) F0 = true) {E : Env} (hE : FactsOk E F0) (hF : E.fns = FN) {u : Value} (hu : T.val E = some u) {args' : Array Value}
    (ha : ∀ ρ : Rho, ρ.env = E → VRs ρ args args'.toList) {w : World} (hs : Wld w) :
    Calls Tryz.prog f args' w fun e w' => e = .returned u ∧ Below w.heap.size w w' := by
  obtain ⟨t1, t2, t3, t4, hw⟩ := hs.gv
  exact run_tree (C := cfgS FN cs) (fun _ => rfl) (fun _ => rfl) (fun F => goodS hc t1 t2 t3 t4 F) (h t1 t2 t3 t4) hE hF hu ha hw hs.x

end Go.Proofs.YthcfhmdoelpbdaaGreatDoor
