/- Chapter 7's fixed fact; in which worlds it holds. -/
import Derived.Test.YthcfhmdoelpbdaaGreatDoorEvAw5
namespace Go.Proofs.YthcfhmdoelpbdaaGreatDoor
set_option linter.unusedVariables false
set_option linter.unusedSimpArgs false
open Go Go.Ev Go.RowKit
theorem awk6_run (t1 t2 t3 t4 : TypeId) : okT (arun (cfgA 52) 1000 37 [] (heapOf 20 (vars t1 t2 t3 t4))) = true := by kernel_rfl
theorem awk6 (t1 t2 t3 t4 : TypeId) : Awake 37 (vars t1 t2 t3 t4) := fun w hw hX => run_true (goodA (vars_ok t1 t2 t3 t4) (awk5 t1 t2 t3 t4)) (awk6_run t1 t2 t3 t4) rfl hw hX
theorem awk7_run (t1 t2 t3 t4 : TypeId) : okT (arun (cfgA 37) 1000 13 [] (heapOf 20 (vars t1 t2 t3 t4))) = true := by kernel_rfl
theorem awk7 (t1 t2 t3 t4 : TypeId) : Awake 13 (vars t1 t2 t3 t4) := fun w hw hX => run_true (goodA (vars_ok t1 t2 t3 t4) (awk6 t1 t2 t3 t4)) (awk7_run t1 t2 t3 t4) rfl hw hX

/-- A variable's block, whatever type it bears. -/
def VarIs (w : World) (g : Nat) (cs : List Value) : Prop := ∃ t fr, w.heap[g]? = some (.cells cs.toArray t fr)

/-- What a world holds, for all chapters up to 7. -/
structure Wld (w : World) : Prop where
  months : VarIs w 6 vMonths
  pow : VarIs w 7 vPow
  freqs : VarIs w 8 vFreqs
  days : VarIs w 9 vDays
  mx : ∃ m, w.cell? ⟨3, 0, none⟩ = some (.int .i64 m)

theorem VarIs.lt {w : World} {g : Nat} {cs : List Value} (h : VarIs w g cs) : g < w.heap.size := by
  obtain ⟨t, fr, h⟩ := h
  exact (Array.getElem?_eq_some_iff.1 h).1

theorem VarIs.below {w w' : World} {g : Nat} {cs : List Value} (h : VarIs w g cs) (hb : Below w.heap.size w w') : VarIs w' g cs := by
  have := h.lt
  obtain ⟨t, fr, h⟩ := h
  exact ⟨t, fr, by rw [hb.block g this]; exact h⟩

theorem Wld.below {w w' : World} (h : Wld w) (hb : Below w.heap.size w w') : Wld w' := by
  refine ⟨h.months.below hb, h.pow.below hb, h.freqs.below hb, h.days.below hb, ?_⟩
  obtain ⟨m, hm⟩ := h.mx
  refine ⟨m, ?_⟩
  rw [hb.cell (p := ⟨3, 0, none⟩) (Nat.lt_of_not_le fun hle => ?_)]
  · exact hm
  · have : (World.cell? w ⟨3, 0, none⟩) = none := by
      unfold World.cell?
      rw [Array.getElem?_eq_none hle]
    rw [this] at hm; cases hm

theorem pow_global : Tryz.prog.globalNamed "internal/strconv.uint64pow10" = some 7 := by kernel_rfl
theorem months_global' : Tryz.prog.globalNamed "kalends/civil.months" = some 6 := by kernel_rfl

theorem VarIs.tab {w : World} {g : Nat} {name : String} {k : IntKind} {zs : List Int} (h : VarIs w g (zs.map fun z => Value.int k z)) (hg : Tryz.prog.globalNamed name = some g) : Lib.TabIs Tryz.prog w name k zs := by
  obtain ⟨t, fr, h⟩ := h
  unfold Lib.TabIs World.var?
  rw [hg]
  simp only [Option.bind_some, h]

theorem Wld.std {w : World} (h : Wld w) : Std w := ⟨VarIs.tab (k := .i64) h.months months_global', VarIs.tab (k := .u64) h.pow pow_global⟩

theorem Wld.max {w : World} (h : Wld w) : HasMax w.heap.size w := by
  obtain ⟨m, hm⟩ := h.mx
  refine ⟨Nat.lt_of_not_le fun hle => ?_, m, hm⟩
  have : (World.cell? w ⟨3, 0, none⟩) = none := by
    unfold World.cell?
    rw [Array.getElem?_eq_none hle]
  rw [this] at hm; cases hm

theorem awake7_any (w : World) (h : Wld w) : Calls Tryz.prog 13 #[] w fun e w' => e = .returned (.bool true) ∧ Below w.heap.size w w' := by
  obtain ⟨t1, f1, h1⟩ := h.months
  obtain ⟨t2, f2, h2⟩ := h.pow
  obtain ⟨t3, f3, h3⟩ := h.freqs
  obtain ⟨t4, f4, h4⟩ := h.days
  refine awk7 t1 t2 t3 t4 w (fun x hx => ?_) h.max
  simp only [vars, List.mem_cons, List.not_mem_nil, or_false] at hx
  rcases hx with rfl | rfl | rfl | rfl
  · exact ⟨f1, h1⟩
  · exact ⟨f2, h2⟩
  · exact ⟨f3, h3⟩
  · exact ⟨f4, h4⟩
end Go.Proofs.YthcfhmdoelpbdaaGreatDoor
