/- The evaluator's operations that look into memory: loads, stores, new variables, slices. -/
import Derived.Test.YthcfhmdoelpbdaaGreatDoorEvS
import Derived.Laws.MakeOwn
import Derived.Great.BuildSlice
namespace Go.Ev
set_option linter.unusedVariables false
set_option linter.unusedSimpArgs false
open Go

/-! ### Cells -/

theorem CellsR.vrs {ρ : Rho} {b : Nat} {cs : List Value} {rg wr : Bool} {es : Nat} {ccs : Array Value} {fr : Nat × Nat} (h : CellsR ρ b cs rg es wr ccs fr) :
    VRs ρ cs ((ccs.toList.drop (ρ.off b)).take cs.length) := by
  have hl := h.len
  refine ⟨by simp; omega, fun i x y hx hy => ?_⟩
  obtain ⟨v', h1, h2⟩ := h.cell i x hx
  rw [List.getElem?_take] at hy
  split at hy
  · rw [List.getElem?_drop] at hy
    have : ccs.toList[ρ.off b + i]? = some v' := by simpa using h1
    rw [this] at hy
    cases hy
    exact h2
  · cases hy

theorem cell_at {w : World} {g : Nat} {ccs : Array Value} {el : TypeId} {fr : Nat × Nat} (h : w.heap[g]? = some (.cells ccs el fr)) (o : Nat) : w.cell? ⟨g, o, none⟩ = ccs[o]? := by
  simp [World.cell?, h]

theorem frozen_at {w : World} {g : Nat} {ccs : Array Value} {el : TypeId} {lo hi : Nat} (h : w.heap[g]? = some (.cells ccs el (lo, hi))) (o : Nat) : w.frozen? ⟨g, o, none⟩ = (decide (lo ≤ o) && decide (o < hi)) := by
  simp [World.frozen?, h]

/-- The cells of a row, read at once. -/
theorem run_loadRow {P : Program} {w : World} {g : Nat} {ccs : Array Value} {el : TypeId} {fr : Nat × Nat} (h : w.heap[g]? = some (.cells ccs el fr)) (o n : Nat) (hn : o + n ≤ ccs.size) :
    (loadCells ⟨g, o, none⟩ n).run P w = .ok ((ccs.toList.drop o).take n).toArray w := by
  have hl : ((ccs.toList.drop o).take n).length = n := by simp; omega
  have := run_loadCells_list (P := P) w ⟨g, o, none⟩ ((ccs.toList.drop o).take n) (fun j v hv => by
    rw [add_none, cell_at h]
    rw [List.getElem?_take] at hv
    split at hv
    · rw [List.getElem?_drop] at hv; simpa using hv
    · cases hv)
  rw [hl] at this
  exact this

theorem heap_setCell {w : World} {g : Nat} {ccs : Array Value} {el : TypeId} {fr : Nat × Nat} (h : w.heap[g]? = some (.cells ccs el fr)) (o : Nat) (v : Value) :
    (w.setCell ⟨g, o, none⟩ v).heap[g]? = some (.cells (ccs.setIfInBounds o v) el fr) := by
  have hlt := (Array.getElem?_eq_some_iff.1 h).1
  simp only [World.setCell, Array.getElem?_modify, if_true, h, Option.map_some]
  rfl

theorem heap_setCells {g : Nat} {el : TypeId} {fr : Nat × Nat} : ∀ (vs : List Value) (o : Nat) (ccs : Array Value) (w : World), w.heap[g]? = some (.cells ccs el fr) → o + vs.length ≤ ccs.size →
    ∃ ccs', (w.setCells g o vs).heap[g]? = some (.cells ccs' el fr) ∧ ccs'.toList = ccs.toList.take o ++ (vs ++ ccs.toList.drop (o + vs.length)) := by
  intro vs
  induction vs with
  | nil => intro o ccs w h _; exact ⟨ccs, h, by simp⟩
  | cons v r ih =>
    intro o ccs w h hl
    simp only [List.length_cons] at hl
    obtain ⟨ccs', h1, h2⟩ := ih (o + 1) (ccs.setIfInBounds o v) _ (heap_setCell h o v) (by simp; omega)
    refine ⟨ccs', h1, ?_⟩
    have h0 : o < ccs.toList.length := by simp; omega
    rw [h2]
    simp only [Array.toList_setIfInBounds, List.length_cons]
    have hs : ccs.toList.set o v = ccs.toList.take o ++ v :: ccs.toList.drop (o + 1) := by rw [List.set_eq_take_append_cons_drop, if_pos h0]
    have hl' : (ccs.toList.take o).length = o := by rw [List.length_take]; omega
    rw [hs]
    have t1 : ((ccs.toList.take o) ++ v :: ccs.toList.drop (o + 1)).take (o + 1) = ccs.toList.take o ++ [v] := by
      rw [List.take_append, hl', List.take_of_length_le (by rw [hl']; omega), show o + 1 - o = 1 by omega]
      rfl
    have t2 : ((ccs.toList.take o) ++ v :: ccs.toList.drop (o + 1)).drop (o + 1 + r.length) = ccs.toList.drop (o + (r.length + 1)) := by
      rw [List.drop_append, hl', List.drop_of_length_le (by rw [hl']; omega), List.nil_append, show o + 1 + r.length - o = r.length + 1 by omega, List.drop_succ_cons, List.drop_drop]
      congr 1; omega
    rw [t1, t2, List.append_assoc]
    rfl

theorem setCells_other {g : Nat} : ∀ (vs : List Value) (o : Nat) (w : World) (k : Nat), k ≠ g → (w.setCells g o vs).heap[k]? = w.heap[k]? := by
  intro vs
  induction vs with
  | nil => intro o w k _; rfl
  | cons v r ih => intro o w k hk; simp only [World.setCells]; rw [ih _ _ k hk]; exact Go.RowKit.Below.heap_setCell w _ v k hk

theorem setCells_same {g : Nat} : ∀ (vs : List Value) (o : Nat) (w : World), (w.setCells g o vs).heap.size = w.heap.size ∧ (w.setCells g o vs).os = w.os ∧ (w.setCells g o vs).tape = w.tape ∧ (w.setCells g o vs).output = w.output := by
  intro vs
  induction vs with
  | nil => intro o w; exact ⟨rfl, rfl, rfl, rfl⟩
  | cons v r ih =>
    intro o w
    simp only [World.setCells]
    obtain ⟨a, b, c, d⟩ := ih (o + 1) (w.setCell ⟨g, o, none⟩ v)
    exact ⟨a.trans (by simp [World.setCell]), b, c, d⟩

def oneC : Value → Bool
  | .agg _ | .tuple _ => false
  | _ => true

theorem VR.oneC {ρ : Rho} {v v' : Value} (h : VR ρ v v') (ho : Ev.oneC v = true) : v'.oneCell' = true := by
  cases h <;> first | rfl | simp [Ev.oneC] at ho

/-! ### Load -/

def aload (P : Program) (t : TypeId) (H : Heap) (x : Value) : Option Value :=
  match x with
  | .pointer (some ⟨b, o, none⟩) => match look H b with
    | some (.cells cs _ _ _ _ _) => match isAg P t with
      | some true => match cellsN P t with
        | some n => cond (Nat.ble (o + n) cs.length) (some (.agg ((cs.drop o).take n).toArray)) none
        | none => none
      | some false => cs[o]?
      | none => none
    | _ => none
  | _ => none

theorem aload_ok {P : Program} {NG base : Nat} {ρ : Rho} {H : Heap} {w : World} {t : TypeId} {x x' v : Value} (hr : Rel NG base ρ H w) (h : aload P t H x = some v) (hx : VR ρ x x') :
    ∃ v', VR ρ v v' ∧ (Instr.loadAt t x').run P w = .ok v' w := by
  unfold aload at h
  split at h
  · rename_i b o
    obtain ⟨rfl, hb⟩ := hx.ptr_inv
    split at h
    · rename_i cs el rig esz root wr hl
      obtain ⟨ccs, fr, h0, hc⟩ := hr.obj b _ hl
      have hlen := hc.len
      split at h
      · rename_i hag
        split at h
        · rename_i n hn
          cases hb2 : Nat.ble (o + n) cs.length with
          | false => simp [hb2] at h
          | true =>
            simp only [hb2, cond_true, Option.some.injEq] at h
            subst h
            have hle := Nat.le_of_ble_eq_true hb2
            refine ⟨.agg ((ccs.toList.drop (ρ.off b + o)).take n).toArray, VR.agg' ?_, ?_⟩
            · have := (hc.vrs.drop o).take n
              simp only
              have e : ((((ccs.toList.drop (ρ.off b)).take cs.length).drop o).take n) = (ccs.toList.drop (ρ.off b + o)).take n := by
                rw [List.drop_take, List.drop_drop, List.take_take, Nat.min_eq_left (by omega)]
              rw [e] at this
              exact this
            · simp only [Instr.loadAt, Instr.sureAddr, loadVar, Sem.run_bind, Sem.run_pure, Result.andThen_ok, run_isAg hag, if_true, run_cellsN hn, run_loadRow h0 (ρ.off b + o) n (by omega)]
        · cases h
      · rename_i hag
        obtain ⟨v', h1, h2⟩ := hc.cell o v h
        refine ⟨v', h2, ?_⟩
        have hcell : w.cell? ⟨ρ.blk b, ρ.off b + o, none⟩ = some v' := by rw [cell_at h0]; exact h1
        simp [Instr.loadAt, Instr.sureAddr, loadVar, run_isAg hag, load, Sem.run, hcell]
      · cases h
    · cases h
  · cases h

/-! ### Store -/

/-- Cells of a block of the call's own are written. -/
def aput (H : Heap) (b o : Nat) (vc : List Value) : Option Heap :=
  match look H b with
  | some (.cells cs el rig esz root true) =>
    cond (Nat.ble H.wmin b) (cond (Nat.ble (o + vc.length) cs.length) (cond (vc.all oneC)
      (some (H.put b (.cells cs el rig esz root true) (.cells (cs.take o ++ (vc ++ cs.drop (o + vc.length))) el rig esz root true))) none) none) none
  | _ => none

theorem aput_spec {H H' : Heap} {b o : Nat} {vc : List Value} (h : aput H b o vc = some H') :
    ∃ cs el rig esz root, look H b = some (.cells cs el rig esz root true) ∧ H.wmin ≤ b ∧ o + vc.length ≤ cs.length ∧ vc.all oneC = true ∧
      H' = (H.put b (.cells cs el rig esz root true) (.cells (cs.take o ++ (vc ++ cs.drop (o + vc.length))) el rig esz root true)) := by
  unfold aput at h
  split at h
  · rename_i cs el rig esz root hl
    cases h1 : Nat.ble H.wmin b with
    | false => simp [h1] at h
    | true =>
      cases h2 : Nat.ble (o + vc.length) cs.length with
      | false => simp [h1, h2] at h
      | true =>
        cases h3 : vc.all oneC with
        | false => simp [h1, h2, h3] at h
        | true =>
          simp only [h1, h2, h3, cond_true, Option.some.injEq] at h
          exact ⟨cs, el, rig, esz, root, hl, Nat.le_of_ble_eq_true h1, Nat.le_of_ble_eq_true h2, rfl, h.symm⟩
  · cases h

theorem aput_ok {P : Program} {NG base : Nat} {ρ : Rho} {H H' : Heap} {w : World} {b o : Nat} {vc vc' : List Value} (hr : Rel NG base ρ H w) (h : aput H b o vc = some H') (hv : VRs ρ vc vc') :
    (storeCells ⟨ρ.blk b, ρ.off b + o, none⟩ vc').run P w = .ok () (w.setCells (ρ.blk b) (ρ.off b + o) vc') ∧ Post NG base ρ H H' w (w.setCells (ρ.blk b) (ρ.off b + o) vc') ρ := by
  obtain ⟨cs, el, rig, esz, root, hl, hm, hle, hone, rfl⟩ := aput_spec h
  obtain ⟨ccs, ⟨flo, fhi⟩, h0, hc⟩ := hr.obj b _ hl
  have hlen := hc.len
  have hvl : vc'.length = vc.length := hv.1.symm
  obtain ⟨ccs', h1, h2⟩ := heap_setCells vc' (ρ.off b + o) ccs w h0 (by rw [hvl]; omega)
  have hs := setCells_same (g := ρ.blk b) vc' (ρ.off b + o) w
  have hsize : ccs'.size = ccs.size := by
    have := congrArg List.length h2
    simp at this
    omega
  constructor
  · have := run_storeCells_cells (P := P) (ρ.blk b) (ρ.off b + o) vc' 0 w (fun j hj => by
      rw [cell_at h0]
      have : ρ.off b + o + 0 + j < ccs.size := by omega
      rw [Array.getElem?_eq_getElem this]; rfl) (fun j hj => by
      rw [frozen_at h0]
      have := hc.free rfl (ρ.off b + o + 0 + j) (by omega) (by omega)
      simp only at this
      rw [Bool.eq_false_iff]
      intro hh
      simp only [Bool.and_eq_true, decide_eq_true_eq] at hh
      exact this hh) (fun v hvm => by
      obtain ⟨i, hi⟩ := List.getElem?_of_mem hvm
      have hi' : i < vc.length := by rw [hv.1]; exact (List.getElem?_eq_some_iff.1 hi).1
      have := hv.2 i vc[i] v (List.getElem?_eq_getElem hi') hi
      exact this.oneC (List.all_eq_true.1 hone _ (List.getElem_mem hi')))
    simpa using this
  · refine Post.write hr hl rfl hm (fun k hk => setCells_other vc' _ w k hk) hs.1 hs.2.1 hs.2.2.1 hs.2.2.2 ⟨ccs', (flo, fhi), h1, ?_⟩ rfl
    refine ⟨by rw [hsize]; exact hc.tot, hc.rig, hc.esz, ?_, fun hrg => ?_, ?_, fun hw k h3 h4 => hc.free hw k h3 (by omega)⟩
    · rw [hsize]; simp; omega
    · have := hc.full hrg
      refine ⟨this.1, ?_⟩
      rw [hsize, this.2]; simp; omega
    · intro i x hx
      have hV : VRs ρ (cs.take o ++ (vc ++ cs.drop (o + vc.length))) ((ccs'.toList.drop (ρ.off b)).take cs.length) := by
        have e : (ccs'.toList.drop (ρ.off b)).take cs.length = ((ccs.toList.drop (ρ.off b)).take cs.length).take o ++ (vc' ++ ((ccs.toList.drop (ρ.off b)).take cs.length).drop (o + vc.length)) := by
          rw [h2]
          have la : (ccs.toList.take (ρ.off b + o)).length = ρ.off b + o := by simp; omega
          rw [List.drop_append, la, show ρ.off b - (ρ.off b + o) = 0 by omega, List.drop_zero, List.drop_take, show ρ.off b + o - ρ.off b = o by omega]
          have lb : ((ccs.toList.drop (ρ.off b)).take o).length = o := by simp; omega
          rw [List.take_append, lb, List.take_of_length_le (by rw [lb]; omega), List.take_take, Nat.min_eq_left (by omega)]
          congr 1
          rw [List.take_append, List.take_of_length_le (by omega)]
          congr 1
          rw [List.drop_take, List.drop_drop, hvl]
          congr 1
          · omega
          · congr 1; omega
        rw [e]
        exact (hc.vrs.take o).append (hv.append (hc.vrs.drop _))
      obtain ⟨y, hy, hxy⟩ := hV.get hx
      rw [List.getElem?_take] at hy
      split at hy
      · rw [List.getElem?_drop] at hy
        exact ⟨y, by simpa using hy, hxy⟩
      · cases hy

def astore (P : Program) (t : TypeId) (H : Heap) (x v : Value) : Option Heap :=
  match x with
  | .pointer (some ⟨b, o, none⟩) => match cellsN P t with
    | some n => cond (Nat.beq v.cells.toList.length n) (aput H b o v.cells.toList) none
    | none => none
  | _ => none

theorem astore_ok {P : Program} {NG base : Nat} {ρ : Rho} {H H' : Heap} {w : World} {t : TypeId} {x x' v v' : Value} (hr : Rel NG base ρ H w) (h : astore P t H x v = some H') (hx : VR ρ x x') (hv : VR ρ v v') :
    ∃ w', (Instr.storeAt t x' v').run P w = .ok () w' ∧ Post NG base ρ H H' w w' ρ := by
  unfold astore at h
  split at h
  · rename_i b o
    obtain ⟨rfl, hb⟩ := hx.ptr_inv
    split at h
    · rename_i n hn
      cases hb2 : Nat.beq v.cells.toList.length n with
      | false => rw [hb2] at h; cases h
      | true =>
        rw [hb2] at h
        simp only [cond_true] at h
        obtain ⟨h1, h2⟩ := aput_ok (P := P) hr h hv.cells
        refine ⟨_, ?_, h2⟩
        have hsz : v'.cells.size = n := by
          have := hv.cells.1
          have := Nat.eq_of_beq_eq_true hb2
          simp at *
          omega
        simp only [Instr.storeAt, Instr.sureAddr, storeVar, Sem.run_bind, Sem.run_pure, Result.andThen_ok, run_cellsN hn]
        rw [if_neg (by omega)]
        exact h1
    · cases h
  · cases h

/-! ### New variables, new rows -/

theorem new_row {NG base : Nat} {ρ : Rho} {H : Heap} {w : World} (hr : Rel NG base ρ H w) (hf : ¬ ρ.dom H.next) (cs : List Value) (cs' : Array Value) (el : TypeId) (esz : Nat) (hv : VRs ρ cs cs'.toList) :
    Post NG base ρ H (H.push (.cells cs el true esz H.next true)) w (w.alloc (.cells cs' el)) (ρ.new H.next w.heap.size 0 cs'.size esz true) ∧
    (ρ.new H.next w.heap.size 0 cs'.size esz true).dom H.next ∧ (ρ.new H.next w.heap.size 0 cs'.size esz true).blk H.next = w.heap.size ∧ (ρ.new H.next w.heap.size 0 cs'.size esz true).off H.next = 0 := by
  refine ⟨Post.alloc hr hf 0 cs'.size esz true ⟨cs', (0, 0), ?_, ?_⟩, .inl rfl, if_pos rfl, if_pos rfl⟩
  · show (w.alloc (.cells cs' el)).heap[(ρ.new H.next w.heap.size 0 cs'.size esz true).blk H.next]? = _
    rw [show (ρ.new H.next w.heap.size 0 cs'.size esz true).blk H.next = w.heap.size from if_pos rfl]
    exact heap_alloc_new w _
  · have e := Rho.ext_new (ρ := ρ) hf w.heap.size 0 cs'.size esz true
    have hl := hv.1
    refine ⟨if_pos rfl, if_pos rfl, if_pos rfl, ?_, fun _ => ⟨if_pos rfl, ?_⟩, fun i v hi => ?_, fun _ k _ _ h => by omega⟩
    · rw [show (ρ.new H.next w.heap.size 0 cs'.size esz true).off H.next = 0 from if_pos rfl]; simp at hl; omega
    · simp at hl; omega
    · obtain ⟨y, hy, hxy⟩ := hv.get hi
      refine ⟨y, ?_, hxy.mono e⟩
      rw [show (ρ.new H.next w.heap.size 0 cs'.size esz true).off H.next = 0 from if_pos rfl]
      simpa using hy

def abox (H : Heap) (t : TypeId) (v : Value) : Value × Heap :=
  (.pointer (some ⟨H.next, 0, none⟩), H.push (.cells v.cells.toList t true 0 H.next true))

theorem abox_ok {P : Program} {NG base : Nat} {ρ : Rho} {H : Heap} {w : World} (hr : Rel NG base ρ H w) (hf : ¬ ρ.dom H.next) (t : TypeId) {v v' : Value} (hv : VR ρ v v') :
    ∃ w' ρ' u, (newVar t v').run P w = .ok u w' ∧ VR ρ' (abox H t v).1 (.pointer (some u)) ∧ Post NG base ρ H (abox H t v).2 w w' ρ' := by
  obtain ⟨h1, h2, h3, h4⟩ := new_row hr hf v.cells.toList v'.cells t 0 hv.cells
  refine ⟨_, _, ⟨w.heap.size, 0, none⟩, rfl, ?_, h1⟩
  have := VR.ptr H.next 0 h2
  rw [h3, h4] at this
  exact this

/-- The cells of 'n' zero values, one behind the other. -/
def zeros (z : List Value) (n : Nat) : List Value := (List.range n).map fun i => z.getD (i % z.length) default

theorem zeros_eq (z : Array Value) (n : Nat) : ((Array.range n).map (z[· % z.size]!)).toList = zeros z.toList n := by
  simp only [zeros, Array.toList_map, Array.toList_range]
  apply List.map_congr_left
  intro i _
  simp only [Array.length_toList]
  by_cases h : i % z.size < z.size
  · simp [List.getD, h]
  · simp [List.getD, h]

theorem madeCells_toList (z : Array Value) (n : Nat) : (madeCells z n).toList = zeros z.toList n := by
  rw [← zeros_eq]; rfl

theorem zeros_vr {P : Program} (ρ : Rho) {t : TypeId} {z : Value} (h : zeroOf P t = some z) (n : Nat) : VRs ρ (zeros z.cells.toList n) (zeros z.cells.toList n) := by
  refine VRs.refl fun x hx => ?_
  obtain ⟨i, _, rfl⟩ := List.mem_map.1 hx
  by_cases hi : i % z.cells.toList.length < z.cells.toList.length
  · obtain ⟨y, hy, hxy⟩ := (zeroOf_cells (ρ := ρ) h).get (List.getElem?_eq_getElem hi)
    have e1 : z.cells.toList.getD (i % z.cells.toList.length) default = z.cells.toList[i % z.cells.toList.length] := by rw [List.getD, List.getElem?_eq_getElem hi]; rfl
    rw [e1]
    rw [List.getElem?_eq_getElem hi] at hy
    cases hy
    exact hxy
  · have e1 : z.cells.toList.getD (i % z.cells.toList.length) default = default := by simp only [List.getD, List.getElem?_eq_none (Nat.le_of_not_lt hi), Option.getD_none]
    rw [e1]
    exact flat_refl ρ 40 default (by decide)

def abuildSlice (P : Program) (H : Heap) (t : TypeId) (len : Nat) (ps : List (Nat × Value)) : Option (Value × Heap) :=
  match P.underlying t with
  | some (.slice e) => match P.info? e, zeroOf P e with
    | some ie, some z => cond (Nat.ble 1 (len * ie.size) && Nat.ble (len * ie.size) 16777216)
      (match afill (fun i => some (i * ie.size, ie.size)) (zeros z.cells.toList (len * ie.size)) ps with
       | some cs => some (.slice (some ⟨H.next, 0, none⟩) len len, H.push (.cells cs e true ie.size H.next true))
       | none => none) none
    | _, _ => none
  | _ => none

theorem VR.slice_new {ρ : Rho} {b blk : Nat} (hd : ρ.dom b) (hb : ρ.blk b = blk) (ho : ρ.off b = 0) (hr : ρ.rig b = true) {n c : Nat} (hn : n ≤ c) : VR ρ (.slice (some ⟨b, 0, none⟩) n c) (.slice (some ⟨blk, 0, none⟩) n c) := by
  have := VR.slice (ρ := ρ) b 0 n c c hd hn (Nat.le_refl _) (fun _ => rfl) (fun h => by rw [hr] at h; cases h)
  rw [hb, ho] at this
  exact this

theorem abuildSlice_ok {P : Program} {NG base : Nat} {ρ : Rho} {H H' : Heap} {w : World} {t : TypeId} {len : Nat} {ps : List (Nat × Value)} {ps' : Array (Nat × Value)} {v : Value}
    (hr : Rel NG base ρ H w) (hf : ¬ ρ.dom H.next) (h : abuildSlice P H t len ps = some (v, H')) (hp : PartsR ρ ps ps'.toList) :
    ∃ v' w' ρ', (Instr.buildSlice t len ps').run P w = .ok v' w' ∧ VR ρ' v v' ∧ Post NG base ρ H H' w w' ρ' := by
  unfold abuildSlice at h
  split at h
  · rename_i e hu
    split at h
    · rename_i ie z hie hz
      cases hc : (Nat.ble 1 (len * ie.size) && Nat.ble (len * ie.size) 16777216) with
      | false => simp [hc] at h
      | true =>
        simp only [hc, cond_true] at h
        simp only [Bool.and_eq_true] at hc
        have c1 := Nat.le_of_ble_eq_true hc.1
        have c2 := Nat.le_of_ble_eq_true hc.2
        split at h
        · rename_i cs hcs
          simp only [Option.some.injEq, Prod.mk.injEq] at h
          obtain ⟨rfl, rfl⟩ := h
          obtain ⟨⟨ie', hie', hzz⟩, _⟩ := zeroOf_spec hz
          have : ie' = ie := Option.some.inj (hie'.symm.trans hie)
          subst this
          obtain ⟨cs', h1, h2⟩ := afill_ok (cs' := (Array.range (len * ie'.size)).map (z.cells[· % z.cells.size]!)) hcs (by rw [zeros_eq]; exact zeros_vr ρ hz _) hp
          have hrun := run_buildSlice (P := P) w t e len ps' cs' ie' z hu hie hzz (by omega) (by omega) h1
          obtain ⟨p1, p2, p3, p4⟩ := new_row hr hf cs cs' e ie'.size h2
          exact ⟨_, _, _, hrun, VR.slice_new p2 p3 p4 (if_pos rfl) (Nat.le_refl _), p1⟩
        · cases h
    · cases h
  · cases h

def amakeSlice (P : Program) (H : Heap) (t : TypeId) (l c : Value) : Option (Value × Heap) :=
  match P.underlying t, l, c with
  | some (.slice e), .int _ (.ofNat n), .int _ (.ofNat m) => match P.info? e, zeroOf P e with
    | some ie, some z => cond (Nat.ble n m && Nat.ble m 16777216 && Nat.ble ie.bytes 65536)
      (some (.slice (some ⟨H.next, 0, none⟩) n m, H.push (.cells (zeros z.cells.toList (m * ie.size)) e true ie.size H.next true))) none
    | _, _ => none
  | _, _, _ => none

theorem amakeSlice_ok {P : Program} {NG base : Nat} {ρ : Rho} {H H' : Heap} {w : World} {t : TypeId} {l l' c c' v : Value}
    (hr : Rel NG base ρ H w) (hf : ¬ ρ.dom H.next) (h : amakeSlice P H t l c = some (v, H')) (hl : VR ρ l l') (hcc : VR ρ c c') :
    ∃ v' w' ρ', (Instr.makeSlice t l' c').run P w = .ok v' w' ∧ VR ρ' v v' ∧ Post NG base ρ H H' w w' ρ' := by
  unfold amakeSlice at h
  split at h
  · rename_i e kl n kc m hu
    cases hl; cases hcc
    split at h
    · rename_i ie z hie hz
      cases hc : (Nat.ble n m && Nat.ble m 16777216 && Nat.ble ie.bytes 65536) with
      | false => simp [hc] at h
      | true =>
        simp only [hc, cond_true, Option.some.injEq, Prod.mk.injEq] at h
        obtain ⟨rfl, rfl⟩ := h
        simp only [Bool.and_eq_true] at hc
        have c1 := Nat.le_of_ble_eq_true hc.1.1
        have c2 := Nat.le_of_ble_eq_true hc.1.2
        have c3 := Nat.le_of_ble_eq_true hc.2
        obtain ⟨⟨ie', hie', hzz⟩, _⟩ := zeroOf_spec hz
        have : ie' = ie := Option.some.inj (hie'.symm.trans hie)
        subst this
        have hby : (ie'.bytes : Int) * (m : Int) ≤ 281474976710656 := by
          have h1 : ie'.bytes * m ≤ 65536 * 16777216 := Nat.mul_le_mul c3 c2
          have h2 : ((ie'.bytes * m : Nat) : Int) ≤ 281474976710656 := by omega
          rwa [Int.natCast_mul] at h2
        have hrun := run_make (P := P) w t e ie' z hu hie hzz kl kc (n : Int) (m : Int) (by omega) (by omega) hby (by omega)
        simp only [Int.toNat_natCast] at hrun
        obtain ⟨p1, p2, p3, p4⟩ := new_row hr hf (zeros z.cells.toList (m * ie'.size)) (madeCells z.cells (m * ie'.size)) e ie'.size (by rw [madeCells_toList]; exact zeros_vr ρ hz _)
        exact ⟨_, _, _, hrun, VR.slice_new p2 p3 p4 (if_pos rfl) c1, p1⟩
    · cases h
  · cases h

/-! ### Slices of slices, of arrays -/

def asliceAt (P : Program) (H : Heap) (t : TypeId) (x : Value) (lo hi : Option Value) : Option Value :=
  match P.underlying t, x with
  | some (.slice e), .slice none 0 0 => match abnd hi 0 0, cellsN P e with
    | some h, some _ => match abnd lo 0 h with
      | some _ => some (.slice none 0 0)
      | none => none
    | _, _ => none
  | some (.slice e), .slice (some ⟨b, o, none⟩) n c => match abnd hi n c, cellsN P e, look H b with
    | some h, some s, some (.cells _ _ rig esz _ _) => match abnd lo 0 h with
      | some l => cond (rig || Nat.beq s esz) (some (.slice (some ⟨b, o + l * s, none⟩) (h - l) (c - l))) none
      | none => none
    | _, _, _ => none
  | some (.array n e), .pointer (some ⟨b, o, none⟩) => match abnd hi n n, cellsN P e, look H b with
    | some h, some s, some (.cells _ _ true _ _ _) => match abnd lo 0 h with
      | some l => some (.slice (some ⟨b, o + l * s, none⟩) (h - l) (n - l))
      | none => none
    | _, _, _ => none
  | _, _ => none

theorem asliceAt_ok {P : Program} {NG base : Nat} {ρ : Rho} {H : Heap} {w : World} {t : TypeId} {x x' v : Value} {lo lo' hi hi' : Option Value} (hr : Rel NG base ρ H w) (h : asliceAt P H t x lo hi = some v) (hx : VR ρ x x')
    (hlo : OptR ρ lo lo') (hhi : OptR ρ hi hi') : ∃ v', VR ρ v v' ∧ (Instr.sliceAt t x' lo' hi' none).run P w = .ok v' w := by
  unfold asliceAt at h
  split at h
  · rename_i e hu
    cases hx
    split at h
    · rename_i hb s hhb hs
      split at h
      · rename_i lb hlb
        simp only [Option.some.injEq] at h
        subst h
        obtain ⟨⟨h1, h2⟩, hrn⟩ := abnds_ok (P := P) (isS := true) hhb hlb hhi hlo (Nat.le_refl 0)
        have hb0 : hb = 0 := by omega
        have hl0 : lb = 0 := by omega
        subst hb0 hl0
        refine ⟨.slice none 0 0, .snil _ _, ?_⟩
        simp only [Instr.sliceAt, Sem.run_bind, run_underlying hu, Result.andThen_ok, Instr.slice, hrn w, run_cellsN hs]
        simp
      · cases h
    · cases h
  · rename_i e b o n c hu
    split at h
    · rename_i hb s ccs el rig esz root wr hhb hs hl
      split at h
      · rename_i lb hlb
        cases hcond : (rig || Nat.beq s esz) with
        | false => simp [hcond] at h
        | true =>
          simp only [hcond, cond_true, Option.some.injEq] at h
          subst h
          obtain ⟨cc, fr, h0, hc⟩ := hr.obj b _ hl
          cases hx with
          | slice _ _ _ _ c' hd q1 q2 q3 q4 =>
            obtain ⟨⟨h1, h2⟩, hrn⟩ := abnds_ok (P := P) (isS := true) hhb hlb hhi hlo q2
            have hrun : (Instr.sliceAt t (.slice (some ⟨ρ.blk b, ρ.off b + o, none⟩) n c') lo' hi' none).run P w = .ok (.slice (some (if c' = lb then ⟨ρ.blk b, ρ.off b + o, none⟩ else ⟨ρ.blk b, ρ.off b + o + lb * s, none⟩)) (hb - lb) (c' - lb)) w := by
              simp only [Instr.sliceAt, Sem.run_bind, run_underlying hu, Result.andThen_ok, Instr.slice, hrn w, run_cellsN hs, Sem.run_pure, Option.map_some, add_none]
              split <;> rfl
            refine ⟨_, ?_, hrun⟩
            by_cases e4 : c' = lb
            · have e2 : hb - lb = 0 := by omega
              have e3 : c - lb = 0 := by omega
              rw [e2, e3, if_pos e4, show c' - lb = 0 by omega]
              exact .sliceE b _ _ hd
            · rw [if_neg e4, Nat.add_assoc]
              refine .slice b (o + lb * s) (hb - lb) (c - lb) (c' - lb) hd (by omega) (by omega) (fun hrg => by rw [q3 hrg]) (fun hrg => ?_)
              have hq := q4 hrg
              have hse : s = ρ.esz b := by
                rw [hc.esz]
                rw [hc.rig] at hrg
                subst hrg
                exact Nat.eq_of_beq_eq_true (by simpa using hcond)
              subst hse
              have : lb * ρ.esz b + (c' - lb) * ρ.esz b = c' * ρ.esz b := by rw [← Nat.add_mul]; congr 1; omega
              omega
          | sliceE _ _ o' hd =>
            obtain ⟨⟨h1, h2⟩, hrn⟩ := abnds_ok (P := P) (isS := true) hhb hlb hhi hlo (Nat.le_refl 0)
            have hb0 : hb = 0 := by omega
            have hl0 : lb = 0 := by omega
            subst hb0 hl0
            refine ⟨.slice (some ⟨ρ.blk b, o', none⟩) 0 0, .sliceE b _ o' hd, ?_⟩
            simp only [Instr.sliceAt, Sem.run_bind, run_underlying hu, Result.andThen_ok, Instr.slice, hrn w, run_cellsN hs]
            simp
      · cases h
    · cases h
  · rename_i n e b o hu
    obtain ⟨rfl, hd⟩ := hx.ptr_inv
    split at h
    · rename_i hb s ccs el esz root wr hhb hs hl
      split at h
      · rename_i lb hlb
        simp only [Option.some.injEq] at h
        subst h
        obtain ⟨cc, fr, h0, hc⟩ := hr.obj b _ hl
        obtain ⟨⟨h1, h2⟩, hrn⟩ := abnds_ok (P := P) (isS := false) hhb hlb hhi hlo (Nat.le_refl n)
        have hrun : (Instr.sliceAt t (.pointer (some ⟨ρ.blk b, ρ.off b + o, none⟩)) lo' hi' none).run P w = .ok (.slice (some (if n = lb then ⟨ρ.blk b, ρ.off b + o, none⟩ else ⟨ρ.blk b, ρ.off b + o + lb * s, none⟩)) (hb - lb) (n - lb)) w := by
          simp only [Instr.sliceAt, Sem.run_bind, run_underlying hu, Result.andThen_ok, Instr.sureAddr, hrn w, run_cellsN hs, Sem.run_pure, add_none]
        refine ⟨_, ?_, hrun⟩
        have hrg : ρ.rig b = true := hc.rig
        by_cases e1 : n = lb
        · have e2 : hb - lb = 0 := by omega
          have e3 : n - lb = 0 := by omega
          rw [e2, e3, if_pos e1]
          exact .sliceE b _ _ hd
        · rw [if_neg e1, Nat.add_assoc]
          exact .slice b (o + lb * s) _ _ _ hd (by omega) (Nat.le_refl _) (fun _ => rfl) (fun h => by rw [hrg] at h; cases h)
      · cases h
    · cases h
  · cases h

end Go.Ev
