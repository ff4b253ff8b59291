/- Contracts of slices.Contains, Sort, Compact at numbers. -/
import Derived.Test.YthpapjdjnnkdbaaGreatDoorSyCtrH
import Derived.Test.YthpapjdjnnkdbaaGreatDoorSyRow
import Derived.Test.YthpapjdjnnkdbaaGreatDoorFewW
namespace Go.Proofs.YthpapjdjnnkdbaaGreatDoor
set_option linter.unusedVariables false
set_option linter.unusedSimpArgs false
open Go Go.Sy Go.RowKit

/-- What these functions hand back, by numbers: 104 contains; 103 sorted, 105 compact. -/
structure FnS (FN : Fns) : Prop where
  cont : ∀ l x, FN.bool 104 [ints .i64 l, .int .i64 x] = decide (x ∈ l)
  sort : ∀ l, FN.lst 103 [ints .i64 l] = (l.mergeSort fun x y => decide (x ≤ y)).map (Value.int .i64)
  comp : ∀ l, FN.lst 105 [ints .i64 l] = (Lib.compact l).map (Value.int .i64)

/-- Numbers in a row, cell by cell. -/
theorem rowIs_ints {ρ : Rho} {w : World} {spec x : Value} {k : IntKind} (h : RowIs ρ w [.int k] spec x) : ∃ a c l, x = .slice a l.length c ∧ VR ρ spec (ints k l) ∧ l.length ≤ c ∧
    (0 < l.length → ∃ b o, a = some ⟨b, o, none⟩ ∧ b < w.heap.size ∧ ∀ j, j < l.length → w.cell? ⟨b, o + j, none⟩ = some (.int k (l.getD j 0))) := by
  obtain ⟨a, n, c, cells, rfl, h2, h3, h4, h5, h6⟩ := h
  obtain ⟨l, hl⟩ := hasR_ints (k := k) ⟨cells, n, rfl, h3, h4⟩
  have hsz : cells.size = l.length := by injection hl with hl; rw [hl]; simp
  have hn : n = l.length := by simp at h3; omega
  subst hn
  refine ⟨a, c, l, rfl, by rw [← hl]; exact h2, h6, fun h0 => ?_⟩
  obtain ⟨b, o, ccs, el, fr, e1, e2, e3, e4⟩ := h5 h0
  refine ⟨b, o, e1, (Array.getElem?_eq_some_iff.1 e2).1, fun j hj => ?_⟩
  have := e4 j (by simpa using hj)
  unfold World.cell?
  simp only [e2]
  injection hl with hl
  rw [this, hl]
  simp [List.getD_eq_getElem?_getD, List.getElem?_eq_getElem hj]

theorem leafR2 {ρ : Rho} {w : World} {srts : List Srt} {s : Srt} {vs l' : List Value} (h : LeafR ρ w [.row srts, .sc s] vs l') : ∃ a b x y, vs = [a, b] ∧ l' = [x, y] ∧ RowIs ρ w srts a x ∧ VR ρ b y ∧ HasS s y := by
  match vs, l', h with
  | [], _, h => exact h.elim
  | [_], [], h => exact h.elim
  | [_], [_], h => exact h.2.elim
  | [_], _ :: _ :: _, h => exact h.2.elim
  | _ :: _ :: _, [], h => exact h.elim
  | _ :: _ :: _, [_], h => exact h.2.elim
  | [a, b], [x, y], h => exact ⟨a, b, x, y, rfl, rfl, h.1, h.2.1.1, h.2.1.2⟩
  | [a, b], x :: y :: z :: r, h => exact h.2.2.elim
  | a :: b :: c :: r, [x, y], h => exact h.2.2.elim
  | a :: b :: c :: r, x :: y :: z :: r', h => exact h.2.2.elim

def containsI : GCtr where
  f := 30
  open_ a := some a
  sorts := [.row [.int .i64], .sc (.int .i64)]
  wants l := match l with
    | [s, _] => [(sv 31 [hlen [.int .i64] s, .int .i64 16777216], true)]
    | _ => [(.bool false, true)]
  dec _ := none
  val _ l _ := sv 5 (.int .i64 104 :: l)
  rows _ _ := []

theorem containsI_ok {FN : Fns} (hF : FnS FN) : GCtrOk FN containsI := by
  intro S args ls vs q hFN hopen hw _ ρ args' w g hv hd hleaf
  cases hopen
  have hl := hleaf _ hv
  simp only [containsI] at hl hw
  obtain ⟨s, x, a', x', rfl, hq, h1, h2, h3⟩ := leafR2 hl
  · obtain ⟨n, rfl⟩ := h3
    obtain ⟨a, c, l, rfl, e1, e2, e3⟩ := rowIs_ints h1
    have hlt : l.length < 16777216 := by
      have := holds_lt g (hw _ List.mem_cons_self) (hlen_vr (srts := [.int .i64]) e1 (n := l.length) (by simp [ints]) (by simp)) (.int _ _)
      simp only [decide_eq_true_eq] at this
      omega
    have ha : args' = #[.slice a l.length c, .int .i64 n] := by apply Array.ext'; simpa using hq
    subst ha
    have hres : VR ρ (sv 5 [.int .i64 104, s, x]) (.bool (decide (n ∈ l))) := sv_vr (VRs.cons (.int _ _) (vr2 e1 h2)) (by
      show some (Value.bool (ρ.env.fns.bool 104 [ints .i64 l, .int .i64 n])) = _
      rw [g.fns, hFN, hF.cont])
    have hcall : Calls Tryz.prog 30 #[.slice a l.length c, .int .i64 n] w fun e w' => e = .returned (.bool (decide (n ∈ l))) ∧ w' = w := by
      rcases Nat.eq_zero_or_pos l.length with h0 | h0
      · have hl0 : l = [] := List.length_eq_zero_iff.1 h0
        subst hl0
        exact (Tryz.slices_Contains_int_empty a c n w).mono fun e w' ⟨he, hw⟩ => ⟨by simpa using he, hw⟩
      · obtain ⟨b, o, rfl, _, f2⟩ := e3 h0
        exact (Tryz.slices_Contains_int b o l.length c l n w (Nat.le_refl _) (by omega) f2).mono fun e w' ⟨he, hw⟩ => ⟨by rw [he, List.take_length]; simp, hw⟩
    refine hcall.mono fun e w' ⟨he, hw'⟩ => ⟨_, [], he, by rw [hw']; exact Below.refl _ _, trivial, fun ρ' nx ext _ => hres.mono ext⟩

/-! ### In place -/

def sortI : FCtr where
  f := 15
  nb := 1
  nl := 1
  args := [nmR 0]
  objs := [.own [.int .i64] 3 0]
  srts := [none]
  wants := [(sv 31 [sv 74 [specL 0 0, .int .i64 1], .int .i64 16777216], true)]
  dec := none
  out _ := ⟨[.tuple #[]], [.own [.int .i64] 3 0], [sv 81 [.int .i64 103, specL 0 0]]⟩

def sortI0 : FCtr where
  f := 15
  nb := 0
  nl := 0
  args := [.slice none 0 0]
  objs := []
  srts := []
  wants := []
  dec := none
  out _ := ⟨[.tuple #[]], [], []⟩

theorem holds_of {k : IntKind} {w : World} {q o : Nat} {ccs cells : Array Value} {el : TypeId} {fr : Nat × Nat} {l : List Int} (h5 : w.heap[q]? = some (.cells ccs el fr)) (hl : cells = (l.map (Value.int k)).toArray) (h7 : ∀ j, j < l.length → ccs[o + j]? = cells[j]?)
    (hsz : o + l.length ≤ ccs.size) (h9 : ∀ k, o ≤ k → k < ccs.size → ¬(fr.1 ≤ k ∧ k < fr.2)) : Sort.Holds (Value.int k) w q o l.toArray := by
  intro j hj
  have hj' : j < l.length := by simpa using hj
  refine ⟨?_, ?_⟩
  · unfold World.cell?
    simp only [h5]
    rw [h7 j hj', hl]
    simp [hj']
  · obtain ⟨f1, f2⟩ := fr
    rw [frozen_at h5]
    have := h9 (o + j) (by omega) (by omega)
    simp only at this
    rw [Bool.eq_false_iff]
    intro hh
    simp only [Bool.and_eq_true, decide_eq_true_eq] at hh
    exact this hh

theorem putCells_get {k : IntKind} {o : Nat} {ys : List Int} {c : Array Value} (hsz : o + ys.length ≤ c.size) : (Sort.putCells (Value.int k) o ys.toArray c).size = c.size ∧ ∀ j, j < ys.length → (Sort.putCells (Value.int k) o ys.toArray c)[o + j]? = ((ys.map (Value.int k)).toArray)[j]? := by
  refine ⟨by simp [Sort.putCells], fun j hj => ?_⟩
  have hlt : o + j < c.size := by omega
  simp only [Sort.putCells, Array.getElem?_mapIdx, Array.getElem?_eq_getElem hlt, Option.map_some]
  rw [if_pos ⟨by omega, by simp; omega⟩, show o + j - o = j by omega]
  simp [hj]

theorem srt_ints {k : IntKind} (l : List Int) : ∀ (j : Nat) v s, ((l.map (Value.int k)).toArray)[j]? = some v → ([Srt.int k] : List Srt)[j % ([Srt.int k] : List Srt).length]? = some s → HasS s v := by
  intro j v s hv hs
  simp only [List.length_cons, List.length_nil, Nat.zero_add, Nat.mod_one, List.getElem?_cons_zero, Option.some.injEq] at hs
  subst hs
  simp only [List.getElem?_toArray, List.getElem?_map] at hv
  cases h : l[j]? with
  | none => rw [h] at hv; cases hv
  | some x => rw [h] at hv; cases hv; exact ⟨x, rfl⟩

theorem sortI_ok {FN : Fns} (hF : FnS FN) : FOk FN sortI := by
  intro t1 t2 t3 t4 base V ls ρ args' w q hK hlen hleaf henv hdom hrel hargs hask
  have hv20 := vars_ok t1 t2 t3 t4
  obtain ⟨x, r, e1, hx, hr⟩ := hargs.cons_inv
  rw [hr.nil_inv] at e1
  have ha : args' = #[x] := by apply Array.ext'; simpa using e1
  subst ha
  have hlen' : ls.length = 1 := hlen
  obtain ⟨o, n, c, cells, ccs, fr, e2, e3, e4, e5, e6, e7, e8, e9, e10, e11, e12⟩ := own_at (srts := [.int .i64]) (varsN t1 t2 t3 t4) henv hrel hx (by omega)
  obtain ⟨l, hl⟩ := hasR_ints (k := .i64) ⟨cells, n, rfl, e5, e6⟩
  have hcl : cells = (l.map (Value.int .i64)).toArray := by injection hl
  have hsz : cells.size = l.length := by rw [hcl]; simp
  have hn : n = l.length := by simp at e5; omega
  subst hn
  have hls : ls = [ints .i64 l] := by
    match ls, hlen', e4 with
    | [v], _, e4 => simp at e4; rw [e4, hl]
  subst hls
  have hden : den ρ.env 40 (sv 31 [sv 74 [specL 0 0, .int .i64 1], .int .i64 16777216]) = some (.bool (decide ((l.length : Int) < 16777216))) := by
    rw [henv]
    simp only [specL, den_sv, denL_cons, denL_nil, den_i, Option.bind_some, i98, i74i, i31, Int.toNat_natCast]
    rw [show (envL FN V 0 [ints .i64 l]).val (1000000 + 0) = ints .i64 l from envL_val (nt := 0) (i := 0) rfl]
    simp only [Option.bind_some, i74i, i31]
  have hlt := asked_facts hask List.mem_cons_self hden
  simp only [decide_eq_true_eq] at hlt
  subst e2
  have hlsz : ρ.blk 20 < w.heap.size := (Array.getElem?_eq_some_iff.1 e7).1
  have hmul : l.length * ([Srt.int .i64] : List Srt).length = l.length := by simp
  have hcs : c * ([Srt.int .i64] : List Srt).length = c := by simp
  rw [hcs] at e8
  have hH := holds_of (k := .i64) e7 hcl (fun j hj => e9 j (by simpa using hj)) (by omega) e11
  refine (Tryz.slices_Sort_int (ρ.blk 20) o c l w hH hlsz (by omega)).mono fun e w' ⟨he, m, os, hw'⟩ => ⟨_, he, ?_⟩
  obtain ⟨ys, hys⟩ : ∃ ys, ys = l.mergeSort fun x y => decide (x ≤ y) := ⟨_, rfl⟩
  rw [← hys] at hw'
  have hyl : ys.length = l.length := by rw [hys]; exact List.length_mergeSort _
  obtain ⟨p1, p2⟩ := putCells_get (k := .i64) (o := o) (ys := ys) (c := ccs) (by omega)
  have hheap : ∀ k, k < w.heap.size → w'.heap[k]? = if k = ρ.blk 20 then some (.cells (Sort.putCells (Value.int .i64) o ys.toArray ccs) 3 fr) else w.heap[k]? := fun k hk => by
    rw [hw']
    simp only [Sort.grow, Sort.putRow, Sort.mapBlock, Sort.ahead]
    rw [Array.getElem?_append_left (by simpa using hk), Array.getElem?_modify]
    by_cases h : ρ.blk 20 = k
    · subst h
      simp only [if_true, e7, Option.map_some, Sort.onCells]
    · rw [if_neg h, if_neg (fun e => h e.symm)]
  have hb : Below base w w' := by
    refine ⟨by rw [hw']; rfl, by rw [hw']; rfl, by rw [hw']; rfl, by rw [hw']; simp [Sort.grow, Sort.putRow, Sort.mapBlock, Sort.ahead], fun k hk => ?_⟩
    rw [hheap k (by omega), if_neg (by omega)]
  have hK' : ∀ x ∈ vars t1 t2 t3 t4, x.1 < base ∧ GvOk w' x := fun x hx => ⟨(hK.1 x hx).1, by
    obtain ⟨fr', h⟩ := (hK.1 x hx).2
    exact ⟨fr', by rw [hb.block _ (hK.1 x hx).1]; exact h⟩⟩
  obtain ⟨r1, r2⟩ := own_put (V := V) (cells := (ys.map (Value.int .i64)).toArray) (n := l.length) hv20 hK' hrel hb (fun k hk hne => by rw [hheap k hk, if_neg hne]) 1 ρ.hval (.inr rfl) e3 (Nat.le_refl _) (by simp [hyl]) (srt_ints ys) (by rw [hheap _ hlsz, if_pos rfl]) (by rw [hcs, p1]; exact e8)
    (fun j hj => p2 j (by simpa [hyl] using hj)) e10 (fun k h1 h2 => e11 k h1 (by rw [p1] at h2; exact h2))
  refine ⟨V, [ints .i64 ys], _, rfl, r1, VRs.cons (VR.tuple' (VRs.nil _)) (VRs.nil _), ?_, r2⟩
  rw [henv]
  simp only [sortI, specL, den_sv, denL_cons, denL_nil, den_i, Option.bind_some, i98, Int.toNat_natCast]
  rw [show (envL FN V 0 [ints .i64 l]).val (1000000 + 0) = ints .i64 l from envL_val (nt := 0) (i := 0) rfl]
  simp only [Option.bind_some, i81, envL_fns, Int.reduceToNat]
  rw [hF.sort, ← hys]
  rfl

theorem sortI0_ok {FN : Fns} : FOk FN sortI0 := fun t1 t2 t3 t4 base => fsem_lit (v := .tuple #[]) rfl rfl (fun _ => rfl) rfl (by decide) fun w _ => Tryz.slices_Sort_int_none none 0 w

def compactI : FCtr where
  f := 16
  nb := 0
  nl := 1
  args := [nmR 0]
  objs := [.own [.int .i64] 3 0]
  srts := [none]
  wants := [(sv 31 [sv 74 [specL 0 0, .int .i64 1], .int .i64 16777216], true)]
  dec := none
  out _ := ⟨[nmR 0], [.own [.int .i64] 3 0], [sv 81 [.int .i64 105, specL 0 0]]⟩

def compactI0 : FCtr where
  f := 16
  nb := 0
  nl := 0
  args := [.slice none 0 0]
  objs := []
  srts := []
  wants := []
  dec := none
  out _ := ⟨[.slice none 0 0], [], []⟩

theorem compactI0_ok {FN : Fns} : FOk FN compactI0 := fun t1 t2 t3 t4 base => fsem_lit (v := .slice none 0 0) rfl rfl (fun _ => rfl) rfl (by decide) fun w _ => Tryz.slices_Compact_int_empty none 0 w

theorem compactI_ok {FN : Fns} (hF : FnS FN) : FOk FN compactI := by
  intro t1 t2 t3 t4 base V ls ρ args' w q hK hlen hleaf henv hdom hrel hargs hask
  have hv20 := vars_ok t1 t2 t3 t4
  obtain ⟨x, r, e1, hx, hr⟩ := hargs.cons_inv
  rw [hr.nil_inv] at e1
  have ha : args' = #[x] := by apply Array.ext'; simpa using e1
  subst ha
  have hlen' : ls.length = 1 := hlen
  obtain ⟨o, n, c, cells, ccs, fr, e2, e3, e4, e5, e6, e7, e8, e9, e10, e11, e12⟩ := own_at (srts := [.int .i64]) (varsN t1 t2 t3 t4) henv hrel hx (by omega)
  obtain ⟨l, hl⟩ := hasR_ints (k := .i64) ⟨cells, n, rfl, e5, e6⟩
  have hcl : cells = (l.map (Value.int .i64)).toArray := by injection hl
  have hsz : cells.size = l.length := by rw [hcl]; simp
  have hn : n = l.length := by simp at e5; omega
  subst hn
  have hls : ls = [ints .i64 l] := by
    match ls, hlen', e4 with
    | [v], _, e4 => simp at e4; rw [e4, hl]
  subst hls
  have hden : den ρ.env 40 (sv 31 [sv 74 [specL 0 0, .int .i64 1], .int .i64 16777216]) = some (.bool (decide ((l.length : Int) < 16777216))) := by
    rw [henv]
    simp only [specL, den_sv, denL_cons, denL_nil, den_i, Option.bind_some, i98, i74i, i31, Int.toNat_natCast]
    rw [show (envL FN V 0 [ints .i64 l]).val (1000000 + 0) = ints .i64 l from envL_val (nt := 0) (i := 0) rfl]
    simp only [Option.bind_some, i74i, i31]
  have hlt := asked_facts hask List.mem_cons_self hden
  simp only [decide_eq_true_eq] at hlt
  subst e2
  have hlsz : ρ.blk 20 < w.heap.size := (Array.getElem?_eq_some_iff.1 e7).1
  have hcs : c * ([Srt.int .i64] : List Srt).length = c := by simp
  rw [hcs] at e8
  have hH := holds_of (k := .i64) e7 hcl (fun j hj => e9 j (by simpa using hj)) (by omega) e11
  refine (Tryz.slices_Compact_int (ρ.blk 20) o c l w hH (by omega) e10).mono fun e w' ⟨he, m, hw'⟩ => ⟨_, he, ?_⟩
  obtain ⟨zs, hzs⟩ : ∃ zs, zs = Lib.compact l := ⟨_, rfl⟩
  have hzl : zs.length ≤ l.length := by rw [hzs]; exact compact_len l
  rw [← hzs] at hw' he
  obtain ⟨ys, hys⟩ : ∃ ys, ys = zs ++ List.replicate (l.length - zs.length) (0 : Int) := ⟨_, rfl⟩
  rw [← hys] at hw'
  have hyl : ys.length = l.length := by rw [hys]; simp; omega
  obtain ⟨p1, p2⟩ := putCells_get (k := .i64) (o := o) (ys := ys) (c := ccs) (by omega)
  have hheap : ∀ k, k < w.heap.size → w'.heap[k]? = if k = ρ.blk 20 then some (.cells (Sort.putCells (Value.int .i64) o ys.toArray ccs) 3 fr) else w.heap[k]? := fun k hk => by
    rw [hw']
    simp only [Sort.putRow, Sort.mapBlock, Sort.ahead]
    rw [Array.getElem?_modify]
    by_cases h : ρ.blk 20 = k
    · subst h
      simp only [if_true, e7, Option.map_some, Sort.onCells]
    · rw [if_neg h, if_neg (fun e => h e.symm)]
  have hb : Below base w w' := by
    refine ⟨by rw [hw']; rfl, by rw [hw']; rfl, by rw [hw']; rfl, by rw [hw']; simp [Sort.putRow, Sort.mapBlock, Sort.ahead], fun k hk => ?_⟩
    rw [hheap k (by omega), if_neg (by omega)]
  have hK' : ∀ x ∈ vars t1 t2 t3 t4, x.1 < base ∧ GvOk w' x := fun x hx => ⟨(hK.1 x hx).1, by
    obtain ⟨fr', h⟩ := (hK.1 x hx).2
    exact ⟨fr', by rw [hb.block _ (hK.1 x hx).1]; exact h⟩⟩
  obtain ⟨hv, hhv⟩ : ∃ hv : Nat → Value, hv 20 = .slice (some ⟨ρ.blk 20, o, none⟩) zs.length c := ⟨fun b => if b = 20 then .slice (some ⟨ρ.blk 20, o, none⟩) zs.length c else ρ.hval b, if_pos rfl⟩
  obtain ⟨r1, r2⟩ := own_put (V := V) (cells := (zs.map (Value.int .i64)).toArray) (n := zs.length) hv20 hK' hrel hb (fun k hk hne => by rw [hheap k hk, if_neg hne]) 0 hv (.inl rfl) hhv (by omega) (by simp) (srt_ints zs) (by rw [hheap _ hlsz, if_pos rfl]) (by rw [hcs, p1]; exact e8)
    (fun j hj => by
      have hj' : j < zs.length := by simpa using hj
      rw [p2 j (by omega), hys]
      simp only [List.map_append, List.getElem?_toArray]
      rw [List.getElem?_append_left (by simpa using hj')]) (by omega) (fun k h1 h2 => e11 k h1 (by rw [p1] at h2; exact h2))
  have hdm : ρ.dom 20 := hrel.dom 20 _ (by
    have := canH_get (nt := 0) (l := sortI.objs) (heapOf_lt 20 (varsN t1 t2 t3 t4)).1 (i := 0) (p := .own [.int .i64] 3 0) rfl
    rw [(heapOf_plain 20 (vars t1 t2 t3 t4)).1] at this
    exact this)
  have hvr : VR (ρ.envs (envL FN V 0 [ints .i64 zs]) hv) (nmR 0) (.slice (some ⟨ρ.blk 20, o, none⟩) zs.length c) := VR.row (ρ := ρ.envs (envL FN V 0 [ints .i64 zs]) hv) "" #[] .i64 20 _ zs.length c hdm hhv (fun _ => ⟨_, _, rfl⟩)
  refine ⟨V, [ints .i64 zs], ρ.envs (envL FN V 0 [ints .i64 zs]) hv, rfl, r1, VRs.cons (by rw [hzs] at hvr ⊢; exact hvr) (VRs.nil _), ?_, r2⟩
  rw [henv]
  simp only [compactI, specL, den_sv, denL_cons, denL_nil, den_i, Option.bind_some, i98, Int.toNat_natCast]
  rw [show (envL FN V 0 [ints .i64 l]).val (1000000 + 0) = ints .i64 l from envL_val (nt := 0) (i := 0) rfl]
  simp only [Option.bind_some, i81, envL_fns, Int.reduceToNat]
  rw [hF.comp, ← hzs]
  rfl

end Go.Proofs.YthpapjdjnnkdbaaGreatDoor
