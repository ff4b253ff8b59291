/- Contracts of slices.Contains, SortFunc at weekdays: proved. -/
import Derived.Test.YthpapjdjnnkdbaaGreatDoorMkHC
import Derived.Test.YthpapjdjnnkdbaaGreatDoorMkB
namespace Go.Proofs.YthpapjdjnnkdbaaGreatDoor
set_option linter.unusedVariables false
set_option linter.unusedSimpArgs false
open Go Go.Sy Go.RowKit Go.Shelf Go.Sort

theorem leafR3 {ρ : Rho} {w : World} {srts : List Srt} {s t : Srt} {vs l' : List Value} (h : LeafR ρ w [.row srts, .sc s, .sc t] vs l') : ∃ a b c x y z, vs = [a, b, c] ∧ l' = [x, y, z] ∧ RowIs ρ w srts a x ∧ (VR ρ b y ∧ HasS s y) ∧ (VR ρ c z ∧ HasS t z) := by
  rcases vs with _ | ⟨a, vs⟩
  · rcases l' with _ | ⟨x, l'⟩ <;> exact h.elim
  rcases l' with _ | ⟨x, l'⟩
  · exact h.elim
  obtain ⟨h1, h⟩ := h
  rcases vs with _ | ⟨b, vs⟩
  · rcases l' with _ | ⟨y, l'⟩ <;> exact h.elim
  rcases l' with _ | ⟨y, l'⟩
  · exact h.elim
  obtain ⟨h2, h⟩ := h
  rcases vs with _ | ⟨c, vs⟩
  · rcases l' with _ | ⟨z, l'⟩ <;> exact h.elim
  rcases l' with _ | ⟨z, l'⟩
  · exact h.elim
  obtain ⟨h3, h⟩ := h
  rcases vs with _ | ⟨d, vs⟩
  · rcases l' with _ | ⟨u, l'⟩
    · exact ⟨a, b, c, x, y, z, rfl, rfl, h1, h2, h3⟩
    · exact False.elim h
  · rcases l' with _ | ⟨u, l'⟩ <;> exact False.elim h

theorem flat_enc (l : List (Int × Int)) : prs .i64 .i64 l = .agg (l.flatMap encN).toArray := rfl

/-- Pairs in a row, cell by cell. -/
theorem rowIs_prs {ρ : Rho} {w : World} {spec x : Value} (h : RowIs ρ w [.int .i64, .int .i64] spec x) : ∃ a c l, x = .slice a l.length c ∧ VR ρ spec (prs .i64 .i64 l) ∧ l.length ≤ c ∧
    (0 < l.length → ∃ b o, a = some ⟨b, o, none⟩ ∧ b < w.heap.size ∧ ∀ j, j < l.length * 2 → w.cell? ⟨b, o + j, none⟩ = (l.flatMap encN)[j]?) := by
  obtain ⟨a, n, c, cells, rfl, h2, h3, h4, h5, h6⟩ := h
  obtain ⟨l, hl⟩ := hasR_prs (k := .i64) (k' := .i64) ⟨cells, n, rfl, h3, h4⟩
  have hc : cells = (l.flatMap encN).toArray := by injection hl
  have hsz : cells.size = l.length * 2 := by rw [hc]; simpa using flat_len l
  have hn : n = l.length := by simp at h3; omega
  subst hn
  refine ⟨a, c, l, rfl, by rw [← hl]; exact h2, h6, fun h0 => ?_⟩
  obtain ⟨b, o, ccs, el, fr, e1, e2, e3, e4⟩ := h5 h0
  refine ⟨b, o, e1, (Array.getElem?_eq_some_iff.1 e2).1, fun j hj => ?_⟩
  have := e4 j (by simpa using hj)
  unfold World.cell?
  simp only [e2]
  rw [this, hc]
  simp

theorem index_nilA (a : Option Addr) (N D : Int) (c : Nat) (w : World) : Calls Tryz.prog 31 #[.slice a 0 c, .agg #[.int .i64 N, .int .i64 D]] w fun e w' => e = .returned (.int .i64 (-1)) ∧ Below w.heap.size w w' := by
  go_enter Tryz.func31, Tryz.ntmps31
  go_wp2
  go_loop [8] (fun i => i = .int .i64 0) (fun i => 0)
  case atStart => exact rfl
  case round =>
    subst hrel
    go_wp2
    go_ret
    exact ⟨rfl, (by (repeat (first | exact Below.refl _ _ | assumption | refine Below.drew ?_ | refine below_drewN ?_ _ | refine Below.alloc ?_ (by first | exact Nat.le_refl _ | omega | (simp <;> omega)) _ | refine Below.setCell ?_ (by first | exact Nat.le_refl _ | omega | (simp <;> omega)) _)))⟩

theorem contains_nilA (a : Option Addr) (N D : Int) (c : Nat) (w : World) : Calls Tryz.prog 18 #[.slice a 0 c, .agg #[.int .i64 N, .int .i64 D]] w fun e w' => e = .returned (.bool false) ∧ Below w.heap.size w w' := by
  have IX := index_nilA a N D c
  go_enter Tryz.func18, Tryz.ntmps18
  go_wp2_with fail
  refine (IX _).mono ?_
  rintro e w1 ⟨rfl, hb1⟩
  go_wp2
  go_ret
  exact ⟨by simp, ((Below.refl _ _).alloc (Nat.le_refl _) _).trans (hb1.mono (by simp))⟩

theorem containsN_ok {FN : Fns} (hF : FnN FN) : GCtrOk FN containsN := by
  intro S args ls vs q hFN hopen hw _ ρ args' w g hv hd hleaf
  simp only [containsN] at hopen
  split at hopen
  · rename_i r xv yv
    cases hopen
    obtain ⟨rv, q1, e1, hr, hq1⟩ := hv.cons_inv
    obtain ⟨pv, q2, e2, hp, hq2⟩ := hq1.cons_inv
    rw [hq2.nil_inv] at e2
    subst e2
    obtain ⟨ys, rfl, hys⟩ := hp.agg_inv
    obtain ⟨y1, s1, t1, hy1, hs1⟩ := hys.cons_inv
    obtain ⟨y2, s2, t2, hy2, hs2⟩ := hs1.cons_inv
    rw [hs2.nil_inv] at t2
    subst t2
    have hl := hleaf _ (VRs.cons hr (VRs.cons hy1 (VRs.cons hy2 (VRs.nil _))))
    simp only [containsN] at hl hw
    obtain ⟨s, x, y, a', x', y', rfl, hq, h1, ⟨h2, n, h3⟩, ⟨h4, m, h5⟩⟩ := leafR3 hl
    cases hq
    subst h3; subst h5
    obtain ⟨a, c, l, rfl, f1, f2, f3⟩ := rowIs_prs h1
    have hlt : l.length < 16777216 := by
      have := holds_lt g (hw _ List.mem_cons_self) (hlen_vr (srts := [.int .i64, .int .i64]) f1 (n := l.length) (by show (l.flatMap encN).toArray.size = _; simpa using flat_len l) (by simp)) (.int _ _)
      simp only [decide_eq_true_eq] at this
      omega
    have ha : args' = #[.slice a l.length c, .agg #[.int .i64 n, .int .i64 m]] := by
      apply Array.ext'
      rw [e1]
      congr 2
      have : ys = #[.int .i64 n, .int .i64 m] := by apply Array.ext'; simpa using t1
      rw [this]
    subst ha
    have hres : VR ρ (sv 5 [.int .i64 106, s, x, y]) (.bool (decide ((n, m) ∈ l))) := sv_vr (VRs.cons (.int _ _) (VRs.cons f1 (vr2 h2 h4))) (by
      show some (Value.bool (ρ.env.fns.bool 106 [prs .i64 .i64 l, .int .i64 n, .int .i64 m])) = _
      rw [g.fns, hFN, hF.cont])
    have hcall : Calls Tryz.prog 18 #[.slice a l.length c, .agg #[.int .i64 n, .int .i64 m]] w fun e w' => e = .returned (.bool (decide ((n, m) ∈ l))) ∧ Below w.heap.size w w' := by
      rcases Nat.eq_zero_or_pos l.length with h0 | h0
      · have hl0 : l = [] := List.length_eq_zero_iff.1 h0
        subst hl0
        exact (contains_nilA a n m c w).mono fun e w' ⟨he, hw⟩ => ⟨by simpa using he, hw⟩
      · obtain ⟨b, o, rfl, _, k2⟩ := f3 h0
        refine (AnyQ.slices_Contains Tryz.containsNth 2 Tryz.isAgg23 Tryz.sizeOf23 encN (fun _ => rfl) _ eqN b o l.length c l (n, m) w (Nat.le_refl _) (by omega) ?_).mono fun e w' ⟨he, hw⟩ => ⟨?_, hw⟩
        · intro j hj i v hv
          have hi : i < 2 := by
            have := (List.getElem?_eq_some_iff.1 hv).1
            simpa [encN] using this
          rw [show o + j * 2 + i = o + (j * 2 + i) by omega, k2 (j * 2 + i) (by omega), flat_get l j i hj hi, ← hv]
          congr 2
          rw [getElem!_pos l j hj]
          simp [List.getD, List.getElem?_eq_getElem hj]
        · rw [he, List.take_length]
          congr 2
          rw [Bool.eq_iff_iff]
          simp only [List.any_eq_true, Bool.and_eq_true, beq_iff_eq, decide_eq_true_eq]
          constructor
          · rintro ⟨y, hy, h1, h2⟩
            have : (n, m) = y := Prod.ext h1 h2
            rw [this]; exact hy
          · intro hx
            exact ⟨(n, m), hx, rfl, rfl⟩
    refine hcall.mono fun e w' ⟨he, hw'⟩ => ⟨_, [], he, hw', trivial, fun ρ' nx ext _ => hres.mono ext⟩
  · cases hopen

theorem holdsK_of {w : World} {q o : Nat} {ccs : Array Value} {el : TypeId} {fr : Nat × Nat} (ls : List NthS) (h5 : w.heap[q]? = some (.cells ccs el fr)) (h7 : ∀ j, j < ls.length * 2 → ccs[o + j]? = ((ls.map (·.1)).flatMap encN)[j]?)
    (hsz : o + ls.length * 2 ≤ ccs.size) (h9 : ∀ k, o ≤ k → k < ccs.size → ¬(fr.1 ≤ k ∧ k < fr.2)) : Sort.HoldsK encS 2 w q o ls.toArray := by
  intro j hj
  have hj' : j < ls.length * 2 := by simpa using hj
  refine ⟨?_, ?_⟩
  · unfold World.cell?
    simp only [h5]
    rw [h7 j hj', ← flat_eq, Array.getElem?_toList, Array.getElem?_eq_getElem hj, getElem!_pos (Sort.flatK encS 2 ls.toArray) j hj]
    rfl
  · obtain ⟨f1, f2⟩ := fr
    rw [frozen_at h5]
    have := h9 (o + j) (by omega) (by omega)
    simp only at this
    rw [Bool.eq_false_iff]
    intro hh
    simp only [Bool.and_eq_true, decide_eq_true_eq] at hh
    exact this hh

theorem putCellsId_get {o : Nat} {F c : Array Value} (hsz : o + F.size ≤ c.size) : (Sort.putCells id o F c).size = c.size ∧ ∀ j, j < F.size → (Sort.putCells id o F c)[o + j]? = F[j]? := by
  refine ⟨by simp [Sort.putCells], fun j hj => ?_⟩
  have hlt : o + j < c.size := by omega
  simp only [Sort.putCells, Array.getElem?_mapIdx, Array.getElem?_eq_getElem hlt, Option.map_some]
  rw [if_pos ⟨by omega, by omega⟩, show o + j - o = j by omega, Array.getElem?_eq_getElem hj, getElem!_pos F j hj]
  rfl

theorem srt_prs (l : List (Int × Int)) : ∀ (j : Nat) v s, ((l.flatMap encN).toArray)[j]? = some v → ([Srt.int .i64, Srt.int .i64] : List Srt)[j % ([Srt.int .i64, Srt.int .i64] : List Srt).length]? = some s → HasS s v := by
  intro j v s hv hs
  simp only [List.getElem?_toArray] at hv
  have hj : j < l.length * 2 := by
    have := (List.getElem?_eq_some_iff.1 hv).1
    rwa [flat_len] at this
  have e : j = j / 2 * 2 + j % 2 := by omega
  rw [e, flat_get l (j / 2) (j % 2) (by omega) (by omega)] at hv
  have : s = .int .i64 := by
    have h2 : j % 2 = 0 ∨ j % 2 = 1 := by omega
    rcases h2 with h | h <;> simp [h] at hs <;> exact hs.symm
  subst this
  have h2 : j % 2 = 0 ∨ j % 2 = 1 := by omega
  rcases h2 with h | h <;> simp [h, encN] at hv <;> exact ⟨_, hv.symm⟩

theorem sort_map (ls : List NthS) : (ls.mergeSort fun x y => !(ltOf cfS) y x).map (·.1) = (ls.map (·.1)).mergeSort fun a b => decide (¬ wdCmp b a < 0) :=
  List.map_mergeSort fun a _ b _ => by
    show (!decide (cfS b a < 0)) = _
    rw [Bool.eq_iff_iff]
    simp only [cfS, Bool.not_eq_true', decide_eq_true_eq]
    exact decide_eq_false_iff_not

theorem sortN_ok {FN : Fns} (hF : FnN FN) : FOk FN sortN := by
  intro t1 t2 t3 t4 base V ls ρ args' w q hK hlen hleaf henv hdom hrel hargs hask
  have hv20 := vars_ok t1 t2 t3 t4
  obtain ⟨x, r, e1, hx, hr⟩ := hargs.cons_inv
  obtain ⟨y, r', e2, hy, hr'⟩ := hr.cons_inv
  rw [hr'.nil_inv] at e2
  have hy' := Go.Sy.flat_eq hy 40 rfl
  subst hy'
  subst e2
  have ha : args' = #[x, .func (.func 20) #[] #[]] := by apply Array.ext'; simpa using e1
  subst ha
  have hlen' : ls.length = 1 := hlen
  obtain ⟨o, n, c, cells, ccs, fr, e2, e3, e4, e5, e6, e7, e8, e9, e10, e11, e12⟩ := own_at (srts := [.int .i64, .int .i64]) (varsN t1 t2 t3 t4) henv hrel hx (by omega)
  obtain ⟨l, hl⟩ := hasR_prs (k := .i64) (k' := .i64) ⟨cells, n, rfl, e5, e6⟩
  have hcl : cells = (l.flatMap encN).toArray := by injection hl
  have hsz : cells.size = l.length * 2 := by rw [hcl]; simpa using flat_len l
  have hn : n = l.length := by simp at e5; omega
  subst hn
  have hls : ls = [prs .i64 .i64 l] := by
    match ls, hlen', e4 with
    | [v], _, e4 => simp at e4; rw [e4, hl]
  subst hls
  have hval : (envL FN V 0 [prs .i64 .i64 l]).val (1000000 + 0) = prs .i64 .i64 l := envL_val (nt := 0) (i := 0) rfl
  have hden : den ρ.env 40 (sv 31 [sv 74 [specL 0 0, .int .i64 2], .int .i64 1000001]) = some (.bool (decide ((l.length : Int) < 1000001))) := by
    rw [henv]
    simp only [specL, den_sv, denL_cons, denL_nil, den_i, Option.bind_some, i98, i74p, i31, Int.toNat_natCast]
    rw [hval]
    simp only [Option.bind_some, i74p, i31]
  have hlt := asked_facts hask List.mem_cons_self hden
  simp only [decide_eq_true_eq] at hlt
  have hden2 : den ρ.env 40 (sv 5 [.int .i64 108, specL 0 0]) = some (.bool (l.all fun x => decide (-100 ≤ x.1 ∧ x.1 ≤ 100 ∧ 0 ≤ x.2 ∧ x.2 ≤ 6))) := by
    rw [henv]
    simp only [specL, den_sv, denL_cons, denL_nil, den_i, Option.bind_some, i98, Int.toNat_natCast]
    rw [hval]
    simp only [Option.bind_some, interp, envL_fns, Int.reduceToNat, hF.may]
  have hmay := asked_facts hask (List.mem_cons_of_mem _ List.mem_cons_self) hden2
  simp only [List.all_eq_true, decide_eq_true_eq] at hmay
  subst e2
  have hlsz : ρ.blk 20 < w.heap.size := (Array.getElem?_eq_some_iff.1 e7).1
  have hcs : c * ([Srt.int .i64, Srt.int .i64] : List Srt).length = c * 2 := by simp
  rw [hcs] at e8
  obtain ⟨lS, hlS⟩ : ∃ lS : List NthS, lS.map (·.1) = l := ⟨l.attach.map fun x => ⟨x.1, hmay x.1 x.2⟩, by rw [List.map_map]; exact List.attach_map_subtype_val l⟩
  have hlSl : lS.length = l.length := by rw [← hlS, List.length_map]
  have hH : Sort.HoldsK encS 2 w (ρ.blk 20) o lS.toArray := holdsK_of lS e7 (fun j hj => by rw [hlS, e9 j (by simp; omega), hcl]; simp) (by omega) e11
  have eg : ∀ args w, (callFunc 20 args).run Tryz.prog w = .ok (.enter 20 args) w := enters_of Tryz.func20 (by kernel_rfl) rfl
  have hcon := AnyQ.slices_SortFunc_total Tryz.sortNth 2 Tryz.isAgg23 Tryz.sizeOf23 encS (fun _ => rfl) (fun x v hv => by simp [encS, encN] at hv; rcases hv with rfl | rfl <;> rfl) cfS cfS_swo 20 #[] (ρ.blk 20) o c lS.toArray w eg (cmpLaysN (ρ.blk 20) o lS.toArray.size w) hH hlsz (by simp; omega) cfS_total
  rw [show lS.toArray.size = l.length by simpa using hlSl] at hcon
  refine (show Calls Tryz.prog 19 #[.slice (some ⟨ρ.blk 20, o, none⟩) l.length c, .func (.func 20) #[] #[]] w _ from hcon).mono fun e w' ⟨he, m, os, hw'⟩ => ⟨_, he, ?_⟩
  obtain ⟨mS, hmS⟩ : ∃ mS : List NthS, mS = lS.mergeSort fun x y => !(ltOf cfS) y x := ⟨_, rfl⟩
  rw [← hmS] at hw'
  have hml : mS.length = l.length := by rw [hmS, List.length_mergeSort, hlSl]
  obtain ⟨ys, hys⟩ : ∃ ys, ys = l.mergeSort fun a b => decide (¬ wdCmp b a < 0) := ⟨_, rfl⟩
  have hmy : mS.map (·.1) = ys := by rw [hmS, hys, ← hlS]; exact sort_map lS
  have hyl : ys.length = l.length := by rw [← hmy, List.length_map, hml]
  have hfl : Sort.flatK encS 2 mS.toArray = (ys.flatMap encN).toArray := by
    apply Array.ext'
    rw [flat_eq, hmy]
  have hfs : (Sort.flatK encS 2 mS.toArray).size = l.length * 2 := by rw [hfl]; simpa [hyl] using flat_len ys
  obtain ⟨p1, p2⟩ := putCellsId_get (o := o) (F := Sort.flatK encS 2 mS.toArray) (c := ccs) (by omega)
  have hheap : ∀ k, k < w.heap.size → w'.heap[k]? = if k = ρ.blk 20 then some (.cells (Sort.putCells id o (Sort.flatK encS 2 mS.toArray) ccs) 23 fr) else w.heap[k]? := fun k hk => by
    rw [hw']
    simp only [sortWorldK, Sort.grow, Sort.putRowK, Sort.putRow, Sort.mapBlock, Sort.ahead]
    rw [Array.getElem?_append_left (by simpa using hk), Array.getElem?_modify]
    by_cases h : ρ.blk 20 = k
    · subst h
      simp only [if_true, e7, Option.map_some, Sort.onCells]
    · rw [if_neg h, if_neg (fun e => h e.symm)]
  have hb : Below base w w' := by
    refine ⟨by rw [hw']; rfl, by rw [hw']; rfl, by rw [hw']; rfl, by rw [hw']; simp [sortWorldK, Sort.grow, Sort.putRowK, Sort.putRow, Sort.mapBlock, Sort.ahead], fun k hk => ?_⟩
    rw [hheap k (by omega), if_neg (by omega)]
  have hK' : ∀ x ∈ vars t1 t2 t3 t4, x.1 < base ∧ GvOk w' x := fun x hx => ⟨(hK.1 x hx).1, by
    obtain ⟨fr', h⟩ := (hK.1 x hx).2
    exact ⟨fr', by rw [hb.block _ (hK.1 x hx).1]; exact h⟩⟩
  obtain ⟨r1, r2⟩ := own_put (V := V) (cells := (ys.flatMap encN).toArray) (n := l.length) hv20 hK' hrel hb (fun k hk hne => by rw [hheap k hk, if_neg hne]) 1 ρ.hval (.inr rfl) e3 (Nat.le_refl _) (by simpa [hyl] using flat_len ys) (srt_prs ys) (by rw [hheap _ hlsz, if_pos rfl]) (by rw [hcs, p1]; exact e8)
    (fun j hj => by rw [p2 j (by rw [hfs]; simpa using hj), hfl]) e10 (fun k h1 h2 => e11 k h1 (by rw [p1] at h2; exact h2))
  refine ⟨V, [prs .i64 .i64 ys], _, rfl, r1, VRs.cons (VR.tuple' (VRs.nil _)) (VRs.nil _), ?_, r2⟩
  rw [henv]
  simp only [sortN, specL, den_sv, denL_cons, denL_nil, den_i, Option.bind_some, i98, Int.toNat_natCast]
  rw [hval]
  simp only [Option.bind_some, i81, envL_fns, Int.reduceToNat]
  rw [hF.sort, ← hys]
  rfl

theorem sortN0_ok {FN : Fns} : FOk FN sortN0 := fun t1 t2 t3 t4 base => fsem_lit (v := .tuple #[]) rfl rfl (fun _ => rfl) rfl (by decide) fun w _ => AnyF.slices_SortFunc_none Tryz.sortNth none 0 _ w

end Go.Proofs.YthpapjdjnnkdbaaGreatDoor
