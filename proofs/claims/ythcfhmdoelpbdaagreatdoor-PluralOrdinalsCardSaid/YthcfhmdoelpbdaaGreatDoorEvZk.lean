/- What the evaluator says of code holds of the machine: a range over a function; the whole. -/
import Derived.Test.YthcfhmdoelpbdaaGreatDoorEvZj
import Derived.RangeFuncIn
namespace Go.Ev
set_option linter.unusedVariables false
set_option linter.unusedSimpArgs false
open Go Go.RowKit

section
variable {C : Cfg} {K : World → Prop} {base bound : Nat} {self : Self} {rd : Option Nat} {fr : AFr} {H : Heap} {r : AEx × AFr × Heap}

theorem acallF_enter {f : FuncId} {fn : Func} {c : Code} {args : List Value} {q : Value × Heap} (hfn : C.P.funcs[f]? = some fn) (hb : fn.body = some c) (h : acallF C self f args H = some q) (a : Array Value) (w : World) :
    (callFunc f a).run C.P w = .ok (.enter f a) w := by
  unfold acallF at h
  rw [hfn] at h
  simp only [hb] at h
  cases hn : (fn.name == "runtime.NumGoroutine") with
  | true => rw [hn] at h; cases h
  | false =>
    unfold callFunc
    simp only [program, Sem.run_bind, Sem.run, Result.andThen_ok, hfn, hn, Bool.false_eq_true, if_false, hb, Option.isNone_some]
    rfl

/-- A range over a function begins: where its deferred calls go. -/
theorem loopStart_ok {lim : Nat} {ρ : Rho} {a : Act} {w : World} {d : Nat} {H1 : Heap} {fr1 : AFr}
    (h : (match rd with
        | none => some (H.next, H.push .deferred, { fr with marks := H.next :: fr.marks })
        | some l => match look H l with
          | some (.loop _ _ _ _ _ _ _ d) => some (d, H, fr)
          | _ => none : Option (Nat × Heap × AFr)) = some (d, H1, fr1)) (hd : Hand C K base rd fr H lim ρ a w) (hlim : H.next < lim) :
    ∃ ρ1 w1 mark, Post C.NG base ρ H H1 w w1 ρ1 ∧ ρ1.dom d ∧ FrRel ρ1 fr1 { a with defers := mark ++ a.defers } ∧
      ∀ fn ps as bd, (Instr.enterLoop fn a.tmps ps as bd (fenceOf ρ rd).round).run C.P w = .ok (w1.heap.size, mark) (w1.alloc (.loop { state := .ready, pending := none, fn := fn, tmps := a.tmps, params := ps, assign := as, body := bd, defers := ρ1.blk d })) := by
  cases rd with
  | none =>
    simp only [Option.some.injEq, Prod.mk.injEq] at h
    obtain ⟨rfl, rfl, rfl⟩ := h
    have hp := Post.alloc (o := .deferred) (c := .deferred (some [])) hd.rel (hd.room.free H.next (Nat.le_refl _) hlim) 0 0 0 true (by
      show (w.alloc (.deferred (some []))).heap[(ρ.new H.next w.heap.size 0 0 0 true).blk H.next]? = _
      have : (ρ.new H.next w.heap.size 0 0 0 true).blk H.next = w.heap.size := if_pos rfl
      rw [this]
      exact heap_alloc_new w _)
    have hblk : (ρ.new H.next w.heap.size 0 0 0 true).blk H.next = w.heap.size := if_pos rfl
    refine ⟨_, _, [{ target := .collected w.heap.size, args := #[] }], hp, .inl rfl, ?_, fun fn ps as bd => ?_⟩
    · have hf := hd.fr.mono hp.ext
      refine ⟨hf.size, hf.small, hf.tmp, hf.out, ?_, ?_⟩
      · show _ :: a.defers = _
        rw [hf.defers, List.map_cons, hblk]
      · intro x hx
        rcases List.mem_cons.1 hx with hx | hx
        · subst hx; exact .inl rfl
        · exact hf.marks x hx
    · show (Instr.enterLoop fn a.tmps ps as bd none).run C.P w = _
      unfold Instr.enterLoop
      simp only [Sem.run_bind, run_newObj_alloc, Result.andThen_ok, Sem.run_pure, hblk]
  | some l =>
    simp only at h
    split at h
    · rename_i hl
      simp only [Option.some.injEq, Prod.mk.injEq] at h
      obtain ⟨rfl, rfl, rfl⟩ := h
      obtain ⟨lp, h0, _, _, _, _, _, h6, h7, _⟩ := hd.rel.obj l _ hl
      refine ⟨ρ, w, [], Post.refl hd.rel, h7, hd.fr, fun fn ps as bd => ?_⟩
      show (Instr.enterLoop fn a.tmps ps as bd (some (ρ.blk l))).run C.P w = _
      unfold Instr.enterLoop
      simp only [Sem.run_bind, run_getLoop h0, run_newObj_alloc, Result.andThen_ok, Sem.run_pure, h6]
    · cases h

theorem range_ok (ho : Ok C K base) (hs : SndSelf C K base self) (hsk : SelfKeep self) {f : Operand} {ps : Array Tmp} {as bd : Code} (h : step C self bound rd (.rangeFunc f ps as bd) fr H = some r) {lim n : Nat} {ρ : Rho} {a : Act} {w : World}
    (hd : Hand C K base rd fr H lim ρ a w) (hlim : r.2.2.next < lim) : (Code.rangeFunc f ps as bd).wpIn (fenceOf ρ rd) n C.P (Goal C base ρ H w r) a w := by
  have hkeep := keep_step (C := C) hsk (bound := bound) rd _ fr H r hd.room.le h
  simp only [step] at h
  split at h
  · rename_i fv hfv
    split at h
    · rename_i d H1 fr1 hst
      have hk1 : Keep H H1 := by
        split at hst
        · simp only [Option.some.injEq, Prod.mk.injEq] at hst; obtain ⟨_, rfl, _⟩ := hst; exact Keep.push _ _
        · split at hst
          · simp only [Option.some.injEq, Prod.mk.injEq] at hst; obtain ⟨_, rfl, _⟩ := hst; exact Keep.refl _
          · cases hst
      obtain ⟨ρ1, w1, mark, p1, hdd, hf1, henter⟩ := loopStart_ok hst hd (Nat.lt_of_le_of_lt hkeep.next hlim)
      split at h
      · rename_i v0 H2 hcall
        obtain ⟨hbod, hcall⟩ := cond_some hcall
        split at h
        · rename_i st p tr nn ps2 as2 bd2 d2 hl2
          split at h
          · cases h
          · rename_i hbusy
            obtain ⟨hm, h⟩ := cond_some h
            have hm' := Nat.le_of_ble_eq_true hm
            -- names
            have hkc := keep_call hsk ((hk1.trans (Keep.push H1 _)).le hd.room.le) hcall
            have hn2 : H2.next ≤ r.2.2.next := by
              clear hkeep
              split at h
              · simp only [Option.some.injEq] at h; subst h; exact Nat.le_refl _
              · have kput := fun o' => Keep.put (H := H2) (b := H1.next) _ o' hl2 hm'
                exact (hsk _ _ _ _ _ ((kput _).le ((hk1.trans (Keep.push H1 _)).trans hkc |>.le hd.room.le)) h).next
            have hn1 : H1.next < H2.next := Nat.lt_of_lt_of_le (Nat.lt_succ_self _) hkc.next
            have hd1 : Hand C K base rd fr1 H1 lim ρ1 { a with defers := mark ++ a.defers } w1 := hd.post ho p1 hf1
            have htr : FrRel ρ1 ⟨fr.tr, fr.n, []⟩ ⟨a.tmps, []⟩ := by
              have := hd.fr.mono p1.ext
              exact ⟨this.size, this.small, this.tmp, this.out, rfl, by simp⟩
            refine wpIn_rangeFunc fun fn _ => ?_
            -- the record
            have hnew : ¬ ρ1.dom H1.next := hd1.room.free H1.next (Nat.le_refl _) (by omega)
            have p2 := Post.alloc (o := .loop .ready none fr.tr fr.n ps as bd d)
              (c := .loop { state := .ready, pending := none, fn := fn, tmps := a.tmps, params := ps, assign := as, body := bd, defers := ρ1.blk d }) hd1.rel hnew 0 0 0 true (by
                have hb : (ρ1.new H1.next w1.heap.size 0 0 0 true).blk H1.next = w1.heap.size := if_pos rfl
                have e := Rho.ext_new hnew w1.heap.size 0 0 0 true
                refine ⟨{ state := .ready, pending := none, fn := fn, tmps := a.tmps, params := ps, assign := as, body := bd, defers := ρ1.blk d }, ?_, rfl, rfl, rfl, rfl, rfl, (e.blk d hdd).symm, e.dom d hdd, htr.mono e⟩
                rw [hb]; exact heap_alloc_new w1 _)
            have hd2 : Hand C K base rd fr1 _ lim _ { a with defers := mark ++ a.defers } _ := hd1.post ho p2 (hf1.mono p2.ext)
            have hblk : (ρ1.new H1.next w1.heap.size 0 0 0 true).blk H1.next = w1.heap.size := if_pos rfl
            have hdom : (ρ1.new H1.next w1.heap.size 0 0 0 true).dom H1.next := .inl rfl
            generalize ρ1.new H1.next w1.heap.size 0 0 0 true = ρ2 at p2 hd2 hblk hdom
            have p12 := p1.trans p2
            -- the call
            have hfv' : VR ρ2 fv (a.eval f) := (hd.fr.eval hd.rel.glob hfv).mono p12.ext
            have hy : VRs ρ2 [.func (.yield H1.next) #[] #[]] (#[Value.func (.yield w1.heap.size) #[] #[]]).toList := by
              refine VRs.cons ?_ (VRs.nil _)
              rw [← hblk]
              exact .func _ _ _ _ _ _ (.yield _ hdom) rfl (by simp) rfl (by simp)
            have hinv := acall_ok ho hs hsk hcall ρ2 _ lim (n - 1) _ _ hd2.rel hd2.k hfv' hy hd2.room (Nat.lt_of_le_of_lt hn2 hlim)
            generalize hfv2 : a.eval f = fv2 at hfv' hinv
            unfold bodied at hbod
            split at hbod
            · rename_i fid first cap _
              split at hbod
              · rename_i fnc hfnc
                obtain ⟨bodyc, hbodyc⟩ := Option.isSome_iff_exists.1 hbod
                cases hfv' with
                | func _ fn' _ first' _ cap' hfn hs1 hv1 hs2 hv2 =>
                  cases hfn with
                  | same =>
                    have henter2 := fun a w => acallF_enter hfnc hbodyc hcall a w
                    refine ⟨w1.heap.size, mark, w1.alloc (.loop { state := .ready, pending := none, fn := fn, tmps := a.tmps, params := ps, assign := as, body := bd, defers := ρ1.blk d }),
                      { target := .fn (.func fid) cap', args := first' ++ #[Value.func (.yield w1.heap.size) #[] #[]] }, w1.alloc (.loop { state := .ready, pending := none, fn := fn, tmps := a.tmps, params := ps, assign := as, body := bd, defers := ρ1.blk d }), fid,
                      (first' ++ #[Value.func (.yield w1.heap.size) #[] #[]]) ++ cap', _, henter fn ps as bd, ?_, fun _ _ => fenceOf_fn _ _ _, henter2 _ _, fun h => ?_, ?_⟩
                    · have e : Array.map a.eval #[Operand.const (Value.func (.yield w1.heap.size) #[] #[])] = #[Value.func (.yield w1.heap.size) #[] #[]] := by
                        rw [List.map_toArray]; rfl
                      simp only [resolve, hfv2, Deferred.ofValue, Sem.run_pure, e]
                    · cases rd <;> simp [fenceOf, Fence.wide, Fence.inRound] at h
                    · have hrun : (do let d ← Deferred.ofValue (.func (.func fid) first' cap') #[Value.func (.yield w1.heap.size) #[] #[]]; invoke d.target d.args : Sem Next).run C.P
                          (w1.alloc (.loop { state := .ready, pending := none, fn := fn, tmps := a.tmps, params := ps, assign := as, body := bd, defers := ρ1.blk d })) =
                          .ok (.enter fid ((first' ++ #[Value.func (.yield w1.heap.size) #[] #[]]) ++ cap')) (w1.alloc (.loop { state := .ready, pending := none, fn := fn, tmps := a.tmps, params := ps, assign := as, body := bd, defers := ρ1.blk d })) := by
                        simp only [Deferred.ofValue, Sem.run_bind, Sem.run_pure, Result.andThen_ok, invoke]
                        exact henter2 _ _
                      rw [hrun] at hinv
                      simp only [InvOk] at hinv
                      have hQ : CallsIn Fence.wide (n - 1) C.P fid ((first' ++ #[Value.func (.yield w1.heap.size) #[] #[]]) ++ cap') (w1.alloc (.loop { state := .ready, pending := none, fn := fn, tmps := a.tmps, params := ps, assign := as, body := bd, defers := ρ1.blk d }))
                          (rangePost (fenceOf ρ rd) n C.P w1.heap.size (Goal C base ρ H w r) { a with defers := mark ++ a.defers }) := by
                        refine CallsIn.mono hinv fun e w3 hh => ?_
                        obtain ⟨v', rfl, ρ3, _, p3⟩ := hh
                        have hb3 : ρ3.blk H1.next = w1.heap.size := (p3.ext.blk _ hdom).trans hblk
                        obtain ⟨lp, h0, hst2, hpend, p4⟩ := Post.putLoop (st' := .exhausted) (p' := p) p3.rel hl2 hm'
                        have hend : (Instr.endLoop w1.heap.size).run C.P w3 = .ok p { w3 with heap := w3.heap.setIfInBounds (ρ3.blk H1.next) (.loop { lp with state := .exhausted, pending := p }) } := by
                          rw [← hb3]
                          unfold Instr.endLoop
                          have hnb : (lp.state == LoopState.busy) = false := by
                            rw [hst2]
                            cases st <;> first | rfl | exact absurd rfl hbusy
                          simp only [Sem.run_bind, run_getLoop h0, Result.andThen_ok, hnb, Bool.false_eq_true, if_false, run_setLoop h0, Sem.run_pure, hpend]
                        have p34 := p3.trans p4
                        have hall := p12.trans p34
                        have hd3 : Hand C K base rd fr1 _ lim ρ3 { a with defers := mark ++ a.defers } _ := hd2.post ho p34 (hd2.fr.mono p34.ext)
                        refine ⟨p, _, hend, ?_⟩
                        cases p with
                        | none =>
                          simp only [Option.some.injEq] at h
                          subst h
                          exact ⟨rfl, ρ3, hd3.fr, hall⟩
                        | some c =>
                          simp only at h ⊢
                          have := hs.go (n := n) h hd3 hlim
                          rw [fenceOf_ext hall.ext hd.rd] at this
                          exact wpIn_mono this fun e a' w' g => g.after hall
                      cases rd with
                      | none => exact hQ
                      | some l => exact hQ
              · cases hbod
            · cases hbod
        · cases h
      · cases h
    · cases h
  · cases h

theorem step_ok (ho : Ok C K base) (hs : SndSelf C K base self) (hsk : SelfKeep self) : SndSelf C K base (step C self bound) := by
  intro rd c fr H r h0 ρ a w lim n hrel hK hf hroom hlim hrd
  have hd : Hand C K base rd fr H lim ρ a w := ⟨hrel, hK, hf, hroom, hrd⟩
  show c.wpIn (fenceOf ρ rd) n C.P (Goal C base ρ H w r) a w
  have h := h0
  unfold step at h
  split at h
  · simp only [Option.some.injEq] at h; subst h
    exact wpIn_skip ⟨rfl, ρ, hf, Post.refl hrel⟩
  · simp only [Option.some.injEq] at h; subst h
    exact wpIn_ret ⟨rfl, ρ, hf, Post.refl hrel⟩
  · simp only [Option.some.injEq] at h; subst h
    exact wpIn_exit ⟨rfl, ρ, hf, Post.refl hrel⟩
  · -- seq
    refine wpIn_seq ?_
    split at h
    · rename_i fr' H' h1
      have hk1 := hsk _ _ _ _ _ hroom.le h1
      have hk2 := hsk _ _ _ _ _ (hk1.le hroom.le) h
      refine wpIn_mono (hs.go h1 hd (Nat.lt_of_le_of_lt hk2.next hlim)) fun e a' w' g => ?_
      obtain ⟨he, ρ', hf', p⟩ := g
      subst he
      have := hs.go (n := n) h (hd.post ho p hf') hlim
      rw [fenceOf_ext p.ext hrd] at this
      exact wpIn_mono this fun e a2 w2 g => g.after p
    · rename_i hne
      refine wpIn_mono (hs.go h hd hlim) fun e a' w' g => ?_
      obtain ⟨he, hrest⟩ := g
      obtain ⟨ex, fr', H'⟩ := r
      cases ex with
      | normal => exact absurd h (hne fr' H')
      | ret => subst he; exact ⟨rfl, hrest⟩
      | exit id => subst he; exact ⟨rfl, hrest⟩
  · -- cond
    split at h
    · rename_i hx
      have hv := hf.eval hrel.glob hx
      generalize hz : a.eval _ = z at hv
      cases hv
      exact wpIn_cond hz (hs.go h hd hlim)
    · rename_i hx
      have hv := hf.eval hrel.glob hx
      generalize hz : a.eval _ = z at hv
      cases hv
      exact wpIn_cond hz (hs.go h hd hlim)
    · cases h
  · -- block
    rename_i id b
    refine wpIn_block ?_
    split at h
    · rename_i id' fr' H' h1
      have hlim1 : H'.next < lim := by
        revert h
        cases Nat.beq id' id <;> (intro h; simp only [cond_true, cond_false, Option.some.injEq] at h; subst h; exact hlim)
      refine wpIn_mono (hs.go h1 hd hlim1) fun e a' w' g => ?_
      obtain ⟨he, hrest⟩ := g
      subst he
      show if id' = id then _ else _
      cases hq : Nat.beq id' id with
      | true =>
        rw [hq] at h
        simp only [cond_true, Option.some.injEq] at h
        subst h
        rw [if_pos (Nat.eq_of_beq_eq_true hq)]
        exact ⟨rfl, hrest⟩
      | false =>
        rw [hq] at h
        simp only [cond_false, Option.some.injEq] at h
        subst h
        rw [if_neg (Nat.ne_of_beq_eq_false hq)]
        exact ⟨rfl, hrest⟩
    · rename_i hne
      refine wpIn_mono (hs.go h hd hlim) fun e a' w' g => ?_
      obtain ⟨he, hrest⟩ := g
      obtain ⟨ex, fr', H'⟩ := r
      cases ex with
      | normal => subst he; exact ⟨rfl, hrest⟩
      | ret => subst he; exact ⟨rfl, hrest⟩
      | exit id => exact absurd h (hne id fr' H')
  · -- loop
    exact wpIn_loop_rounds bound (rounds_ok ho hs hsk bound h hd hlim)
  · -- a region in the text's order
    split at h
    · rename_i fr' H' h1
      simp only [Option.some.injEq] at h
      subst h
      exact wpIn_region_list (aops_ok ho hs hsk h1 hrel hK hf hroom hlim fun ρ' a' w' h2 h3 => ⟨rfl, ρ', h2, h3⟩)
    · cases h
  · -- a region whose order is open
    split at h
    · rename_i bs hb
      obtain ⟨hap, h⟩ := cond_some h
      split at h
      · rename_i fr' H' h1
        simp only [Option.some.injEq] at h
        subst h
        have p0 := Post.drew hrel
        refine wpIn_region_any ho.mixed (adraw_ok ho hs hsk hb hap h1 p0.rel (ho.keep _ _ hK p0.below) hf hroom hlim fun ρ' a' w' h2 h3 => ⟨rfl, ρ', h2, p0.trans h3⟩)
      · cases h
    · cases h
  · exact range_ok ho hs hsk h0 hd hlim
  · cases h

theorem ev_ok (ho : Ok C K base) : ∀ n, SndSelf C K base (ev C n)
  | 0 => fun _ _ _ _ _ h => by cases h
  | n + 1 => step_ok ho (ev_ok ho n) (keep_ev C n)

end

end Go.Ev
