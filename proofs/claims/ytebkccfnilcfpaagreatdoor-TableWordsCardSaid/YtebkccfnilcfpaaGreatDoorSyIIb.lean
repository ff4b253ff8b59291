/- SyIIb: what the evaluator says of operations holds of the machine (the tail of SyII). -/
import Derived.Test.YtebkccfnilcfpaaGreatDoorSyII
/- What the evaluator says of a round of a loop over a function, and of whatever is called, holds of the machine. -/
namespace Go.Sy
set_option linter.unusedVariables false
set_option linter.unusedSimpArgs false
open Go Go.RowKit

theorem putParams_ok {ρ : Rho} : ∀ {ts : List Tmp} {vs vs' : List Value} {fr fr' : AFr} {a : Act}, putParams ts vs fr = some fr' → VRs ρ vs vs' → FrRel ρ fr a →
    ts.length = vs'.length ∧ FrRel ρ fr' { a with tmps := (ts.zip vs').foldl (fun tmps (p : Tmp × Value) => tmps.setIfInBounds p.1 p.2) a.tmps } := by
  intro ts
  induction ts with
  | nil =>
    intro vs vs' fr fr' a h hv hf
    cases vs with
    | nil =>
      have := hv.nil_inv
      subst this
      simp only [putParams, Option.some.injEq] at h
      subst h
      exact ⟨rfl, hf⟩
    | cons => cases h
  | cons t r ih =>
    intro vs vs' fr fr' a h hv hf
    cases vs with
    | nil => cases h
    | cons x s =>
      obtain ⟨y, s', rfl, h1, h2⟩ := hv.cons_inv
      simp only [putParams] at h
      obtain ⟨q1, q2⟩ := ih h h2 (hf.put h1 (some t))
      exact ⟨by simp [q1], q2⟩

theorem run_getLoop {P : Program} {w : World} {l : Nat} {lp : Loop} (h : w.heap[l]? = some (.loop lp)) : (Instr.getLoop l).run P w = .ok lp w := by
  simp [Instr.getLoop, getObj, Sem.run, h]

theorem run_setLoop {P : Program} {w : World} {l : Nat} {lp : Loop} (h : w.heap[l]? = some (.loop lp)) (o : Obj) : (setObj l o).run P w = .ok () { w with heap := w.heap.setIfInBounds l o } := by
  simp [setObj, Sem.run, h]

/-- A loop's record is written. -/
theorem Post.putLoop {NG : Knw} {base : Nat} {ρ : Rho} {H : Heap} {w : World} {l : Nat} {st st' : LoopState} {p p' : Option Code} {tr : Tr} {n : Nat} {ps : Array Tmp} {as bd : Code} {d : Nat} (hr : Rel NG base ρ H w)
    (hl : look H l = some (.loop st p tr n ps as bd d)) (hm : H.wmin ≤ l) : ∃ lp : Loop, w.heap[ρ.blk l]? = some (.loop lp) ∧ lp.state = st ∧ lp.pending = p ∧
      Post NG base ρ H (H.put l (.loop st p tr n ps as bd d) (.loop st' p' tr n ps as bd d)) w { w with heap := w.heap.setIfInBounds (ρ.blk l) (.loop { lp with state := st', pending := p' }) } ρ := by
  obtain ⟨lp, h0, h1, h2, h3, h4, h5, h6, h7, h8⟩ := hr.obj l _ hl
  have hlt := (hr.obj l _ hl).lt
  refine ⟨lp, h0, h1, h2, Post.write hr hl rfl hm (fun k hk => by simp [Array.getElem?_setIfInBounds_ne (fun h => hk h.symm)]) (by simp) rfl rfl rfl ?_ rfl⟩
  exact ⟨{ lp with state := st', pending := p' }, by simp [hlt], rfl, rfl, h3, h4, h5, h6, h7, h8⟩

theorem ayield_ok {C : Cfg} {K : World → Prop} {base : Nat} {self : Self} (ho : Ok C K base) (hs : SndSelf C K base self) (hk : SelfKeep self) {l : Nat} {args : List Value} {H : Heap} {r : Value × Heap} (h : ayield self l args H = some r)
    (ρ : Rho) (w : World) (lim n : Nat) (args' : Array Value) (hr : Rel C.NG base ρ H w) (hK : K w) (hv : VRs ρ args args'.toList) (hf : Room H lim ρ) (hlim : r.2.next < lim) :
    InvOk n C.P (fun v' w' => ∃ ρ', VR ρ' r.1 v' ∧ Post C.NG base ρ H r.2 w w' ρ') ((Instr.yield (ρ.blk l) args').run C.P w) := by
  unfold ayield at h
  split at h
  · rename_i st0 p0 tr n0 params assign body d0 hl
    have hdom := hr.dom l _ hl
    obtain ⟨lp, h0, _, _, h3, h4, h5, _, _, h8⟩ := hr.obj l _ hl
    split at h
    · rename_i fr0 hfr0
      obtain ⟨hlen, hfr⟩ := putParams_ok (vs' := args'.toList) hfr0 hv h8
      split at h
      · rename_i fr1 H1 he1
        have hw := hf.le
        have k1 := hk _ _ _ _ _ _ hw he1
        split at h
        · rename_i p1 tr1 n1 ps1 as1 bd1 d1 hl1
          obtain ⟨hm1, h⟩ := cond_some h
          have hm1' := Nat.le_of_ble_eq_true hm1
          split at h
          · rename_i ex fr2 H2 he2
            have kp := Keep.put (H := H1) (b := l) (.loop .ready p1 tr1 n1 ps1 as1 bd1 d1) (.loop .busy p1 tr1 n1 ps1 as1 bd1 d1) hl1 hm1'
            have k2 := hk _ _ _ _ _ _ (kp.le (k1.le hw)) he2
            split at h
            · rename_i st2 p2 tr2 n2 ps2 as2 bd2 d2 hl2
              obtain ⟨hm2, h⟩ := cond_some h
              have hm2' := Nat.le_of_ble_eq_true hm2
              have hnext : r.2.next = H2.next ∧ r.1 = .bool (jumpOf ex).isNone ∧ r.2 = H2.put l (.loop st2 p2 tr2 n2 ps2 as2 bd2 d2) (.loop (if (jumpOf ex).isNone then .ready else .done) (jumpOf ex) tr2 n2 ps2 as2 bd2 d2) := by
                split at h
                · rename_i hj
                  simp only [Option.some.injEq] at h
                  subst h
                  rw [hj]
                  exact ⟨rfl, rfl, rfl⟩
                · rename_i c hj
                  simp only [Option.some.injEq] at h
                  subst h
                  rw [hj]
                  exact ⟨rfl, rfl, rfl⟩
              obtain ⟨hn1, hn2, hn3⟩ := hnext
              have hyield : (Instr.yield (ρ.blk l) args').run C.P w = .ok (.round (ρ.blk l) lp.fn ((params.toList.zip args'.toList).foldl (fun tmps (p : Tmp × Value) => tmps.setIfInBounds p.1 p.2) lp.tmps) assign body) w := by
                unfold Instr.yield
                simp only [Sem.run_bind, run_getLoop h0, Result.andThen_ok]
                rw [if_neg (by rw [h3]; simp at hlen; omega)]
                simp only [Sem.run_pure, h3, h4, h5]
                congr 2
                rw [← Array.foldl_toList, Array.toList_zip]
              rw [hyield]
              refine roundIn_of_wpIn trivial ?_
              have hA := hs none (some l) assign fr0 H _ trivial he1 ρ _ w lim n hr hK hfr hf (by have := k2.next; simp only [Heap.put] at this; simp only; omega) (by intro x hx; cases hx; exact hdom)
              refine wpIn_mono hA ?_
              intro e a1 w1 ⟨he, ρ1, hf1, q1⟩
              subst he
              have hb1 : ρ1.blk l = ρ.blk l := q1.ext.blk l hdom
              obtain ⟨lp1, g0, g1, g2, q2⟩ := Post.putLoop (st' := .busy) (p' := p1) q1.rel hl1 hm1'
              have hbegin : (Instr.beginRound (ρ.blk l)).run C.P w1 = .ok () { w1 with heap := w1.heap.setIfInBounds (ρ1.blk l) (.loop { lp1 with state := .busy, pending := p1 }) } := by
                rw [← hb1]
                unfold Instr.beginRound
                simp only [Sem.run_bind, run_getLoop g0, Result.andThen_ok, run_setLoop g0, g1, Sem.run_pure, g2]
              refine ⟨_, hbegin, ?_⟩
              have q12 := q1.trans q2
              have hK1 := ho.keep _ _ hK q12.below
              have hB := hs none (some l) body fr1 _ _ trivial he2 ρ1 a1 _ lim n q12.rel hK1 hf1 (q12.room hf) (by simp only; omega) (by intro x hx; cases hx; exact q1.ext.dom l hdom)
              have hfen : fenceOf ρ1 (some l) = Fence.wide.inRound (ρ.blk l) := by simp only [fenceOf, hb1]
              rw [hfen] at hB
              refine wpIn_mono hB ?_
              intro e2 a2 w2 ⟨he2', ρ2, hf2, q3⟩
              have hb2 : ρ2.blk l = ρ.blk l := (q3.ext.blk l (q1.ext.dom l hdom)).trans hb1
              obtain ⟨lp2, f0, f1, f2, q4⟩ := Post.putLoop (st' := if (jumpOf ex).isNone then .ready else .done) (p' := jumpOf ex) q3.rel hl2 hm2'
              have hend : (Instr.endRound (ρ.blk l) (jumpOf ex)).run C.P w2 = .ok (.bool (jumpOf ex).isNone) { w2 with heap := w2.heap.setIfInBounds (ρ2.blk l) (.loop { lp2 with state := if (jumpOf ex).isNone then .ready else .done, pending := jumpOf ex }) } := by
                rw [← hb2]
                unfold Instr.endRound
                simp only [Sem.run_bind, run_getLoop f0, Result.andThen_ok, run_setLoop f0, Sem.run_pure]
              have hpost := (q12.trans q3).trans q4
              rw [← hn3] at hpost
              have hR : ∃ v', Ending.returned (.bool (jumpOf ex).isNone) = .returned v' ∧ ∃ ρ', VR ρ' r.1 v' ∧ Post C.NG base ρ H r.2 w { w2 with heap := w2.heap.setIfInBounds (ρ2.blk l) (.loop { lp2 with state := if (jumpOf ex).isNone then .ready else .done, pending := jumpOf ex }) } ρ' :=
                ⟨_, rfl, ρ2, by rw [hn2]; exact .bool _, hpost⟩
              cases ex with
              | normal => subst he2'; exact ⟨_, _, hend, hR⟩
              | ret => subst he2'; exact ⟨_, _, hend, hR⟩
              | exit id => subst he2'; exact ⟨_, _, hend, hR⟩
            · cases h
          · cases h
        · cases h
      · cases h
    · cases h
  · cases h

theorem acall_ok {C : Cfg} {K : World → Prop} {base : Nat} {self : Self} (ho : Ok C K base) (hs : SndSelf C K base self) (hk : SelfKeep self) {fv : Value} {args : List Value} {H : Heap} {r : Value × Heap} (h : acall C self fv args H = some r)
    (ρ : Rho) (w : World) (lim n : Nat) (fv' : Value) (args' : Array Value) (hr : Rel C.NG base ρ H w) (hK : K w) (hfv : VR ρ fv fv') (hv : VRs ρ args args'.toList) (hf : Room H lim ρ) (hlim : r.2.next < lim) :
    InvOk n C.P (fun v' w' => ∃ ρ', VR ρ' r.1 v' ∧ Post C.NG base ρ H r.2 w w' ρ') ((do let d ← Deferred.ofValue fv' args'; invoke d.target d.args : Sem Next).run C.P w) := by
  unfold acall at h
  split at h
  · rename_i f first captured
    cases hfv with
    | func _ fn' _ first' _ cap' hfn hs1 hv1 hs2 hv2 =>
      cases hfn with
      | same =>
        have hrun : (do let d ← Deferred.ofValue (.func (.func f) first' cap') args'; invoke d.target d.args : Sem Next).run C.P w = (callFunc f ((first' ++ args') ++ cap')).run C.P w := by
          simp only [Deferred.ofValue, Sem.run_bind, Sem.run_pure, Result.andThen_ok, invoke]
        rw [hrun]
        refine acallF_ok ho hs h ρ w lim n _ hr hK ?_ hf hlim
        have := (vrs_of_arr hs1 hv1).append (hv.append (vrs_of_arr hs2 hv2))
        simpa [List.append_assoc] using this
  · rename_i l
    cases hfv with
    | func _ fn' _ first' _ cap' hfn hs1 hv1 hs2 hv2 =>
      cases hfn with
      | same _ hne => exact absurd rfl (hne l)
      | yield _ hd =>
        have e1 : first' = #[] := Array.eq_empty_of_size_eq_zero hs1.symm
        have e2 : cap' = #[] := Array.eq_empty_of_size_eq_zero hs2.symm
        subst e1 e2
        have hrun : (do let d ← Deferred.ofValue (.func (.yield (ρ.blk l)) #[] #[]) args'; invoke d.target d.args : Sem Next).run C.P w = (Instr.yield (ρ.blk l) args').run C.P w := by
          simp only [Deferred.ofValue, Sem.run_bind, Sem.run_pure, Result.andThen_ok, invoke, Array.empty_append]
        rw [hrun]
        exact ayield_ok ho hs hk h ρ w lim n args' hr hK hv hf hlim
  · cases h

end Go.Sy

/- What the evaluator says of an operation, of a region in the text's order, holds of the machine. -/
namespace Go.Sy
set_option linter.unusedVariables false
set_option linter.unusedSimpArgs false
open Go Go.RowKit

theorem about_ok {ρ0 : Rho} {rd : Option Nat} {P : Program} {w : World} {a : Act} {o : Oper} : ∀ f, o.about P w a.eval = some f → (fenceOf ρ0 rd).fn f := fun f _ => fenceOf_fn _ _ f

theorem apure_wp {C : Cfg} {n : Nat} {ρ ρ0 : Rho} {rd : Option Nat} {ev : Operand → Option Value} {a : Act} {o : Oper} {v : Value} {w : World} {Kn : Act → World → Prop} {Q : Exit → Act → World → Prop} (g : Glob C.NG ρ) (hev : EvR ρ ev a) (h : apure C.P C.NG ev o.op = some v)
    (hk : ∀ v', VR ρ v v' → Kn (a.put o.dst v') w) : o.wpIn (fenceOf ρ0 rd) n C.P a w Kn Q := by
  obtain ⟨hd, v', h1, h2⟩ := apure_ok g hev h
  refine ⟨about_ok, ?_⟩
  rw [Oper.semAt_eq _ _ _ hd, h2 w]
  exact hk v' h1

theorem aoper_wp {C : Cfg} {K : World → Prop} {base n lim : Nat} {self : Self} (ho : Ok C K base) (hs : SndSelf C K base self) (hsk : SelfKeep self) {ρ ρ0 : Rho} {rd : Option Nat} {ev : Operand → Option Value} {a : Act} {o : Oper} {H : Heap} {r : Value × Heap} {w : World}
    {Kn : Act → World → Prop} {Q : Exit → Act → World → Prop} (hr : Rel C.NG base ρ H w) (hK : K w) (hev : EvR ρ ev a) (hf : Room H lim ρ) (h : aoper C self ev H o.op = some r) (hlim : r.2.next < lim)
    (hk : ∀ v' w' ρ', VR ρ' r.1 v' → Post C.NG base ρ H r.2 w w' ρ' → Kn (a.put o.dst v') w') : o.wpIn (fenceOf ρ0 rd) n C.P a w Kn Q := by
  unfold aoper at h
  split at h
  · rename_i r2 hh
    simp only [Option.some.injEq] at h
    subst h
    have k := (keep_hop hh).next
    obtain ⟨hd, v', ρ', h1, h2, h3⟩ := hop_ok hr hev (hf.free H.next (Nat.le_refl _) (by omega)) hh
    refine ⟨about_ok, ?_⟩
    rw [Oper.semAt_eq _ _ _ hd, h1]
    exact hk v' w ρ' h2 h3
  split at h
  · rename_i r2 hh
    simp only [Option.some.injEq] at h
    subst h
    obtain ⟨v, H'⟩ := r2
    have k := (keep_happOp hh).next
    simp only at k hlim
    obtain ⟨hd, v', w', ρ', h1, h2, h3⟩ := happOp_ok hr hev (hf.free H.next (Nat.le_refl _) (by omega)) hh
    refine ⟨about_ok, ?_⟩
    rw [Oper.semAt_eq _ _ _ hd, h1]
    exact hk v' w' ρ' h2 h3
  split at h
  · rename_i r2 hh
    simp only [Option.some.injEq] at h
    subst h
    obtain ⟨v, H'⟩ := r2
    have k := (keep_heap hh).next
    simp only at k hlim
    obtain ⟨hd, x, v', w', ρ', h1, h2, h3, h4⟩ := aheap_ok hr hev (hf.free H.next (Nat.le_refl _) (by omega)) hh
    refine ⟨about_ok, ?_⟩
    rw [Oper.semAt_eq _ _ _ hd, h1]
    rcases h2 with rfl | ⟨rfl, rfl⟩
    · exact hk v' w' ρ' h3 h4
    · exact hk undef w' ρ' h3 h4
  · rename_i hnone
    split at h
    · rename_i c hop
      split at h
      · rename_i f hcal
        split at h
        · rename_i fv vs hfv hvs
          refine ⟨about_ok, ?_⟩
          rw [Oper.semAt_eq _ _ _ (by rw [hop]; intro c; simp)]
          have hexec : execOp a.eval o = (do let d ← Deferred.ofValue (a.eval f) (c.args.map a.eval); invoke d.target d.args : Sem Next) := by
            unfold execOp
            rw [hop]
            simp only [resolve, hcal]
          rw [hexec]
          refine upon_of_inv (acall_ok ho hs hsk h ρ w lim (n - 1) _ _ hr hK (hev _ _ hfv) (by simpa using evL_ok hev hvs) hf hlim) ?_
          intro v' w' ⟨ρ', h1, h2⟩
          exact hk v' w' ρ' h1 h2
        · cases h
      · cases h
    · rename_i t x hop
      split at h
      · rename_i u hu
        split at h
        · rename_i v hv
          simp only [Option.some.injEq] at h
          subst h
          obtain ⟨v', h1, h2⟩ := srow_ok (P := C.P) hr.glob (ho.rows w hK) hv (hev _ _ hu)
          refine ⟨about_ok, ?_⟩
          rw [Oper.semAt_eq _ _ _ (by rw [hop]; intro c; simp)]
          have hexec : (execOp a.eval o).run C.P w = .ok (.value v') w := by
            unfold execOp
            rw [hop]
            simp only [Sem.run_bind, h2, Result.andThen_ok, Sem.run_pure]
          rw [hexec]
          exact hk v' w ρ h1 (Post.refl hr)
        · cases h
      · cases h
    · cases h

/-- A guard's word is the model's. -/
theorem awanted_ok {C : Cfg} {ops : Array Oper} {ρ : Rho} {fr : AFr} {a : Act} {o : Oper} {b : Bool} (h : awanted C.NG ops.toList fr o = some b) (gl : Glob C.NG ρ)
    (hv : ∀ g want og t, o.guard = some (g, want) → ops[g]? = some og → og.dst = some t → VR ρ (fr.tr.get t) (a.tmps.getD t undef)) : Region.wanted o (yielded ops a.tmps) = b := by
  unfold awanted at h
  unfold Region.wanted yielded
  split at h
  · rename_i hg
    simp only [hg]
    exact Option.some.inj h
  · rename_i g want hg
    simp only [hg]
    rw [Array.getElem?_toList] at h
    split at h
    · rename_i ho
      simp only [ho, Option.bind_none]
      have := Option.some.inj h
      rw [← this]; rfl
    · rename_i og ho
      split at h
      · rename_i hd
        simp only [ho, Option.bind_some, hd, Option.bind_none]
        have := Option.some.inj h
        rw [← this]; rfl
      · rename_i t hd
        have hvr := hv g want og t hg ho hd
        simp only [ho, Option.bind_some, hd]
        split at h
        · rename_i cs hc
          rw [hc] at hvr
          have := Option.some.inj h
          rw [← this]
          have hq : ∀ c, a.tmps[t]? ≠ some (.bool c) := by
            intro c hq
            rw [Array.getD_eq_getD_getElem?, hq] at hvr
            cases hvr
          cases hq2 : a.tmps[t]? with
          | none => rfl
          | some y => cases y <;> first | rfl | exact absurd hq2 (hq _)
        · split at h
          · rename_i c hc
            have hvb : a.tmps.getD t undef = .bool c := truth_vr gl hc hvr
            have hq : a.tmps[t]? = some (.bool c) := by
              cases hq : a.tmps[t]? with
              | none =>
                rw [Array.getD_eq_getD_getElem?, hq] at hvb
                cases hvb
              | some y =>
                rw [Array.getD_eq_getD_getElem?, hq] at hvb
                simpa using hvb
            have := Option.some.inj h
            rw [← this]
            simp only [hq]
            cases c <;> cases want <;> rfl
          · cases h

/-- The temporaries a region's operation may look at. -/
theorem aops_ok {C : Cfg} {K : World → Prop} {base n lim : Nat} {self : Self} (ho : Ok C K base) (hs : SndSelf C K base self) (hsk : SelfKeep self) {ρ0 : Rho} {rd : Option Nat} {ops : Array Oper} {r : AFr × Heap} {Q : Exit → Act → World → Prop} :
    ∀ {l : List Oper} {fr : AFr} {H : Heap} {ρ : Rho} {a : Act} {w : World}, aops C self ops.toList l fr H = some r → Rel C.NG base ρ H w → K w → FrRel ρ fr a → Room H lim ρ → r.2.next < lim →
      (∀ ρ' a' w', FrRel ρ' r.1 a' → Post C.NG base ρ H r.2 w w' ρ' → Q .normal a' w') → wpListIn (fenceOf ρ0 rd) n C.P ops Q l a w := by
  intro l
  induction l with
  | nil =>
    intro fr H ρ a w h hr hK hf hroom hlim hq
    simp only [aops, Option.some.injEq] at h
    subst h
    exact hq ρ a w hf (Post.refl hr)
  | cons o rest ih =>
    intro fr H ρ a w h hr hK hf hroom hlim hq
    simp only [aops] at h
    have hev : EvR ρ (fr.eval C.NG) a := fun x v hx => hf.eval hr.glob hx
    unfold wpListIn
    split at h
    · rename_i hw
      have hw' := awanted_ok (ρ := ρ) (a := a) hw hr.glob (fun _ _ _ t _ _ _ => hf.get t)
      rw [if_pos hw']
      split at h
      · rename_i v hp
        refine apure_wp hr.glob hev hp fun v' hv => ?_
        exact ih h hr hK (hf.put hv _) hroom hlim hq
      · split at h
        · rename_i v H' hh
          have k1 := keep_oper hsk hroom.le hh
          have k2 := keep_ops hsk (k1.le hroom.le) h
          refine aoper_wp ho hs hsk hr hK hev hroom hh (Nat.lt_of_le_of_lt k2.next hlim) fun v' w' ρ' hv hp => ?_
          exact ih h hp.rel (ho.keep _ _ hK hp.below) ((hf.mono hp.ext).put hv _) (hp.room hroom) hlim fun ρ2 a2 w2 h1 h2 => hq ρ2 a2 w2 h1 (hp.trans h2)
        · cases h
    · rename_i hw
      have hw' := awanted_ok (ρ := ρ) (a := a) hw hr.glob (fun _ _ _ t _ _ _ => hf.get t)
      rw [if_neg (by rw [hw']; simp)]
      exact ⟨about_ok, ih h hr hK (hf.put (VR.undef ρ) _) hroom hlim hq⟩
    · cases h

end Go.Sy
