/- The evaluator at this program, told contracts that speak of memory. -/
import Derived.Test.YtebkccfnilcfpaaGreatDoorSyCtr
import Derived.Test.YtebkccfnilcfpaaGreatDoorSyRow
namespace Go.Proofs.YtebkccfnilcfpaaGreatDoor
set_option linter.unusedVariables false
set_option linter.unusedSimpArgs false
open Go Go.Sy Go.RowKit

def KB (t1 t2 t3 t4 : TypeId) (base : Nat) : World → Prop := Kof (vars t1 t2 t3 t4) (WldR noRows) base

def HLOk (FN : Fns) (c : HLCtr) : Prop := ∃ fn b c0 k, Tryz.prog.funcs[c.f]? = some fn ∧ fn.body = some b ∧ codeAt b k c.p = some (.loop c0) ∧ ∀ t1 t2 t3 t4 base, HLSem Tryz.prog 20 (vars t1 t2 t3 t4) (KB t1 t2 t3 t4 base) base FN c c0

def FOk (FN : Fns) (c : FCtr) : Prop := ∀ t1 t2 t3 t4 base, FSem Tryz.prog 20 (vars t1 t2 t3 t4) (KB t1 t2 t3 t4 base) base FN c

/-- All that is told. -/
structure Tolds where
  cs : List Ctr
  gs : List GCtr
  fs : List FCtr
  ls : List LCtr
  hs : List HLCtr

structure TOk (FN : Fns) (T : Tolds) : Prop where
  cs : ∀ c ∈ T.cs, CtrOk FN c
  gs : ∀ c ∈ T.gs, GCtrOk FN c
  fs : ∀ c ∈ T.fs, FOk FN c
  ls : ∀ c ∈ T.ls, LCtrOk FN c
  hs : ∀ c ∈ T.hs, HLOk FN c

def orcFL (S : Knw) : List FCtr → FuncId → List Value → Heap → Option (Value × Heap)
  | [], _, _, _ => none
  | c :: r, f, l, H => match cond (Nat.beq f c.f) (c.run S l H) none with
    | some q => some q
    | none => orcFL S r f l H

theorem orcFL_ok {S : Knw} {f : FuncId} {args : List Value} {H : Heap} {r : Value × Heap} : ∀ {cs : List FCtr}, orcFL S cs f args H = some r → ∃ c ∈ cs, c.f = f ∧ c.run S args H = some r
  | [], h => by cases h
  | c :: l, h => by
    simp only [orcFL] at h
    split at h
    · rename_i q hq
      cases h
      obtain ⟨hb, hq⟩ := cond_some' hq
      exact ⟨c, by simp, (Nat.eq_of_beq_eq_true hb).symm, hq⟩
    · obtain ⟨d, hd, h1⟩ := orcFL_ok h
      exact ⟨d, List.mem_cons_of_mem _ hd, h1⟩

def hlL (S : Knw) : List HLCtr → FuncId → Nat → AFr → Heap → Option (AEx × AFr × Heap)
  | [], _, _, _, _ => none
  | c :: r, f, p, fr, H => match cond (Nat.beq f c.f && Nat.beq p c.p) (c.run S fr H) none with
    | some q => some q
    | none => hlL S r f p fr H

theorem hlL_ok {S : Knw} {f : FuncId} {p : Nat} {fr : AFr} {H : Heap} {r : AEx × AFr × Heap} : ∀ {cs : List HLCtr}, hlL S cs f p fr H = some r → ∃ c ∈ cs, c.f = f ∧ c.p = p ∧ c.run S fr H = some r
  | [], h => by cases h
  | c :: l, h => by
    simp only [hlL] at h
    split at h
    · rename_i q hq
      cases h
      obtain ⟨hb, hq⟩ := cond_some' hq
      simp only [Bool.and_eq_true] at hb
      exact ⟨c, by simp, (Nat.eq_of_beq_eq_true hb.1).symm, (Nat.eq_of_beq_eq_true hb.2).symm, hq⟩
    · obtain ⟨d, hd, h1⟩ := hlL_ok h
      exact ⟨d, List.mem_cons_of_mem _ hd, h1⟩

theorem lorL_H {S : Knw} {f : FuncId} {p : Nat} {fr : AFr} {H : Heap} {r : AEx × AFr × Heap} : ∀ {ls : List LCtr}, lorL S ls f p fr H = some r → r.2.2 = H := by
  intro ls
  induction ls with
  | nil => intro h; cases h
  | cons c l ih =>
    intro h
    simp only [lorL] at h
    cases hb : (Nat.beq f c.f && Nat.beq p c.p) with
    | false => rw [hb] at h; exact ih h
    | true =>
      rw [hb] at h
      simp only [cond_true, LCtr.run] at h
      obtain ⟨_, h⟩ := cond_some' h
      split at h
      · obtain ⟨_, h⟩ := cond_some' h
        cases h; rfl
      · cases h

noncomputable def cfgH (FN : Fns) (K : RowsK) (T : Tolds) (F : List (Value × Bool)) : Cfg where
  P := Tryz.prog
  NG := ⟨20, F, FN, K.s, K.r⟩
  orc f l := match orcL ⟨20, F, FN, K.s, K.r⟩ T.cs f l with
    | some v => some v
    | none => orcC f l
  ext := extC
  orcG f args H := match orcGL ⟨20, F, FN, K.s, K.r⟩ T.gs f args H with
    | some r => some r
    | none => orcFL ⟨20, F, FN, K.s, K.r⟩ T.fs f args H
  keepG f args H r _ h := by
    split at h
    · rename_i q hq
      cases h
      obtain ⟨_, _, _, hc⟩ := orcGL_ok hq
      exact GCtr.keep hc
    · obtain ⟨_, _, _, hc⟩ := orcFL_ok h
      exact FCtr.keep hc
  lorc f p fr H := match lorL ⟨20, F, FN, K.s, K.r⟩ T.ls f p fr H with
    | some r => some r
    | none => hlL ⟨20, F, FN, K.s, K.r⟩ T.hs f p fr H
  keepL f p fr H r _ h := by
    split at h
    · rename_i q hq
      cases h
      rw [lorL_H hq]
      exact Keep.refl H
    · obtain ⟨_, _, _, _, hc⟩ := hlL_ok h
      exact HLCtr.keep hc

theorem kb_of {t1 t2 t3 t4 : TypeId} {K : RowsK} {base : Nat} {w : World} (h : Kof (vars t1 t2 t3 t4) (WldR K) base w) : KB t1 t2 t3 t4 base w := ⟨h.1, h.2.1, fun r hr => by cases hr⟩

theorem goodH {FN : Fns} {K : RowsK} {T : Tolds} (hT : TOk FN T) (hv : ∀ r ∈ K.s, RowV (K.r.v r.1)) (t1 t2 t3 t4 : TypeId) (F : List (Value × Bool)) : Go.Sy.Good (cfgH FN K T F) (vars t1 t2 t3 t4) (WldR K) := by
  refine ⟨fun base w w' h hb => ⟨h.1.below hb, fun r hr => (h.2 r hr).below hb⟩, fun base w h => (let ⟨_, _, hm⟩ := h.1.2.months; Nat.zero_lt_of_lt (Array.getElem?_eq_some_iff.1 hm).1), by kernel_rfl, vars_ok t1 t2 t3 t4, fun f args v h ρ args' w base g hv hw hX hb => ?_, fun f args H r h base => ?_, extC_ok, hv, fun w base hX => hX.2, fun base f p fr H r c hl hr => ?_⟩
  · have h' : (match orcL ⟨20, F, FN, K.s, K.r⟩ T.cs f args with | some v => some v | none => orcC f args) = some v := h
    split at h'
    · rename_i u hu
      cases h'
      obtain ⟨c, h1, rfl, h3⟩ := orcL_ok hT.cs hu
      unfold Ctr.run at h3
      obtain ⟨h4, h3⟩ := cond_some' h3
      simp only [Bool.and_eq_true, List.all_eq_true] at h4
      split at h3
      · rename_i q hq
        cases h3
        exact hT.cs c h1 ⟨20, F, FN, K.s, K.r⟩ args q rfl h4.1 h4.2 hq ρ args' w g hv hX.1.2 (fun r hr => rowIn_mono (hX.2 r hr) hb)
      · cases h3
    · obtain ⟨h1, h2, h3⟩ := orcC_ok f args v h'
      exact orc_flat h1 h2 (h3 w w.heap.size hX.1.2.max) hv
  · have h' : (match orcGL ⟨20, F, FN, K.s, K.r⟩ T.gs f args H with | some r => some r | none => orcFL ⟨20, F, FN, K.s, K.r⟩ T.fs f args H) = some r := h
    split at h'
    · rename_i q hq
      cases h'
      obtain ⟨c, hc1, rfl, hrun⟩ := orcGL_ok (cs := T.gs) hq
      exact GCtr.snd (C := cfgH FN K T F) (fun w hw => hw.2.2) hrun fun ls vs q h1 h2 h3 ρ args' w g hv hK hl => hT.gs c hc1 ⟨20, F, FN, K.s, K.r⟩ args ls vs q rfl h1 h2 h3 ρ args' w g hv hK.2.1.2 hl
    · obtain ⟨c, hc1, rfl, hrun⟩ := orcFL_ok h'
      refine FCtr.snd (C := cfgH FN K T F) (gv := vars t1 t2 t3 t4) (vars_ok t1 t2 t3 t4) (fun w hw => hw.1) (fun w hw => hw.2.2) ?_ hrun
      intro V ls ρ args' w q hK
      exact hT.fs c hc1 t1 t2 t3 t4 base V ls ρ args' w q (kb_of hK)
  · have h' : (match lorL ⟨20, F, FN, K.s, K.r⟩ T.ls f p fr H with | some r => some r | none => hlL ⟨20, F, FN, K.s, K.r⟩ T.hs f p fr H) = some r := hr
    split at h'
    · rename_i q hq
      cases h'
      obtain ⟨d, hd, rfl, rfl, hrun⟩ := lorL_ok hT.ls hq
      obtain ⟨fn, b, c0, k, h1, h2, h3, h4⟩ := hT.ls d hd
      obtain ⟨fn', b', k', g1, g2, g3⟩ := hl
      have g1' : Tryz.prog.funcs[d.f]? = some fn' := g1
      exact LCtr.sndH (X := Kof (vars t1 t2 t3 t4) (WldR K) base) rfl rfl (fun w hw => hw.2) (hT.ls d hd) ⟨fn', b', k', g1', g2, g3⟩ hrun
    · obtain ⟨d, hd, rfl, rfl, hrun⟩ := hlL_ok h'
      obtain ⟨fn, b, c0, k, h1, h2, h3, h4⟩ := hT.hs d hd
      obtain ⟨fn', b', k', g1, g2, g3⟩ := hl
      have g1' : Tryz.prog.funcs[d.f]? = some fn' := g1
      rw [h1] at g1'
      cases g1'
      rw [h2] at g2
      cases g2
      have hcc := codeAt_one h3 g3
      cases hcc
      refine HLCtr.snd (C := cfgH FN K T F) (gv := vars t1 t2 t3 t4) (vars_ok t1 t2 t3 t4) (fun w hw => hw.1) (fun w hw => hw.2.2) ?_ hrun
      intro V ls ρ a w q hK
      exact h4 t1 t2 t3 t4 base V ls ρ a w q (kb_of hK)

/-- What a function hands back, its decisions told by a tree; contracts speak of memory. -/
theorem tree_h {FN : Fns} {K : RowsK} {T : Tolds} (hT : TOk FN T) {f : FuncId} {args : List Value} {Tr : Tree} {F0 : List (Value × Bool)}
    (h : ∀ t1 t2 t3 t4, Tr.ok (fun F => (arun (cfgH FN K T F) 1000 f args (heapOf 20 (vars t1 t2 t3 t4))).map (·.1)) F0 = true) {E : Env} (hE : FactsOk E F0) (hF : E.fns = FN) (hR : E.rows = K.r) {u : Value} (hu : Tr.val E = some u) {args' : Array Value}
    (ha : ∀ ρ : Rho, ρ.env = E → VRs ρ args args'.toList) {w : World} (hs : Wld w) (hrow : ∀ r ∈ K.s, RowIn K.r w.heap.size w r) :
    Calls Tryz.prog f args' w fun e w' => e = .returned u ∧ Below w.heap.size w w' := by
  obtain ⟨t1, t2, t3, t4, hw⟩ := hs.gv
  exact run_tree (C := cfgH FN K T) (fun _ => rfl) (fun _ => rfl) (fun F => goodH hT (fun r hr => rowIn_v (hrow r hr)) t1 t2 t3 t4 F) (h t1 t2 t3 t4) hE hF hR hu ha hw ⟨hs.x, hrow⟩

/-! ### Loops -/

def RowsOf (objs : List PObj) (ls : List Value) : Prop := ∀ (i l : Nat) (srts : List Srt), (objs[i]? = some (.row srts l) ∨ ∃ el, objs[i]? = some (.own srts el l)) → l < ls.length → ∃ v, ls[l]? = some v ∧ HasR srts v

theorem varsN (t1 t2 t3 t4 : TypeId) : ∀ x ∈ vars t1 t2 t3 t4, x.1 < 20 := fun x hx => (vars_ok t1 t2 t3 t4 x hx).1

/-- The rounds' trees hold. -/
def RoundsOk (FN : Fns) (T : Tolds) (f : FuncId) (p nt nb : Nat) (shs fins : List Shape) (kills : List Nat) (Ts : List HTree) (F0 : List (List (Value × Bool))) : Prop :=
  ∀ t1 t2 t3 t4, allH (fun sh F => ev (cfgH FN noRows T F) 1000 (some (f, 2 * p)) none (loopAt f p) (frCan nt sh.ins) (canH nt (heapOf 20 (vars t1 t2 t3 t4)) sh.objs)) (fun F => ⟨20, F, FN, [], rows0⟩) nt nb shs fins kills shs Ts F0 = true

theorem hlok_of {FN : Fns} {T : Tolds} (hT : TOk FN T) {c : HLCtr} (hloop : isLoop c.f c.p = true) (hn : c.nt < 100000) {shs fins : List Shape} {kills : List Nat} {Ts : List HTree} {F0 : List (List (Value × Bool))} (h : RoundsOk FN T c.f c.p c.nt c.nb shs fins kills Ts F0)
    {σ : Type} (R : RoundH FN c.nt shs fins Ts F0 σ) (i0 : Nat) (h0 : shs[i0]? = some ⟨c.ins, c.objs, c.nl⟩) (jq nq : Bool → Nat) (hq : ∀ q, fins[jq q]? = some ⟨(c.tmps q).zip (c.out q).vals, (c.out q).objs, nq q⟩ ∧ (c.tmps q).length = (c.out q).vals.length ∧ kills.all (fun t => memb c.kills t || memb (c.tmps q) t) = true)
    (hinit : ∀ V ls q, ls.length = c.nl → LeafS c.srts ls → RowsOf c.objs ls → Asked (envL FN V c.nt ls) c.wants c.dec q → ∃ s, R.Inv s ∧ R.sh s = i0 ∧ R.st s = ls ∧ (R.fin s).1 = c.ex q ∧ (R.fin s).2.1 = jq q ∧ denL (den (envL FN V c.nt ls) 40) (c.out q).exprs = some (R.fin s).2.2) : HLOk FN c := by
  obtain ⟨fn, b, k, h1, h2, h3⟩ := loop_at hloop
  refine ⟨fn, b, _, k, h1, h2, h3, fun t1 t2 t3 t4 base V ls ρ a w q hK hlen hleaf henv hdom hrel htmps hsize hdef hval hask n => ?_⟩
  have hat : At FN 20 c.nt (vars t1 t2 t3 t4) base ⟨c.ins, c.objs, c.nl⟩ V ls ρ a w := ⟨henv, hrel, hdom, hlen, htmps, hsize, hdef, hval⟩
  obtain ⟨s, i1, i2, i3, i4, i5, i6⟩ := hinit V ls q hlen hleaf (fun i l srts ho hl => hat.row (varsN t1 t2 t3 t4) hl ho) (by rw [← henv]; exact hask)
  obtain ⟨q1, q2, q3⟩ := hq q
  refine wpIn_mono (loop_h (C := cfgH FN noRows T) (fun _ => rfl) (fun _ => rfl) (fun F => goodH hT (fun r hr => by cases hr) t1 t2 t3 t4 F) (loc := some (c.f, 2 * c.p)) (fun F => ⟨fn, b, k + 1, h1, h2, codeAt_sub (i := 0) h3 (by decide) rfl⟩) hn (h t1 t2 t3 t4) R i1
    (sh := ⟨c.ins, c.objs, c.nl⟩) (by rw [i2]; exact h0) (V := V) (ρ := ρ) (base := base) (by rw [i3]; exact hat) hK n) fun e a' w' ⟨he, sh', V', ρ', b1, b2, b3, b4⟩ => ?_
  rw [i5, q1] at b1
  cases b1
  refine ⟨by rw [he, i4], b2.size, b2.defers, ⟨V', _, ρ', b2.env, b2.rel, ?_, by rw [henv]; exact i6, b3⟩, fun t ht hk ho => b4 t ht ?_⟩
  · have := b2.tmps
    have e1 : ((c.tmps q).zip (c.out q).vals).map (·.2) = (c.out q).vals := by rw [← List.unzip_snd, List.unzip_zip q2]
    have e2 : ((c.tmps q).zip (c.out q).vals).map (fun i => a'.tmps.getD i.1 undef) = (c.tmps q).map fun t => a'.tmps.getD t undef := by
      have : ((c.tmps q).zip (c.out q).vals).map (fun i => a'.tmps.getD i.1 undef) = (((c.tmps q).zip (c.out q).vals).map (·.1)).map fun t => a'.tmps.getD t undef := by rw [List.map_map]; rfl
      rw [this, ← List.unzip_fst, List.unzip_zip q2]
    rw [e1, e2] at this
    exact this
  · cases hkk : memb kills t with
    | false => rfl
    | true =>
      have := List.all_eq_true.1 q3 t (memb_iff.1 hkk)
      rw [hk, ho] at this
      cases this

/-! ### Functions -/

theorem fok_of {FN : Fns} {T : Tolds} (hT : TOk FN T) {c : FCtr} {fins : List Shape} {Tr : HTree} {F0 : List (Value × Bool)} (hnb : c.nb ≤ c.objs.length)
    (h : ∀ t1 t2 t3 t4, Tr.okF (fun F => arun (cfgH FN noRows T F) 1000 c.f c.args (canH 0 (heapOf 20 (vars t1 t2 t3 t4)) c.objs)) (fun F => ⟨20, F, FN, [], rows0⟩) c.nb fins F0 = true) (jq nq : Bool → Nat) (tq : Bool → Nat) (hq : ∀ q, ∃ v, (c.out q).vals = [v] ∧ fins[jq q]? = some ⟨[(tq q, v)], (c.out q).objs, nq q⟩)
    (hinit : ∀ V ls q, ls.length = c.nl → LeafS c.srts ls → RowsOf c.objs ls → Asked (envL FN V 0 ls) c.wants c.dec q → FactsOk (envL FN V 0 ls) F0 ∧ ∃ ex lo, Tr.val (envL FN V 0 ls) = some (ex, jq q, lo) ∧ denL (den (envL FN V 0 ls) 40) (c.out q).exprs = some lo) : FOk FN c := by
  intro t1 t2 t3 t4 base V ls ρ args' w q hK hlen hleaf henv hdom hrel hargs hask
  have hat : AtF FN 20 (vars t1 t2 t3 t4) base c.args c.objs c.nl V ls ρ args'.toList w := ⟨henv, hrel, hdom, hlen, hargs⟩
  obtain ⟨i1, ex, lo, i2, i3⟩ := hinit V ls q hlen hleaf (fun i l srts ho hl => hat.row (varsN t1 t2 t3 t4) hl ho) (by rw [← henv]; exact hask)
  obtain ⟨v, q1, q2⟩ := hq q
  refine (run_fn (C := cfgH FN noRows T) (fun _ => rfl) (fun _ => rfl) (fun F => goodH hT (fun r hr => by cases hr) t1 t2 t3 t4 F) hnb (h t1 t2 t3 t4) i1 hat hK i2).mono fun e w' ⟨v', he, sh', ρ', b1, b2, b3⟩ => ?_
  rw [q2] at b1
  cases b1
  exact ⟨v', he, V, lo, ρ', b2.env, b2.rel, by rw [q1]; exact b2.args, by rw [henv]; exact i3, b3⟩

end Go.Proofs.YtebkccfnilcfpaaGreatDoor
