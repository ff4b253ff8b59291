/- Loops by their rounds, told by patterns of memory; functions by a run. -/
import Derived.Test.YtebkccfnilcfpaaGreatDoorSyVIII
namespace Go.Sy
set_option linter.unusedVariables false
set_option linter.unusedSimpArgs false
open Go Go.RowKit

structure Shape where
  ins : List (Nat × Value)
  objs : List PObj
  nl : Nat

/-- Code stands before a pattern. -/
structure At (FN : Fns) (N nt : Nat) (gv : List Gv) (base : Nat) (sh : Shape) (V : Nat → Value) (ls : List Value) (ρ : Rho) (a : Act) (w : World) : Prop where
  env : ρ.env = envL FN V nt ls
  rel : Rel ⟨N, [], FN, [], rows0⟩ base ρ (canH nt (heapOf N gv) sh.objs) w
  dom : ∀ b, ρ.dom b → b < N + sh.objs.length
  len : ls.length = sh.nl
  tmps : VRs ρ (sh.ins.map (·.2)) (sh.ins.map fun i => a.tmps.getD i.1 undef)
  size : a.tmps.size = nt
  defers : a.defers = []
  val : ∀ t, t < nt → V t = a.tmps.getD t undef

theorem PEff.refl {N nb base : Nat} {ρ : Rho} {objs : List PObj} {w : World} : PEff N nb base ρ ρ objs objs w w := by
  refine ⟨Below.refl _ _, fun _ _ _ => rfl, fun j o' ho => ?_, fun i _ => ⟨rfl, rfl, rfl, rfl, rfl, rfl⟩⟩
  cases hw : o'.wr with
  | true => exact .inr (.inl ⟨j, o', ho, hw, rfl⟩)
  | false => exact .inr (.inr ⟨rfl, .inr ⟨j, o', ho, hw, rfl⟩⟩)

theorem PEff.trans {N nb base : Nat} {ρ0 ρ1 ρ2 : Rho} {o0 o1 o2 : List PObj} {w0 w1 w2 : World} (p : PEff N nb base ρ0 ρ1 o0 o1 w0 w1) (q : PEff N nb base ρ1 ρ2 o1 o2 w1 w2) : PEff N nb base ρ0 ρ2 o0 o2 w0 w2 := by
  refine ⟨p.below.trans q.below, fun k hk hno => ?_, fun j o' ho => ?_, fun i hi => ?_⟩
  · rw [q.chg k (Nat.lt_of_lt_of_le hk p.below.size) fun i o hi hw he => ?_, p.chg k hk hno]
    rcases p.new i o hi with h | ⟨i', o'', h1, h2, h3⟩ | ⟨h, _⟩
    · omega
    · exact hno i' o'' h1 h2 (by rw [← h3, he])
    · rw [hw] at h; cases h
  · rcases q.new j o' ho with h | ⟨i, o, h1, h2, h3⟩ | ⟨h0, h | ⟨i, o, h1, h2, h3⟩⟩
    · exact .inl (Nat.le_trans p.below.size h)
    · rw [h3]
      rcases p.new i o h1 with h | h | ⟨h, _⟩
      · exact .inl h
      · exact .inr (.inl h)
      · rw [h2] at h; cases h
    · exact .inr (.inr ⟨h0, .inl h⟩)
    · rw [h3]
      rcases p.new i o h1 with h | h | ⟨_, h⟩
      · exact .inl h
      · exact .inr (.inl h)
      · exact .inr (.inr ⟨h0, h⟩)
  · obtain ⟨a1, a2, a3, a4, a5, a6⟩ := p.box i hi
    obtain ⟨b1, b2, b3, b4, b5, b6⟩ := q.box i hi
    exact ⟨b1.trans a1, b2.trans a2, b3.trans a3, b4.trans a4, b5.trans a5, b6.trans a6⟩

def boxB (N nb : Nat) (ns : List Nat) : Bool := (List.range nb).all fun i => match ns[i]? with
  | some b => Nat.beq b (N + i)
  | none => false

theorem boxB_ok {N nb : Nat} {ns : List Nat} (h : boxB N nb ns = true) {i : Nat} (hi : i < nb) : ns[i]? = some (N + i) := by
  have := List.all_eq_true.1 h i (List.mem_range.2 hi)
  split at this
  · rename_i b hb; rw [hb, Nat.eq_of_beq_eq_true this]
  · cases this

/-- What was done, told from memory to memory by names, is what was done from pattern to pattern. -/
theorem PEff.of_post {S : Knw} {N nb nt base : Nat} {gv : List Gv} {objs objs' : List PObj} {ρ ρ2 : Rho} {H2 : Heap} {w w' : World} {E : Env} (hgv : ∀ x ∈ gv, x.1 < N) (hr : Rel S base ρ (canH nt (heapOf N gv) objs) w) (hS : S.n = N)
    (p : Post S base ρ (canH nt (heapOf N gv) objs) H2 w w' ρ2) {ns : List Nat} {x : List (Nat × Nat)} {y : List (Nat × Value)} (hm : matOs N H2 objs' ns = some (x, y)) (hnb : nb ≤ objs.length) (hbox : boxB N nb ns = true) :
    PEff N nb base ρ (canR ρ2 w' N objs'.length ns E) objs objs' w w' := by
  obtain ⟨p1, p2, p3⟩ := heapOf_plain N gv
  obtain ⟨q1, q2, q3⟩ := canH_plain (nt := nt) (l := objs) (H := heapOf N gv)
  obtain ⟨r1, r2⟩ := heapOf_lt N hgv
  obtain ⟨m1, m2⟩ := matOs_ok hm
  have hlook : ∀ {b o}, look (canH nt (heapOf N gv) objs) b = some o → (o.wr = false ∧ o.isRow = false) ∨ ∃ i p, objs[i]? = some p ∧ b = N + i ∧ o = p.can nt b := fun {b o} h => by
    rcases canH_look r1 r2 h with ⟨h1, _⟩ | ⟨i, p, h1, h2, h3⟩
    · obtain ⟨t, cs, _, rfl⟩ := heapOf_look N (look_some h1).2.1
      exact .inl ⟨rfl, rfl⟩
    · exact .inr ⟨i, p, h1, by rw [h2, p1], h3⟩
  have hget : ∀ {i : Nat} {p : PObj}, objs[i]? = some p → look (canH nt (heapOf N gv) objs) (N + i) = some (p.can nt (N + i)) := fun {i p} h => by
    have := canH_get (nt := nt) r1 h
    rw [p1] at this
    exact this
  refine ⟨p.below, fun q hq hno => p.chg q hq fun b o hb hw _ he => ?_, fun j o' ho => ?_, fun i hi => ?_⟩
  · rcases hlook hb with ⟨h1, _⟩ | ⟨i, o', h1, rfl, rfl⟩
    · rw [h1] at hw; cases hw
    · rw [PObj.can_wr] at hw
      exact hno i o' h1 hw he
  · obtain ⟨b, x', y', h1, h2, _⟩ := m2 j o' ho
    obtain ⟨ob, h3, h4, h5⟩ := matO_look h2
    rw [(canR_at (w := w') (k := objs'.length) (E := E) h1).1]
    by_cases hd : ρ.dom b
    · obtain ⟨o, g1, g2, g3⟩ := p.old b ob h3 hd
      rw [p.ext.blk b hd]
      rcases hlook g1 with ⟨k1, k2⟩ | ⟨i, o2, k1, rfl, rfl⟩
      · cases hw : o'.wr with
        | true => rw [g2 (h4 hw).1] at k1; cases k1
        | false => rw [h5, hw, k2] at g3; cases g3
      · rw [PObj.can_row] at g3
        rw [PObj.can_wr] at g2
        cases hw : o'.wr with
        | true => exact .inr (.inl ⟨i, o2, k1, g2 (h4 hw).1, rfl⟩)
        | false =>
          rw [h5, hw] at g3
          refine .inr (.inr ⟨rfl, .inr ⟨i, o2, k1, ?_, rfl⟩⟩)
          cases h : o2.wr with
          | true => rw [h] at g3; cases g3
          | false => rfl
    · rcases p.newb b ob h3 hd with g1 | ⟨b0, o0, g1, g2, g3, g4⟩ | ⟨g0, g1 | ⟨b0, o0, g1, g2, g4⟩⟩
      · exact .inl g1
      · rcases hlook g1 with ⟨k1, _⟩ | ⟨i, o2, k1, rfl, rfl⟩
        · rw [k1] at g2; cases g2
        · rw [PObj.can_wr] at g2
          exact .inr (.inl ⟨i, o2, k1, g2, g4⟩)
      · have hw : o'.wr = false := by
          rw [h5] at g0
          cases h : o'.wr with
          | true => rw [h] at g0; cases g0
          | false => rfl
        exact .inr (.inr ⟨hw, .inl g1⟩)
      · have hw : o'.wr = false := by
          rw [h5] at g0
          cases h : o'.wr with
          | true => rw [h] at g0; cases g0
          | false => rfl
        rcases hlook g1 with ⟨_, k1⟩ | ⟨i, o2, k1, rfl, rfl⟩
        · rw [k1] at g2; cases g2
        · rw [PObj.can_row] at g2
          refine .inr (.inr ⟨hw, .inr ⟨i, o2, k1, ?_, g4⟩⟩)
          cases h : o2.wr with
          | true => rw [h] at g2; cases g2
          | false => rfl
  · obtain ⟨a1, a2, a3, a4, a5, a6⟩ := canR_at (ρ := ρ2) (w := w') (N := N) (k := objs'.length) (E := E) (boxB_ok hbox hi)
    have hi' : i < objs.length := by omega
    have hd := hr.dom _ _ (hget (List.getElem?_eq_getElem hi'))
    exact ⟨a1.trans (p.ext.blk _ hd), a2.trans (p.ext.off _ hd), a3.trans (p.ext.tot _ hd), a4.trans (p.ext.esz _ hd), a5.trans (p.ext.rig _ hd), a6.trans (p.ext.hval _ hd)⟩

/-! ### Trees -/

inductive HTree where
  | leaf (ex : AEx) (j : Nat) (outs : List Value)
  | node (e : Value) (t f : HTree)
  | need (e : Value) (b : Bool) (t : HTree)

def HTree.val (E : Env) : HTree → Option (AEx × Nat × List Value)
  | .leaf ex j outs => match denL (den E 40) outs with
    | some l => some (ex, j, l)
    | none => none
  | .node e t f => pickC (den E 40 e) (t.val E) (f.val E)
  | .need e b t => wantC b (den E 40 e) (t.val E)

def pickSh (ex : AEx) (j : Nat) (shs fins : List Shape) : Option Shape := match ex with
  | .normal => shs[j]?
  | _ => fins[j]?

def sameL (f : Value → Value → Bool) : List Value → List Value → Bool
  | [], [] => true
  | a :: x, b :: y => f a b && sameL f x y
  | _, _ => false

def leafH (S : Knw) (nt nb : Nat) (shs fins : List Shape) (kills : List Nat) (ex : AEx) (j : Nat) (outs : List Value) (r : AEx × AFr × Heap) : Bool :=
  exEq r.1 ex && Nat.beq r.2.1.n nt && r.2.1.marks.isEmpty && match pickSh ex j shs fins with
    | some sh => (match takeP S S.n sh.nl (sh.ins.map (·.2)) sh.objs (sh.ins.map fun i => r.2.1.tr.get i.1) r.2.2 with
      | some (_, _, ns, θ) => boxB S.n nb ns && sameL (vSame 40) θ outs && (List.range nt).all (fun t => memb kills t || vEq 40 (r.2.1.tr.get t) (anyV t))
      | none => false)
    | none => false

def HTree.ok (run : List (Value × Bool) → Option (AEx × AFr × Heap)) (Sf : List (Value × Bool) → Knw) (nt nb : Nat) (shs fins : List Shape) (kills : List Nat) : HTree → List (Value × Bool) → Bool
  | .leaf ex j outs, F => match run F with
    | some r => leafH (Sf F) nt nb shs fins kills ex j outs r
    | none => false
  | .node e t f, F => t.ok run Sf nt nb shs fins kills ((e, true) :: F) && f.ok run Sf nt nb shs fins kills ((e, false) :: F)
  | .need e b t, F => t.ok run Sf nt nb shs fins kills ((e, b) :: F)

theorem HTree.ok_val {E : Env} {run : List (Value × Bool) → Option (AEx × AFr × Heap)} {Sf : List (Value × Bool) → Knw} {nt nb : Nat} {shs fins : List Shape} {kills : List Nat} : ∀ {T : HTree} {F : List (Value × Bool)} {q : AEx × Nat × List Value}, T.ok run Sf nt nb shs fins kills F = true → T.val E = some q → FactsOk E F →
    ∃ G outs r, FactsOk E G ∧ denL (den E 40) outs = some q.2.2 ∧ run G = some r ∧ leafH (Sf G) nt nb shs fins kills q.1 q.2.1 outs r = true := by
  intro T
  have hf : ∀ {e : Value} {b : Bool} {F : List (Value × Bool)}, den E 40 e = some (.bool b) → FactsOk E F → FactsOk E ((e, b) :: F) := fun he hF p hp => by
    rcases List.mem_cons.1 hp with rfl | hp
    · exact he
    · exact hF p hp
  induction T with
  | leaf ex j outs =>
    intro F q h hv hF
    simp only [HTree.ok] at h
    split at h
    · rename_i r hr
      simp only [HTree.val] at hv
      split at hv
      · rename_i l hd; cases hv; exact ⟨F, outs, r, hF, hd, hr, h⟩
      · cases hv
    · cases h
  | node e t f iht ihf =>
    intro F q h hv hF
    simp only [HTree.ok, Bool.and_eq_true] at h
    simp only [HTree.val, pickC] at hv
    split at hv
    · rename_i b he
      cases b with
      | true => simp only [if_true] at hv; exact iht h.1 hv (hf he hF)
      | false => simp only [Bool.false_eq_true, if_false] at hv; exact ihf h.2 hv (hf he hF)
    · cases hv
  | need e b t ih =>
    intro F q h hv hF
    simp only [HTree.ok] at h
    simp only [HTree.val, wantC] at hv
    split at hv
    · rename_i c he
      split at hv
      · rename_i hc; subst hc; exact ih h hv (hf he hF)
      · cases hv
    · cases hv

theorem sameL_den {E : Env} : ∀ {θ outs lo : List Value}, sameL (vSame 40) θ outs = true → denL (den E 40) outs = some lo → θ.length = lo.length ∧ ∀ (l : Nat) e, θ[l]? = some e → ∃ u, lo[l]? = some u ∧ den E 40 e = some u
  | [], [], lo, _, h => by cases h; exact ⟨rfl, fun l e h => by simp at h⟩
  | a :: x, b :: y, lo, hs, h => by
    simp only [sameL, Bool.and_eq_true] at hs
    simp only [denL] at h
    split at h
    · rename_i v l h1 h2
      cases h
      obtain ⟨e1, e2⟩ := sameL_den hs.2 h2
      refine ⟨by simp [e1], fun i e he => ?_⟩
      cases i with
      | zero => simp only [List.getElem?_cons_zero, Option.some.injEq] at he; subst he; exact ⟨v, rfl, by rw [vSame_den 40 hs.1]; exact h1⟩
      | succ i => simpa using e2 i e (by simpa using he)
    · cases h
  | [], _ :: _, _, h, _ => by cases h
  | _ :: _, [], _, h, _ => by cases h

theorem frCan_rel' {ρ : Rho} {nt : Nat} {ins : List (Nat × Value)} {a : Act} (hn : nt < 100000) (hi : ∀ p ∈ ins, p.1 < nt) (hs : a.tmps.size = nt) (hd : a.defers = []) (hE : ∀ t, t < nt → ρ.env.val t = a.tmps.getD t undef)
    (hv : ∀ p ∈ ins, VR ρ p.2 (a.tmps.getD p.1 undef)) : FrRel ρ (frCan nt ins) a := by
  have hget : ∀ t, (frCan nt ins).tr.get t = match ins.find? (fun p => p.1 == t) with | some p => p.2 | none => if t < nt then anyV t else undef := fun t => by
    show (insT ins (allT nt)).get t = _
    rw [insT_get (fun p hp => by have := hi p hp; omega), allT_get hn]
    generalize List.find? (fun p => p.1 == t) ins = o
    cases o <;> rfl
  refine ⟨hs, by show nt ≤ 1000000; omega, fun t v' hv' => ?_, fun t ht => ?_, hd, by intro r hr; cases hr⟩
  · have htn : t < nt := by rw [← hs]; exact (Array.getElem?_eq_some_iff.1 hv').1
    have hg : a.tmps.getD t undef = v' := by rw [Array.getD_eq_getD_getElem?, hv']; rfl
    rw [hget]
    split
    · rename_i p hp
      have h1 := List.mem_of_find?_eq_some hp
      have h2 := List.find?_some hp
      simp only [beq_iff_eq] at h2
      have := hv p h1
      rw [h2, hg] at this
      exact this
    · rw [if_pos htn]
      exact sv_vr (vr1 (.int _ _)) (by simp only [interp, Int.toNat_natCast]; rw [hE t htn, hg])
  · have ht' : nt ≤ t := ht
    rw [hget]
    split
    · rename_i p hp
      have h1 := List.mem_of_find?_eq_some hp
      have h2 := List.find?_some hp
      simp only [beq_iff_eq] at h2
      have := hi p h1
      omega
    · rw [if_neg (by omega)]

/-- What a piece of code does, its decisions told by a tree, from pattern to pattern. -/
theorem run_htree {P : Program} {FN : Fns} {N : Nat} {C : List (Value × Bool) → Cfg} (hP : ∀ F, (C F).P = P) (hS : ∀ F, (C F).NG = ⟨N, F, FN, [], rows0⟩) {gv : List Gv} {X : Nat → World → Prop} (hg : ∀ F, Good (C F) gv X)
    {m : Nat} {loc : Loc} {c : Code} (hloc : ∀ F, LocOk (C F) loc c) {nt nb : Nat} {sh : Shape} {shs fins : List Shape} {kills : List Nat} {T : HTree} {F0 : List (Value × Bool)} (hn : nt < 100000) (hi : ∀ p ∈ sh.ins, p.1 < nt) (hnb : nb ≤ sh.objs.length)
    (h : T.ok (fun F => ev (C F) m loc none c (frCan nt sh.ins) (canH nt (heapOf N gv) sh.objs)) (fun F => ⟨N, F, FN, [], rows0⟩) nt nb shs fins kills F0 = true) {V : Nat → Value} {ls : List Value} (hE : FactsOk (envL FN V nt ls) F0) {base : Nat} {ρ : Rho} {a : Act} {w : World} (hat : At FN N nt gv base sh V ls ρ a w)
    (hK : Kof gv X base w) {ex : AEx} {j : Nat} {lo : List Value} (hu : T.val (envL FN V nt ls) = some (ex, j, lo)) (k : Nat) :
    c.wpIn Fence.wide k P (fun e a' w' => e = ex.toExit ∧ ∃ sh' V' ρ', pickSh ex j shs fins = some sh' ∧ At FN N nt gv base sh' V' lo ρ' a' w' ∧ PEff N nb base ρ ρ' sh.objs sh'.objs w w' ∧ (∀ t, t < nt → memb kills t = false → a'.tmps.getD t undef = a.tmps.getD t undef)) a w := by
  obtain ⟨G, os, r, h1, h2, h3, h4⟩ := HTree.ok_val h hu hE
  have hgG := hg G
  have hNG : (C G).NG = ⟨N, G, FN, [], rows0⟩ := hS G
  have hvars : ∀ x ∈ gv, x.1 < N ∧ x.2.2.all (flat 40) = true := fun x hx => by have := hgG.vars x hx; rw [hNG] at this; exact this
  have hrel : Rel (C G).NG base ρ (canH nt (heapOf N gv) sh.objs) w := by
    obtain ⟨g1, g2, g3, g4, g5, g6, g7, g8, g9⟩ := hat.rel
    rw [hNG]
    exact ⟨⟨g1.dom, g1.blk, g1.off, by rw [hat.env]; exact h1, g1.fns, g1.rows, g1.rowv⟩, g2, g3, g4, g5, g6, g7, g8, g9⟩
  have hfr : FrRel ρ (frCan nt sh.ins) a := frCan_rel' hn hi hat.size hat.defers (fun t ht => by rw [hat.env]; simp only [envL]; rw [if_pos (by omega)]; exact hat.val t ht) fun p hp => by
    obtain ⟨i, hi'⟩ := List.getElem?_of_mem hp
    exact hat.tmps.2 i p.2 _ (by rw [List.getElem?_map, hi']; rfl) (by rw [List.getElem?_map, hi']; rfl)
  obtain ⟨q1, q2, q3⟩ := canH_plain (nt := nt) (l := sh.objs) (H := heapOf N gv)
  obtain ⟨e1, e2, e3⟩ := heapOf_plain N gv
  simp only [leafH, Bool.and_eq_true] at h4
  obtain ⟨⟨⟨a1, a2⟩, a3⟩, a4⟩ := h4
  split at a4
  · rename_i sh' hsh'
    split at a4
    · rename_i acts H2 ns θ htk
      simp only [Bool.and_eq_true] at a4
      obtain ⟨⟨b1, b2⟩, b3⟩ := a4
      obtain ⟨f, kp, htake⟩ := takeP_ok htk
      have hroom : Room (canH nt (heapOf N gv) sh.objs) (H2.next + r.2.2.next + 1) ρ := ⟨fun b hb1 _ hb2 => by
          have := hat.dom b hb2
          rw [q1, e1] at hb1
          omega, by rw [q1, q2, e1, e2]; omega⟩
      have hsnd := ev_ok (hgG.ok base) m loc none c (frCan nt sh.ins) (canH nt (heapOf N gv) sh.objs) r (hloc G) h3
      have := hsnd ρ a w (H2.next + r.2.2.next + 1) k hrel hK hfr hroom (by omega) (by intro l hl; cases hl)
      rw [hP] at this
      refine wpIn_mono this fun e a' w' ⟨he, ρ1, hf', hp⟩ => ?_
      have hm : r.2.1.marks = [] := by
        cases hmm : r.2.1.marks with
        | nil => rfl
        | cons => rw [hmm] at a3; cases a3
      have hvs : VRs ρ1 (sh'.ins.map fun i => r.2.1.tr.get i.1) (sh'.ins.map fun i => a'.tmps.getD i.1 undef) := by
        refine ⟨by simp, fun i x y hx hy => ?_⟩
        rw [List.getElem?_map] at hx hy
        cases hi : sh'.ins[i]? with
        | none => rw [hi] at hx; cases hx
        | some z => rw [hi] at hx hy; cases hx; cases hy; exact hf'.get z.1
      have hrel1 : Rel ⟨N, G, FN, [], rows0⟩ base ρ1 r.2.2 w' := by have := hp.rel; rw [hNG] at this; exact this
      obtain ⟨ρ2, p2, v2⟩ := htake hrel1 (fun r hr => by cases hr) (hp.free hroom.free) (by omega) hvs
      have hEnv : ρ2.env = envL FN V nt ls := by rw [p2.ext.env, hp.ext.env, hat.env]
      obtain ⟨s1, s2⟩ := sameL_den (E := envL FN V nt ls) b2 h2
      have hyy : ∀ (l : Nat) e v, θ[l]? = some e → VR ρ2 e v → lo[l]? = some v := fun l e v he hv => by
        obtain ⟨u, hu1, hu2⟩ := s2 l e he
        have := den_vr 40 (by rw [hEnv]; exact hu2) hv
        rw [hu1, this]
      have hK' := (hgG.ok base).keep w w' hK hp.below
      obtain ⟨c1, c2⟩ := f.canL p2.rel v2 FN (fun t => a'.tmps.getD t undef) nt hvars (fun x hx => hK'.1 x hx) lo hyy
      have hsize : a'.tmps.size = nt := by rw [hf'.size]; exact Nat.eq_of_beq_eq_true a2
      obtain ⟨⟨x1, y1, x, y, m1, m2, _⟩, _, m3, _⟩ := f
      have hpp : Post ⟨N, G, FN, [], rows0⟩ base ρ (canH nt (heapOf N gv) sh.objs) H2 w w' ρ2 := by
        have : Post ⟨N, G, FN, [], rows0⟩ base ρ (canH nt (heapOf N gv) sh.objs) r.2.2 w w' ρ1 := by rw [← hNG]; exact hp
        exact this.trans p2
      refine ⟨by rw [he, exEq_eq a1], sh', fun t => a'.tmps.getD t undef, _, hsh', ⟨rfl, c1 [] (fun p hp => by cases hp), fun b hb => hb, by rw [← s1]; exact m3, c2, hsize, by rw [hf'.defers, hm]; rfl, fun _ _ => rfl⟩,
        PEff.of_post (fun x hx => (hvars x hx).1) (by rw [← hNG]; exact hrel) rfl hpp m2 hnb b1, fun t ht hk => ?_⟩
      have hall := List.all_eq_true.1 b3 t (List.mem_range.2 ht)
      rw [hk] at hall
      simp only [Bool.false_or] at hall
      have hvr := hf'.get t
      have : den (envL FN V nt ls) 40 (r.2.1.tr.get t) = some (a.tmps.getD t undef) := by
        rw [vEq_den 40 hall]
        show (match denL (den (envL FN V nt ls) 39) [.int .i64 t] with | some vs => interp (envL FN V nt ls) 98 vs | none => none) = _
        simp only [denL, den, interp, Int.toNat_natCast, envL]
        rw [if_pos (by omega), hat.val t ht]
      exact den_vr 40 (by rw [hp.ext.env, hat.env]; exact this) hvr
    · cases a4
  · cases a4

/-- Rounds from pattern to pattern, or out. -/
structure RoundH (FN : Fns) (nt : Nat) (shs fins : List Shape) (T : List HTree) (F0 : List (List (Value × Bool))) (σ : Type) where
  sh : σ → Nat
  st : σ → List Value
  Inv : σ → Prop
  μ : σ → Nat
  fin : σ → AEx × Nat × List Value
  step : ∀ V s, Inv s → ∃ t f ex j lo, T[sh s]? = some t ∧ F0[sh s]? = some f ∧ FactsOk (envL FN V nt (st s)) f ∧ t.val (envL FN V nt (st s)) = some (ex, j, lo) ∧
    ((ex = .normal ∧ ∃ s', Inv s' ∧ μ s' < μ s ∧ fin s' = fin s ∧ sh s' = j ∧ st s' = lo) ∨ (ex ≠ .normal ∧ fin s = (ex, j, lo)))

/-- All rounds' trees. -/
def allH (run : Shape → List (Value × Bool) → Option (AEx × AFr × Heap)) (Sf : List (Value × Bool) → Knw) (nt nb : Nat) (shs fins : List Shape) (kills : List Nat) : List Shape → List HTree → List (List (Value × Bool)) → Bool
  | [], [], [] => true
  | s :: r, t :: ts, f :: fs => t.ok (run s) Sf nt nb shs fins kills f && s.ins.all (fun p => Nat.blt p.1 nt) && Nat.ble nb s.objs.length && allH run Sf nt nb shs fins kills r ts fs
  | _, _, _ => false

theorem allH_get {run : Shape → List (Value × Bool) → Option (AEx × AFr × Heap)} {Sf : List (Value × Bool) → Knw} {nt nb : Nat} {shs fins : List Shape} {kills : List Nat} : ∀ {l : List Shape} {T : List HTree} {F : List (List (Value × Bool))}, allH run Sf nt nb shs fins kills l T F = true →
    ∀ {i : Nat} {s t f}, l[i]? = some s → T[i]? = some t → F[i]? = some f → t.ok (run s) Sf nt nb shs fins kills f = true ∧ (∀ p ∈ s.ins, p.1 < nt) ∧ nb ≤ s.objs.length
  | [], _, _, _, i, s, t, f, h, _, _ => by simp at h
  | s :: r, t :: ts, f :: fs, h, i, s', t', f', h1, h2, h3 => by
    simp only [allH, Bool.and_eq_true] at h
    obtain ⟨⟨⟨a1, a2⟩, a3⟩, a4⟩ := h
    cases i with
    | zero =>
      simp only [List.getElem?_cons_zero, Option.some.injEq] at h1 h2 h3
      subst h1; subst h2; subst h3
      exact ⟨a1, fun p hp => blt_t (List.all_eq_true.1 a2 p hp), Nat.le_of_ble_eq_true a3⟩
    | succ i => exact allH_get a4 (by simpa using h1) (by simpa using h2) (by simpa using h3)
  | s :: r, [], _, h, _, _, _, _, _, h2, _ => by simp at h2
  | s :: r, _ :: _, [], h, _, _, _, _, _, _, h3 => by simp at h3

theorem loop_h {P : Program} {FN : Fns} {N : Nat} {C : List (Value × Bool) → Cfg} (hP : ∀ F, (C F).P = P) (hS : ∀ F, (C F).NG = ⟨N, F, FN, [], rows0⟩) {gv : List Gv} {X : Nat → World → Prop} (hg : ∀ F, Good (C F) gv X)
    {m : Nat} {loc : Loc} {c0 : Code} (hloc : ∀ F, LocOk (C F) loc c0) {nt nb : Nat} {shs fins : List Shape} {kills : List Nat} {T : List HTree} {F0 : List (List (Value × Bool))} (hn : nt < 100000)
    (h : allH (fun sh F => ev (C F) m loc none c0 (frCan nt sh.ins) (canH nt (heapOf N gv) sh.objs)) (fun F => ⟨N, F, FN, [], rows0⟩) nt nb shs fins kills shs T F0 = true) {σ : Type} (R : RoundH FN nt shs fins T F0 σ) {s : σ} (hI : R.Inv s) {sh : Shape} (hsh : shs[R.sh s]? = some sh)
    {base : Nat} {V : Nat → Value} {ρ : Rho} {a : Act} {w : World} (hat : At FN N nt gv base sh V (R.st s) ρ a w) (hK : Kof gv X base w) (k : Nat) :
    (Code.loop c0).wpIn Fence.wide k P (fun e a' w' => e = (R.fin s).1.toExit ∧ ∃ sh' V' ρ', fins[(R.fin s).2.1]? = some sh' ∧ At FN N nt gv base sh' V' (R.fin s).2.2 ρ' a' w' ∧ PEff N nb base ρ ρ' sh.objs sh'.objs w w' ∧ (∀ t, t < nt → memb kills t = false → a'.tmps.getD t undef = a.tmps.getD t undef)) a w := by
  refine wpIn_loop_rounds (R.μ s + 1) ?_
  have key : ∀ (m' : Nat) (s' : σ) (sh1 : Shape) (V1 : Nat → Value) (ρ1 : Rho) (a1 : Act) (w1 : World), R.μ s' < m' → R.Inv s' → R.fin s' = R.fin s → shs[R.sh s']? = some sh1 → At FN N nt gv base sh1 V1 (R.st s') ρ1 a1 w1 → Kof gv X base w1 → PEff N nb base ρ ρ1 sh.objs sh1.objs w w1 →
      (∀ t, t < nt → memb kills t = false → a1.tmps.getD t undef = a.tmps.getD t undef) →
      Code.roundsIn Fence.wide k P c0 (fun e a' w' => e = (R.fin s).1.toExit ∧ ∃ sh' V' ρ', fins[(R.fin s).2.1]? = some sh' ∧ At FN N nt gv base sh' V' (R.fin s).2.2 ρ' a' w' ∧ PEff N nb base ρ ρ' sh.objs sh'.objs w w' ∧ (∀ t, t < nt → memb kills t = false → a'.tmps.getD t undef = a.tmps.getD t undef)) m' a1 w1 := by
    intro m'
    induction m' with
    | zero => intro s' _ _ _ _ _ h0; omega
    | succ m' ih =>
      intro s' sh1 V1 ρ1 a1 w1 hμ hI' hfin hsh1 hat1 hK1 heff hun
      rw [roundsIn_succ]
      obtain ⟨t, f, ex, j, lo, e1, e2, e3, e4, e5⟩ := R.step V1 s' hI'
      obtain ⟨g1, g2, g3⟩ := allH_get h hsh1 e1 e2
      refine wpIn_mono (run_htree hP hS hg hloc hn g2 g3 g1 e3 hat1 hK1 e4 k) fun e a2 w2 ⟨he, sh2, V2, ρ2, b1, b2, b3, b4⟩ => ?_
      have heff2 := heff.trans b3
      have hun2 : ∀ t, t < nt → memb kills t = false → a2.tmps.getD t undef = a.tmps.getD t undef := fun t ht hk => (b4 t ht hk).trans (hun t ht hk)
      have hK2 := ((hg []).ok base).keep w1 w2 hK1 b3.below
      rcases e5 with ⟨rfl, s2, i1, i2, i3, i4, i5⟩ | ⟨hne, hf⟩
      · subst he
        exact ih s2 sh2 V2 ρ2 a2 w2 (by omega) i1 (i3.trans hfin) (by rw [i4]; exact b1) (by rw [i5]; exact b2) hK2 heff2 hun2
      · have hfe : R.fin s = (ex, j, lo) := by rw [← hfin, hf]
        rw [hfe]
        cases ex with
        | normal => exact absurd rfl hne
        | ret => subst he; exact ⟨rfl, sh2, V2, ρ2, b1, b2, heff2, hun2⟩
        | exit id => subst he; exact ⟨rfl, sh2, V2, ρ2, b1, b2, heff2, hun2⟩
  exact key _ s sh V ρ a w (Nat.lt_succ_self _) hI rfl hsh hat hK PEff.refl (fun _ _ _ => rfl)

/-- What a slice of a pattern holds. -/
def HasR (srts : List Srt) (v : Value) : Prop := ∃ cells n, v = .agg cells ∧ cells.size = n * srts.length ∧ ∀ (j : Nat) u s, cells[j]? = some u → srts[j % srts.length]? = some s → HasS s u

theorem At.row {FN : Fns} {N nt : Nat} {gv : List Gv} {base : Nat} {sh : Shape} {V : Nat → Value} {ls : List Value} {ρ : Rho} {a : Act} {w : World} (h : At FN N nt gv base sh V ls ρ a w) (hgv : ∀ x ∈ gv, x.1 < N) {i l : Nat} {srts : List Srt} (hl : l < ls.length)
    (ho : sh.objs[i]? = some (.row srts l) ∨ ∃ el, sh.objs[i]? = some (.own srts el l)) : ∃ v, ls[l]? = some v ∧ HasR srts v := by
  obtain ⟨r1, _⟩ := heapOf_lt N hgv
  obtain ⟨p1, _, _⟩ := heapOf_plain N gv
  have spec : ∀ {cells : Array Value}, VR ρ (specL nt l) (.agg cells) → ls[l]? = some (.agg cells) := fun {cells} hv => by
    obtain ⟨vs, g1, g2⟩ := hv.sym_invL
    obtain ⟨y, r, rfl, hy, hr⟩ := g1.cons_inv
    rw [hr.nil_inv] at g2
    cases hy
    simp only [interp, h.env, envL, Int.toNat_natCast, Option.some.injEq] at g2
    rw [if_neg (by omega), show 1000000 + l - 1000000 = l by omega, List.getD_eq_getElem?_getD, List.getElem?_eq_getElem hl] at g2
    simp only [Option.getD_some] at g2
    rw [List.getElem?_eq_getElem hl, g2]
  have hget : ∀ {p : PObj}, sh.objs[i]? = some p → look (canH nt (heapOf N gv) sh.objs) (N + i) = some (p.can nt (N + i)) := fun {p} hp => by
    have := canH_get (nt := nt) r1 hp
    rw [p1] at this
    exact this
  rcases ho with ho | ⟨el, ho⟩
  · obtain ⟨_, a, n, c, cells, _, h2, h3, h4, _⟩ := h.rel.obj _ _ (hget ho)
    exact ⟨_, spec h2, cells, n, rfl, h3, h4⟩
  · obtain ⟨o, n, c, cells, ccs, fr, _, h2, h3, h4, _⟩ := h.rel.obj _ _ (hget ho)
    exact ⟨_, spec h2, cells, n, rfl, h3, h4⟩


/-! ### A function, by a run from a pattern -/

def leafF (S : Knw) (nb : Nat) (fins : List Shape) (j : Nat) (outs : List Value) (r : Value × Heap) : Bool :=
  match fins[j]? with
  | some sh => (match takeP S S.n sh.nl (sh.ins.map (·.2)) sh.objs [r.1] r.2 with
    | some (_, _, ns, θ) => boxB S.n nb ns && sameL (vSame 40) θ outs
    | none => false)
  | none => false

def HTree.okF (run : List (Value × Bool) → Option (Value × Heap)) (Sf : List (Value × Bool) → Knw) (nb : Nat) (fins : List Shape) : HTree → List (Value × Bool) → Bool
  | .leaf _ j outs, F => match run F with
    | some r => leafF (Sf F) nb fins j outs r
    | none => false
  | .node e t f, F => t.okF run Sf nb fins ((e, true) :: F) && f.okF run Sf nb fins ((e, false) :: F)
  | .need e b t, F => t.okF run Sf nb fins ((e, b) :: F)

theorem HTree.okF_val {E : Env} {run : List (Value × Bool) → Option (Value × Heap)} {Sf : List (Value × Bool) → Knw} {nb : Nat} {fins : List Shape} : ∀ {T : HTree} {F : List (Value × Bool)} {q : AEx × Nat × List Value}, T.okF run Sf nb fins F = true → T.val E = some q → FactsOk E F →
    ∃ G outs r, FactsOk E G ∧ denL (den E 40) outs = some q.2.2 ∧ run G = some r ∧ leafF (Sf G) nb fins q.2.1 outs r = true := by
  intro T
  have hf : ∀ {e : Value} {b : Bool} {F : List (Value × Bool)}, den E 40 e = some (.bool b) → FactsOk E F → FactsOk E ((e, b) :: F) := fun he hF p hp => by
    rcases List.mem_cons.1 hp with rfl | hp
    · exact he
    · exact hF p hp
  induction T with
  | leaf ex j outs =>
    intro F q h hv hF
    simp only [HTree.okF] at h
    split at h
    · rename_i r hr
      simp only [HTree.val] at hv
      split at hv
      · rename_i l hd; cases hv; exact ⟨F, outs, r, hF, hd, hr, h⟩
      · cases hv
    · cases h
  | node e t f iht ihf =>
    intro F q h hv hF
    simp only [HTree.okF, Bool.and_eq_true] at h
    simp only [HTree.val, pickC] at hv
    split at hv
    · rename_i b he
      cases b with
      | true => simp only [if_true] at hv; exact iht h.1 hv (hf he hF)
      | false => simp only [Bool.false_eq_true, if_false] at hv; exact ihf h.2 hv (hf he hF)
    · cases hv
  | need e b t ih =>
    intro F q h hv hF
    simp only [HTree.okF] at h
    simp only [HTree.val, wantC] at hv
    split at hv
    · rename_i c he
      split at hv
      · rename_i hc; subst hc; exact ih h hv (hf he hF)
      · cases hv
    · cases hv

/-- A call stands before a pattern. -/
structure AtF (FN : Fns) (N : Nat) (gv : List Gv) (base : Nat) (pats : List Value) (objs : List PObj) (nl : Nat) (V : Nat → Value) (ls : List Value) (ρ : Rho) (vs : List Value) (w : World) : Prop where
  env : ρ.env = envL FN V 0 ls
  rel : Rel ⟨N, [], FN, [], rows0⟩ base ρ (canH 0 (heapOf N gv) objs) w
  dom : ∀ b, ρ.dom b → b < N + objs.length
  len : ls.length = nl
  args : VRs ρ pats vs

theorem run_fn {P : Program} {FN : Fns} {N : Nat} {C : List (Value × Bool) → Cfg} (hP : ∀ F, (C F).P = P) (hS : ∀ F, (C F).NG = ⟨N, F, FN, [], rows0⟩) {gv : List Gv} {X : Nat → World → Prop} (hg : ∀ F, Good (C F) gv X)
    {m : Nat} {f : FuncId} {pats : List Value} {objs : List PObj} {nl nb : Nat} {fins : List Shape} {T : HTree} {F0 : List (Value × Bool)} (hnb : nb ≤ objs.length)
    (h : T.okF (fun F => arun (C F) m f pats (canH 0 (heapOf N gv) objs)) (fun F => ⟨N, F, FN, [], rows0⟩) nb fins F0 = true) {V : Nat → Value} {ls : List Value} (hE : FactsOk (envL FN V 0 ls) F0) {base : Nat} {ρ : Rho} {args' : Array Value} {w : World} (hat : AtF FN N gv base pats objs nl V ls ρ args'.toList w)
    (hK : Kof gv X base w) {ex : AEx} {j : Nat} {lo : List Value} (hu : T.val (envL FN V 0 ls) = some (ex, j, lo)) :
    Calls P f args' w fun e w' => ∃ v', e = .returned v' ∧ ∃ sh' ρ', fins[j]? = some sh' ∧ AtF FN N gv base (sh'.ins.map (·.2)) sh'.objs sh'.nl V lo ρ' [v'] w' ∧ PEff N nb base ρ ρ' objs sh'.objs w w' := by
  obtain ⟨G, os, r, h1, h2, h3, h4⟩ := HTree.okF_val h hu hE
  have hgG := hg G
  have hNG : (C G).NG = ⟨N, G, FN, [], rows0⟩ := hS G
  have hvars : ∀ x ∈ gv, x.1 < N ∧ x.2.2.all (flat 40) = true := fun x hx => by have := hgG.vars x hx; rw [hNG] at this; exact this
  have hrel : Rel (C G).NG base ρ (canH 0 (heapOf N gv) objs) w := by
    obtain ⟨g1, g2, g3, g4, g5, g6, g7, g8, g9⟩ := hat.rel
    rw [hNG]
    exact ⟨⟨g1.dom, g1.blk, g1.off, by rw [hat.env]; exact h1, g1.fns, g1.rows, g1.rowv⟩, g2, g3, g4, g5, g6, g7, g8, g9⟩
  obtain ⟨q1, q2, q3⟩ := canH_plain (nt := 0) (l := objs) (H := heapOf N gv)
  obtain ⟨e1, e2, e3⟩ := heapOf_plain N gv
  unfold leafF at h4
  split at h4
  · rename_i sh' hsh'
    split at h4
    · rename_i acts H2 ns θ htk
      simp only [Bool.and_eq_true] at h4
      obtain ⟨b1, b2⟩ := h4
      obtain ⟨fd, kp, htake⟩ := takeP_ok htk
      unfold arun at h3
      split at h3
      · rename_i fn hfn
        split at h3
        · rename_i c hb
          have hroom : Room (canH 0 (heapOf N gv) objs) (H2.next + r.2.next + 1) ρ := ⟨fun b hb1 _ hb2 => by
              have := hat.dom b hb2
              rw [q1, e1] at hb1
              omega, by rw [q1, q2, e1, e2]; omega⟩
          have := abody_ok (ev_ok (hgG.ok base) m) hfn hb h3 ρ w (H2.next + r.2.next + 1) 0 args' hrel hK hat.args hroom (by omega)
          rw [hP] at this
          refine (callsIn_wide.1 this).mono fun e w' ⟨v', he, ρ1, hv', hp⟩ => ?_
          have hrel1 : Rel ⟨N, G, FN, [], rows0⟩ base ρ1 r.2 w' := by have := hp.rel; rw [hNG] at this; exact this
          obtain ⟨ρ2, p2, v2⟩ := htake hrel1 (fun r hr => by cases hr) (hp.free hroom.free) (by omega) (vr1 hv')
          have hEnv : ρ2.env = envL FN V 0 ls := by rw [p2.ext.env, hp.ext.env, hat.env]
          obtain ⟨s1, s2⟩ := sameL_den (E := envL FN V 0 ls) b2 h2
          have hyy : ∀ (l : Nat) e v, θ[l]? = some e → VR ρ2 e v → lo[l]? = some v := fun l e v he hv => by
            obtain ⟨u, hu1, hu2⟩ := s2 l e he
            have := den_vr 40 (by rw [hEnv]; exact hu2) hv
            rw [hu1, this]
          have hK' := (hgG.ok base).keep w w' hK hp.below
          obtain ⟨c1, c2⟩ := fd.canL p2.rel v2 FN V 0 hvars (fun x hx => hK'.1 x hx) lo hyy
          obtain ⟨⟨x1, y1, x, y, m1, m2, _⟩, _, m3, _⟩ := fd
          have hpp : Post ⟨N, G, FN, [], rows0⟩ base ρ (canH 0 (heapOf N gv) objs) H2 w w' ρ2 := by
            have : Post ⟨N, G, FN, [], rows0⟩ base ρ (canH 0 (heapOf N gv) objs) r.2 w w' ρ1 := by rw [← hNG]; exact hp
            exact this.trans p2
          exact ⟨v', he, sh', _, hsh', ⟨rfl, c1 [] (fun p hp => by cases hp), fun b hb => hb, by rw [← s1]; exact m3, c2⟩, PEff.of_post (fun x hx => (hvars x hx).1) (by rw [← hNG]; exact hrel) rfl hpp m2 hnb b1⟩
        · cases h3
      · cases h3
    · cases h4
  · cases h4

/-- What a slice of a call's pattern holds. -/
theorem AtF.row {FN : Fns} {N : Nat} {gv : List Gv} {base : Nat} {pats : List Value} {objs : List PObj} {nl : Nat} {V : Nat → Value} {ls : List Value} {ρ : Rho} {vs : List Value} {w : World} (h : AtF FN N gv base pats objs nl V ls ρ vs w) (hgv : ∀ x ∈ gv, x.1 < N) {i l : Nat} {srts : List Srt} (hl : l < ls.length)
    (ho : objs[i]? = some (.row srts l) ∨ ∃ el, objs[i]? = some (.own srts el l)) : ∃ v, ls[l]? = some v ∧ HasR srts v := by
  obtain ⟨r1, _⟩ := heapOf_lt N hgv
  obtain ⟨p1, _, _⟩ := heapOf_plain N gv
  have spec : ∀ {cells : Array Value}, VR ρ (specL 0 l) (.agg cells) → ls[l]? = some (.agg cells) := fun {cells} hv => by
    obtain ⟨vs, g1, g2⟩ := hv.sym_invL
    obtain ⟨y, r, rfl, hy, hr⟩ := g1.cons_inv
    rw [hr.nil_inv] at g2
    cases hy
    simp only [interp, h.env, envL, Int.toNat_natCast, Option.some.injEq] at g2
    rw [if_neg (by omega), show 1000000 + l - 1000000 = l by omega, List.getD_eq_getElem?_getD, List.getElem?_eq_getElem hl] at g2
    simp only [Option.getD_some] at g2
    rw [List.getElem?_eq_getElem hl, g2]
  have hget : ∀ {p : PObj}, objs[i]? = some p → look (canH 0 (heapOf N gv) objs) (N + i) = some (p.can 0 (N + i)) := fun {p} hp => by
    have := canH_get (nt := 0) r1 hp
    rw [p1] at this
    exact this
  rcases ho with ho | ⟨el, ho⟩
  · obtain ⟨_, a, n, c, cells, _, h2, h3, h4, _⟩ := h.rel.obj _ _ (hget ho)
    exact ⟨_, spec h2, cells, n, rfl, h3, h4⟩
  · obtain ⟨o, n, c, cells, ccs, fr, _, h2, h3, h4, _⟩ := h.rel.obj _ _ (hget ho)
    exact ⟨_, spec h2, cells, n, rfl, h3, h4⟩

end Go.Sy
