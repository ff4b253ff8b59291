/- The evaluator's memory: named blocks, and what it means that a world bears them. -/
import Derived.Test.YthcfhmdoelpbdaaGreatDoorEvA
namespace Go.Ev
set_option linter.unusedVariables false
set_option linter.unusedSimpArgs false
open Go Go.RowKit

inductive AObj where
  | cells (cs : List Value) (elem : TypeId) (rig : Bool) (esz root : Nat) (wr : Bool)
  | map (es : List MapEntry) (clock : Nat) (wr : Bool)
  | sit (s : ByteArray) (pos : Nat)
  | loop (st : LoopState) (pend : Option Code) (tr : Tr) (n : Nat) (params : Array Tmp) (assign body : Code) (dfr : Nat)
  | deferred
  | dead

def AObj.wr : AObj → Bool
  | .cells _ _ _ _ _ w => w
  | .map _ _ w => w
  | _ => true

def sameRoot : AObj → AObj → Bool
  | .cells _ _ _ _ r _, .cells _ _ _ _ r' _ => Nat.beq r r'
  | _, _ => false

theorem sameRoot_symm (x y : AObj) : sameRoot x y = sameRoot y x := by
  cases x <;> cases y <;> simp only [sameRoot]
  rename_i r _ _ _ _ _ _ r' _
  rw [Bool.eq_iff_iff]
  constructor
  all_goals intro h; rw [Nat.eq_of_beq_eq_true h]; exact Nat.beq_refl _

def rootOf : AObj → Option Nat
  | .cells _ _ _ _ r _ => some r
  | _ => none

/-- A table by numbers. -/
inductive HT (α : Type) where
  | nil
  | node (v : Option α) (l r : HT α)

def HT.get {α : Type} : HT α → Nat → Option α
  | .nil, _ => none
  | .node v l r, k => match k with
    | 0 => v
    | k + 1 => cond (Nat.beq (k % 2) 0) (l.get (k / 2)) (r.get (k / 2))

def HT.setF {α : Type} : Nat → HT α → Nat → α → HT α
  | 0, t, _, _ => t
  | f + 1, .nil, k, v => match k with
    | 0 => .node (some v) .nil .nil
    | k + 1 => cond (Nat.beq (k % 2) 0) (.node none (HT.setF f .nil (k / 2) v) .nil) (.node none .nil (HT.setF f .nil (k / 2) v))
  | f + 1, .node u l r, k, v => match k with
    | 0 => .node (some v) l r
    | k + 1 => cond (Nat.beq (k % 2) 0) (.node u (HT.setF f l (k / 2) v) r) (.node u l (HT.setF f r (k / 2) v))

def HT.set {α : Type} (t : HT α) (k : Nat) (v : α) : HT α := HT.setF (k + 1) t k v

theorem HT.get_setF {α : Type} : ∀ (f : Nat) (t : HT α) (k j : Nat) (v : α), k < f → (HT.setF f t k v).get j = if j = k then some v else t.get j := by
  intro f
  induction f with
  | zero => intro t k j v h; omega
  | succ f ih =>
    intro t k j v h
    have hk : ∀ k', k = k' + 1 → k' / 2 < f := fun k' e => by omega
    cases t with
    | nil =>
      cases k with
      | zero => cases j <;> simp [HT.setF, HT.get]
      | succ k =>
        cases hp : Nat.beq (k % 2) 0 <;> cases j with
        | zero => simp [HT.setF, HT.get, hp]
        | succ j =>
          simp only [HT.setF, hp, cond_true, cond_false, HT.get]
          cases hq : Nat.beq (j % 2) 0 <;> simp only [cond_true, cond_false, HT.get, ih _ _ _ _ (hk k rfl)]
          all_goals
            have hp' := hp
            have hq' := hq
            first | replace hp' := Nat.eq_of_beq_eq_true hp' | replace hp' := Nat.ne_of_beq_eq_false hp'
            first | replace hq' := Nat.eq_of_beq_eq_true hq' | replace hq' := Nat.ne_of_beq_eq_false hq'
          all_goals first
            | (by_cases e : j / 2 = k / 2
               · rw [if_pos e, if_pos (by omega)]
               · rw [if_neg e, if_neg (by omega)])
            | rw [if_neg (by omega)]
    | node u l r =>
      cases k with
      | zero => cases j <;> simp [HT.setF, HT.get]
      | succ k =>
        cases hp : Nat.beq (k % 2) 0 <;> cases j with
        | zero => simp [HT.setF, HT.get, hp]
        | succ j =>
          simp only [HT.setF, hp, cond_true, cond_false, HT.get]
          cases hq : Nat.beq (j % 2) 0 <;> simp only [cond_true, cond_false, ih _ _ _ _ (hk k rfl)]
          all_goals
            have hp' := hp
            have hq' := hq
            first | replace hp' := Nat.eq_of_beq_eq_true hp' | replace hp' := Nat.ne_of_beq_eq_false hp'
            first | replace hq' := Nat.eq_of_beq_eq_true hq' | replace hq' := Nat.ne_of_beq_eq_false hq'
          all_goals first
            | (by_cases e : j / 2 = k / 2
               · rw [if_pos e, if_pos (by omega)]
               · rw [if_neg e, if_neg (by omega)])
            | rw [if_neg (by omega)]

theorem HT.get_set {α : Type} (t : HT α) (k j : Nat) (v : α) : (t.set k v).get j = if j = k then some v else t.get j := HT.get_setF (k + 1) t k j v (Nat.lt_succ_self k)

/-- Names from a first one to a last one that are not to be seen. -/
def hidden : List (Nat × Nat) → Nat → Bool
  | [], _ => false
  | (lo, hi) :: r, b => cond (Nat.ble lo b && Nat.blt b hi) true (hidden r b)

def memb : List Nat → Nat → Bool
  | [], _ => false
  | x :: r, b => cond (Nat.beq x b) true (memb r b)

structure Heap where
  next : Nat
  wmin : Nat
  tab : HT AObj
  /-- who of those that may lie in one memory is still to be looked at -/
  grp : HT (List Nat)
  hide : List (Nat × Nat)

def Heap.alive (H : Heap) (r b : Nat) : Bool := match H.grp.get r with
  | some l => memb l b
  | none => false

def look (H : Heap) (b : Nat) : Option AObj :=
  cond (hidden H.hide b) none (match H.tab.get b with
    | some (.cells cs el rig esz r wr) => cond (H.alive r b) (some (.cells cs el rig esz r wr)) none
    | o => o)

def setGrp (H : Heap) (o : AObj) (l : List Nat) : HT (List Nat) := match rootOf o with
  | some r => H.grp.set r l
  | none => H.grp

/-- What lies behind a name is another now; others that may lie in the same memory go. -/
def Heap.put (H : Heap) (b : Nat) (o o' : AObj) : Heap := { H with tab := H.tab.set b o', grp := setGrp H o [b] }

def grpOf (H : Heap) (o : AObj) : List Nat := match rootOf o with
  | some r => (H.grp.get r).getD []
  | none => []

def Heap.push (H : Heap) (o : AObj) : Heap := { H with next := H.next + 1, tab := H.tab.set H.next o, grp := setGrp H o (H.next :: grpOf H o) }

/-- Only these of one memory are left. -/
def Heap.only (H : Heap) (r : Nat) (l : List Nat) : Heap := { H with grp := H.grp.set r l }

theorem look_some {H : Heap} {b : Nat} {o : AObj} (h : look H b = some o) : hidden H.hide b = false ∧ H.tab.get b = some o ∧ (∀ r, rootOf o = some r → H.alive r b = true) := by
  unfold look at h
  cases hh : hidden H.hide b with
  | true => rw [hh] at h; cases h
  | false =>
    rw [hh] at h
    simp only [cond_false] at h
    refine ⟨rfl, ?_⟩
    split at h
    · rename_i cs el rig esz r wr hg
      cases ha : H.alive r b with
      | false => rw [ha] at h; cases h
      | true =>
        rw [ha] at h
        simp only [cond_true, Option.some.injEq] at h
        subst h
        exact ⟨hg, fun r' hr => by simp only [rootOf, Option.some.injEq] at hr; subst hr; exact ha⟩
    · rename_i hno
      refine ⟨h, fun r hr => ?_⟩
      cases o <;> simp [rootOf] at hr
      exact absurd h (hno _ _ _ _ _ _)

theorem look_of {H : Heap} {b : Nat} {o : AObj} (h1 : hidden H.hide b = false) (h2 : H.tab.get b = some o) (h3 : ∀ r, rootOf o = some r → H.alive r b = true) : look H b = some o := by
  unfold look
  rw [h1, h2]
  cases o <;> first | rfl | (simp only [cond_false]; rw [h3 _ rfl]; rfl)

theorem memb_self (b : Nat) (l : List Nat) : memb (b :: l) b = true := by simp [memb]
theorem memb_ne {x b : Nat} (h : x ≠ b) (l : List Nat) : memb (b :: l) x = memb l x := by
  simp only [memb]
  cases hb : Nat.beq b x with
  | true => exact absurd (Nat.eq_of_beq_eq_true hb).symm h
  | false => rfl

theorem sameRoot_eq (x y : AObj) : sameRoot x y = true ↔ ∃ r, rootOf x = some r ∧ rootOf y = some r := by
  cases x <;> cases y <;> simp [sameRoot, rootOf]
  constructor <;> exact fun h => h.symm

theorem look_push {H : Heap} (hh : ∀ p ∈ H.hide, p.2 ≤ H.next) {o : AObj} {b : Nat} : look (H.push o) b = if b = H.next then some o else look H b := by
  have hhid : hidden H.hide H.next = false := by
    revert hh
    induction H.hide with
    | nil => intro _; rfl
    | cons p r ih =>
      obtain ⟨lo, hi⟩ := p
      intro hh
      have h1 := hh (lo, hi) List.mem_cons_self
      simp only at h1
      simp only [hidden]
      cases hc : (Nat.ble lo H.next && Nat.blt H.next hi) with
      | true =>
        simp only [Bool.and_eq_true] at hc
        have := blt_t hc.2
        omega
      | false => exact ih fun q hq => hh q (List.mem_cons_of_mem _ hq)
  have hal : ∀ r x, x ≠ H.next → (H.push o).alive r x = H.alive r x := by
    intro r x hx
    unfold Heap.alive Heap.push setGrp
    simp only
    cases hro : rootOf o with
    | none => rfl
    | some r0 =>
      simp only [HT.get_set]
      by_cases hr : r = r0
      · subst hr
        rw [if_pos rfl]
        simp only [grpOf, hro]
        rw [memb_ne hx]
        cases H.grp.get r <;> rfl
      · rw [if_neg hr]
  by_cases hb : b = H.next
  · subst hb
    rw [if_pos rfl]
    refine look_of hhid ?_ ?_
    · show (H.tab.set H.next o).get H.next = some o
      rw [HT.get_set, if_pos rfl]
    · intro r hr
      unfold Heap.alive Heap.push setGrp
      simp only [hr, HT.get_set, if_true]
      exact memb_self _ _
  · rw [if_neg hb]
    unfold look
    have h1 : (H.push o).hide = H.hide := rfl
    have h2 : (H.push o).tab.get b = H.tab.get b := by
      show (H.tab.set H.next o).get b = _
      rw [HT.get_set, if_neg hb]
    rw [h1, h2]
    congr 1
    split
    · rw [hal _ _ hb]
    · rfl

theorem look_put_self {H : Heap} {b : Nat} {o o' : AObj} (h : look H b = some o) (hr : rootOf o' = rootOf o) : look (H.put b o o') b = some o' := by
  refine look_of (look_some h).1 ?_ ?_
  · show (H.tab.set b o').get b = some o'
    rw [HT.get_set, if_pos rfl]
  · intro r hr'
    unfold Heap.alive Heap.put setGrp
    rw [hr] at hr'
    simp only [hr', HT.get_set, if_true]
    exact memb_self _ _

theorem look_put_other {H : Heap} {b : Nat} {o o' : AObj} {x : Nat} {y : AObj} (hx : x ≠ b) (h : look (H.put b o o') x = some y) : look H x = some y ∧ sameRoot o y = false := by
  obtain ⟨h1, h2, h3⟩ := look_some h
  have h2' : H.tab.get x = some y := by
    have : (H.tab.set b o').get x = some y := h2
    rwa [HT.get_set, if_neg hx] at this
  have hal : ∀ r, rootOf y = some r → rootOf o ≠ some r ∧ H.alive r x = true := by
    intro r hr
    have h4 := h3 r hr
    unfold Heap.alive Heap.put setGrp at h4
    simp only at h4
    cases ho : rootOf o with
    | none => rw [ho] at h4; exact ⟨by simp, h4⟩
    | some r0 =>
      rw [ho] at h4
      simp only [HT.get_set] at h4
      by_cases hrr : r = r0
      · rw [if_pos hrr] at h4
        simp only [memb] at h4
        cases hb : Nat.beq b x with
        | true => exact absurd (Nat.eq_of_beq_eq_true hb).symm hx
        | false => rw [hb] at h4; cases h4
      · rw [if_neg hrr] at h4
        exact ⟨fun e => hrr (Option.some.inj e).symm, h4⟩
  refine ⟨look_of h1 h2' fun r hr => (hal r hr).2, ?_⟩
  cases hs : sameRoot o y with
  | false => rfl
  | true =>
    obtain ⟨r, q1, q2⟩ := (sameRoot_eq o y).1 hs
    exact absurd q1 (hal r q2).1

theorem look_only {H : Heap} {r : Nat} {l : List Nat} {x : Nat} {y : AObj} (hl : ∀ b, memb l b = true → H.alive r b = true) (h : look (H.only r l) x = some y) :
    look H x = some y ∧ (rootOf y = some r → memb l x = true) := by
  obtain ⟨h1, h2, h3⟩ := look_some h
  have hal : ∀ r', rootOf y = some r' → H.alive r' x = true ∧ (r' = r → memb l x = true) := by
    intro r' hr
    have h4 := h3 r' hr
    unfold Heap.alive Heap.only at h4
    simp only [HT.get_set] at h4
    by_cases hrr : r' = r
    · subst hrr
      rw [if_pos rfl] at h4
      exact ⟨hl x h4, fun _ => h4⟩
    · rw [if_neg hrr] at h4
      exact ⟨h4, fun e => absurd e hrr⟩
  exact ⟨look_of h1 h2 fun r' hr => (hal r' hr).1, fun hr => (hal r hr).2 rfl⟩

/-- What the second shows, the first shows. -/
def Sub (H H' : Heap) : Prop := ∀ b o, look H' b = some o → look H b = some o

theorem Sub.refl (H : Heap) : Sub H H := fun _ _ h => h

/-! ### What the world bears -/

def EntR (ρ : Rho) (e e' : MapEntry) : Prop := VR ρ e.key e'.key ∧ VR ρ e.val e'.val ∧ e'.born = e.born

structure CellsR (ρ : Rho) (b : Nat) (cs : List Value) (rg : Bool) (es : Nat) (wr : Bool) (ccs : Array Value) (fr : Nat × Nat) : Prop where
  tot : ρ.tot b = ccs.size
  rig : ρ.rig b = rg
  esz : ρ.esz b = es
  len : ρ.off b + cs.length ≤ ccs.size
  full : rg = true → ρ.off b = 0 ∧ ccs.size = cs.length
  cell : ∀ (i : Nat) v, cs[i]? = some v → ∃ v', ccs[ρ.off b + i]? = some v' ∧ VR ρ v v'
  free : wr = true → ∀ k, ρ.off b ≤ k → k < ccs.size → ¬(fr.1 ≤ k ∧ k < fr.2)

def ObjRel (ρ : Rho) (w : World) (b : Nat) : AObj → Prop
  | .cells cs elem rig esz _ wr => ∃ ccs fr, w.heap[ρ.blk b]? = some (.cells ccs elem fr) ∧ CellsR ρ b cs rig esz wr ccs fr
  | .map es clock _ => ∃ es', w.heap[ρ.blk b]? = some (.map es' clock) ∧ es'.size = es.length ∧ ∀ (i : Nat) e e', es[i]? = some e → es'[i]? = some e' → EntR ρ e e'
  | .sit s pos => w.heap[ρ.blk b]? = some (.stringIter s pos) ∧ ρ.off b = 0
  | .loop st pend tr n params assign body dfr => ∃ l : Loop, w.heap[ρ.blk b]? = some (.loop l) ∧ l.state = st ∧ l.pending = pend ∧ l.params = params ∧ l.assign = assign ∧ l.body = body ∧
      l.defers = ρ.blk dfr ∧ ρ.dom dfr ∧ FrRel ρ ⟨tr, n, []⟩ ⟨l.tmps, []⟩
  | .deferred => w.heap[ρ.blk b]? = some (.deferred (some []))
  | .dead => (w.heap[ρ.blk b]?).isSome = true

theorem ObjRel.mono {ρ ρ' : Rho} {w : World} {b : Nat} {o : AObj} (h : ObjRel ρ w b o) (hd : ρ.dom b) (e : Ext ρ ρ') : ObjRel ρ' w b o := by
  cases o with
  | cells cs elem rig esz root wr =>
    obtain ⟨ccs, fr, h0, h⟩ := h
    refine ⟨ccs, fr, by rw [e.blk b hd]; exact h0, ⟨by rw [e.tot b hd]; exact h.tot, by rw [e.rig b hd]; exact h.rig, by rw [e.esz b hd]; exact h.esz,
      by rw [e.off b hd]; exact h.len, by rw [e.off b hd]; exact h.full, ?_, by rw [e.off b hd]; exact h.free⟩⟩
    intro i v hv
    obtain ⟨v', h1, h2⟩ := h.cell i v hv
    exact ⟨v', by rw [e.off b hd]; exact h1, h2.mono e⟩
  | map es clock wr =>
    obtain ⟨es', h0, h1, h2⟩ := h
    exact ⟨es', by rw [e.blk b hd]; exact h0, h1, fun i x y hx hy => let ⟨a, c, d⟩ := h2 i x y hx hy; ⟨a.mono e, c.mono e, d⟩⟩
  | sit s pos => exact ⟨by rw [e.blk b hd]; exact h.1, by rw [e.off b hd]; exact h.2⟩
  | loop st pend tr n params assign body dfr =>
    obtain ⟨l, h0, h1, h2, h3, h4, h5, h6, h7, h8⟩ := h
    exact ⟨l, by rw [e.blk b hd]; exact h0, h1, h2, h3, h4, h5, by rw [e.blk dfr h7]; exact h6, e.dom _ h7, h8.mono e⟩
  | deferred => simpa [ObjRel, e.blk b hd] using h
  | dead => simpa [ObjRel, e.blk b hd] using h

theorem ObjRel.congr {ρ : Rho} {w w' : World} {b : Nat} {o : AObj} (hw : w'.heap[ρ.blk b]? = w.heap[ρ.blk b]?) (h : ObjRel ρ w b o) : ObjRel ρ w' b o := by
  cases o <;> simp only [ObjRel, hw] <;> exact h

theorem ObjRel.lt {ρ : Rho} {w : World} {b : Nat} {o : AObj} (h : ObjRel ρ w b o) : ρ.blk b < w.heap.size := by
  cases o with
  | cells => obtain ⟨_, _, h0, _⟩ := h; exact (Array.getElem?_eq_some_iff.1 h0).1
  | map => obtain ⟨_, h0, _⟩ := h; exact (Array.getElem?_eq_some_iff.1 h0).1
  | sit => exact (Array.getElem?_eq_some_iff.1 h.1).1
  | loop => obtain ⟨_, h0, _⟩ := h; exact (Array.getElem?_eq_some_iff.1 h0).1
  | deferred => exact (Array.getElem?_eq_some_iff.1 h).1
  | dead =>
    obtain ⟨x, hx⟩ := Option.isSome_iff_exists.1 h
    exact (Array.getElem?_eq_some_iff.1 hx).1

structure Rel (NG base : Nat) (ρ : Rho) (H : Heap) (w : World) : Prop where
  glob : Glob NG ρ
  hide : ∀ p ∈ H.hide, p.2 ≤ H.next
  lt : ∀ b o, look H b = some o → b < H.next
  dom : ∀ b o, look H b = some o → ρ.dom b
  obj : ∀ b o, look H b = some o → ObjRel ρ w b o
  own : ∀ b o, look H b = some o → o.wr = true → base ≤ ρ.blk b
  sep : ∀ b b' o o', look H b = some o → look H b' = some o' → b ≠ b' → o.wr = true → ρ.blk b = ρ.blk b' → sameRoot o o' = true
  hb : base ≤ w.heap.size

def Free (H : Heap) (lim : Nat) (ρ : Rho) : Prop := ∀ b, H.next ≤ b → b < lim → ¬ ρ.dom b

structure Post (NG base : Nat) (ρ : Rho) (H H' : Heap) (w w' : World) (ρ' : Rho) : Prop where
  ext : Ext ρ ρ'
  rel : Rel NG base ρ' H' w'
  ndom : ∀ b, ρ'.dom b → ρ.dom b ∨ (H.next ≤ b ∧ b < H'.next)
  next : H.next ≤ H'.next
  wmin : H'.wmin = H.wmin
  below : Below base w w'
  chg : ∀ k, k < w.heap.size → (∀ b o, look H b = some o → o.wr = true → H.wmin ≤ b → ρ.blk b ≠ k) → w'.heap[k]? = w.heap[k]?
  newb : ∀ b o, look H' b = some o → ¬ ρ.dom b → w.heap.size ≤ ρ'.blk b ∨ ∃ b0 o0, look H b0 = some o0 ∧ o0.wr = true ∧ H.wmin ≤ b0 ∧ ρ'.blk b = ρ.blk b0
  old : ∀ b o', look H' b = some o' → ρ.dom b → ∃ o, look H b = some o ∧ (o'.wr = true → o.wr = true)

theorem Post.refl {NG base : Nat} {ρ : Rho} {H : Heap} {w : World} (h : Rel NG base ρ H w) : Post NG base ρ H H w w ρ :=
  ⟨Ext.refl ρ, h, fun _ h => .inl h, Nat.le_refl _, rfl, Below.refl _ _, fun _ _ _ => rfl, fun b o ho hd => absurd (h.dom b o ho) hd, fun b o ho _ => ⟨o, ho, id⟩⟩

theorem Post.trans {NG base : Nat} {ρ ρ1 ρ2 : Rho} {H H1 H2 : Heap} {w w1 w2 : World} (p : Post NG base ρ H H1 w w1 ρ1) (q : Post NG base ρ1 H1 H2 w1 w2 ρ2) :
    Post NG base ρ H H2 w w2 ρ2 := by
  refine ⟨p.ext.trans q.ext, q.rel, fun b hb => ?_, Nat.le_trans p.next q.next, q.wmin.trans p.wmin, p.below.trans q.below, fun k hk hno => ?_, fun b o ho hd => ?_, fun b o' ho hd => ?_⟩
  · rcases q.ndom b hb with h | ⟨h1, h2⟩
    · rcases p.ndom b h with h | ⟨h1, h2⟩
      · exact .inl h
      · exact .inr ⟨h1, Nat.lt_of_lt_of_le h2 q.next⟩
    · exact .inr ⟨Nat.le_trans p.next h1, h2⟩
  · rw [q.chg k (Nat.lt_of_lt_of_le hk p.below.size) ?_, p.chg k hk hno]
    intro b o ho hw hm
    by_cases hd : ρ.dom b
    · obtain ⟨o0, h0, h1⟩ := p.old b o ho hd
      rw [p.ext.blk b hd]
      exact hno b o0 h0 (h1 hw) (by rw [← p.wmin]; exact hm)
    · rcases p.newb b o ho hd with h | ⟨b0, o0, h0, h1, h2, h3⟩
      · omega
      · rw [h3]; exact hno b0 o0 h0 h1 h2
  · by_cases hd1 : ρ1.dom b
    · obtain ⟨o1, h1, _⟩ := q.old b o ho hd1
      rw [q.ext.blk b hd1]
      exact p.newb b o1 h1 hd
    · rcases q.newb b o ho hd1 with h | ⟨b1, o1, h0, h1, h2, h3⟩
      · exact .inl (Nat.le_trans p.below.size h)
      · by_cases hd2 : ρ.dom b1
        · obtain ⟨o0, h00, h01⟩ := p.old b1 o1 h0 hd2
          exact .inr ⟨b1, o0, h00, h01 h1, by rw [← p.wmin]; exact h2, by rw [h3, p.ext.blk b1 hd2]⟩
        · rw [h3]; exact p.newb b1 o1 h0 hd2
  · obtain ⟨o1, h1, h2⟩ := q.old b o' ho (p.ext.dom b hd)
    obtain ⟨o0, h3, h4⟩ := p.old b o1 h1 hd
    exact ⟨o0, h3, fun h => h4 (h2 h)⟩

theorem Post.free {NG base lim : Nat} {ρ ρ' : Rho} {H H' : Heap} {w w' : World} (p : Post NG base ρ H H' w w' ρ') (f : Free H lim ρ) : Free H' lim ρ' := by
  intro b h1 h2 h3
  rcases p.ndom b h3 with h | ⟨_, h⟩
  · exact f b (Nat.le_trans p.next h1) h2 h
  · omega

/-- A draw. -/
theorem Post.drew {NG base : Nat} {ρ : Rho} {H : Heap} {w : World} (h : Rel NG base ρ H w) : Post NG base ρ H H w { w with drawn := w.drawn + 1 } ρ :=
  ⟨Ext.refl ρ, ⟨h.glob, h.hide, h.lt, h.dom, fun b o ho => (h.obj b o ho).congr rfl, h.own, h.sep, h.hb⟩, fun _ h => .inl h, Nat.le_refl _, rfl, ⟨rfl, rfl, rfl, Nat.le_refl _, fun _ _ => rfl⟩, fun _ _ _ => rfl,
   fun b o ho hd => absurd (h.dom b o ho) hd, fun b o ho _ => ⟨o, ho, id⟩⟩

/-- Some blocks are forgotten. -/
theorem Rel.sub {NG base : Nat} {ρ : Rho} {H H' : Heap} {w : World} (h : Rel NG base ρ H w) (hs : Sub H H') (hn : H.next ≤ H'.next) (hh : ∀ p ∈ H'.hide, p.2 ≤ H'.next) : Rel NG base ρ H' w :=
  ⟨h.glob, hh, fun b o ho => Nat.lt_of_lt_of_le (h.lt b o (hs b o ho)) hn, fun b o ho => h.dom b o (hs b o ho), fun b o ho => h.obj b o (hs b o ho), fun b o ho => h.own b o (hs b o ho),
   fun b b' o o' ho ho' => h.sep b b' o o' (hs b o ho) (hs b' o' ho'), h.hb⟩

theorem Post.forget {NG base : Nat} {ρ ρ' : Rho} {H H1 H2 : Heap} {w w' : World} (p : Post NG base ρ H H1 w w' ρ') (hs : Sub H1 H2) (hn : H1.next ≤ H2.next) (hm : H2.wmin = H1.wmin) (hh : ∀ p ∈ H2.hide, p.2 ≤ H2.next) :
    Post NG base ρ H H2 w w' ρ' :=
  ⟨p.ext, p.rel.sub hs hn hh, fun b hb => (p.ndom b hb).imp id fun ⟨h1, h2⟩ => ⟨h1, Nat.lt_of_lt_of_le h2 hn⟩, Nat.le_trans p.next hn, hm.trans p.wmin, p.below, p.chg,
   fun b o ho hd => p.newb b o (hs b o ho) hd, fun b o ho hd => p.old b o (hs b o ho) hd⟩

/-- A new name. -/
def Rho.new (ρ : Rho) (b blk off tot esz : Nat) (rig : Bool) : Rho where
  dom x := x = b ∨ ρ.dom x
  blk x := if x = b then blk else ρ.blk x
  off x := if x = b then off else ρ.off x
  tot x := if x = b then tot else ρ.tot x
  esz x := if x = b then esz else ρ.esz x
  rig x := if x = b then rig else ρ.rig x

theorem Rho.ext_new {ρ : Rho} {b : Nat} (h : ¬ ρ.dom b) (blk off tot esz : Nat) (rig : Bool) : Ext ρ (ρ.new b blk off tot esz rig) := by
  have k : ∀ x, ρ.dom x → x ≠ b := fun x hx e => h (e ▸ hx)
  exact ⟨fun x hx => .inr hx, fun x hx => if_neg (k x hx), fun x hx => if_neg (k x hx), fun x hx => if_neg (k x hx), fun x hx => if_neg (k x hx), fun x hx => if_neg (k x hx)⟩

theorem World.size_alloc' (w : World) (c : Obj) : (w.alloc c).heap.size = w.heap.size + 1 := by simp

theorem Post.alloc' {NG base : Nat} {ρ : Rho} {H : Heap} {w w' : World} {o : AObj} {c : Obj} (h : Rel NG base ρ H w) (hf : ¬ ρ.dom H.next) (off tot esz : Nat) (rig : Bool)
    (hw' : w'.heap = w.heap.push c) (hos : w'.os = w.os) (htape : w'.tape = w.tape) (hout : w'.output = w.output)
    (ho : ObjRel (ρ.new H.next w.heap.size off tot esz rig) w' H.next o) :
    Post NG base ρ H (H.push o) w w' (ρ.new H.next w.heap.size off tot esz rig) := by
  have e := Rho.ext_new (ρ := ρ) hf w.heap.size off tot esz rig
  have hheap : ∀ k, k < w.heap.size → w'.heap[k]? = w.heap[k]? := fun k hk => by rw [hw']; exact Below.heap_alloc w c k hk
  have hsz : w'.heap.size = w.heap.size + 1 := by rw [hw']; simp
  have hnew : (ρ.new H.next w.heap.size off tot esz rig).blk H.next = w.heap.size := if_pos rfl
  have hlt : ∀ b x, look H b = some x → ρ.blk b < w.heap.size := fun b x hx => (h.obj b x hx).lt
  refine ⟨e, ⟨h.glob.mono e, ?_, ?_, ?_, ?_, ?_, ?_, ?_⟩, ?_, Nat.le_succ _, rfl, ⟨hos, htape, hout, by omega, fun k hk => hheap k (Nat.lt_of_lt_of_le hk h.hb)⟩, fun k hk _ => hheap k hk, ?_, ?_⟩
  · intro p hp
    exact Nat.le_succ_of_le (h.hide p hp)
  · intro b x hx
    rw [look_push h.hide] at hx
    by_cases hb : b = H.next
    · subst hb; exact Nat.lt_succ_self _
    · rw [if_neg hb] at hx; exact Nat.lt_succ_of_lt (h.lt b x hx)
  · intro b x hx
    rw [look_push h.hide] at hx
    by_cases hb : b = H.next
    · exact .inl hb
    · rw [if_neg hb] at hx; exact .inr (h.dom b x hx)
  · intro b x hx
    rw [look_push h.hide] at hx
    by_cases hb : b = H.next
    · subst hb; rw [if_pos rfl] at hx; cases hx; exact ho
    · rw [if_neg hb] at hx
      have hd := h.dom b x hx
      refine ((h.obj b x hx).congr ?_).mono hd e
      exact hheap _ (hlt b x hx)
  · intro b x hx hw
    rw [look_push h.hide] at hx
    by_cases hb : b = H.next
    · subst hb; rw [hnew]; exact h.hb
    · rw [if_neg hb] at hx
      rw [e.blk b (h.dom b x hx)]
      exact h.own b x hx hw
  · intro b b' x x' hx hx' hne hw he
    rw [look_push h.hide] at hx hx'
    by_cases hb : b = H.next
    · subst hb
      rw [if_neg (fun e => hne e.symm)] at hx'
      rw [hnew, e.blk b' (h.dom b' x' hx')] at he
      have := hlt b' x' hx'
      omega
    · rw [if_neg hb] at hx
      by_cases hb' : b' = H.next
      · subst hb'
        rw [hnew, e.blk b (h.dom b x hx)] at he
        have := hlt b x hx
        omega
      · rw [if_neg hb'] at hx'
        rw [e.blk b (h.dom b x hx), e.blk b' (h.dom b' x' hx')] at he
        exact h.sep b b' x x' hx hx' hne hw he
  · have := h.hb; omega
  · intro b hb
    rcases hb with hb | hb
    · exact .inr ⟨by omega, by simp [Heap.push]; omega⟩
    · exact .inl hb
  · intro b x hx hd
    rw [look_push h.hide] at hx
    by_cases hb : b = H.next
    · subst hb; exact .inl (by rw [hnew]; exact Nat.le_refl _)
    · rw [if_neg hb] at hx; exact absurd (h.dom b x hx) hd
  · intro b x hx hd
    rw [look_push h.hide] at hx
    by_cases hb : b = H.next
    · exact absurd (hb ▸ hd) hf
    · rw [if_neg hb] at hx; exact ⟨x, hx, id⟩

theorem Post.alloc {NG base : Nat} {ρ : Rho} {H : Heap} {w : World} {o : AObj} {c : Obj} (h : Rel NG base ρ H w) (hf : ¬ ρ.dom H.next) (off tot esz : Nat) (rig : Bool)
    (ho : ObjRel (ρ.new H.next w.heap.size off tot esz rig) (w.alloc c) H.next o) :
    Post NG base ρ H (H.push o) w (w.alloc c) (ρ.new H.next w.heap.size off tot esz rig) :=
  Post.alloc' h hf off tot esz rig rfl rfl rfl rfl ho

/-- Something is written into one block. -/
theorem Post.write {NG base : Nat} {ρ : Rho} {H : Heap} {w w' : World} {b : Nat} {o o' : AObj} (h : Rel NG base ρ H w) (hb : look H b = some o) (hw : o.wr = true) (hm : H.wmin ≤ b)
    (hother : ∀ k, k ≠ ρ.blk b → w'.heap[k]? = w.heap[k]?) (hsize : w'.heap.size = w.heap.size) (hos : w'.os = w.os) (htape : w'.tape = w.tape) (hout : w'.output = w.output)
    (ho : ObjRel ρ w' b o') (hroot : rootOf o' = rootOf o) : Post NG base ρ H (H.put b o o') w w' ρ := by
  have hself : look (H.put b o o') b = some o' := look_put_self hb hroot
  have hold : ∀ x y, x ≠ b → look (H.put b o o') x = some y → look H x = some y ∧ sameRoot o y = false ∧ ρ.blk x ≠ ρ.blk b := by
    intro x y hx hy
    obtain ⟨h1, h2⟩ := look_put_other hx hy
    refine ⟨h1, h2, fun e => ?_⟩
    have := h.sep b x o y hb h1 (fun e => hx e.symm) hw e.symm
    rw [h2] at this; cases this
  have hbase := h.own b o hb hw
  have hbel : Below base w w' := ⟨hos, htape, hout, by omega, fun k hk => hother k (by omega)⟩
  refine ⟨Ext.refl ρ, ⟨h.glob, h.hide, ?_, ?_, ?_, ?_, ?_, by rw [hsize]; exact h.hb⟩, fun _ h => .inl h, Nat.le_refl _, rfl, hbel, fun k _ hno => hother k (fun e => hno b o hb hw hm e.symm), ?_, ?_⟩
  · intro x y hy
    by_cases hx : x = b
    · subst hx; exact h.lt x o hb
    · exact h.lt x y (hold x y hx hy).1
  · intro x y hy
    by_cases hx : x = b
    · subst hx; exact h.dom x o hb
    · exact h.dom x y (hold x y hx hy).1
  · intro x y hy
    by_cases hx : x = b
    · subst hx; rw [hself] at hy; cases hy; exact ho
    · obtain ⟨h1, _, h3⟩ := hold x y hx hy
      exact (h.obj x y h1).congr (hother _ h3)
  · intro x y hy hwy
    by_cases hx : x = b
    · subst hx; exact hbase
    · exact h.own x y (hold x y hx hy).1 hwy
  · intro x x' y y' hy hy' hne hwy he
    by_cases hx : x = b
    · subst hx
      exact absurd he.symm (hold x' y' (fun e => hne e.symm) hy').2.2
    · by_cases hx' : x' = b
      · subst hx'; exact absurd he (hold x y hx hy).2.2
      · exact h.sep x x' y y' (hold x y hx hy).1 (hold x' y' hx' hy').1 hne hwy he
  · intro x y hy hd
    by_cases hx : x = b
    · subst hx; exact absurd (h.dom x o hb) hd
    · exact absurd (h.dom x y (hold x y hx hy).1) hd
  · intro x y hy hd
    by_cases hx : x = b
    · subst hx; exact ⟨o, hb, fun _ => hw⟩
    · exact ⟨y, (hold x y hx hy).1, id⟩

end Go.Ev
