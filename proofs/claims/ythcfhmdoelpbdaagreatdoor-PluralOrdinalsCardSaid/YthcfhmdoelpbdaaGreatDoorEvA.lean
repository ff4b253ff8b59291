/- A deterministic evaluator of the model's code over renamed blocks: values, frames, and what it means that a value stands for another. -/
import Derived.CallsIn
import Derived.OrdersIn
import Derived.TacticsIn
import Derived.LoopNIn
import Derived.RangeFuncIn
import Derived.RangeFuncLeaves
import Derived.Below
namespace Go.Ev
set_option linter.unusedVariables false
set_option linter.unusedSimpArgs false
open Go

/-- What each name of a block stands for. -/
structure Rho where
  dom : Nat → Prop
  blk : Nat → Nat
  off : Nat → Nat
  tot : Nat → Nat
  esz : Nat → Nat
  rig : Nat → Bool

structure Ext (ρ ρ' : Rho) : Prop where
  dom : ∀ b, ρ.dom b → ρ'.dom b
  blk : ∀ b, ρ.dom b → ρ'.blk b = ρ.blk b
  off : ∀ b, ρ.dom b → ρ'.off b = ρ.off b
  tot : ∀ b, ρ.dom b → ρ'.tot b = ρ.tot b
  esz : ∀ b, ρ.dom b → ρ'.esz b = ρ.esz b
  rig : ∀ b, ρ.dom b → ρ'.rig b = ρ.rig b

theorem Ext.refl (ρ : Rho) : Ext ρ ρ := ⟨fun _ h => h, fun _ _ => rfl, fun _ _ => rfl, fun _ _ => rfl, fun _ _ => rfl, fun _ _ => rfl⟩
theorem Ext.trans {a b c : Rho} (h : Ext a b) (k : Ext b c) : Ext a c :=
  ⟨fun x hx => k.dom x (h.dom x hx), fun x hx => (k.blk x (h.dom x hx)).trans (h.blk x hx), fun x hx => (k.off x (h.dom x hx)).trans (h.off x hx),
   fun x hx => (k.tot x (h.dom x hx)).trans (h.tot x hx), fun x hx => (k.esz x (h.dom x hx)).trans (h.esz x hx), fun x hx => (k.rig x (h.dom x hx)).trans (h.rig x hx)⟩

inductive FnR (ρ : Rho) : Fn → Fn → Prop
  | same (fn : Fn) : (∀ l, fn ≠ .yield l) → FnR ρ fn fn
  | yield (l : Nat) : ρ.dom l → FnR ρ (.yield l) (.yield (ρ.blk l))

/-- The left value, its blocks renamed, is the right one. -/
inductive VR (ρ : Rho) : Value → Value → Prop
  | bool (b) : VR ρ (.bool b) (.bool b)
  | int (k n) : VR ρ (.int k n) (.int k n)
  | float (k n) : VR ρ (.float k n) (.float k n)
  | complex (k a b) : VR ρ (.complex k a b) (.complex k a b)
  | string (s) : VR ρ (.string s) (.string s)
  | nilFunc : VR ρ .nilFunc .nilFunc
  | nilIface : VR ρ .nilIface .nilIface
  | pnil : VR ρ (.pointer none) (.pointer none)
  | snil (n c) : VR ρ (.slice none n c) (.slice none n c)
  | mnil : VR ρ (.map none) (.map none)
  | cnil : VR ρ (.chan none) (.chan none)
  | ptr (b o) : ρ.dom b → VR ρ (.pointer (some ⟨b, o, none⟩)) (.pointer (some ⟨ρ.blk b, ρ.off b + o, none⟩))
  | slice (b o n c c') : ρ.dom b → n ≤ c → c ≤ c' → (ρ.rig b = true → c' = c) → (ρ.rig b = false → ρ.off b + o + c' * ρ.esz b ≤ ρ.tot b) →
      VR ρ (.slice (some ⟨b, o, none⟩) n c) (.slice (some ⟨ρ.blk b, ρ.off b + o, none⟩) n c')
  | sliceE (b o o') : ρ.dom b → VR ρ (.slice (some ⟨b, o, none⟩) 0 0) (.slice (some ⟨ρ.blk b, o', none⟩) 0 0)
  | map (r) : ρ.dom r → VR ρ (.map (some r)) (.map (some (ρ.blk r)))
  | func (fn fn' a a' b b') : FnR ρ fn fn' → a.size = a'.size → (∀ (i : Nat) x y, a[i]? = some x → a'[i]? = some y → VR ρ x y) →
      b.size = b'.size → (∀ (i : Nat) x y, b[i]? = some x → b'[i]? = some y → VR ρ x y) → VR ρ (.func fn a b) (.func fn' a' b')
  | iface (t v v') : VR ρ v v' → VR ρ (.iface t v) (.iface t v')
  | agg (a b) : a.size = b.size → (∀ (i : Nat) x y, a[i]? = some x → b[i]? = some y → VR ρ x y) → VR ρ (.agg a) (.agg b)
  | tuple (a b) : a.size = b.size → (∀ (i : Nat) x y, a[i]? = some x → b[i]? = some y → VR ρ x y) → VR ρ (.tuple a) (.tuple b)

theorem FnR.mono {ρ ρ' : Rho} (e : Ext ρ ρ') {f g : Fn} (h : FnR ρ f g) : FnR ρ' f g := by
  cases h with
  | same _ h => exact .same _ h
  | yield l h => rw [← e.blk l h]; exact .yield l (e.dom l h)

theorem VR.mono {ρ ρ' : Rho} (e : Ext ρ ρ') {v v' : Value} (h : VR ρ v v') : VR ρ' v v' := by
  induction h with
  | bool => exact .bool _
  | int => exact .int _ _
  | float => exact .float _ _
  | complex => exact .complex _ _ _
  | string => exact .string _
  | nilFunc => exact .nilFunc
  | nilIface => exact .nilIface
  | pnil => exact .pnil
  | snil => exact .snil _ _
  | mnil => exact .mnil
  | cnil => exact .cnil
  | ptr b o h => rw [← e.blk b h, ← e.off b h]; exact .ptr b o (e.dom b h)
  | slice b o n c c' h h1 h2 h3 h4 =>
    rw [← e.blk b h, ← e.off b h]
    refine .slice b o n c c' (e.dom b h) h1 h2 (fun hr => h3 (by rw [← e.rig b h]; exact hr)) (fun hr => ?_)
    rw [e.off b h, e.esz b h, e.tot b h]
    exact h4 (by rw [← e.rig b h]; exact hr)
  | sliceE b o o' h => rw [← e.blk b h]; exact .sliceE b o o' (e.dom b h)
  | map r h => rw [← e.blk r h]; exact .map r (e.dom r h)
  | func fn fn' a a' b b' hf h1 _ h3 _ ih1 ih2 => exact .func _ _ _ _ _ _ (hf.mono e) h1 ih1 h3 ih2
  | iface t v v' _ ih => exact .iface _ _ _ ih
  | agg a b h _ ih => exact .agg _ _ h ih
  | tuple a b h _ ih => exact .tuple _ _ h ih

/-- No address in it. -/
def flat : Nat → Value → Bool
  | 0, _ => false
  | n + 1, v => match v with
    | .bool _ | .int _ _ | .float _ _ | .complex _ _ _ | .string _ | .nilFunc | .nilIface => true
    | .pointer none | .slice none _ _ | .map none | .chan none => true
    | .func fn a b => (match fn with | .yield _ => false | _ => true) && a.toList.all (flat n) && b.toList.all (flat n)
    | .iface _ v => flat n v
    | .agg cs => cs.toList.all (flat n)
    | .tuple cs => cs.toList.all (flat n)
    | _ => false

theorem arr_ext {a b : Array Value} (hs : a.size = b.size) (h : ∀ (i : Nat) x y, a[i]? = some x → b[i]? = some y → y = x) : b = a := by
  apply Array.ext hs.symm
  intro i h1 h2
  exact h i a[i] b[i] (Array.getElem?_eq_getElem h2) (Array.getElem?_eq_getElem h1)

theorem all_get {p : Value → Bool} {a : Array Value} (h : a.toList.all p = true) {i : Nat} {x : Value} (hx : a[i]? = some x) : p x = true := by
  have hm : x ∈ a.toList := by
    have := Array.mem_of_getElem? hx
    exact Array.mem_toList_iff.2 this
  exact List.all_eq_true.1 h x hm

theorem flat_eq {ρ : Rho} {v v' : Value} (h : VR ρ v v') : ∀ n, flat n v = true → v' = v := by
  induction h with
  | ptr | slice | sliceE | map => intro n hn; cases n <;> simp [flat] at hn
  | func fn fn' a a' b b' hf h1 _ h3 _ ih1 ih2 =>
    intro n hn
    cases n with
    | zero => simp [flat] at hn
    | succ n =>
      simp only [flat, Bool.and_eq_true] at hn
      obtain ⟨⟨hy, ha⟩, hb⟩ := hn
      have e1 : a' = a := arr_ext h1 fun i x y hx hy => ih1 i x y hx hy n (all_get ha hx)
      have e2 : b' = b := arr_ext h3 fun i x y hx hy => ih2 i x y hx hy n (all_get hb hx)
      cases hf with
      | same => rw [e1, e2]
      | yield l => simp at hy
  | iface t v v' _ ih =>
    intro n hn
    cases n with
    | zero => simp [flat] at hn
    | succ n => simp only [flat] at hn; rw [ih n hn]
  | agg a b h1 _ ih =>
    intro n hn
    cases n with
    | zero => simp [flat] at hn
    | succ n => simp only [flat] at hn; rw [arr_ext h1 fun i x y hx hy => ih i x y hx hy n (all_get hn hx)]
  | tuple a b h1 _ ih =>
    intro n hn
    cases n with
    | zero => simp [flat] at hn
    | succ n => simp only [flat] at hn; rw [arr_ext h1 fun i x y hx hy => ih i x y hx hy n (all_get hn hx)]
  | _ => intro n _; rfl

theorem flat_refl (ρ : Rho) : ∀ n v, flat n v = true → VR ρ v v := by
  intro n
  induction n with
  | zero => intro v h; simp [flat] at h
  | succ n ih =>
    have arr : ∀ a : Array Value, a.toList.all (flat n) = true → ∀ (i : Nat) x y, a[i]? = some x → a[i]? = some y → VR ρ x y := fun a h i x y hx hy => by
      have : x = y := Option.some.inj (hx.symm.trans hy)
      subst this
      exact ih x (all_get h hx)
    intro v h
    cases v with
    | bool => exact .bool _
    | int => exact .int _ _
    | float => exact .float _ _
    | complex => exact .complex _ _ _
    | string => exact .string _
    | nilFunc => exact .nilFunc
    | nilIface => exact .nilIface
    | pointer a => cases a with
      | none => exact .pnil
      | some a => simp [flat] at h
    | slice a n c => cases a with
      | none => exact .snil _ _
      | some a => simp [flat] at h
    | map a => cases a with
      | none => exact .mnil
      | some a => simp [flat] at h
    | chan a => cases a with
      | none => exact .cnil
      | some a => simp [flat] at h
    | func fn a b =>
      simp only [flat, Bool.and_eq_true] at h
      obtain ⟨⟨hy, ha⟩, hb⟩ := h
      exact .func _ _ _ _ _ _ (.same _ fun l e => by subst e; simp at hy) rfl (arr a ha) rfl (arr b hb)
    | iface t v => simp only [flat] at h; exact .iface _ _ _ (ih v h)
    | agg a => simp only [flat] at h; exact .agg _ _ rfl (arr a h)
    | tuple a => simp only [flat] at h; exact .tuple _ _ rfl (arr a h)

/-! ### Frames -/

inductive Tr where
  | nil
  | node (v : Value) (l r : Tr)
  deriving Inhabited

def Tr.get : Tr → Nat → Value
  | .nil, _ => undef
  | .node v l r, k => match k with
    | 0 => v
    | k + 1 => cond (Nat.beq (k % 2) 0) (l.get (k / 2)) (r.get (k / 2))

def Tr.set : Nat → Tr → Nat → Value → Tr
  | 0, t, _, _ => t
  | f + 1, .nil, k, v => match k with
    | 0 => .node v .nil .nil
    | k + 1 => cond (Nat.beq (k % 2) 0) (.node undef (Tr.set f .nil (k / 2) v) .nil) (.node undef .nil (Tr.set f .nil (k / 2) v))
  | f + 1, .node u l r, k, v => match k with
    | 0 => .node v l r
    | k + 1 => cond (Nat.beq (k % 2) 0) (.node u (Tr.set f l (k / 2) v) r) (.node u l (Tr.set f r (k / 2) v))

theorem blt_t {a b : Nat} (h : Nat.blt a b = true) : a < b := by
  have := Nat.le_of_ble_eq_true h
  omega
theorem blt_f {a b : Nat} (h : Nat.blt a b = false) : b ≤ a := by
  rcases Nat.lt_or_ge a b with h' | h'
  · have : Nat.ble (a + 1) b = true := Nat.ble_eq_true_of_le h'
    have h2 : Nat.ble (a + 1) b = false := h
    rw [this] at h2; cases h2
  · exact h'

theorem Tr.get_set : ∀ (f : Nat) (t : Tr) (k j : Nat) (v : Value), k + 1 < 2 ^ f → (Tr.set f t k v).get j = if j = k then v else t.get j := by
  intro f
  induction f with
  | zero => intro t k j v h; simp at h
  | succ f ih =>
    intro t k j v h
    have hk : ∀ k', k = k' + 1 → k' / 2 + 1 < 2 ^ f := fun k' e => by
      have : 2 ^ (f + 1) = 2 * 2 ^ f := by rw [Nat.pow_succ, Nat.mul_comm]
      omega
    cases t with
    | nil =>
      cases k with
      | zero => cases j <;> simp [Tr.set, Tr.get]
      | succ k =>
        cases hp : Nat.beq (k % 2) 0 <;> cases j with
        | zero => simp [Tr.set, Tr.get, hp]
        | succ j =>
          simp only [Tr.set, hp, cond_true, cond_false, Tr.get]
          cases hq : Nat.beq (j % 2) 0 <;> simp only [cond_true, cond_false, Tr.get, ih _ _ _ _ (hk k rfl)]
          all_goals
            have hp' := hp
            have hq' := hq
            first | replace hp' := Nat.eq_of_beq_eq_true hp' | replace hp' := Nat.ne_of_beq_eq_false hp'
            first | replace hq' := Nat.eq_of_beq_eq_true hq' | replace hq' := Nat.ne_of_beq_eq_false hq'
          all_goals first
            | (by_cases e : j / 2 = k / 2
               · rw [if_pos e, if_pos (by omega)]
               · rw [if_neg e, if_neg (by omega)])
            | rw [if_neg (by omega)]
    | node u l r =>
      cases k with
      | zero => cases j <;> simp [Tr.set, Tr.get]
      | succ k =>
        cases hp : Nat.beq (k % 2) 0 <;> cases j with
        | zero => simp [Tr.set, Tr.get, hp]
        | succ j =>
          simp only [Tr.set, hp, cond_true, cond_false, Tr.get]
          cases hq : Nat.beq (j % 2) 0 <;> simp only [cond_true, cond_false, ih _ _ _ _ (hk k rfl)]
          all_goals
            have hp' := hp
            have hq' := hq
            first | replace hp' := Nat.eq_of_beq_eq_true hp' | replace hp' := Nat.ne_of_beq_eq_false hp'
            first | replace hq' := Nat.eq_of_beq_eq_true hq' | replace hq' := Nat.ne_of_beq_eq_false hq'
          all_goals first
            | (by_cases e : j / 2 = k / 2
               · rw [if_pos e, if_pos (by omega)]
               · rw [if_neg e, if_neg (by omega)])
            | rw [if_neg (by omega)]

structure AFr where
  tr : Tr
  n : Nat
  marks : List Nat

def AFr.put (fr : AFr) (dst : Option Tmp) (v : Value) : AFr :=
  match dst with
  | some d => cond (Nat.blt d fr.n) { fr with tr := fr.tr.set 20 d v } fr
  | none => fr

/-- How many package-level variables (and the model's own blocks behind them) keep their numbers. -/
def AFr.eval (NG : Nat) (fr : AFr) : Operand → Option Value
  | .tmp t => some (fr.tr.get t)
  | .const v => cond (flat 40 v) (some v) none
  | .global g => cond (Nat.blt g NG) (some (.pointer (some ⟨g, 0, none⟩))) none
  | .func f => some (.func (.func f) #[] #[])

structure FrRel (ρ : Rho) (fr : AFr) (a : Act) : Prop where
  size : a.tmps.size = fr.n
  small : fr.n ≤ 1000000
  tmp : ∀ (t : Nat) v', a.tmps[t]? = some v' → VR ρ (fr.tr.get t) v'
  out : ∀ t, fr.n ≤ t → fr.tr.get t = undef
  defers : a.defers = fr.marks.map fun r => { target := .collected (ρ.blk r), args := #[] }
  marks : ∀ r ∈ fr.marks, ρ.dom r

structure Glob (NG : Nat) (ρ : Rho) : Prop where
  dom : ∀ g, g < NG → ρ.dom g
  blk : ∀ g, g < NG → ρ.blk g = g
  off : ∀ g, g < NG → ρ.off g = 0

theorem Glob.mono {NG : Nat} {ρ ρ' : Rho} (h : Glob NG ρ) (e : Ext ρ ρ') : Glob NG ρ' :=
  ⟨fun g hg => e.dom g (h.dom g hg), fun g hg => (e.blk g (h.dom g hg)).trans (h.blk g hg), fun g hg => (e.off g (h.dom g hg)).trans (h.off g hg)⟩

theorem VR.undef (ρ : Rho) : VR ρ Go.undef Go.undef := .tuple _ _ rfl (by simp)

theorem FrRel.mono {ρ ρ' : Rho} {fr : AFr} {a : Act} (h : FrRel ρ fr a) (e : Ext ρ ρ') : FrRel ρ' fr a :=
  ⟨h.size, h.small, fun t v' hv => (h.tmp t v' hv).mono e, h.out,
   h.defers.trans (List.map_congr_left fun r hr => by rw [e.blk r (h.marks r hr)]), fun r hr => e.dom r (h.marks r hr)⟩

theorem FrRel.get {ρ : Rho} {fr : AFr} {a : Act} (h : FrRel ρ fr a) (t : Nat) : VR ρ (fr.tr.get t) (a.tmps.getD t undef) := by
  by_cases ht : t < a.tmps.size
  · have := h.tmp t a.tmps[t] (Array.getElem?_eq_getElem ht)
    simpa [Array.getD, ht] using this
  · rw [h.out t (by rw [← h.size]; omega)]
    simp only [Array.getD, ht, dite_false]
    exact VR.undef ρ

theorem FrRel.eval {NG : Nat} {ρ : Rho} {fr : AFr} {a : Act} (h : FrRel ρ fr a) (g : Glob NG ρ) {x : Operand} {v : Value} (hv : fr.eval NG x = some v) :
    VR ρ v (a.eval x) := by
  cases x with
  | tmp t => simp only [AFr.eval, Option.some.injEq] at hv; subst hv; exact h.get t
  | const c =>
    simp only [AFr.eval] at hv
    cases hf : flat 40 c with
    | false => simp [hf] at hv
    | true => simp only [hf, cond_true, Option.some.injEq] at hv; subst hv; exact flat_refl ρ 40 _ hf
  | «global» k =>
    simp only [AFr.eval] at hv
    cases hf : Nat.blt k NG with
    | false => simp [hf] at hv
    | true =>
      simp only [hf, cond_true, Option.some.injEq] at hv
      subst hv
      have hk : k < NG := blt_t hf
      have := VR.ptr (ρ := ρ) k 0 (g.dom k hk)
      rw [g.blk k hk, g.off k hk] at this
      exact this
  | func f =>
    simp only [AFr.eval, Option.some.injEq] at hv
    subst hv
    exact .func _ _ _ _ _ _ (.same _ fun l e => by cases e) rfl (by simp) rfl (by simp)

theorem FrRel.put {ρ : Rho} {fr : AFr} {a : Act} (h : FrRel ρ fr a) {v v' : Value} (hv : VR ρ v v') (dst : Option Tmp) : FrRel ρ (fr.put dst v) (a.put dst v') := by
  cases dst with
  | none => exact h
  | some d0 =>
    obtain ⟨d, rfl⟩ : ∃ d : Nat, d = d0 := ⟨d0, rfl⟩
    simp only [AFr.put, Act.put]
    cases hd : Nat.blt d fr.n with
    | false =>
      have hge : a.tmps.size ≤ d := by rw [h.size]; exact blt_f hd
      have : a.tmps.setIfInBounds d v' = a.tmps := by
        unfold Array.setIfInBounds
        rw [dif_neg (by omega)]
      simp only [cond_false, this]
      exact h
    | true =>
      have hlt : d < fr.n := blt_t hd
      have hb : d + 1 < 2 ^ 20 := Nat.lt_of_lt_of_le (by have := h.small; omega : d + 1 < 1000002) (by decide)
      simp only [cond_true]
      refine ⟨by simp [h.size], h.small, fun t u hu => ?_, fun t ht => ?_, h.defers, h.marks⟩
      · rw [Tr.get_set _ _ _ _ _ hb]
        by_cases e : t = d
        · subst e
          rw [if_pos rfl]
          have : t < a.tmps.size := by rw [h.size]; exact hlt
          simp [this] at hu
          subst hu
          exact hv
        · rw [if_neg e]
          rw [Array.getElem?_setIfInBounds_ne (fun x => e x.symm)] at hu
          exact h.tmp t u hu
      · rw [Tr.get_set _ _ _ _ _ hb, if_neg (by have h9 : fr.n ≤ t := ht; clear ht; omega)]
        exact h.out t ht

end Go.Ev
