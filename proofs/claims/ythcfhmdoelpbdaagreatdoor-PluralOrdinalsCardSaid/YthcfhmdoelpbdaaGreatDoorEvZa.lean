/- What the evaluator says of code holds of the machine: the parts. -/
import Derived.Test.YthcfhmdoelpbdaaGreatDoorEvZ
namespace Go.Ev
set_option linter.unusedVariables false
set_option linter.unusedSimpArgs false
open Go Go.RowKit

def AEx.toExit : AEx → Exit
  | .normal => .normal
  | .exit id => .exit id
  | .ret => .ret

/-- What is asked of the configuration, and of the worlds in which it is used. -/
structure Ok (C : Cfg) (K : World → Prop) (base : Nat) : Prop where
  mixed : C.P.follows .mixedOrders = true
  keep : ∀ w w', K w → Below base w w' → K w'
  orc : ∀ f args v, C.orc f args = some v → args.all (flat 40) = true ∧ flat 40 v = true ∧ ∀ w, K w → base ≤ w.heap.size → Calls C.P f args.toArray w fun e w' => e = .returned v ∧ Below w.heap.size w w'
  ext : ∀ f args v, C.ext f args = some v → args.all (flat 40) = true ∧ flat 40 v = true ∧ ∀ w, K w → (callFunc f args.toArray).run C.P w = .ok (.value v) w

def fenceOf (ρ : Rho) : Option Nat → Fence
  | none => Fence.wide
  | some l => Fence.wide.inRound (ρ.blk l)

/-- Names that are still free; the barrier is no further than they are. -/
structure Room (H : Heap) (lim : Nat) (ρ : Rho) : Prop where
  free : Free H lim ρ
  le : H.wmin ≤ H.next

theorem Post.room {NG base lim : Nat} {ρ ρ' : Rho} {H H' : Heap} {w w' : World} (p : Post NG base ρ H H' w w' ρ') (f : Room H lim ρ) : Room H' lim ρ' :=
  ⟨p.free f.free, by rw [p.wmin]; exact Nat.le_trans f.le p.next⟩

def SndCode (C : Cfg) (K : World → Prop) (base : Nat) (rd : Option Nat) (c : Code) (fr : AFr) (H : Heap) (r : AEx × AFr × Heap) : Prop :=
  ∀ (ρ : Rho) (a : Act) (w : World) (lim n : Nat), Rel C.NG base ρ H w → K w → FrRel ρ fr a → Room H lim ρ → r.2.2.next < lim → (∀ l, rd = some l → ρ.dom l) →
    c.wpIn (fenceOf ρ rd) n C.P (fun e a' w' => e = r.1.toExit ∧ ∃ ρ', FrRel ρ' r.2.1 a' ∧ Post C.NG base ρ H r.2.2 w w' ρ') a w

def SndSelf (C : Cfg) (K : World → Prop) (base : Nat) (self : Self) : Prop := ∀ rd c fr H r, self rd c fr H = some r → SndCode C K base rd c fr H r

/-- What a call leads to, of whichever kind it is. -/
def InvOk (n : Nat) (P : Program) (R : Value → World → Prop) : Result Next → Prop
  | .ok (.value v) w => R v w
  | .ok (.enter f args) w => CallsIn Fence.wide n P f args w fun e w' => ∃ v, e = .returned v ∧ R v w'
  | .ok (.round l f tmps assign body) w => RoundIn Fence.wide n P l f tmps assign body w fun e w' => ∃ v, e = .returned v ∧ R v w'
  | _ => False

theorem InvOk.mono {n : Nat} {P : Program} {R R' : Value → World → Prop} {r : Result Next} (h : InvOk n P R r) (hr : ∀ v w, R v w → R' v w) : InvOk n P R' r := by
  cases r with
  | halt => exact h
  | ok x w =>
    cases x <;> simp only [InvOk] at h ⊢
    case value => exact hr _ _ h
    case enter => exact CallsIn.mono h fun e w' ⟨v, h1, h2⟩ => ⟨v, h1, hr _ _ h2⟩
    case round => exact RoundIn.mono h fun e w' ⟨v, h1, h2⟩ => ⟨v, h1, hr _ _ h2⟩

/-- The value of a call in a frame: whatever round the frame is of. -/
theorem upon_of_inv {ρ : Rho} {rd : Option Nat} {n : Nat} {P : Program} {o : Oper} {a : Act} {K : Act → World → Prop} {Q : Exit → Act → World → Prop} {R : Value → World → Prop} {r : Result Next} (h : InvOk (n - 1) P R r)
    (hk : ∀ v w, R v w → K (a.put o.dst v) w) : o.uponIn (fenceOf ρ rd) n P a K Q r := by
  have hd : ∀ (x : Prop), ((fenceOf ρ rd).depth.isSome = true → x) := fun x h => by cases rd <;> simp [fenceOf, Fence.wide] at h
  cases r with
  | halt => exact h.elim
  | ok x w =>
    cases x <;> simp only [InvOk] at h
    case value v => exact hk _ _ h
    case enter f args =>
      refine ⟨hd _, ?_⟩
      let RR : Ending → World → Prop := fun e w'' => match e with
        | .returned v => K (a.put o.dst v) w''
        | .panicked chain => Q (.panic chain) a w''
        | .outgrown => LetsOut Q
      have h' : CallsIn Fence.wide (n - 1) P f args w RR := CallsIn.mono h fun e w' ⟨v, h1, h2⟩ => by subst h1; exact hk _ _ h2
      have h2 : CallsIn (fenceOf ρ rd) (n - 1) P f args w RR := by
        cases rd with
        | none => exact h'
        | some l => exact h'
      exact CallsIn.mono h2 fun e w' he => by cases e <;> exact he
    case round l f tmps assign body =>
      refine ⟨hd _, ?_⟩
      let RR : Ending → World → Prop := fun e w'' => match e with
        | .returned v => K (a.put o.dst v) w''
        | .panicked chain => Q (.panic chain) a w''
        | .outgrown => LetsOut Q
      have h' : RoundIn Fence.wide (n - 1) P l f tmps assign body w RR := RoundIn.mono h fun e w' ⟨v, h1, h2⟩ => by subst h1; exact hk _ _ h2
      have h2 : RoundIn (fenceOf ρ rd) (n - 1) P l f tmps assign body w RR := by
        cases rd with
        | none => exact h'
        | some l => exact h'
      exact RoundIn.mono h2 fun e w' he => by cases e <;> exact he

theorem fenceOf_fn (ρ : Rho) (rd : Option Nat) (f : FuncId) : (fenceOf ρ rd).fn f := by cases rd <;> trivial

theorem fenceOf_ext {ρ ρ' : Rho} (e : Ext ρ ρ') {rd : Option Nat} (h : ∀ l, rd = some l → ρ.dom l) : fenceOf ρ' rd = fenceOf ρ rd := by
  cases rd with
  | none => rfl
  | some l => simp only [fenceOf, e.blk l (h l rfl)]

/-! ### Frames at the start of a call -/

theorem ofList_get : ∀ (l : List Value) (i : Nat) (t : Tr) (j : Nat), i + l.length + 1 < 2 ^ 20 → (Tr.ofList i l t).get j = if i ≤ j then (match l[j - i]? with | some v => v | none => t.get j) else t.get j := by
  intro l
  induction l with
  | nil => intro i t j _; simp [Tr.ofList]
  | cons v r ih =>
    intro i t j h
    simp only [List.length_cons] at h
    simp only [Tr.ofList]
    rw [ih (i + 1) _ j (by omega), Tr.get_set _ _ _ _ _ (by omega)]
    by_cases h1 : i + 1 ≤ j
    · have e1 : i ≤ j := by omega
      have e2 : ¬ j = i := by omega
      rw [if_pos h1, if_neg e2, if_pos e1, show j - i = (j - (i + 1)) + 1 by omega, List.getElem?_cons_succ]
    · rw [if_neg h1]
      by_cases h2 : j = i
      · subst h2
        rw [if_pos rfl, if_pos (Nat.le_refl _)]
        simp
      · rw [if_neg h2, if_neg (by omega)]

theorem frame_start {ρ : Rho} {args : List Value} {args' : Array Value} {n : Nat} (hv : VRs ρ args args'.toList) (hn : n ≤ 100000) (ha : args.length ≤ 1000) :
    FrRel ρ ⟨Tr.ofList 0 args .nil, args.length + (n - args.length), []⟩ { tmps := args' ++ Array.replicate (n - args'.size) undef, defers := [] } := by
  have hl : args'.size = args.length := by have := hv.1; simpa using this.symm
  have hg : ∀ j, (Tr.ofList 0 args .nil).get j = match args[j]? with | some v => v | none => undef := by
    intro j
    rw [ofList_get args 0 .nil j (by have : (2 : Nat) ^ 20 = 1048576 := rfl; omega), if_pos (Nat.zero_le _), Nat.sub_zero]
    rfl
  refine ⟨by simp [hl], by show args.length + (n - args.length) ≤ 1000000; omega, fun t v' ht => ?_, fun t ht => ?_, rfl, by simp⟩
  · show VR ρ ((Tr.ofList 0 args .nil).get t) v'
    rw [hg t]
    by_cases h1 : t < args.length
    · rw [List.getElem?_eq_getElem h1]
      have h2 : args'.toList[t]? = some v' := by
        rw [Array.getElem?_append_left (by omega)] at ht
        simpa using ht
      exact hv.2 t _ v' (List.getElem?_eq_getElem h1) h2
    · rw [List.getElem?_eq_none (by omega)]
      rw [Array.getElem?_append_right (by omega)] at ht
      rw [Array.getElem?_replicate] at ht
      split at ht
      · cases ht; exact VR.undef ρ
      · cases ht
  · have ht' : args.length + (n - args.length) ≤ t := ht
    show (Tr.ofList 0 args .nil).get t = undef
    rw [hg t, List.getElem?_eq_none (by omega)]

/-! ### What a function hands back -/

def resFn (tmps : Array Value) : ResultVar → Sem Value
  | .tmp t => pure (tmps.getD t undef)
  | .cell x t => do loadVar t (← asAddr (tmps.getD x undef))

theorem results_eq (fn : Func) (tmps : Array Value) : results fn tmps = (do
    let vs ← fn.results.mapM (resFn tmps)
    pure (if h : vs.size = 1 then vs[0] else .tuple vs)) := by
  unfold results
  congr 1

theorem ares_ok {C : Cfg} {base : Nat} {ρ : Rho} {fr : AFr} {a : Act} {H : Heap} {w : World} (hr : Rel C.NG base ρ H w) (hf : FrRel ρ fr a) : ∀ {rs : List ResultVar} {l : List Value}, ares C fr H rs = some l →
    ∃ l', VRs ρ l l' ∧ (rs.mapM (resFn a.tmps)).run C.P w = .ok l' w := by
  intro rs
  induction rs with
  | nil => intro l h; simp only [ares, Option.some.injEq] at h; subst h; exact ⟨[], VRs.nil ρ, rfl⟩
  | cons r rest ih =>
    intro l h
    cases r with
    | tmp t =>
      simp only [ares] at h
      split at h
      · rename_i l2 h2
        simp only [Option.some.injEq] at h
        subst h
        obtain ⟨l', q1, q2⟩ := ih h2
        refine ⟨a.tmps.getD t undef :: l', VRs.cons (hf.get t) q1, ?_⟩
        simp only [List.mapM_cons, resFn, Sem.run_bind, Sem.run_pure, Result.andThen_ok, q2]
      · cases h
    | cell x t =>
      simp only [ares] at h
      split at h
      · rename_i v l2 hv h2
        simp only [Option.some.injEq] at h
        subst h
        obtain ⟨l', q1, q2⟩ := ih h2
        obtain ⟨v', r1, r2⟩ := aload_ok (P := C.P) hr hv (hf.get x)
        refine ⟨v' :: l', VRs.cons r1 q1, ?_⟩
        have hp : ∃ ad, a.tmps.getD x undef = .pointer (some ad) := by
          have hg := hf.get x
          unfold aload at hv
          split at hv
          · rename_i b o he
            rw [he] at hg
            exact ⟨_, hg.ptr_inv.1⟩
          · cases hv
        obtain ⟨ad, had⟩ := hp
        rw [had] at r2
        have hld : (loadVar t ad).run C.P w = .ok v' w := by
          have := r2
          simp only [Instr.loadAt, Instr.sureAddr, Sem.run_bind, Sem.run_pure, Result.andThen_ok] at this
          exact this
        have has : (resFn a.tmps (.cell x t)).run C.P w = .ok v' w := by
          simp only [resFn, had, asAddr, Sem.run_bind, Sem.run_pure, Result.andThen_ok, hld]
        simp only [List.mapM_cons, Sem.run_bind, Sem.run_pure, Result.andThen_ok, has, q2]
      · cases h

theorem aone_vr {ρ : Rho} {l l' : List Value} (h : VRs ρ l l') : VR ρ (aone l) (if h : l'.toArray.size = 1 then l'.toArray[0] else .tuple l'.toArray) := by
  cases l with
  | nil =>
    have := h.nil_inv
    subst this
    exact VR.tuple' (VRs.nil ρ)
  | cons x r =>
    obtain ⟨y, s, rfl, h1, h2⟩ := h.cons_inv
    cases r with
    | nil =>
      have := h2.nil_inv
      subst this
      simpa [aone] using h1
    | cons z t =>
      obtain ⟨u, v, rfl, h3, h4⟩ := h2.cons_inv
      have hne : ¬ ((y :: u :: v).toArray.size = 1) := by simp
      rw [dif_neg hne]
      exact VR.tuple' (by simpa [aone] using h)

theorem results_ok {C : Cfg} {base : Nat} {ρ : Rho} {fr : AFr} {a : Act} {H : Heap} {w : World} {fn : Func} {l : List Value} (hr : Rel C.NG base ρ H w) (hf : FrRel ρ fr a) (h : ares C fr H fn.results.toList = some l) :
    ∃ v', VR ρ (aone l) v' ∧ (results fn a.tmps).run C.P w = .ok v' w := by
  obtain ⟨l', h1, h2⟩ := ares_ok hr hf h
  refine ⟨_, aone_vr h1, ?_⟩
  rw [results_eq, Array.mapM_eq_mapM_toList]
  simp only [map_eq_pure_bind, Sem.run_bind, h2, Result.andThen_ok, Sem.run_pure]

end Go.Ev
