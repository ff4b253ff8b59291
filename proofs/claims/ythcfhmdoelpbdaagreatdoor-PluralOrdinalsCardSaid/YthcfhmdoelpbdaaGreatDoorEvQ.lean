/- The evaluator's operations that look into no memory, one by one. -/
import Derived.Test.YthcfhmdoelpbdaaGreatDoorEvP
namespace Go.Ev
set_option linter.unusedVariables false
set_option linter.unusedSimpArgs false
open Go

theorem add_none (b o n : Nat) : (⟨b, o, none⟩ : Addr).add n = ⟨b, o + n, none⟩ := by
  unfold Addr.add
  split
  · rename_i h; subst h; rfl
  · rfl

/-! ### Numbers, strings, comparisons -/

def aintop (op : BinOp) (k : IntKind) (a b : Int) : Option Value :=
  match op with
  | .add => some (.int k (k.wrap (a + b)))
  | .sub => some (.int k (k.wrap (a - b)))
  | .mul => some (.int k (k.wrap (a * b)))
  | .quo => if b = 0 then none else some (.int k (k.wrap (a.tdiv b)))
  | .rem => if b = 0 then none else some (.int k (a.tmod b))
  | .eql => some (.bool (a == b))
  | .neq => some (.bool (a != b))
  | .lss => some (.bool (decide (a < b)))
  | .leq => some (.bool (decide (a ≤ b)))
  | .gtr => some (.bool (decide (a > b)))
  | .geq => some (.bool (decide (a ≥ b)))
  | _ => none

def bytesEq : List UInt8 → List UInt8 → Bool
  | [], [] => true
  | a :: x, b :: y => cond (Nat.beq a.toNat b.toNat) (bytesEq x y) false
  | _, _ => false

theorem bytesEq_eq : ∀ x y : List UInt8, bytesEq x y = (x == y)
  | [], [] => rfl
  | [], _ :: _ => rfl
  | _ :: _, [] => rfl
  | a :: x, b :: y => by
    simp only [bytesEq, List.cons_beq_cons, bytesEq_eq x y]
    cases h : Nat.beq a.toNat b.toNat with
    | true =>
      have e : a = b := UInt8.toNat_inj.1 (Nat.eq_of_beq_eq_true h)
      subst e; simp
    | false =>
      have e : a ≠ b := fun e => Nat.ne_of_beq_eq_false h (by rw [e])
      simp [e]

def astrop (op : BinOp) (s u : ByteArray) : Option Value :=
  match op with
  | .eql => some (.bool (bytesEq s.data.toList u.data.toList))
  | .neq => some (.bool (!bytesEq s.data.toList u.data.toList))
  | .add => cond (Nat.blt (s.data.toList.length + u.data.toList.length) 4611686018427387904) (some (.string ⟨(s.data.toList ++ u.data.toList).toArray⟩)) none
  | _ => none

def aeq (P : Program) (t : TypeId) (a b : Value) : Option Bool :=
  match P.underlying t with
  | some (.pointer e) => match a, b with
    | .pointer none, .pointer (some _) => some false
    | .pointer (some _), .pointer none => some false
    | .pointer (some ⟨b, o, none⟩), .pointer (some ⟨b', o', none⟩) => cond (Nat.beq b b') (match cellsN P e with | some (_ + 1) => some (Nat.beq o o') | _ => none) none
    | _, _ => none
  | some (.slice _) => match a, b with
    | .slice none _ _, .slice (some _) _ _ => some false
    | .slice (some _) _ _, .slice none _ _ => some false
    | _, _ => none
  | some (.map _ _) => match a, b with
    | .map none, .map (some _) => some false
    | .map (some _), .map none => some false
    | _, _ => none
  | some (.func _ _ _) => match a, b with
    | .nilFunc, .func _ _ _ => some false
    | .func _ _ _, .nilFunc => some false
    | _, _ => none
  | some (.interface _) => match a, b with
    | .nilIface, .iface _ _ => some false
    | .iface _ _, .nilIface => some false
    | .iface t _, .iface u _ => cond (Nat.beq t u) none (some false)
    | _, _ => none
  | _ => none

theorem aeq_ok {P : Program} {ρ : Rho} {t : TypeId} {a a' b b' : Value} {r : Bool} (h : aeq P t a b = some r) (ha : VR ρ a a') (hb : VR ρ b b') :
    ∀ w, (Op.equal t a' b').run P w = .ok r w := by
  intro w
  unfold aeq at h
  suffices key : ∀ d, (Op.equalIn (d + 1) t a' b').run P w = .ok r w from key 9999
  intro d
  simp only [Op.equalIn, Sem.run_bind]
  split at h
  · rename_i e hu
    rw [run_underlying hu]
    simp only [Result.andThen_ok]
    split at h
    · cases ha; cases hb; simp at h; subst h; rfl
    · cases ha; cases hb; simp at h; subst h; rfl
    · rename_i b1 o1 b2 o2
      cases ha; cases hb
      cases hbb : Nat.beq b1 b2 with
      | false => simp [hbb] at h
      | true =>
        have e1 := Nat.eq_of_beq_eq_true hbb
        subst e1
        simp only [Nat.beq_refl, cond_true] at h
        split at h
        · rename_i n hn
          simp only [Option.some.injEq] at h
          simp only [Sem.run_bind, run_cellsN hn, Result.andThen_ok]
          rw [if_pos (by simp)]
          simp only [sameAddr, beq_self_eq_true, if_true]
          simp only [Sem.run_pure]
          congr 1
          rw [← h, Bool.eq_iff_iff]
          simp
        · cases h
    · cases h
  · rename_i e hu
    rw [run_underlying hu]
    simp only [Result.andThen_ok]
    split at h
    · cases ha; cases hb <;> (simp at h; subst h; rfl)
    · cases ha <;> cases hb <;> (simp at h; subst h; rfl)
    · cases h
  · rename_i e1 e2 hu
    rw [run_underlying hu]
    simp only [Result.andThen_ok]
    split at h
    · cases ha; cases hb; simp at h; subst h; rfl
    · cases ha; cases hb; simp at h; subst h; rfl
    · cases h
  · rename_i e1 e2 e3 hu
    rw [run_underlying hu]
    simp only [Result.andThen_ok]
    split at h
    · cases ha; cases hb; simp at h; subst h; rfl
    · cases ha; cases hb; simp at h; subst h; rfl
    · cases h
  · rename_i e1 hu
    rw [run_underlying hu]
    simp only [Result.andThen_ok]
    split at h
    · cases ha; cases hb; simp at h; subst h; rfl
    · cases ha; cases hb; simp at h; subst h; rfl
    · rename_i t1 _ t2 _
      cases ha; cases hb
      cases hbb : Nat.beq t1 t2 with
      | true => simp [hbb] at h
      | false =>
        simp only [hbb, cond_false, Option.some.injEq] at h
        subst h
        simp only
        rw [if_pos (Nat.ne_of_beq_eq_false hbb)]
        rfl
    · cases h
  · cases h


/-! ### Two operands -/

def abin (P : Program) (op : BinOp) (t : TypeId) (x y : Operand) (a b : Value) : Option Value :=
  match a, b with
  | .int k m, .int k' n => match aintop op k m n with
    | some r => cond (decide (k = k')) (some r) none
    | none => aflat2 P (fun a b => do eqGuard op t x y a b; binOp op t a b) a b
  | .string s, .string u => match astrop op s u with
    | some r => some r
    | none => aflat2 P (fun a b => do eqGuard op t x y a b; binOp op t a b) a b
  | _, _ => match op with
    | .eql => (match a, b with
      | .nilIface, .nilIface | .agg _, .agg _ => aflat2 P (fun a b => do eqGuard op t x y a b; binOp op t a b) a b
      | _, _ => match aeq P t a b with
        | some r => some (.bool r)
        | none => aflat2 P (fun a b => do eqGuard op t x y a b; binOp op t a b) a b)
    | .neq => (match a, b with
      | .nilIface, .nilIface | .agg _, .agg _ => aflat2 P (fun a b => do eqGuard op t x y a b; binOp op t a b) a b
      | _, _ => match aeq P t a b with
        | some r => some (.bool (!r))
        | none => aflat2 P (fun a b => do eqGuard op t x y a b; binOp op t a b) a b)
    | _ => aflat2 P (fun a b => do eqGuard op t x y a b; binOp op t a b) a b

theorem aintop_ok {P : Program} {op : BinOp} {t : TypeId} {x y : Operand} {k : IntKind} {m n : Int} {r : Value} (h : aintop op k m n = some r) (w : World) :
    (do eqGuard op t x y (.int k m) (.int k n); binOp op t (.int k m) (.int k n) : Sem Value).run P w = .ok r w := by
  cases op <;> simp only [aintop] at h
  case quo =>
    split at h
    · cases h
    · rename_i hn
      simp only [Option.some.injEq] at h
      subst h
      simp [eqGuard, binOp, Op.intDiv, hn]
  case rem =>
    split at h
    · cases h
    · rename_i hn
      simp only [Option.some.injEq] at h
      subst h
      simp [eqGuard, binOp, Op.intDiv, hn]
  all_goals first
    | (cases h; done)
    | (simp only [Option.some.injEq] at h
       subst h
       simp [eqGuard, binOp, Op.intArith, Op.intCmp])

theorem astrop_ok {P : Program} {op : BinOp} {t : TypeId} {x y : Operand} {s u : ByteArray} {r : Value} (h : astrop op s u = some r) (w : World) :
    (do eqGuard op t x y (.string s) (.string u); binOp op t (.string s) (.string u) : Sem Value).run P w = .ok r w := by
  cases op <;> simp only [astrop] at h <;> try (cases h; done)
  case add =>
    cases hb : Nat.blt (s.data.toList.length + u.data.toList.length) 4611686018427387904 with
    | false => rw [hb] at h; cases h
    | true =>
      simp only [hb, cond_true, Option.some.injEq] at h
      subst h
      have hlt := blt_t hb
      have e : s ++ u = ⟨(s.data.toList ++ u.data.toList).toArray⟩ := by
        apply ByteArray.ext
        apply Array.ext'
        simp
      have hs : ¬ (((s.size + u.size : Nat) : Int) > IntKind.i64.max) := by
        have h1 : s.size = s.data.toList.length := by simp
        have h2 : u.size = u.data.toList.length := by simp
        rw [h1, h2]
        have : IntKind.i64.max = 9223372036854775807 := by decide
        rw [this]
        omega
      simp only [eqGuard, binOp, Op.stringOp, Sem.run_bind]
      rw [if_neg hs, e]
      simp
  case eql =>
    simp only [Option.some.injEq] at h
    subst h
    simp [eqGuard, binOp, Op.stringOp, bytesEq_eq, ByteArray.toList_eq]
  case neq =>
    simp only [Option.some.injEq] at h
    subst h
    simp [eqGuard, binOp, Op.stringOp, bytesEq_eq, ByteArray.toList_eq]

def refLike : Value → Bool
  | .pointer _ | .slice _ _ _ | .map _ | .func _ _ _ | .nilFunc | .iface _ _ | .nilIface => true
  | _ => false

def bothNil : Value → Value → Bool
  | .nilIface, .nilIface => true
  | _, _ => false

theorem aeq_ref {P : Program} {t : TypeId} {a b : Value} {r : Bool} (h : aeq P t a b = some r) : refLike a = true ∧ bothNil a b = false := by
  unfold aeq at h
  split at h
  all_goals first
    | (cases h; done)
    | (split at h <;> first | (cases h; done) | exact ⟨rfl, rfl⟩)

theorem VR.refLike {ρ : Rho} {a a' b b' : Value} (ha : VR ρ a a') (hb : VR ρ b b') (h : refLike a = true ∧ bothNil a b = false) : Ev.refLike a' = true ∧ bothNil a' b' = false := by
  obtain ⟨h1, h2⟩ := h
  cases ha <;> simp [Ev.refLike] at h1 <;> refine ⟨rfl, ?_⟩ <;> first | rfl | (cases hb <;> first | rfl | (simp [bothNil] at h2))

theorem run_eql_ref {P : Program} {t : TypeId} {x y : Operand} {a b : Value} {r : Bool} (h : Ev.refLike a = true ∧ bothNil a b = false) (w : World) (he : (Op.equal t a b).run P w = .ok r w) :
    (do eqGuard .eql t x y a b; binOp .eql t a b : Sem Value).run P w = .ok (.bool r) w ∧ (do eqGuard .neq t x y a b; binOp .neq t a b : Sem Value).run P w = .ok (.bool (!r)) w := by
  obtain ⟨h1, h2⟩ := h
  have hg : ∀ op, (eqGuard op t x y a b).run P w = .ok () w := by
    intro op
    unfold eqGuard
    cases a <;> simp [Ev.refLike] at h1
    all_goals first
      | (cases op <;> simp; done)
      | (cases b <;> first | (simp [bothNil] at h2; done) | (cases op <;> simp; done))
  have hb1 : binOp .eql t a b = (do pure (.bool (← Op.equal t a b)) : Sem Value) := by
    cases a <;> simp [Ev.refLike] at h1 <;> rfl
  have hb2 : binOp .neq t a b = (do pure (.bool (!(← Op.equal t a b))) : Sem Value) := by
    cases a <;> simp [Ev.refLike] at h1 <;> rfl
  simp only [Sem.run_bind, hg, Result.andThen_ok, hb1, hb2, he, Sem.run_pure, and_self]

theorem abin_ok {P : Program} {ρ : Rho} {op : BinOp} {t : TypeId} {x y : Operand} {a a' b b' r : Value} (h : abin P op t x y a b = some r) (ha : VR ρ a a') (hb : VR ρ b b') :
    VR ρ r r ∧ ∀ w, (do eqGuard op t x y a' b'; binOp op t a' b' : Sem Value).run P w = .ok r w := by
  have flat : aflat2 P (fun a b => do eqGuard op t x y a b; binOp op t a b) a b = some r → VR ρ r r ∧ ∀ w, (do eqGuard op t x y a' b'; binOp op t a' b' : Sem Value).run P w = .ok r w :=
    fun h => aflat2_ok (s := fun a b => do eqGuard op t x y a b; binOp op t a b) h ha hb
  have eqs : ∀ {q : Bool}, aeq P t a b = some q → ∀ w, _ := fun hq w => run_eql_ref (P := P) (x := x) (y := y) (ha.refLike hb (aeq_ref hq)) w (aeq_ok hq ha hb w)
  unfold abin at h
  split at h
  · rename_i k m k' n
    cases ha; cases hb
    split at h
    · rename_i r' hr
      by_cases hk : k = k'
      · subst hk
        simp only [decide_true, cond_true, Option.some.injEq] at h
        subst h
        refine ⟨?_, fun w => aintop_ok hr w⟩
        cases op <;> simp only [aintop] at hr <;> first
          | (cases hr; done)
          | (cases hr; constructor; done)
          | (split at hr <;> first | (cases hr; done) | (cases hr; constructor; done))
      · simp [hk] at h
    · exact flat h
  · rename_i s u
    cases ha; cases hb
    split at h
    · rename_i r' hr
      simp only [Option.some.injEq] at h
      subst h
      refine ⟨?_, fun w => astrop_ok hr w⟩
      cases op <;> simp only [astrop] at hr <;> first
        | (cases hr; done)
        | (cases hr; constructor; done)
        | (cases hb : Nat.blt (s.data.toList.length + u.data.toList.length) 4611686018427387904 <;> rw [hb] at hr <;> first | (cases hr; done) | (cases hr; constructor; done))
    · exact flat h
  · split at h
    · split at h
      · exact flat h
      · exact flat h
      · split at h
        · rename_i q hq
          simp only [Option.some.injEq] at h
          subst h
          exact ⟨.bool _, fun w => (eqs hq w).1⟩
        · exact flat h
    · split at h
      · exact flat h
      · exact flat h
      · split at h
        · rename_i q hq
          simp only [Option.some.injEq] at h
          subst h
          exact ⟨.bool _, fun w => (eqs hq w).2⟩
        · exact flat h
    · exact flat h

end Go.Ev
