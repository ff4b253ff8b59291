/- The evaluator's operations that look into no memory, all of them together. -/
import Derived.Test.YthcfhmdoelpbdaaGreatDoorEvR
namespace Go.Ev
set_option linter.unusedVariables false
set_option linter.unusedSimpArgs false
open Go

def bext (s : ByteArray) (l h : Nat) : ByteArray := ⟨((s.data.toList.drop l).take (h - l)).toArray⟩

theorem bext_eq (s : ByteArray) (l h : Nat) : s.extract l h = bext s l h := by
  apply ByteArray.ext
  apply Array.ext'
  simp [bext, List.extract_eq_take_drop]

theorem byte_get (s : ByteArray) (m : Nat) : (s[m]? : Option UInt8) = s.data.toList[m]? := by
  by_cases h : m < s.size
  · have h' : m < s.data.toList.length := by simpa using h
    rw [getElem?_pos s m h, List.getElem?_eq_getElem h']
    rfl
  · have h' : ¬ m < s.data.toList.length := by simpa using h
    rw [getElem?_neg s m h, List.getElem?_eq_none (by omega)]

def aindex (P : Program) (t : TypeId) (x i : Value) : Option Value :=
  match i with
  | .int _ (.ofNat m) => match P.underlying t, x with
    | some (.array len e), .agg cs => match cellsN P e with
      | some s => cond (Nat.blt m len) (apart P e cs.toList (m * s)) none
      | none => none
    | some .string, .string s => match s.data.toList[m]? with
      | some b => some (.int .u8 b.toNat)
      | none => none
    | _, _ => none
  | _ => none

theorem aindex_ok {P : Program} {ρ : Rho} {t : TypeId} {x x' i i' v : Value} (h : aindex P t x i = some v) (hx : VR ρ x x') (hi : VR ρ i i') :
    ∃ v', VR ρ v v' ∧ ∀ w, (Instr.index t x' i').run P w = .ok v' w := by
  unfold aindex at h
  split at h
  · rename_i k m
    cases hi
    split at h
    · rename_i len e cs hu
      obtain ⟨cs', rfl, hcs⟩ := hx.agg_inv
      split at h
      · rename_i s hs
        cases hb : Nat.blt m len with
        | false => simp [hb] at h
        | true =>
          simp only [hb, cond_true] at h
          have hlt := blt_t hb
          obtain ⟨v', hv, hr⟩ := apart_ok h hcs
          refine ⟨v', hv, fun w => ?_⟩
          have hc : (0 : Int) ≤ (m : Int) ∧ (m : Int) < (len : Int) := by omega
          simp [Instr.index, asIntOf, run_underlying hu, run_cellsN hs, hc]
          first | exact hr w | (split <;> first | exact hr w | omega)
      · cases h
    · rename_i s hu
      cases hx
      split at h
      · rename_i b hb
        simp only [Option.some.injEq] at h
        subst h
        refine ⟨_, .int _ _, fun w => ?_⟩
        have hs : (s[m]? : Option UInt8) = some b := by rw [byte_get]; exact hb
        simp [Instr.index, asIntOf, run_underlying hu, hs]
      · cases h
    · cases h
  · cases h

def abnd (v : Option Value) (d y : Nat) : Option Nat :=
  match v with
  | none => cond (Nat.ble d y) (some d) none
  | some (.int _ (.ofNat m)) => cond (Nat.ble m y) (some m) none
  | _ => none

def OptR (ρ : Rho) : Option Value → Option Value → Prop
  | none, none => True
  | some x, some y => VR ρ x y
  | _, _ => False

theorem abnd_some {P : Program} {ρ : Rho} {v v' : Value} {d y y' m : Nat} (h : abnd (some v) d y = some m) (hv : VR ρ v v') (hy : y ≤ y') (code : BoundsCode) :
    m ≤ y ∧ ∀ w, (Instr.sliceBound v' y' code).run P w = .ok m w := by
  unfold abnd at h
  split at h
  · rename_i he; cases he
  · rename_i k n he
    cases he
    cases hv
    cases hb : Nat.ble n y with
    | false => simp [hb] at h
    | true =>
      simp only [hb, cond_true, Option.some.injEq] at h
      subst h
      have hle := Nat.le_of_ble_eq_true hb
      refine ⟨hle, fun w => ?_⟩
      have hc : (0 : Int) ≤ (n : Int) ∧ (n : Int) ≤ (y' : Int) := by omega
      simp [Instr.sliceBound, asIntOf]
      omega
  · cases h

/-- Bounds of a slice expression without a third one. -/
theorem abnds_ok {P : Program} {ρ : Rho} {lo lo' hi hi' : Option Value} {isS : Bool} {n c c' h l : Nat} (hh : abnd hi n c = some h) (hl : abnd lo 0 h = some l) (hhi : OptR ρ hi hi') (hlo : OptR ρ lo lo') (hc : c ≤ c') :
    (l ≤ h ∧ h ≤ c) ∧ ∀ w, (Instr.sliceBounds isS n c' lo' hi' none).run P w = .ok (l, h, c') w := by
  have H : h ≤ c ∧ ∀ w, (match hi', (none : Option Value) with
      | some v, some _ => Instr.sliceBound v c' .slice3B
      | some v, none => Instr.sliceBound v c' (if isS then .sliceAcap else .sliceAlen)
      | none, none => pure n
      | none, some _ => stuck "Slice: max without high" : Sem Nat).run P w = .ok h w := by
    cases hi with
    | none =>
      cases hi' with
      | none =>
        unfold abnd at hh
        simp only at hh
        cases hb : Nat.ble n c with
        | false => simp [hb] at hh
        | true =>
          simp only [hb, cond_true, Option.some.injEq] at hh
          subst hh
          exact ⟨Nat.le_of_ble_eq_true hb, fun w => rfl⟩
      | some => exact hhi.elim
    | some v =>
      cases hi' with
      | none => exact hhi.elim
      | some v' =>
        obtain ⟨h1, h2⟩ := abnd_some (P := P) hh hhi hc (if isS then .sliceAcap else .sliceAlen)
        exact ⟨h1, h2⟩
  have L : l ≤ h ∧ ∀ w, (match lo' with
      | some v => Instr.sliceBound v h (if (none : Option Value).isSome then .slice3C else .sliceB)
      | none => pure 0 : Sem Nat).run P w = .ok l w := by
    cases lo with
    | none =>
      cases lo' with
      | none =>
        unfold abnd at hl
        simp only at hl
        simp [Nat.ble] at hl
        subst hl
        exact ⟨Nat.zero_le _, fun w => rfl⟩
      | some => exact hlo.elim
    | some v =>
      cases lo' with
      | none => exact hlo.elim
      | some v' =>
        obtain ⟨h1, h2⟩ := abnd_some (P := P) hl hlo (Nat.le_refl h) (if (none : Option Value).isSome then .slice3C else .sliceB)
        exact ⟨h1, h2⟩
  refine ⟨⟨L.1, H.1⟩, fun w => ?_⟩
  have H2 := H.2 w
  have L2 := L.2 w
  cases hi' <;> cases lo' <;> simp only at H2 L2
  all_goals
    simp only [Instr.sliceBounds, Sem.run_bind, Sem.run_pure, Result.andThen_ok]
    try rw [H2]
    try simp only [Result.andThen_ok]
    try simp only [Sem.run_pure, Result.ok.injEq] at H2
    try rw [H2.1]
    try rw [L2]
    try simp only [Sem.run_pure, Result.ok.injEq] at L2
    try simp only [Result.andThen_ok]
    try rw [L2.1]

def astrSlice (P : Program) (t : TypeId) (x : Value) (lo hi : Option Value) : Option Value :=
  match P.underlying t, x with
  | some .string, .string s => match abnd hi s.data.toList.length s.data.toList.length with
    | some h => match abnd lo 0 h with
      | some l => some (.string (bext s l h))
      | none => none
    | none => none
  | _, _ => none

theorem astrSlice_ok {P : Program} {ρ : Rho} {t : TypeId} {x x' v : Value} {lo lo' hi hi' : Option Value} (h : astrSlice P t x lo hi = some v) (hx : VR ρ x x') (hlo : OptR ρ lo lo') (hhi : OptR ρ hi hi') :
    ∃ v', VR ρ v v' ∧ ∀ w, (Instr.sliceAt t x' lo' hi' none).run P w = .ok v' w := by
  unfold astrSlice at h
  split at h
  · rename_i s hu
    cases hx
    split at h
    · rename_i hb hhb
      split at h
      · rename_i lb hlb
        simp only [Option.some.injEq] at h
        subst h
        obtain ⟨_, hr⟩ := abnds_ok (P := P) (isS := false) hhb hlb hhi hlo (Nat.le_refl _)
        refine ⟨_, .string _, fun w => ?_⟩
        have hs : s.data.toList.length = s.size := by simp
        rw [hs] at hr
        simp only [Instr.sliceAt, Sem.run_bind, run_underlying hu, Result.andThen_ok, Instr.slice, Option.isSome_none, Bool.false_eq_true, if_false, hr w, Sem.run_pure, bext_eq]
      · cases h
    · cases h
  · cases h

def alen (P : Program) (t : TypeId) (x : Value) : Option Value :=
  match P.underlying t, x with
  | some .string, .string s => some (.int .i64 s.data.toList.length)
  | some (.slice _), .slice _ n _ => some (.int .i64 n)
  | some (.array n _), _ => some (.int .i64 n)
  | _, _ => none

theorem alen_ok {P : Program} {ρ : Rho} {t ty : TypeId} {x x' v : Value} {ts : Array TypeId} (h : alen P t x = some v) (hx : VR ρ x x') (ht : ts[0]? = some t) :
    VR ρ v v ∧ ∀ w, (Builtin.len_ ts ty #[x']).run P w = .ok v w := by
  unfold alen at h
  split at h
  · rename_i s hu
    cases hx
    simp only [Option.some.injEq] at h
    subst h
    exact ⟨.int _ _, fun w => by simp [Builtin.len_, ht, run_underlying hu, goInt]⟩
  · rename_i e a n c hu
    simp only [Option.some.injEq] at h
    subst h
    refine ⟨.int _ _, fun w => ?_⟩
    cases hx <;> simp [Builtin.len_, ht, run_underlying hu, goInt]
  · rename_i n e hu
    simp only [Option.some.injEq] at h
    subst h
    exact ⟨.int _ _, fun w => by simp [Builtin.len_, ht, run_underlying hu, goInt]⟩
  · cases h

/-- What an evaluation of operands says is what the frame holds. -/
def EvR (ρ : Rho) (ev : Operand → Option Value) (a : Act) : Prop := ∀ x v, ev x = some v → VR ρ v (a.eval x)

def evL (ev : Operand → Option Value) : List Operand → Option (List Value)
  | [] => some []
  | x :: r => match ev x, evL ev r with
    | some v, some l => some (v :: l)
    | _, _ => none

theorem evL_ok {ρ : Rho} {ev : Operand → Option Value} {a : Act} (hev : EvR ρ ev a) : ∀ {xs : List Operand} {vs : List Value}, evL ev xs = some vs → VRs ρ vs (xs.map a.eval) := by
  intro xs
  induction xs with
  | nil => intro vs h; simp only [evL, Option.some.injEq] at h; subst h; exact VRs.nil ρ
  | cons x r ih =>
    intro vs h
    simp only [evL] at h
    split at h
    · rename_i v l hv hl
      simp only [Option.some.injEq] at h
      subst h
      exact VRs.cons (hev _ _ hv) (ih hl)
    · cases h

def evParts (ev : Operand → Option Value) : List (Nat × Operand) → Option (List (Nat × Value))
  | [] => some []
  | (i, x) :: r => match ev x, evParts ev r with
    | some v, some l => some ((i, v) :: l)
    | _, _ => none

theorem evParts_ok {ρ : Rho} {ev : Operand → Option Value} {a : Act} (hev : EvR ρ ev a) : ∀ {xs : List (Nat × Operand)} {vs : List (Nat × Value)}, evParts ev xs = some vs →
    PartsR ρ vs (xs.map fun (i, x) => (i, a.eval x)) := by
  intro xs
  induction xs with
  | nil => intro vs h; simp only [evParts, Option.some.injEq] at h; subst h; trivial
  | cons x r ih =>
    obtain ⟨i, x⟩ := x
    intro vs h
    simp only [evParts] at h
    split at h
    · rename_i v l hv hl
      simp only [Option.some.injEq] at h
      subst h
      exact ⟨rfl, hev _ _ hv, ih hl⟩
    · cases h

def evO (ev : Operand → Option Value) : Option Operand → Option (Option Value)
  | none => some none
  | some x => match ev x with
    | some v => some (some v)
    | none => none

theorem evO_ok {ρ : Rho} {ev : Operand → Option Value} {a : Act} (hev : EvR ρ ev a) {x : Option Operand} {v : Option Value} (h : evO ev x = some v) : OptR ρ v (x.map a.eval) := by
  cases x with
  | none => simp only [evO, Option.some.injEq] at h; subst h; trivial
  | some x =>
    simp only [evO] at h
    split at h
    · rename_i u hu; simp only [Option.some.injEq] at h; subst h; exact hev _ _ hu
    · cases h

def anil : Value → Bool
  | .pointer (some _) | .func (.func _) _ _ | .func (.yield _) _ _ | .iface _ _ => true
  | _ => false

def isYield : Fn → Bool
  | .yield _ => true
  | _ => false

def abuiltin (P : Program) (b : Builtin) (ts : List TypeId) (vs : List Value) : Option Value :=
  match b, ts, vs with
  | .len, t :: _, [x] => alen P t x
  | .min, _, [x, y] => aflat2 P Builtin.min2 x y
  | .max, _, [x, y] => aflat2 P Builtin.max2 x y
  | _, _, _ => none

theorem abuiltin_cases {P : Program} {b : Builtin} {ts : List TypeId} {vs : List Value} {v : Value} (h : abuiltin P b ts vs = some v) :
    (b = .len ∧ ∃ t r x, ts = t :: r ∧ vs = [x] ∧ alen P t x = some v) ∨ (b = .min ∧ ∃ x y, vs = [x, y] ∧ aflat2 P Builtin.min2 x y = some v) ∨
    (b = .max ∧ ∃ x y, vs = [x, y] ∧ aflat2 P Builtin.max2 x y = some v) := by
  unfold abuiltin at h
  split at h
  · exact .inl ⟨rfl, _, _, _, rfl, rfl, h⟩
  · exact .inr (.inl ⟨rfl, _, _, rfl, h⟩)
  · exact .inr (.inr ⟨rfl, _, _, rfl, h⟩)
  · cases h

/-- An operation that looks into no memory. -/
def apure (P : Program) (ev : Operand → Option Value) (op : Op) : Option Value :=
  match op with
  | .move x => ev x
  | .assign x => ev x
  | .pick c x y => match ev c with
    | some (.bool true) => ev x
    | some (.bool false) => ev y
    | _ => none
  | .build t parts => match evParts ev parts.toList with
    | some ps => abuild P t ps
    | none => none
  | .nilCheck x => match ev x with
    | some v => cond (anil v) (some v) none
    | none => none
  | .binOp op t x y _ => match ev x, ev y with
    | some a, some b => abin P op t x y a b
    | _, _ => none
  | .unOp op _ x => match ev x with
    | some a => aflat1 P (Op.unary op) a
    | none => none
  | .convert s d x => match ev x with
    | some a => aflat1 P (convert s d) a
    | none => none
  | .makeInterface t x => match ev x, P.underlying t with
    | some _, some (.interface _) => none
    | some a, some _ => some (.iface t a)
    | _, _ => none
  | .makeFunc fn first captured => match evL ev first.toList, evL ev captured.toList with
    | some p, some q => cond (isYield fn) none (some (.func fn p.toArray q.toArray))
    | _, _ => none
  | .slice t x lo hi none => match ev x, evO ev lo, evO ev hi with
    | some a, some l, some h => astrSlice P t a l h
    | _, _, _ => none
  | .fieldAddr t x f => match ev x with
    | some a => afieldAddr P t a f
    | none => none
  | .field t x f => match ev x with
    | some a => afield P t a f
    | none => none
  | .indexAddr t x i => match ev x, ev i with
    | some a, some b => aindexAddr P t a b
    | _, _ => none
  | .index t x i => match ev x, ev i with
    | some a, some b => aindex P t a b
    | _, _ => none
  | .extract x i => match ev x with
    | some (.tuple vs) => vs.toList[i]?
    | _ => none
  | .call c => match c.callee with
    | .builtin b => match evL ev c.args.toList with
      | some vs => abuiltin P b c.argTypes.toList vs
      | none => none
    | _ => none
  | _ => none

theorem apure_ok {P : Program} {ρ : Rho} {ev : Operand → Option Value} {a : Act} {o : Oper} {v : Value} (hev : EvR ρ ev a) (h : apure P ev o.op = some v) :
    (∀ c, o.op ≠ .defer c) ∧ ∃ v', VR ρ v v' ∧ ∀ w, (execOp a.eval o).run P w = .ok (.value v') w := by
  obtain ⟨dst, op, type, pos, after, guard⟩ := o
  simp only at h
  cases op <;> simp only [apure] at h <;> try (cases h; done)
  case move x => exact ⟨by simp, a.eval x, hev _ _ h, fun w => rfl⟩
  case assign x => exact ⟨by simp, a.eval x, hev _ _ h, fun w => rfl⟩
  case pick c x y =>
    refine ⟨by simp, ?_⟩
    split at h
    · rename_i hc
      have := hev _ _ hc
      refine ⟨a.eval x, hev _ _ h, fun w => ?_⟩
      cases hcc : a.eval c <;> rw [hcc] at this <;> cases this
      simp [execOp, hcc, asBool]
    · rename_i hc
      have := hev _ _ hc
      refine ⟨a.eval y, hev _ _ h, fun w => ?_⟩
      cases hcc : a.eval c <;> rw [hcc] at this <;> cases this
      simp [execOp, hcc, asBool]
    · cases h
  case build t parts =>
    refine ⟨by simp, ?_⟩
    split at h
    · rename_i ps hps
      have hp := evParts_ok hev hps
      obtain ⟨v', h1, h2⟩ := abuild_ok (ps' := parts.map fun (i, x) => (i, a.eval x)) h (by simpa using hp)
      exact ⟨v', h1, fun w => by simp only [execOp, Sem.run_bind, h2 w, Result.andThen_ok, Sem.run_pure]⟩
    · cases h
  case nilCheck x =>
    refine ⟨by simp, ?_⟩
    split at h
    · rename_i u hu
      cases hn : anil u with
      | false => simp [hn] at h
      | true =>
        simp only [hn, cond_true, Option.some.injEq] at h
        subst h
        have hv := hev _ _ hu
        refine ⟨a.eval x, hv, fun w => ?_⟩
        simp only [execOp]
        generalize a.eval x = y at hv
        cases hv <;> simp [anil] at hn
        · rfl
        · rename_i fn fn' _ _ _ _ hfn _ _ _ _
          cases hfn with
          | same fn hy => cases fn <;> simp at hn <;> rfl
          | yield l hl => rfl
        · rfl
    · cases h
  case binOp op t x y yt =>
    refine ⟨by simp, ?_⟩
    split at h
    · rename_i u w hu hw
      obtain ⟨h1, h2⟩ := abin_ok h (hev _ _ hu) (hev _ _ hw)
      refine ⟨v, h1, fun W => ?_⟩
      have := h2 W
      simp only [execOp]
      rw [Sem.run_bind, this]
      rfl
    · cases h
  case unOp op t x =>
    refine ⟨by simp, ?_⟩
    split at h
    · rename_i u hu
      obtain ⟨h1, h2⟩ := aflat1_ok h (hev _ _ hu)
      exact ⟨v, h1, fun w => by simp only [execOp, Sem.run_bind, h2 w, Result.andThen_ok, Sem.run_pure]⟩
    · cases h
  case convert s d x =>
    refine ⟨by simp, ?_⟩
    split at h
    · rename_i u hu
      obtain ⟨h1, h2⟩ := aflat1_ok h (hev _ _ hu)
      exact ⟨v, h1, fun w => by simp only [execOp, Sem.run_bind, h2 w, Result.andThen_ok, Sem.run_pure]⟩
    · cases h
  case makeInterface t x =>
    refine ⟨by simp, ?_⟩
    split at h
    · cases h
    · rename_i u d hno hu hd
      simp only [Option.some.injEq] at h
      subst h
      refine ⟨.iface t (a.eval x), .iface _ _ _ (hev _ _ hu), fun w => ?_⟩
      simp only [execOp, Sem.run_bind, Instr.makeInterface, run_underlying hd, Result.andThen_ok]
      cases d <;> first | rfl | (exact absurd rfl (hno _ _ hu (by rw [hd])))
    · cases h
  case makeFunc fn first captured =>
    refine ⟨by simp, ?_⟩
    split at h
    · rename_i p q hp hq
      cases hy : isYield fn with
      | true => simp [hy] at h
      | false =>
        simp only [hy, cond_false, Option.some.injEq] at h
        subst h
        have h1 := evL_ok hev hp
        have h2 := evL_ok hev hq
        refine ⟨.func fn (first.map a.eval) (captured.map a.eval), ?_, fun w => rfl⟩
        have a1 := arr_of_vrs (a := p.toArray) (b := first.map a.eval) (by simpa using h1)
        have a2 := arr_of_vrs (a := q.toArray) (b := captured.map a.eval) (by simpa using h2)
        exact .func _ _ _ _ _ _ (.same fn fun l e => by subst e; simp [isYield] at hy) a1.1 a1.2 a2.1 a2.2
    · cases h
  case slice t x lo hi mx =>
    refine ⟨by simp, ?_⟩
    cases mx with
    | some => cases h
    | none =>
      simp only at h
      split at h
      · rename_i u l hh hu hl hhi
        obtain ⟨v', h1, h2⟩ := astrSlice_ok h (hev _ _ hu) (evO_ok hev hl) (evO_ok hev hhi)
        exact ⟨v', h1, fun w => by simp only [execOp, Option.map_none, Sem.run_bind, h2 w, Result.andThen_ok, Sem.run_pure]⟩
      · cases h
  case fieldAddr t x f =>
    refine ⟨by simp, ?_⟩
    split at h
    · rename_i u hu
      obtain ⟨v', h1, h2⟩ := afieldAddr_ok h (hev _ _ hu)
      exact ⟨v', h1, fun w => by simp only [execOp, Sem.run_bind, h2 w, Result.andThen_ok, Sem.run_pure]⟩
    · cases h
  case field t x f =>
    refine ⟨by simp, ?_⟩
    split at h
    · rename_i u hu
      obtain ⟨v', h1, h2⟩ := afield_ok h (hev _ _ hu)
      exact ⟨v', h1, fun w => by simp only [execOp, Sem.run_bind, h2 w, Result.andThen_ok, Sem.run_pure]⟩
    · cases h
  case indexAddr t x i =>
    refine ⟨by simp, ?_⟩
    split at h
    · rename_i u k hu hk
      obtain ⟨v', h1, h2⟩ := aindexAddr_ok h (hev _ _ hu) (hev _ _ hk)
      exact ⟨v', h1, fun w => by simp only [execOp, Sem.run_bind, h2 w, Result.andThen_ok, Sem.run_pure]⟩
    · cases h
  case index t x i =>
    refine ⟨by simp, ?_⟩
    split at h
    · rename_i u k hu hk
      obtain ⟨v', h1, h2⟩ := aindex_ok h (hev _ _ hu) (hev _ _ hk)
      exact ⟨v', h1, fun w => by simp only [execOp, Sem.run_bind, h2 w, Result.andThen_ok, Sem.run_pure]⟩
    · cases h
  case extract x i =>
    refine ⟨by simp, ?_⟩
    split at h
    · rename_i vs hu
      have hv := hev _ _ hu
      obtain ⟨b, hb, hvs⟩ := hv.tuple_inv
      obtain ⟨y, hy, hr⟩ := hvs.get h
      refine ⟨y, hr, fun w => ?_⟩
      have hy' : b[i]? = some y := by simpa using hy
      simp [execOp, hb, Instr.extract, hy']
    · cases h
  case call c =>
    refine ⟨by simp, ?_⟩
    obtain ⟨callee, args, argTypes⟩ := c
    cases callee with
    | value f => simp at h
    | invoke r m => simp at h
    | builtin b =>
      simp only at h
      split at h
      · rename_i vs hvs
        have hv := evL_ok hev hvs
        have two : ∀ {x y : Value}, vs = [x, y] → ∃ x' y', (args.map a.eval) = #[x', y'] ∧ VR ρ x x' ∧ VR ρ y y' := by
          intro x y e
          subst e
          obtain ⟨x', r, e1, h1, h2⟩ := hv.cons_inv
          obtain ⟨y', r', rfl, h3, h4⟩ := h2.cons_inv
          have := h4.nil_inv
          subst this
          exact ⟨x', y', by apply Array.ext'; simpa using e1, h1, h3⟩
        have hc := abuiltin_cases h
        clear h
        rcases hc with ⟨rfl, t, r, x, hts, rfl, h⟩ | ⟨rfl, x, y, e, h⟩ | ⟨rfl, x, y, e, h⟩
        · have hargs : ∃ x', (args.map a.eval) = #[x'] ∧ VR ρ x x' := by
            obtain ⟨y, r, e1, h1, h2⟩ := hv.cons_inv
            have := h2.nil_inv
            subst this
            exact ⟨y, by apply Array.ext'; simpa using e1, h1⟩
          obtain ⟨x', he, hx⟩ := hargs
          have ht : argTypes[0]? = some t := by
            have : argTypes.toList[0]? = some t := by rw [hts]; rfl
            simpa using this
          obtain ⟨h1, h2⟩ := alen_ok (ty := type) (ts := argTypes) h hx ht
          exact ⟨v, h1, fun w => by simp [execOp, resolve, invoke, builtin, he, h2 w]⟩
        · obtain ⟨x', y', he, hx, hy⟩ := two e
          obtain ⟨h1, h2⟩ := aflat2_ok h hx hy
          exact ⟨v, h1, fun w => by simp [execOp, resolve, invoke, builtin, he, Builtin.min_, h2 w]⟩
        · obtain ⟨x', y', he, hx, hy⟩ := two e
          obtain ⟨h1, h2⟩ := aflat2_ok h hx hy
          exact ⟨v, h1, fun w => by simp [execOp, resolve, invoke, builtin, he, Builtin.max_, h2 w]⟩
      · cases h

end Go.Ev
