/- The evaluator's operations that look into no memory. -/
import Derived.Test.YthcfhmdoelpbdaaGreatDoorEvB
import Derived.Laws.Cells
import Derived.Laws.IdiomCopy
import Derived.ChangeKeysEq
import Derived.Laws.Strings
namespace Go.Ev
set_option linter.unusedVariables false
set_option linter.unusedSimpArgs false
open Go

/-! ### Lists of values -/

def VRs (ρ : Rho) (l l' : List Value) : Prop := l.length = l'.length ∧ ∀ (i : Nat) x y, l[i]? = some x → l'[i]? = some y → VR ρ x y

theorem VRs.nil (ρ : Rho) : VRs ρ [] [] := ⟨rfl, by simp⟩
theorem VRs.cons {ρ : Rho} {x y : Value} {l l' : List Value} (h : VR ρ x y) (t : VRs ρ l l') : VRs ρ (x :: l) (y :: l') :=
  ⟨by simp [t.1], fun i a b ha hb => by cases i with
    | zero => simp at ha hb; subst ha; subst hb; exact h
    | succ i => exact t.2 i a b (by simpa using ha) (by simpa using hb)⟩
theorem VRs.cons_inv {ρ : Rho} {x : Value} {l l' : List Value} (h : VRs ρ (x :: l) l') : ∃ y r, l' = y :: r ∧ VR ρ x y ∧ VRs ρ l r := by
  cases l' with
  | nil => exact absurd h.1 (by simp)
  | cons y r => exact ⟨y, r, rfl, h.2 0 x y rfl rfl, by simpa using h.1, fun i a b ha hb => h.2 (i + 1) a b (by simpa using ha) (by simpa using hb)⟩
theorem VRs.nil_inv {ρ : Rho} {l' : List Value} (h : VRs ρ [] l') : l' = [] := List.length_eq_zero_iff.1 h.1.symm
theorem VRs.mono {ρ ρ' : Rho} (e : Ext ρ ρ') {l l' : List Value} (h : VRs ρ l l') : VRs ρ' l l' := ⟨h.1, fun i x y hx hy => (h.2 i x y hx hy).mono e⟩
theorem VRs.get {ρ : Rho} {l l' : List Value} (h : VRs ρ l l') {i : Nat} {x : Value} (hx : l[i]? = some x) : ∃ y, l'[i]? = some y ∧ VR ρ x y := by
  have hi : i < l.length := (List.getElem?_eq_some_iff.1 hx).1
  have hi' : i < l'.length := by rw [← h.1]; exact hi
  exact ⟨l'[i], List.getElem?_eq_getElem hi', h.2 i x _ hx (List.getElem?_eq_getElem hi')⟩
theorem VRs.append {ρ : Rho} {a a' b b' : List Value} (h : VRs ρ a a') (k : VRs ρ b b') : VRs ρ (a ++ b) (a' ++ b') := by
  induction a generalizing a' with
  | nil => rw [h.nil_inv]; exact k
  | cons x l ih => obtain ⟨y, r, rfl, h1, h2⟩ := h.cons_inv; exact VRs.cons h1 (ih h2)
theorem VRs.drop {ρ : Rho} {a a' : List Value} (h : VRs ρ a a') (n : Nat) : VRs ρ (a.drop n) (a'.drop n) :=
  ⟨by simp [h.1], fun i x y hx hy => h.2 (n + i) x y (by simpa using hx) (by simpa using hy)⟩
theorem VRs.take {ρ : Rho} {a a' : List Value} (h : VRs ρ a a') (n : Nat) : VRs ρ (a.take n) (a'.take n) := by
  refine ⟨by simp [h.1], fun i x y hx hy => ?_⟩
  rw [List.getElem?_take] at hx hy
  split at hx
  · rename_i hi; rw [if_pos hi] at hy; exact h.2 i x y hx hy
  · cases hx
theorem VRs.refl {ρ : Rho} {l : List Value} (h : ∀ x ∈ l, VR ρ x x) : VRs ρ l l := ⟨rfl, fun i x y hx hy => by
  have : x = y := Option.some.inj (hx.symm.trans hy)
  subst this; exact h x (List.mem_of_getElem? hx)⟩
theorem VRs.replicate {ρ : Rho} {x y : Value} (h : VR ρ x y) : ∀ n, VRs ρ (List.replicate n x) (List.replicate n y)
  | 0 => VRs.nil ρ
  | n + 1 => VRs.cons h (VRs.replicate h n)

theorem vrs_of_arr {ρ : Rho} {a b : Array Value} (hs : a.size = b.size) (h : ∀ (i : Nat) x y, a[i]? = some x → b[i]? = some y → VR ρ x y) : VRs ρ a.toList b.toList :=
  ⟨by simpa using hs, fun i x y hx hy => h i x y (by simpa using hx) (by simpa using hy)⟩
theorem arr_of_vrs {ρ : Rho} {a b : Array Value} (h : VRs ρ a.toList b.toList) : a.size = b.size ∧ ∀ (i : Nat) x y, a[i]? = some x → b[i]? = some y → VR ρ x y :=
  ⟨by simpa using h.1, fun i x y hx hy => h.2 i x y (by simpa using hx) (by simpa using hy)⟩
theorem VR.agg_inv {ρ : Rho} {a : Array Value} {v : Value} (h : VR ρ (.agg a) v) : ∃ b, v = .agg b ∧ VRs ρ a.toList b.toList := by
  cases h with | agg _ b h1 h2 => exact ⟨b, rfl, vrs_of_arr h1 h2⟩
theorem VR.tuple_inv {ρ : Rho} {a : Array Value} {v : Value} (h : VR ρ (.tuple a) v) : ∃ b, v = .tuple b ∧ VRs ρ a.toList b.toList := by
  cases h with | tuple _ b h1 h2 => exact ⟨b, rfl, vrs_of_arr h1 h2⟩
theorem VR.agg' {ρ : Rho} {a b : Array Value} (h : VRs ρ a.toList b.toList) : VR ρ (.agg a) (.agg b) := .agg _ _ (arr_of_vrs h).1 (arr_of_vrs h).2
theorem VR.tuple' {ρ : Rho} {a b : Array Value} (h : VRs ρ a.toList b.toList) : VR ρ (.tuple a) (.tuple b) := .tuple _ _ (arr_of_vrs h).1 (arr_of_vrs h).2

theorem VR.cells {ρ : Rho} {v v' : Value} (h : VR ρ v v') : VRs ρ v.cells.toList v'.cells.toList := by
  cases h
  case agg a b h1 h2 => exact vrs_of_arr h1 h2
  all_goals exact VRs.cons (by constructor <;> assumption) (VRs.nil ρ)

/-! ### Steps that look into the program alone -/

def pureS (P : Program) {α : Type} : Sem α → Option α
  | .pure a => some a
  | .program k => pureS P (k P)
  | .mark _ k => pureS P k
  | _ => none

theorem pureS_run {P : Program} {α : Type} : ∀ {s : Sem α} {a : α}, pureS P s = some a → ∀ w, s.run P w = .ok a w := by
  intro s
  induction s with
  | pure a => intro b h w; simp only [pureS, Option.some.injEq] at h; subst h; rfl
  | program k ih => intro b h w; exact ih P h w
  | mark m k ih => intro b h w; exact ih h w
  | _ => intro b h w; simp [pureS] at h

def aflat1 (P : Program) (s : Value → Sem Value) (v : Value) : Option Value :=
  cond (flat 40 v) (match pureS P (s v) with | some r => cond (flat 40 r) (some r) none | none => none) none

theorem aflat1_ok {P : Program} {ρ : Rho} {s : Value → Sem Value} {v v' r : Value} (h : aflat1 P s v = some r) (hv : VR ρ v v') :
    VR ρ r r ∧ ∀ w, (s v').run P w = .ok r w := by
  unfold aflat1 at h
  cases hf : flat 40 v with
  | false => simp [hf] at h
  | true =>
    simp only [hf, cond_true] at h
    have := flat_eq hv 40 hf
    subst this
    cases hp : pureS P (s v') with
    | none => simp [hp] at h
    | some x =>
      simp only [hp] at h
      cases hx : flat 40 x with
      | false => simp [hx] at h
      | true =>
        simp only [hx, cond_true, Option.some.injEq] at h
        subst h
        exact ⟨flat_refl ρ 40 _ hx, pureS_run hp⟩

def aflat2 (P : Program) (s : Value → Value → Sem Value) (u v : Value) : Option Value :=
  cond (flat 40 u) (aflat1 P (s u) v) none

theorem aflat2_ok {P : Program} {ρ : Rho} {s : Value → Value → Sem Value} {u u' v v' r : Value} (h : aflat2 P s u v = some r) (hu : VR ρ u u') (hv : VR ρ v v') :
    VR ρ r r ∧ ∀ w, (s u' v').run P w = .ok r w := by
  unfold aflat2 at h
  cases hf : flat 40 u with
  | false => simp [hf] at h
  | true =>
    simp only [hf, cond_true] at h
    have := flat_eq hu 40 hf
    subst this
    exact aflat1_ok h hv

/-! ### Types -/

def cellsN (P : Program) (t : TypeId) : Option Nat := (P.info? t).map (·.size)
def isAg (P : Program) (t : TypeId) : Option Bool := match P.underlying t with
  | some (.struct _) => some true
  | some (.array _ _) => some true
  | some _ => some false
  | none => none

theorem run_cellsN {P : Program} {t : TypeId} {n : Nat} (h : cellsN P t = some n) (w : World) : (sizeOf t).run P w = .ok n w := by
  unfold cellsN at h
  cases hi : P.info? t with
  | none => simp [hi] at h
  | some i =>
    simp only [hi, Option.map_some, Option.some.injEq] at h
    rw [run_sizeOf w hi]
    simp [Program.cellsOf, hi, h]

theorem run_isAg {P : Program} {t : TypeId} {b : Bool} (h : isAg P t = some b) (w : World) : (isAgg t).run P w = .ok b w := by
  unfold isAg at h
  cases hu : P.underlying t with
  | none => simp [hu] at h
  | some d =>
    simp only [isAgg, Sem.run_bind, run_underlying hu, Result.andThen_ok]
    cases d <;> simp [hu] at h <;> subst h <;> rfl

def apart (P : Program) (t : TypeId) (cs : List Value) (off : Nat) : Option Value :=
  match isAg P t with
  | some true => match cellsN P t with
    | some n => some (.agg ((cs.drop off).take n).toArray)
    | none => none
  | some false => cs[off]?
  | none => none

theorem apart_ok {P : Program} {ρ : Rho} {t : TypeId} {cs : List Value} {cs' : Array Value} {off : Nat} {v : Value} (h : apart P t cs off = some v) (hc : VRs ρ cs cs'.toList) :
    ∃ v', VR ρ v v' ∧ ∀ w, (part t cs' off).run P w = .ok v' w := by
  unfold apart at h
  cases hi : isAg P t with
  | none => simp [hi] at h
  | some b =>
    cases b with
    | true =>
      simp only [hi] at h
      cases hn : cellsN P t with
      | none => simp [hn] at h
      | some n =>
        simp only [hn, Option.some.injEq] at h
        subst h
        refine ⟨.agg (cs'.extract off (off + n)), VR.agg' ?_, fun w => ?_⟩
        · have := (hc.drop off).take n
          simpa [Array.toList_extract, List.extract_eq_take_drop] using this
        · simp only [part, Sem.run_bind, run_isAg hi, Result.andThen_ok, if_true, run_cellsN hn, Sem.run_pure]
    | false =>
      simp only [hi] at h
      obtain ⟨y, hy, hr⟩ := hc.get h
      have hy' : cs'[off]? = some y := by simpa using hy
      refine ⟨y, hr, fun w => ?_⟩
      simp only [part, Sem.run_bind, run_isAg hi, Result.andThen_ok, Bool.false_eq_true, if_false, hy', Sem.run_pure]

end Go.Ev
