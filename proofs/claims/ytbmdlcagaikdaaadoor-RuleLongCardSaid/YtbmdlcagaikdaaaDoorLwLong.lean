/- RuleLong. -/
import Derived.Test.YtbmdlcagaikdaaaDoorAw2E
import Derived.OpenShut
import Derived.Test.YtbmdlcagaikdaaaDoorChkF
namespace Go.Proofs.YtbmdlcagaikdaaaDoor
set_option linter.unusedVariables false
set_option linter.unusedSimpArgs false
open Go Go.Sy Go.RowKit

def toldL : Tolds := ⟨[awC 8], [checkG, listsG], [refC], [], []⟩
theorem toldL_ok : TOk fnC toldL := ⟨fun c h => (by
    simp only [toldL, List.mem_cons, List.not_mem_nil, or_false] at h
    subst h
    exact awC_ok aw2 fnC), fun c h => (by
    simp only [toldL, List.mem_cons, List.not_mem_nil, or_false] at h
    rcases h with rfl | rfl
    · exact checkG_ok fnC_R
    · exact listsG_ok fnC_R), fun c h => (by
    simp only [toldL, List.mem_cons, List.not_mem_nil, or_false] at h
    subst h
    exact refC_ok fnC_K), fun c h => (by cases h), fun c h => (by cases h)⟩
def kL : RowsK := ⟨[], rows0⟩

def lgN : Value := sv 24 [.int .u8 0, sv 0 [.int .u8 0], .int .u8 9]
def lgC : Value := sv 24 [.int .u8 0, sv 0 [.int .u8 1], .int .u8 3]
def lgF (c k : Nat) : List (Value × Bool) := [(sv 32 [lgN, .int .u8 k], true), (sv 32 [lgC, .int .u8 c], true)]
def nu (l : List Int) : Value := .agg (l.map (Value.int .i64)).toArray
def lgD (c k : Nat) : List Int := match c with
  | 0 => (List.range (min (60 + k) 62)).map fun i => cond (Nat.blt i 31) ((i : Int) - 31) ((i : Int) - 30)
  | _ => []
def lgW (c k : Nat) : List Int := match c with
  | 1 => (List.range (60 + k)).flatMap fun i => [((1 + i / 7 : Nat) : Int), ((i % 7 : Nat) : Int)]
  | _ => []
def lgP (c k : Nat) : List Int := match c with
  | 2 => (List.range (60 + k)).map fun i => ((i + 1 : Nat) : Int)
  | _ => []
def lgA (c k : Nat) : List Value := [.int .i64 3, .int .i64 1, .int .i64 0, .int .i64 0, nu [1], nu (lgD c k), nu (lgW c k), nu (lgP c k)]
def lgT (c k : Nat) : Tree := .leaf (sv 30 [sv 4 (.int .i64 130 :: lgA c k), sv 4 (.int .i64 133 :: lgA c k)])

theorem den_nu {E : Env} {n : Nat} (l : List Int) : den E (n + 2) (nu l) = some (nu l) := by
  have h : ∀ l : List Int, denL (den E (n + 1)) (l.map (Value.int .i64)) = some (l.map (Value.int .i64)) := by
    intro l
    induction l with
    | nil => rfl
    | cons x r ih => rw [List.map_cons, denL_cons, ih]; rfl
  unfold nu
  rw [den_ag]
  simp only [h, Option.bind_some]
theorem lgT_val {E : Env} (hF : E.fns = fnC) (c k : Nat) : (lgT c k).val E = some (.bool true) := by
  have h : fnC.int 130 (lgA c k) = fnC.int 133 (lgA c k) := rfl
  unfold lgA at h
  simp only [lgT, lgA, val_leaf, den_sv, denL_cons, denL_nil, den_i, Option.bind_some, den_nu, i4, i30, hF, Int.reduceToNat, h, decide_true]

noncomputable def lgRun (t1 t2 t3 t4 : TypeId) (c k : Nat) : Bool := (lgT c k).ok (fun F => (arun (cfgH fnC kL toldL F) 1000 4 [sv 0 [.int .u8 0], sv 0 [.int .u8 1]] (heapOf 20 (vars t1 t2 t3 t4))).map (·.1)) (lgF c k)
theorem lg0 : ∀ t1 t2 t3 t4, (lgRun t1 t2 t3 t4 0 0 && lgRun t1 t2 t3 t4 0 1 && lgRun t1 t2 t3 t4 0 2 && lgRun t1 t2 t3 t4 0 3 && lgRun t1 t2 t3 t4 0 4 && lgRun t1 t2 t3 t4 0 5 && lgRun t1 t2 t3 t4 0 6 && lgRun t1 t2 t3 t4 0 7 && lgRun t1 t2 t3 t4 0 8) = true := fun t1 t2 t3 t4 => by kernel_rfl
theorem lg1 : ∀ t1 t2 t3 t4, (lgRun t1 t2 t3 t4 1 0 && lgRun t1 t2 t3 t4 1 1 && lgRun t1 t2 t3 t4 1 2 && lgRun t1 t2 t3 t4 1 3 && lgRun t1 t2 t3 t4 1 4 && lgRun t1 t2 t3 t4 1 5 && lgRun t1 t2 t3 t4 1 6 && lgRun t1 t2 t3 t4 1 7 && lgRun t1 t2 t3 t4 1 8) = true := fun t1 t2 t3 t4 => by kernel_rfl
theorem lg2 : ∀ t1 t2 t3 t4, (lgRun t1 t2 t3 t4 2 0 && lgRun t1 t2 t3 t4 2 1 && lgRun t1 t2 t3 t4 2 2 && lgRun t1 t2 t3 t4 2 3 && lgRun t1 t2 t3 t4 2 4 && lgRun t1 t2 t3 t4 2 5 && lgRun t1 t2 t3 t4 2 6 && lgRun t1 t2 t3 t4 2 7 && lgRun t1 t2 t3 t4 2 8) = true := fun t1 t2 t3 t4 => by kernel_rfl
attribute [local irreducible] lgRun in
theorem lgAll {t1 t2 t3 t4 : TypeId} {c k : Nat} (hc : c < 3) (hk : k < 9) : lgRun t1 t2 t3 t4 c k = true := by
  have h0 := lg0 t1 t2 t3 t4
  have h1 := lg1 t1 t2 t3 t4
  have h2 := lg2 t1 t2 t3 t4
  simp only [Bool.and_eq_true] at h0 h1 h2
  obtain ⟨⟨⟨⟨⟨⟨⟨⟨a0, a1⟩, a2⟩, a3⟩, a4⟩, a5⟩, a6⟩, a7⟩, a8⟩ := h0
  obtain ⟨⟨⟨⟨⟨⟨⟨⟨b0, b1⟩, b2⟩, b3⟩, b4⟩, b5⟩, b6⟩, b7⟩, b8⟩ := h1
  obtain ⟨⟨⟨⟨⟨⟨⟨⟨c0, c1⟩, c2⟩, c3⟩, c4⟩, c5⟩, c6⟩, c7⟩, c8⟩ := h2
  have ec : c = 0 ∨ c = 1 ∨ c = 2 := by omega
  have ek : k = 0 ∨ k = 1 ∨ k = 2 ∨ k = 3 ∨ k = 4 ∨ k = 5 ∨ k = 6 ∨ k = 7 ∨ k = 8 := by omega
  rcases ec with rfl | rfl | rfl <;> rcases ek with rfl | rfl | rfl | rfl | rfl | rfl | rfl | rfl | rfl <;> assumption

theorem walk_RuleLong (a0 a1 : Int) (w0 : (Lit.int .u8 a0).wf = true) (w1 : (Lit.int .u8 a1).wf = true) (w : World) (hs : Wld w) :
    Calls Tryd.prog 4 #[.int .u8 a0, .int .u8 a1] w fun e w' => e = .returned (.bool true) ∧ Below w.heap.size w w' := by
  have g0 := bounds_u8 w0
  have g1 := bounds_u8 w1
  have x0 := Int.tmod_nonneg 9 g0.1
  have x1 := Int.tmod_lt_of_pos a0 (b := 9) (by omega)
  have y0 := Int.tmod_nonneg 3 g1.1
  have y1 := Int.tmod_lt_of_pos a1 (b := 3) (by omega)
  obtain ⟨k, hk⟩ : ∃ k : Nat, a0.tmod 9 = k := ⟨_, (Int.toNat_of_nonneg x0).symm⟩
  obtain ⟨c, hc⟩ : ∃ c : Nat, a1.tmod 3 = c := ⟨_, (Int.toNat_of_nonneg y0).symm⟩
  have i32e : ∀ {E : Env} (k : IntKind) (m l : Int), interp E 32 [.int k m, .int k l] = some (.bool (decide (m = l))) := fun k m l => by simp [interp]
  refine tree_h toldL_ok (K := kL) (args := [sv 0 [.int .u8 0], sv 0 [.int .u8 1]]) (Tr := lgT c k) (F0 := lgF c k) (fun t1 t2 t3 t4 => lgAll (t1 := t1) (t2 := t2) (t3 := t3) (t4 := t4) (by omega) (by omega)) (E := mkE fnC rows0 [a0, a1] [] [] fun _ => undef) ?_ rfl rfl (lgT_val rfl c k) ?_ hs ?_
  · intro p hp
    simp only [lgF, List.mem_cons, List.not_mem_nil, or_false] at hp
    rcases hp with rfl | rfl
    · simp only [lgN, den_i, den_sv, denL_nil, denL_cons, Option.bind_some, i0, i24, i32e, mk_int, getD_z, getD_s, Int.reduceToNat, ↓reduceIte, Int.reduceEq, hk, decide_true]
    · simp only [lgC, den_i, den_sv, denL_nil, denL_cons, Option.bind_some, i0, i24, i32e, mk_int, getD_z, getD_s, Int.reduceToNat, ↓reduceIte, Int.reduceEq, hc, decide_true]
  · intro ρ hρ
    exact vr2 (vr_int hρ _ _ rfl) (vr_int hρ _ _ rfl)
  · intro x hx
    cases hx
end Go.Proofs.YtbmdlcagaikdaaaDoor
