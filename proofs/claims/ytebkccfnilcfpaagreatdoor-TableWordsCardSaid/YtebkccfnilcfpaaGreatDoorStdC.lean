/- Contracts of Go's library, as the evaluator is told them. -/
import Derived.Test.YtebkccfnilcfpaaGreatDoorDigL
import Derived.Lib.AtoiAll
import Derived.Lib.AtoiErrMem
namespace Go.Proofs.YtebkccfnilcfpaaGreatDoor
set_option linter.unusedVariables false
set_option linter.unusedSimpArgs false
open Go Go.Sy Go.RowKit

/-! ### Arguments of contracts -/

theorem sorts1 {s : Option Srt} {args : List Value} (h : sortsOk [s] args = true) : ∃ a, args = [a] := by
  match args with
  | [a] => exact ⟨a, rfl⟩
  | [] => simp [sortsOk] at h
  | _ :: _ :: _ => cases s <;> simp [sortsOk] at h

theorem sorts3 {s t u : Option Srt} {args : List Value} (h : sortsOk [s, t, u] args = true) : ∃ a b c, args = [a, b, c] := by
  match args with
  | [a, b, c] => exact ⟨a, b, c, rfl⟩
  | [] => simp [sortsOk] at h
  | [_] => cases s <;> simp [sortsOk] at h
  | [_, _] => cases s <;> cases t <;> simp [sortsOk] at h
  | _ :: _ :: _ :: _ :: _ => cases s <;> cases t <;> cases u <;> simp [sortsOk] at h

theorem vrs1_inv {ρ : Rho} {a : Value} {args' : Array Value} (h : VRs ρ [a] args'.toList) : ∃ x, args' = #[x] ∧ VR ρ a x := by
  obtain ⟨x, r, e1, h1, h2⟩ := h.cons_inv
  have := h2.nil_inv
  subst this
  exact ⟨x, by apply Array.ext'; simpa using e1, h1⟩

theorem vrs2_inv {ρ : Rho} {a b : Value} {args' : Array Value} (h : VRs ρ [a, b] args'.toList) : ∃ x y, args' = #[x, y] ∧ VR ρ a x ∧ VR ρ b y := by
  obtain ⟨x, r, e1, h1, h2⟩ := h.cons_inv
  obtain ⟨y, r', rfl, h3, h4⟩ := h2.cons_inv
  have := h4.nil_inv
  subst this
  exact ⟨x, y, by apply Array.ext'; simpa using e1, h1, h3⟩

theorem vrs3_inv {ρ : Rho} {a b c : Value} {args' : Array Value} (h : VRs ρ [a, b, c] args'.toList) : ∃ x y z, args' = #[x, y, z] ∧ VR ρ a x ∧ VR ρ b y ∧ VR ρ c z := by
  obtain ⟨x, r, e1, h1, h2⟩ := h.cons_inv
  obtain ⟨y, r', rfl, h3, h4⟩ := h2.cons_inv
  obtain ⟨z, r', rfl, h5, h6⟩ := h4.cons_inv
  have := h6.nil_inv
  subst this
  exact ⟨x, y, z, by apply Array.ext'; simpa using e1, h1, h3, h5⟩

/-- The way a contract goes, by a truth that is a function's. -/
theorem way_vr {S : Knw} {ρ : Rho} (g : Glob S ρ) {e : Value} {q b : Bool} (h : wayOf S (some e) = some q) (hv : VR ρ e (.bool b)) : q = b := by
  have := truth_vr g (e := e) h hv
  simpa using this.symm

/-! ### strconv.Atoi -/

def atoiOk (s : ByteArray) : Bool := match Lib.atoiAll s.data.toList with
  | .ok _ => true
  | _ => false
def atoiV (s : ByteArray) : Int := match Lib.atoiAll s.data.toList with
  | .ok v => v
  | _ => 0
def atoiE (s : ByteArray) : Int := match Lib.atoiAll s.data.toList with
  | .range => Lib.atoiSat s.data.toList
  | _ => 0

def atoiC : Ctr where
  f := 178
  sorts := [some .str]
  wants l := match l with
    | [s] => [(sv 31 [.int .i64 1099511627776, slen s], false)]
    | _ => []
  dec l := some (sv 5 (.int .i64 11 :: l))
  res b l := cond b (.tuple #[sv 4 (.int .i64 11 :: l), .nilIface]) (.tuple #[sv 4 (.int .i64 12 :: l), .iface 239 topV])

theorem atoiC_ok {FN : Fns} (h1 : ∀ s, FN.bool 11 [.string s] = atoiOk s) (h2 : ∀ s, FN.int 11 [.string s] = atoiV s) (h3 : ∀ s, FN.int 12 [.string s] = atoiE s) : CtrOk FN atoiC := by
  intro S args q hF hs hw hq ρ args' w g hv hd _
  obtain ⟨a, rfl⟩ := sorts1 hs
  simp only [atoiC, sortsOk, Bool.and_true, decide_eq_true_eq] at hs
  obtain ⟨x, rfl, vx⟩ := vrs1_inv hv
  obtain ⟨s, rfl⟩ := HasS.of hs vx
  simp only [atoiC, List.mem_cons, List.not_mem_nil, or_false, forall_eq] at hw
  have w1 := holds_lt g hw (.int _ _) (slen_vr vx)
  simp only [decide_eq_false_iff_not] at w1
  have hsz : s.data.toList.length = s.size := by simp
  have k1 : VRs ρ [.int .i64 11, a] [.int .i64 11, .string s] := vr2 (.int _ _) vx
  have k2 : VRs ρ [.int .i64 12, a] [.int .i64 12, .string s] := vr2 (.int _ _) vx
  have hq' : q = atoiOk s := way_vr g hq (sv_vr k1 (by simp only [interp, g.fns, hF, Int.reduceToNat, h1]))
  have v1 : VR ρ (sv 4 [.int .i64 11, a]) (.int .i64 (atoiV s)) := sv_vr k1 (by simp only [interp, g.fns, hF, Int.reduceToNat, h2])
  have v2 : VR ρ (sv 4 [.int .i64 12, a]) (.int .i64 (atoiE s)) := sv_vr k2 (by simp only [interp, g.fns, hF, Int.reduceToNat, h3])
  cases h : Lib.atoiAll s.data.toList with
  | ok v =>
    have e1 : q = true := by rw [hq']; unfold atoiOk; rw [h]
    have e2 : atoiV s = v := by unfold atoiV; rw [h]
    subst e1
    rw [e2] at v1
    refine (Tryz.strconv_Atoi_ok s (by omega) v h w).mono fun e w' ⟨he, hb⟩ => ⟨_, he, VR.tuple' (vr2 v1 .nilIface), ?_⟩
    rcases hb with rfl | ⟨t, rfl⟩
    · exact Below.refl _ _
    · exact Lib.bytesWorld_below _ _ _
  | range =>
    have e1 : q = false := by rw [hq']; unfold atoiOk; rw [h]
    have e2 : atoiE s = Lib.atoiSat s.data.toList := by unfold atoiE; rw [h]
    subst e1
    rw [e2] at v2
    obtain ⟨tp, p, hc⟩ := hd.e2
    exact (Tryz.strconv_Atoi_range s (by omega) h (.iface tp p) w hc (.inr ⟨_, _, rfl⟩)).mono fun e w' ⟨N, he, _, _, hb⟩ => ⟨_, he, VR.tuple' (vr2 v2 (.iface _ _ _ (.top _ _ _ _))), hb⟩
  | _ =>
    have e1 : q = false := by rw [hq']; unfold atoiOk; rw [h]
    have e2 : atoiE s = 0 := by unfold atoiE; rw [h]
    subst e1
    rw [e2] at v2
    obtain ⟨tp, p, hc⟩ := hd.e1
    exact (Tryz.strconv_Atoi_syntax s (by omega) (by rw [h]; rfl) (.iface tp p) w hc (.inr ⟨_, _, rfl⟩)).mono fun e w' ⟨N, he, _, _, hb⟩ => ⟨_, he, VR.tuple' (vr2 v2 (.iface _ _ _ (.top _ _ _ _))), hb⟩
end Go.Proofs.YtebkccfnilcfpaaGreatDoor
