/- Package fold, chapter 10's own words: contracts of texts. -/
import Derived.Test.YtebkccfnilcfpaaGreatDoorRunF
import Derived.Test.YtebkccfnilcfpaaGreatDoorBadW
import Derived.Test.YtebkccfnilcfpaaGreatDoorStdC
namespace Go.Proofs.YtebkccfnilcfpaaGreatDoor
set_option linter.unusedVariables false
set_option linter.unusedSimpArgs false
open Go Go.Sy Go.RowKit

def fbadC : Ctr where
  f := 26
  sorts := [some .str]
  wants l := match l with
    | [s] => [(sv 31 [.int .i64 1048576, slen s], false)]
    | _ => []
  dec _ := none
  res _ l := sv 4 (.int .i64 42 :: l)
def lbadC : Ctr where
  f := 27
  sorts := [some .str]
  wants l := match l with
    | [s] => [(sv 31 [.int .i64 1048576, slen s], false)]
    | _ => []
  dec _ := none
  res _ l := sv 4 (.int .i64 42 :: l)
def fsmallC : Ctr where
  f := 28
  sorts := [some .str]
  wants l := match l with
    | [s] => [(sv 31 [.int .i64 1048576, slen s], false)]
    | _ => []
  dec _ := none
  res _ l := sv 6 (.int .i64 46 :: l)

def smallB (s : ByteArray) : ByteArray := ⟨(small tblN s.data.toList).toArray⟩

theorem strC_ok {FN : Fns} {c : Ctr} {res : ByteArray → Value} (hs : c.sorts = [some .str]) (hw : ∀ s, c.wants [s] = [(sv 31 [.int .i64 1048576, slen s], false)]) (hd : ∀ l, c.dec l = none)
    (hres : ∀ (S : Knw) ρ a s q, Glob S ρ → S.fns = FN → VR ρ a (.string s) → VR ρ (c.res q [a]) (res s)) (hc : ∀ s w, Wld w → s.size ≤ 1048576 → Calls Tryz.prog c.f #[.string s] w fun e w' => e = .returned (res s) ∧ Below w.heap.size w w') : CtrOk FN c := by
  intro S args q hF hsr hwn _ ρ args' w g hv hd _
  rw [hs] at hsr
  obtain ⟨a, rfl⟩ := sorts1 hsr
  simp only [sortsOk, Bool.and_true, decide_eq_true_eq] at hsr
  obtain ⟨x, rfl, vx⟩ := vrs1_inv hv
  obtain ⟨s, rfl⟩ := HasS.of hsr vx
  rw [hw] at hwn
  have w1 := holds_lt g (hwn _ List.mem_cons_self) (.int _ _) (slen_vr vx)
  simp only [decide_eq_false_iff_not] at w1
  have hsz : s.data.toList.length = s.size := by simp
  exact (hc s w hd (by omega)).mono fun e w' ⟨he, hb⟩ => ⟨_, he, hres S ρ a s q g hF vx, hb⟩

/-- 46: with small letters. -/
structure FnZ (FN : Fns) : Prop extends FnB FN where
  sml : ∀ s, FN.str 46 [.string s] = smallB s

theorem fbadC_ok {FN : Fns} (hF : FnZ FN) : CtrOk FN fbadC :=
  strC_ok (res := fun s => .int .i64 (badI s.data.toList)) rfl (fun _ => rfl) (fun _ => rfl) (fun S ρ a s q g hS hv => sv_vr (VRs.cons (.int _ _) (vr1 hv)) (by simp only [interp, g.fns, hS, Int.reduceToNat, hF.bad])) fun s w hw hs => fbad_any s w hw (by omega)
theorem lbadC_ok {FN : Fns} (hF : FnZ FN) : CtrOk FN lbadC :=
  strC_ok (res := fun s => .int .i64 (badI s.data.toList)) rfl (fun _ => rfl) (fun _ => rfl) (fun S ρ a s q g hS hv => sv_vr (VRs.cons (.int _ _) (vr1 hv)) (by simp only [interp, g.fns, hS, Int.reduceToNat, hF.bad])) fun s w hw hs => lbad_any s hs w hw
theorem fsmallC_ok {FN : Fns} (hF : FnZ FN) : CtrOk FN fsmallC :=
  strC_ok (res := fun s => .string (smallB s)) rfl (fun _ => rfl) (fun _ => rfl) (fun S ρ a s q g hS hv => sv_vr (VRs.cons (.int _ _) (vr1 hv)) (by simp only [interp, g.fns, hS, Int.reduceToNat, hF.sml])) fun s w hw hs => small_any s w hw (by omega)

/-- The table of chapter 10's functions. -/
def fnZ : Fns where
  int i l := match i, l with
    | 42, [.string s] => badI s.data.toList
    | _, _ => 0
  bool i l := match i, l with
    | 43, [.string s] => (bad s.data.toList).isSome
    | 45, [.string s] => (letters s.data.toList).isEmpty
    | _, _ => false
  str i l := match i, l with
    | 46, [.string s] => smallB s
    | _, _ => ⟨#[]⟩
  val _ _ := .bool false
  lst i l := match i, l with
    | 44, [.string s] => (letters s.data.toList).map fun l => .string (mkB l)
    | _, _ => []
theorem fnZ_Z : FnZ fnZ := { bad := fun _ => rfl, isb := fun _ => rfl, let_ := fun _ => rfl, emp := fun _ => rfl, sml := fun _ => rfl }

def toldZ : Tolds := ⟨[awC 25, fbadC, lbadC, fsmallC], [], [], [], []⟩
end Go.Proofs.YtebkccfnilcfpaaGreatDoor
