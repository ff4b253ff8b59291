/- slices.Index at texts: a contract. -/
import Derived.Test.YtebkccfnilcfpaaGreatDoorRowS
namespace Go.Proofs.YtebkccfnilcfpaaGreatDoor
set_option linter.unusedVariables false
set_option linter.unusedSimpArgs false
open Go Go.Sy Go.RowKit

/-- 48: a text's place among texts. -/
def indexC : GCtr where
  f := 46
  open_ a := some a
  sorts := [.row [.str], .sc .str]
  wants l := match l with
    | [s, _] => [(sv 31 [hlen [.str] s, .int .i64 1048577], true)]
    | _ => [(.bool false, true)]
  dec _ := none
  val _ l _ := sv 4 (.int .i64 48 :: l)
  rows _ _ := []

theorem indexC_ok {FN : Fns} (hF : ∀ l x, FN.int 48 [strs l, .string x] = Lib.idxOfS l x) : GCtrOk FN indexC := by
  intro S args ls vs q hFN hopen hw _ ρ args' w g hv hd hleaf
  cases hopen
  have hl := hleaf _ hv
  simp only [indexC] at hl hw
  obtain ⟨s, x, a', x', rfl, hq, h1, h2, h3⟩ := leafRs hl
  obtain ⟨p, rfl⟩ := h3
  obtain ⟨a, c, l, rfl, e1, e2, e3⟩ := rowIs_strs h1
  have hres : VR ρ (sv 4 [.int .i64 48, s, x]) (.int .i64 (Lib.idxOfS l p)) := sv_vr (VRs.cons (.int _ _) (vr2 e1 h2)) (by
    show some (Value.int .i64 (ρ.env.fns.int 48 [strs l, .string p])) = _
    rw [g.fns, hFN, hF])
  have hlt : l.length < 1048577 := by
    have := holds_lt g (hw _ List.mem_cons_self) (hlen_vr (srts := [.str]) e1 (n := l.length) (by simp [strs]) (by simp)) (.int _ _)
    simp only [decide_eq_true_eq] at this
    omega
  have ha : args' = #[.slice a l.length c, .string p] := by apply Array.ext'; simpa using hq
  subst ha
  have hcall : Calls Tryz.prog 46 #[.slice a l.length c, .string p] w fun e w' => e = .returned (.int .i64 (Lib.idxOfS l p)) ∧ w' = w := by
    rcases Nat.eq_zero_or_pos l.length with h0 | h0
    · have hl0 : l = [] := List.length_eq_zero_iff.1 h0
      subst hl0
      exact Tryz.slices_Index_string_empty a c p w
    · obtain ⟨b, o, rfl, hb, f2⟩ := e3 h0
      have := Tryz.slices_Index_string b o l.length c l p w (Nat.le_refl _) (by omega) (fun j hj => by
        have hg : l[j]? = some (l.getD j ByteArray.empty) := by rw [List.getD_eq_getElem?_getD, List.getElem?_eq_getElem hj]; rfl
        exact f2 j _ hg)
      rwa [List.take_length] at this
  refine hcall.mono fun e w' ⟨he, hb⟩ => ⟨_, [], he, by rw [hb]; exact Below.refl _ _, trivial, fun ρ' nx ext _ => hres.mono ext⟩
end Go.Proofs.YtebkccfnilcfpaaGreatDoor
