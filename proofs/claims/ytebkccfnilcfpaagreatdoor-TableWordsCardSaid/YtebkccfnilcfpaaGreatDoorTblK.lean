/- kalendslaw08.Whole at any numbers, with what it leaves in memory (printed by heapof.py, with ARGS); chapters 7's and plural's Form as contracts. -/
import Derived.Test.YtebkccfnilcfpaaGreatDoorSyCtr8
import Derived.Test.YtebkccfnilcfpaaGreatDoorPluL
import Derived.Test.YtebkccfnilcfpaaGreatDoorDigL
import Derived.Test.YtebkccfnilcfpaaGreatDoorStdC
namespace Go.Proofs.YtebkccfnilcfpaaGreatDoor
set_option linter.unusedVariables false
set_option linter.unusedSimpArgs false
open Go Go.Sy Go.RowKit

set_option maxRecDepth 100000 in
def whoK : HCtr where
  f := 15
  args := [sv 0 [.int .u8 0], sv 0 [.int .u8 1]]
  val := .pointer (some ⟨21, 0, none⟩)
  objs := [
    some (.map [{ key := .agg #[.int .i64 0, .int .i64 0], val := .slice (some ⟨22, 0, none⟩) 3 3, born := 0 }, { key := .agg #[.int .i64 1, .int .i64 0], val := .slice (some ⟨23, 0, none⟩) 3 3, born := 1 }, { key := .agg #[.int .i64 2, .int .i64 0], val := .slice (some ⟨24, 0, none⟩) 3 3, born := 2 }, { key := .agg #[.int .i64 2, .int .i64 1], val := .slice (some ⟨25, 0, none⟩) 3 3, born := 3 }, { key := .agg #[.int .i64 2, .int .i64 2], val := .slice (some ⟨26, 0, none⟩) 3 3, born := 4 }, { key := .agg #[.int .i64 2, .int .i64 3], val := .slice (some ⟨27, 0, none⟩) 3 3, born := 5 }, { key := .agg #[.int .i64 3, .int .i64 0], val := .slice (some ⟨28, 0, none⟩) 3 3, born := 6 }, { key := .agg #[.int .i64 3, .int .i64 1], val := .slice (some ⟨29, 0, none⟩) 3 3, born := 7 }, { key := .agg #[.int .i64 3, .int .i64 2], val := .slice (some ⟨30, 0, none⟩) 3 3, born := 8 }, { key := .agg #[.int .i64 3, .int .i64 3], val := .slice (some ⟨31, 0, none⟩) 3 3, born := 9 }, { key := .agg #[.int .i64 4, .int .i64 0], val := .slice (some ⟨32, 0, none⟩) 3 3, born := 10 }, { key := .agg #[.int .i64 4, .int .i64 1], val := .slice (some ⟨33, 0, none⟩) 3 3, born := 11 }, { key := .agg #[.int .i64 4, .int .i64 2], val := .slice (some ⟨34, 0, none⟩) 3 3, born := 12 }, { key := .agg #[.int .i64 4, .int .i64 3], val := .slice (some ⟨35, 0, none⟩) 3 3, born := 13 }, { key := .agg #[.int .i64 5, .int .i64 0], val := .slice (some ⟨36, 0, none⟩) 3 3, born := 14 }, { key := .agg #[.int .i64 6, .int .i64 0], val := .slice (some ⟨37, 0, none⟩) 3 3, born := 15 }, { key := .agg #[.int .i64 7, .int .i64 0], val := .slice (some ⟨38, 0, none⟩) 3 3, born := 16 }, { key := .agg #[.int .i64 8, .int .i64 0], val := .slice (some ⟨39, 0, none⟩) 3 3, born := 17 }, { key := .agg #[.int .i64 9, .int .i64 0], val := .slice (some ⟨40, 0, none⟩) 3 3, born := 18 }, { key := .agg #[.int .i64 10, .int .i64 0], val := .slice (some ⟨41, 0, none⟩) 3 3, born := 19 }, { key := .agg #[.int .i64 11, .int .i64 0], val := .slice (some ⟨42, 0, none⟩) 3 3, born := 20 }, { key := .agg #[.int .i64 12, .int .i64 0], val := .slice (some ⟨43, 0, none⟩) 3 3, born := 21 }, { key := .agg #[.int .i64 13, .int .i64 0], val := .slice (some ⟨44, 0, none⟩) 3 3, born := 22 }, { key := .agg #[.int .i64 13, .int .i64 1], val := .slice (some ⟨45, 0, none⟩) 3 3, born := 23 }, { key := .agg #[.int .i64 13, .int .i64 2], val := .slice (some ⟨46, 0, none⟩) 3 3, born := 24 }, { key := .agg #[.int .i64 13, .int .i64 3], val := .slice (some ⟨47, 0, none⟩) 3 3, born := 25 }, { key := .agg #[.int .i64 13, .int .i64 4], val := .slice (some ⟨48, 0, none⟩) 3 3, born := 26 }, { key := .agg #[.int .i64 13, .int .i64 5], val := .slice (some ⟨49, 0, none⟩) 3 3, born := 27 }, { key := .agg #[.int .i64 13, .int .i64 6], val := .slice (some ⟨50, 0, none⟩) 3 3, born := 28 }, { key := .agg #[.int .i64 13, .int .i64 7], val := .slice (some ⟨51, 0, none⟩) 3 3, born := 29 }, { key := .agg #[.int .i64 13, .int .i64 8], val := .slice (some ⟨52, 0, none⟩) 3 3, born := 30 }, { key := .agg #[.int .i64 13, .int .i64 9], val := .slice (some ⟨53, 0, none⟩) 3 3, born := 31 }, { key := .agg #[.int .i64 13, .int .i64 10], val := .slice (some ⟨54, 0, none⟩) 3 3, born := 32 }, { key := .agg #[.int .i64 13, .int .i64 11], val := .slice (some ⟨55, 0, none⟩) 3 3, born := 33 }, { key := .agg #[.int .i64 14, .int .i64 0], val := .slice (some ⟨56, 0, none⟩) 3 3, born := 34 }, { key := .agg #[.int .i64 14, .int .i64 1], val := .slice (some ⟨57, 0, none⟩) 3 3, born := 35 }, { key := .agg #[.int .i64 14, .int .i64 2], val := .slice (some ⟨58, 0, none⟩) 3 3, born := 36 }, { key := .agg #[.int .i64 14, .int .i64 3], val := .slice (some ⟨59, 0, none⟩) 3 3, born := 37 }, { key := .agg #[.int .i64 14, .int .i64 4], val := .slice (some ⟨60, 0, none⟩) 3 3, born := 38 }, { key := .agg #[.int .i64 14, .int .i64 5], val := .slice (some ⟨61, 0, none⟩) 3 3, born := 39 }, { key := .agg #[.int .i64 14, .int .i64 6], val := .slice (some ⟨62, 0, none⟩) 3 3, born := 40 }] 41 true),
    some (.cells [.string ⟨#[109, 97, 100, 101]⟩, (sv 14 [.int .i64 0, (sv 24 [.int .u8 0, (sv 0 [.int .u8 0]), .int .u8 3])]), (sv 14 [.int .i64 0, (sv 24 [.int .u8 0, (sv 0 [.int .u8 1]), .int .u8 3])]), .map (some 20)] 36 true 0 21 true),
    some (.cells [.string ⟨#[119, 97, 97]⟩, .string ⟨#[119, 97, 97, 120]⟩, .string ⟨#[119, 97, 97, 32, 121]⟩] 9 true 1 22 true),
    some (.cells [.string ⟨#[119, 98, 97]⟩, .string ⟨#[119, 98, 97, 120]⟩, .string ⟨#[119, 98, 97, 32, 121]⟩] 9 true 1 23 true),
    some (.cells [.string ⟨#[119, 99, 97]⟩, .string ⟨#[119, 99, 97, 120]⟩, .string ⟨#[119, 99, 97, 32, 121]⟩] 9 true 1 24 true),
    some (.cells [.string ⟨#[119, 99, 98]⟩, .string ⟨#[119, 99, 98, 120]⟩, .string ⟨#[119, 99, 98, 32, 121]⟩] 9 true 1 25 true),
    some (.cells [.string ⟨#[119, 99, 99]⟩, .string ⟨#[119, 99, 99, 120]⟩, .string ⟨#[119, 99, 99, 32, 121]⟩] 9 true 1 26 true),
    some (.cells [.string ⟨#[119, 99, 100]⟩, .string ⟨#[119, 99, 100, 120]⟩, .string ⟨#[119, 99, 100, 32, 121]⟩] 9 true 1 27 true),
    some (.cells [.string ⟨#[119, 100, 97]⟩, .string ⟨#[119, 100, 97, 120]⟩, .string ⟨#[119, 100, 97, 32, 121]⟩] 9 true 1 28 true),
    some (.cells [.string ⟨#[119, 100, 98]⟩, .string ⟨#[119, 100, 98, 120]⟩, .string ⟨#[119, 100, 98, 32, 121]⟩] 9 true 1 29 true),
    some (.cells [.string ⟨#[119, 100, 99]⟩, .string ⟨#[119, 100, 99, 120]⟩, .string ⟨#[119, 100, 99, 32, 121]⟩] 9 true 1 30 true),
    some (.cells [.string ⟨#[119, 100, 100]⟩, .string ⟨#[119, 100, 100, 120]⟩, .string ⟨#[119, 100, 100, 32, 121]⟩] 9 true 1 31 true),
    some (.cells [.string ⟨#[119, 101, 97]⟩, .string ⟨#[119, 101, 97, 120]⟩, .string ⟨#[119, 101, 97, 32, 121]⟩] 9 true 1 32 true),
    some (.cells [.string ⟨#[119, 101, 98]⟩, .string ⟨#[119, 101, 98, 120]⟩, .string ⟨#[119, 101, 98, 32, 121]⟩] 9 true 1 33 true),
    some (.cells [.string ⟨#[119, 101, 99]⟩, .string ⟨#[119, 101, 99, 120]⟩, .string ⟨#[119, 101, 99, 32, 121]⟩] 9 true 1 34 true),
    some (.cells [.string ⟨#[119, 101, 100]⟩, .string ⟨#[119, 101, 100, 120]⟩, .string ⟨#[119, 101, 100, 32, 121]⟩] 9 true 1 35 true),
    some (.cells [.string ⟨#[119, 102, 97]⟩, .string ⟨#[119, 102, 97, 120]⟩, .string ⟨#[119, 102, 97, 32, 121]⟩] 9 true 1 36 true),
    some (.cells [.string ⟨#[119, 103, 97]⟩, .string ⟨#[119, 103, 97, 120]⟩, .string ⟨#[119, 103, 97, 32, 121]⟩] 9 true 1 37 true),
    some (.cells [.string ⟨#[119, 104, 97]⟩, .string ⟨#[119, 104, 97, 120]⟩, .string ⟨#[119, 104, 97, 32, 121]⟩] 9 true 1 38 true),
    some (.cells [.string ⟨#[119, 105, 97]⟩, .string ⟨#[119, 105, 97, 120]⟩, .string ⟨#[119, 105, 97, 32, 121]⟩] 9 true 1 39 true),
    some (.cells [.string ⟨#[119, 106, 97]⟩, .string ⟨#[119, 106, 97, 120]⟩, .string ⟨#[119, 106, 97, 32, 121]⟩] 9 true 1 40 true),
    some (.cells [.string ⟨#[119, 107, 97]⟩, .string ⟨#[119, 107, 97, 120]⟩, .string ⟨#[119, 107, 97, 32, 121]⟩] 9 true 1 41 true),
    some (.cells [.string ⟨#[119, 108, 97]⟩, .string ⟨#[119, 108, 97, 120]⟩, .string ⟨#[119, 108, 97, 32, 121]⟩] 9 true 1 42 true),
    some (.cells [.string ⟨#[119, 109, 97]⟩, .string ⟨#[119, 109, 97, 120]⟩, .string ⟨#[119, 109, 97, 32, 121]⟩] 9 true 1 43 true),
    some (.cells [.string ⟨#[119, 110, 97]⟩, .string ⟨#[119, 110, 97, 120]⟩, .string ⟨#[119, 110, 97, 32, 121]⟩] 9 true 1 44 true),
    some (.cells [.string ⟨#[119, 110, 98]⟩, .string ⟨#[119, 110, 98, 120]⟩, .string ⟨#[119, 110, 98, 32, 121]⟩] 9 true 1 45 true),
    some (.cells [.string ⟨#[119, 110, 99]⟩, .string ⟨#[119, 110, 99, 120]⟩, .string ⟨#[119, 110, 99, 32, 121]⟩] 9 true 1 46 true),
    some (.cells [.string ⟨#[119, 110, 100]⟩, .string ⟨#[119, 110, 100, 120]⟩, .string ⟨#[119, 110, 100, 32, 121]⟩] 9 true 1 47 true),
    some (.cells [.string ⟨#[119, 110, 101]⟩, .string ⟨#[119, 110, 101, 120]⟩, .string ⟨#[119, 110, 101, 32, 121]⟩] 9 true 1 48 true),
    some (.cells [.string ⟨#[119, 110, 102]⟩, .string ⟨#[119, 110, 102, 120]⟩, .string ⟨#[119, 110, 102, 32, 121]⟩] 9 true 1 49 true),
    some (.cells [.string ⟨#[119, 110, 103]⟩, .string ⟨#[119, 110, 103, 120]⟩, .string ⟨#[119, 110, 103, 32, 121]⟩] 9 true 1 50 true),
    some (.cells [.string ⟨#[119, 110, 104]⟩, .string ⟨#[119, 110, 104, 120]⟩, .string ⟨#[119, 110, 104, 32, 121]⟩] 9 true 1 51 true),
    some (.cells [.string ⟨#[119, 110, 105]⟩, .string ⟨#[119, 110, 105, 120]⟩, .string ⟨#[119, 110, 105, 32, 121]⟩] 9 true 1 52 true),
    some (.cells [.string ⟨#[119, 110, 106]⟩, .string ⟨#[119, 110, 106, 120]⟩, .string ⟨#[119, 110, 106, 32, 121]⟩] 9 true 1 53 true),
    some (.cells [.string ⟨#[119, 110, 107]⟩, .string ⟨#[119, 110, 107, 120]⟩, .string ⟨#[119, 110, 107, 32, 121]⟩] 9 true 1 54 true),
    some (.cells [.string ⟨#[119, 110, 108]⟩, .string ⟨#[119, 110, 108, 120]⟩, .string ⟨#[119, 110, 108, 32, 121]⟩] 9 true 1 55 true),
    some (.cells [.string ⟨#[119, 111, 97]⟩, .string ⟨#[119, 111, 97, 120]⟩, .string ⟨#[119, 111, 97, 32, 121]⟩] 9 true 1 56 true),
    some (.cells [.string ⟨#[119, 111, 98]⟩, .string ⟨#[119, 111, 98, 120]⟩, .string ⟨#[119, 111, 98, 32, 121]⟩] 9 true 1 57 true),
    some (.cells [.string ⟨#[119, 111, 99]⟩, .string ⟨#[119, 111, 99, 120]⟩, .string ⟨#[119, 111, 99, 32, 121]⟩] 9 true 1 58 true),
    some (.cells [.string ⟨#[119, 111, 100]⟩, .string ⟨#[119, 111, 100, 120]⟩, .string ⟨#[119, 111, 100, 32, 121]⟩] 9 true 1 59 true),
    some (.cells [.string ⟨#[119, 111, 101]⟩, .string ⟨#[119, 111, 101, 120]⟩, .string ⟨#[119, 111, 101, 32, 121]⟩] 9 true 1 60 true),
    some (.cells [.string ⟨#[119, 111, 102]⟩, .string ⟨#[119, 111, 102, 120]⟩, .string ⟨#[119, 111, 102, 32, 121]⟩] 9 true 1 61 true),
    some (.cells [.string ⟨#[119, 111, 103]⟩, .string ⟨#[119, 111, 103, 120]⟩, .string ⟨#[119, 111, 103, 32, 121]⟩] 9 true 1 62 true)]

theorem whoK_ok (FN : Fns) : HOk FN whoK := hok (cs := []) (hs := []) (by intro c h; cases h) (by intro c h; cases h) 1000 (by kernel_rfl)

theorem sorts2k {s t : Option Srt} {args : List Value} (h : sortsOk [s, t] args = true) : ∃ a b, args = [a, b] := sorts2' h

/-- Both Forms are formP. -/
def frmC (f : FuncId) : Ctr where
  f := f
  sorts := [some (.int .i64), some (.int .i64)]
  wants l := match l with
    | [_, n] => [(sv 31 [n, .int .i64 0], false), (sv 31 [.int .i64 1000000000000, n], false)]
    | _ => []
  dec _ := none
  res _ l := sv 4 (.int .i64 3 :: l)

def fnK : Fns where
  int i l := match i, l with
    | 3, [.int _ k, .int _ n] => formP k n
    | _, _ => 0
  bool _ _ := false
  str _ _ := ⟨#[]⟩
  val _ _ := .bool false
  lst _ _ := []

theorem frmC_ok {f : FuncId} (hf : ∀ (k n : Int) (w : World), Std w → 0 ≤ n → n ≤ 1000000000000 → Calls Tryz.prog f #[.int .i64 k, .int .i64 n] w fun e w' => e = .returned (.int .i64 (formP k n)) ∧ Below w.heap.size w w') : CtrOk fnK (frmC f) := by
  intro S args q hF hs hw _ ρ args' w g hv hd _
  obtain ⟨a, b, rfl⟩ := sorts2k hs
  simp only [frmC, sortsOk, Bool.and_true, Bool.and_eq_true, decide_eq_true_eq] at hs
  obtain ⟨x, y, rfl, vx, vy⟩ := vrs2_inv hv
  obtain ⟨k, rfl⟩ := HasS.of hs.1 vx
  obtain ⟨n, rfl⟩ := HasS.of hs.2 vy
  simp only [frmC, List.mem_cons, List.not_mem_nil, or_false, forall_eq_or_imp, forall_eq] at hw
  have h1 := holds_lt g hw.1 vy (.int _ _)
  have h2 := holds_lt g hw.2 (.int _ _) vy
  simp only [decide_eq_false_iff_not] at h1 h2
  exact (hf k n w hd.std (by omega) (by omega)).mono fun e w' ⟨he, hb⟩ => ⟨_, he, sv_vr (VRs.cons (.int _ _) (vr2 vx vy)) (by simp [interp, g.fns, hF, fnK]), hb⟩

theorem formC1_ok : CtrOk fnK (frmC 24) := frmC_ok fun k n w _ h0 h1 => (form_any k n w h0 h1).mono fun e w' ⟨he, hb⟩ => ⟨he, by rw [← hb]; exact Below.refl _ _⟩
theorem formC2_ok : CtrOk fnK (frmC 18) := frmC_ok lawform_any
end Go.Proofs.YtebkccfnilcfpaaGreatDoor
