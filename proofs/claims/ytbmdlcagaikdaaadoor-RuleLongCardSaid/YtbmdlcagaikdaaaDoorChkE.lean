/- kalendslaw02.Check, told with memory: it answers chkOf, as (rule.Rule).Check does. -/
import Derived.Test.YtbmdlcagaikdaaaDoorChkD
import Derived.Test.YtbmdlcagaikdaaaDoorRuleG
namespace Go.Proofs.YtbmdlcagaikdaaaDoor
set_option linter.unusedVariables false
set_option linter.unusedSimpArgs false
open Go Go.Sy Go.RowKit

theorem okG_node {run : List (Value × Bool) → Option (Value × Heap)} {Sf : List (Value × Bool) → Knw} {nb : Nat} {fins : List Shape} {e : Value} {t f : HTree} {F : List (Value × Bool)} (h1 : t.okF run Sf nb fins ((e, true) :: F) = true) (h2 : f.okF run Sf nb fins ((e, false) :: F) = true) : (HTree.node e t f).okF run Sf nb fins F = true := by
  simp only [HTree.okF, h1, h2, Bool.and_self]
theorem okG_need {run : List (Value × Bool) → Option (Value × Heap)} {Sf : List (Value × Bool) → Knw} {nb : Nat} {fins : List Shape} {e : Value} {b : Bool} {t : HTree} {F : List (Value × Bool)} (h1 : t.okF run Sf nb fins ((e, b) :: F) = true) : (HTree.need e b t).okF run Sf nb fins F = true := h1
def rcF : Value := sv 0 [.int .i64 0]
def rcI : Value := sv 0 [.int .i64 1]
def rcC : Value := sv 0 [.int .i64 2]
def rcU : Value := sv 0 [.int .i64 3]
def rcM : Value := sv 98 [.int .i64 1000004]
def rcD : Value := sv 98 [.int .i64 1000005]
def rcW : Value := sv 98 [.int .i64 1000006]
def rcP : Value := sv 98 [.int .i64 1000007]
def rcL (v : Value) (z : Int) : Value := sv 74 [v, .int .i64 z]
def rcE (c : Int) : HTree := .leaf .ret 0 [.int .i64 c]
def rcA (v : Value) (z : Int) (c : Value) (T : HTree) : HTree := .node (sv 31 [.int .i64 64, rcL v z]) (rcE 2) (.need (sv 30 [rcL v z, rcL v z]) true (.node (sv 30 [c, .int .i64 0]) T (.leaf .ret 0 [c])))
def rcB (v : Value) (z : Int) (c : Value) (T : HTree) : HTree := .node (sv 31 [.int .i64 64, rcL v z]) (rcE 2) (.need (sv 30 [rcL v z, rcL v z]) true (.need (sv 31 [rcF, .int .i64 0]) false (.need (sv 31 [rcF, .int .i64 4]) true (.node (sv 30 [c, .int .i64 0]) T (.leaf .ret 0 [c])))))
def rcX : HTree := .node (sv 31 [.int .i64 0, rcL rcP 1]) (.node (sv 30 [rcL rcM 1, .int .i64 0]) (.need (sv 30 [rcL rcD 1, .int .i64 0]) false (rcE 0)) (rcE 0)) (rcE 0)
def rcY : HTree := .node (sv 31 [.int .i64 0, rcL rcP 1]) (.node (sv 30 [rcL rcM 1, .int .i64 0]) (.node (sv 30 [rcL rcD 1, .int .i64 0]) (.node (sv 30 [rcL rcW 2, .int .i64 0]) (rcE 6) (rcE 0)) (rcE 0)) (rcE 0)) (rcE 0)
def rcR (X : HTree) : HTree := rcA rcM 1 (sv 4 [.int .i64 150, rcM]) (rcA rcD 1 (sv 4 [.int .i64 151, rcD]) (rcB rcW 2 (sv 4 [.int .i64 152, rcF, rcW]) (rcA rcP 1 (sv 4 [.int .i64 153, rcP]) (.node (sv 31 [.int .i64 0, rcL rcD 1]) X rcY))))
def rcH (R : HTree) : HTree := .node (sv 31 [rcI, .int .i64 1]) (rcE 3) (.node (sv 31 [.int .i64 999, rcI]) (rcE 3) (.node (sv 31 [rcC, .int .i64 0]) (rcE 3) (.node (sv 31 [.int .i64 9999, rcC]) (rcE 3)
  (.node (sv 30 [rcU, .int .i64 0]) (.node (sv 30 [rcC, .int .i64 0]) R R) (.node (sv 31 [rcU, .int .i64 1]) (rcE 3) (.node (sv 31 [.int .i64 3652059, rcU]) (rcE 3) (.node (sv 30 [rcC, .int .i64 0]) R (rcE 7))))))))
def rcQ (k : Int) : Value := sv 30 [rcF, .int .i64 k]
def rcT0 : HTree := rcH (rcR (.need (rcQ 1) false rcX))
def rcT1 : HTree := rcH (rcR (rcE 6))
def rcT2 : HTree := rcH (rcR rcX)
def rcT : HTree := .node (rcQ 0) rcT0 (.node (rcQ 1) rcT1 (.node (rcQ 2) rcT2 (.node (rcQ 3) rcT2 (rcE 6))))

def toldCk : Tolds := ⟨[], [], [], [], [ckLoop 0 150, ckLoop 1 151, cwLoop, ckLoop 3 153]⟩
structure FnK (FN : Fns) : Prop where
  f150 : ∀ l, FN.int 150 [ints .i64 l] = chkList mayMonth cmpI l
  f151 : ∀ l, FN.int 151 [ints .i64 l] = chkList (mayNear 31) cmpI l
  f152 : ∀ f l, FN.int 152 [.int .i64 f, prs .i64 .i64 l] = chkList (mayNth (mostOf f)) cmpN l
  f153 : ∀ l, FN.int 153 [ints .i64 l] = chkList (mayNear 366) cmpI l
  ref : ∀ f i c u ms ds ws ps, FN.int 133 [.int .i64 f, .int .i64 i, .int .i64 c, .int .i64 u, ints .i64 ms, ints .i64 ds, prs .i64 .i64 ws, ints .i64 ps] = chkOf ⟨f, i, c, u, ms, ds, ws, ps⟩
theorem toldCk_ok {FN : Fns} (hF : FnK FN) : TOk FN toldCk := ⟨fun c h => (by cases h), fun c h => (by cases h), fun c h => (by cases h), fun c h => (by cases h), fun c h => (by
  simp only [toldCk, List.mem_cons, List.not_mem_nil, or_false] at h
  rcases h with rfl | rfl | rfl | rfl
  · exact ckLoop_ok (num := 150) ckRounds0 ckVal0 hF.f150
  · exact ckLoop_ok (num := 151) ckRounds1 ckVal1 hF.f151
  · exact cwLoop_ok hF.f152
  · exact ckLoop_ok (num := 153) ckRounds3 ckVal3 hF.f153)⟩
def refC : FCtr where
  f := 10
  nb := 0
  nl := 8
  args := [.agg #[lfi .i64 0, lfi .i64 1, lfi .i64 2, lfi .i64 3, nmR 0, nmR 1, nmR 2, nmR 3]]
  objs := [.row [.int .i64] 4, .row [.int .i64] 5, .row [.int .i64, .int .i64] 6, .row [.int .i64] 7]
  srts := [some (.int .i64), some (.int .i64), some (.int .i64), some (.int .i64), none, none, none, none]
  wants := []
  dec := none
  out _ := ⟨[lfi .i64 0], [], [sv 4 [.int .i64 133, lfi .i64 0, lfi .i64 1, lfi .i64 2, lfi .i64 3, specL 0 4, specL 0 5, specL 0 6, specL 0 7]]⟩

noncomputable def rcRun (FN : Fns) (t1 t2 t3 t4 : TypeId) (F : List (Value × Bool)) : Option (Value × Heap) := arun (cfgH FN noRows toldCk F) 1000 10 refC.args (canH 0 (heapOf 20 (vars t1 t2 t3 t4)) refC.objs)
def rcOk (FN : Fns) (t1 t2 t3 t4 : TypeId) (T : HTree) (F : List (Value × Bool)) : Prop := T.okF (rcRun FN t1 t2 t3 t4) (fun F => ⟨20, F, FN, [], rows0⟩) 0 [⟨[(0, lfi .i64 0)], [], 1⟩] F = true
theorem rc_0 {FN : Fns} (t1 t2 t3 t4 : TypeId) : rcOk FN t1 t2 t3 t4 rcT0 [(rcQ 0, true)] := by unfold rcOk; kernel_rfl
theorem rc_1 {FN : Fns} (t1 t2 t3 t4 : TypeId) : rcOk FN t1 t2 t3 t4 rcT1 [(rcQ 1, true), (rcQ 0, false)] := by unfold rcOk; kernel_rfl
theorem rc_2 {FN : Fns} (t1 t2 t3 t4 : TypeId) : rcOk FN t1 t2 t3 t4 rcT2 [(rcQ 2, true), (rcQ 1, false), (rcQ 0, false)] := by unfold rcOk; kernel_rfl
theorem rc_3 {FN : Fns} (t1 t2 t3 t4 : TypeId) : rcOk FN t1 t2 t3 t4 rcT2 [(rcQ 3, true), (rcQ 2, false), (rcQ 1, false), (rcQ 0, false)] := by unfold rcOk; kernel_rfl
theorem rc_4 {FN : Fns} (t1 t2 t3 t4 : TypeId) : rcOk FN t1 t2 t3 t4 (rcE 6) [(rcQ 3, false), (rcQ 2, false), (rcQ 1, false), (rcQ 0, false)] := by unfold rcOk; kernel_rfl
theorem rc_all {FN : Fns} (t1 t2 t3 t4 : TypeId) : rcOk FN t1 t2 t3 t4 rcT [] := okG_node (rc_0 t1 t2 t3 t4) (okG_node (rc_1 t1 t2 t3 t4) (okG_node (rc_2 t1 t2 t3 t4) (okG_node (rc_3 t1 t2 t3 t4) (rc_4 t1 t2 t3 t4))))
end Go.Proofs.YtbmdlcagaikdaaaDoor
