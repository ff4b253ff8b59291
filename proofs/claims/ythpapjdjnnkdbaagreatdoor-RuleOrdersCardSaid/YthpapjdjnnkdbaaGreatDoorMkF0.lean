/- What kalendslaw02.Make makes: its decisions. -/
import Derived.Test.YthpapjdjnnkdbaaGreatDoorNthP
import Derived.Test.YthpapjdjnnkdbaaGreatDoorMkHB
namespace Go.Proofs.YthpapjdjnnkdbaaGreatDoor
set_option linter.unusedVariables false
set_option linter.unusedSimpArgs false
open Go Go.Sy Go.RowKit

def mkLen (i : Nat) (z : Int) : Value := sv 74 [sv 98 [.int .i64 (1000000 + i)], .int .i64 z]
def mkSp (i : Nat) : Value := sv 98 [.int .i64 (1000000 + i)]
def mkFq : Value := sv 24 [.int .u8 0, sv 0 [.int .u8 0], .int .u8 4]
def mkHd (i : Nat) (z : Int) (T : HTree) : HTree := .need (sv 30 [mkLen i z, mkLen i z]) true (.need (sv 31 [mkLen i z, .int .i64 1001]) true T)
def mkD : Value := sv 81 [.int .i64 102, sv 81 [.int .i64 111, mkSp 6], .int .i64 31]
def mkP : Value := sv 81 [.int .i64 102, sv 81 [.int .i64 112, mkSp 8], .int .i64 366]
def mkM : Value := sv 81 [.int .i64 105, sv 81 [.int .i64 103, sv 81 [.int .i64 110, mkSp 5]]]
def mkW0 (m : Int) : Value := sv 81 [.int .i64 113, mkSp 7, .int .i64 m]
def mkW (m : Int) : Value := sv 81 [.int .i64 107, mkW0 m]
def mkLast (f : Int) (e1 e2 e3 M D W c : Value) : HTree := .node (sv 31 [.int .i64 0, c])
  (mkHd 8 1 (.need (sv 31 [sv 74 [sv 81 [.int .i64 112, mkSp 8], .int .i64 1], .int .i64 1001]) true (.leaf .ret 0 [.int .i64 f, e1, e2, e3, M, D, W, mkP])))
  (.leaf .ret 0 [.int .i64 f, e1, e2, e3, M, D, W, .agg #[]])
def mkWd (f m : Int) (e1 e2 e3 M D c : Value) (T0 : HTree) : HTree := mkHd 7 2 (.node (sv 30 [mkLen 7 2, .int .i64 0]) T0
  (.need (sv 31 [sv 74 [mkW0 m, .int .i64 2], .int .i64 1000001]) true (.need (sv 5 [.int .i64 108, mkW0 m]) true
    (mkLast f e1 e2 e3 M D (mkW m) (sv 20 [.int .i64 0, c, sv 74 [mkW m, .int .i64 2]])))))
def mkWc (f m : Int) (e1 e2 e3 M D c : Value) : HTree := mkWd f m e1 e2 e3 M D c (mkLast f e1 e2 e3 M D (.agg #[]) (sv 20 [.int .i64 0, c, .int .i64 0]))
def mkDs (e1 e2 e3 M lm : Value) (T1 : HTree) : HTree := mkHd 6 1 (.node (sv 30 [sv 14 [.int .i64 0, mkFq], .int .i64 1])
  (.need (sv 32 [mkFq, .int .u8 1]) true T1)
  (.need (sv 31 [sv 74 [sv 81 [.int .i64 111, mkSp 6], .int .i64 1], .int .i64 1001]) true
    (.node (sv 32 [mkFq, .int .u8 0]) (mkWc 0 0 e1 e2 e3 M mkD (sv 20 [.int .i64 0, lm, sv 74 [mkD, .int .i64 1]]))
    (.node (sv 32 [mkFq, .int .u8 2]) (mkWc 2 5 e1 e2 e3 M mkD (sv 20 [.int .i64 0, lm, sv 74 [mkD, .int .i64 1]]))
    (.need (sv 32 [mkFq, .int .u8 3]) true (mkWc 3 53 e1 e2 e3 M mkD (sv 20 [.int .i64 0, lm, sv 74 [mkD, .int .i64 1]])))))))
def mkNo (e1 e2 e3 : Value) : HTree := mkDs e1 e2 e3 (.agg #[]) (.int .i64 0) (mkWd 1 0 e1 e2 e3 (.agg #[]) (.agg #[]) (.int .i64 0) (.leaf .ret 0 [.int .i64 1, e1, e2, e3, .agg #[], .agg #[], .agg #[], .agg #[]]))
def mkYe (e1 e2 e3 : Value) : HTree := mkDs e1 e2 e3 mkM (sv 74 [mkM, .int .i64 1]) (mkWc 1 0 e1 e2 e3 mkM (.agg #[]) (sv 20 [.int .i64 0, sv 74 [mkM, .int .i64 1], .int .i64 0]))
def mkTail (e1 e2 e3 : Value) : HTree := mkHd 5 1 (.node (sv 30 [mkLen 5 1, .int .i64 0]) (mkNo e1 e2 e3)
  (.need (sv 31 [sv 74 [sv 81 [.int .i64 110, mkSp 5], .int .i64 1], .int .i64 16777216]) true (.need (sv 31 [sv 74 [sv 81 [.int .i64 103, sv 81 [.int .i64 110, mkSp 5]], .int .i64 1], .int .i64 16777216]) true (mkYe e1 e2 e3))))
def mkI1 : Value := sv 21 [.int .i64 0, .int .i64 999, sv 14 [.int .i64 0, sv 24 [.int .u8 0, sv 0 [.int .u8 1], .int .u8 5]]]
def mkI2 : Value := sv 20 [.int .i64 0, .int .i64 1, sv 14 [.int .i64 0, sv 24 [.int .u8 0, sv 0 [.int .u8 1], .int .u8 6]]]
def mkCn : Value := sv 20 [.int .i64 0, .int .i64 1, sv 24 [.int .i64 0, sv 14 [.int .i64 0, sv 0 [.int .u16 3]], .int .i64 9999]]
def mkUn : Value := sv 20 [.int .i64 0, .int .i64 1, sv 14 [.int .i64 0, sv 24 [.int .u32 0, sv 0 [.int .u32 4], .int .u32 3652059]]]
def mkE0 : Value := sv 30 [sv 24 [.int .u8 0, sv 0 [.int .u8 2], .int .u8 4], .int .u8 0]
def mkE1 : Value := sv 30 [sv 24 [.int .u8 0, sv 0 [.int .u8 2], .int .u8 4], .int .u8 1]
def mkEn (e1 : Value) : HTree := .node mkE0 (mkTail e1 mkCn (.int .i64 0)) (.node mkE1 (mkTail e1 (.int .i64 0) mkUn) (mkTail e1 (.int .i64 0) (.int .i64 0)))
def mkT : HTree := .node (sv 31 [.int .u8 250, sv 0 [.int .u8 1]]) (mkEn mkI1) (mkEn mkI2)

def mkArgs : List Value := [.agg #[lfi .u8 0, lfi .u8 1, lfi .u8 2, lfi .u16 3, lfi .u32 4, nmR 0, nmR 1, nmR 2, nmR 3]]
def mkObjs : List PObj := [.row [.int .u8] 5, .row [.int .i8] 6, .row [.int .i8, .int .u8] 7, .row [.int .i16] 8]
def mkFin : Shape := ⟨[(0, .agg #[lfi .i64 0, lfi .i64 1, lfi .i64 2, lfi .i64 3, nmR 0, nmR 1, nmR 2, nmR 3])], [.row [.int .i64] 4, .row [.int .i64] 5, .row [.int .i64, .int .i64] 6, .row [.int .i64] 7], 8⟩
def toldMk : Tolds := ⟨[], [containsN], [sortI, sortI0, compactI, compactI0, fewC, sortN, sortN0], [], [mkALoop, mkBLoop, mkDLoop, mkCLoop]⟩
noncomputable def mkRun (FN : Fns) (t1 t2 t3 t4 : TypeId) (F : List (Value × Bool)) : Option (Value × Heap) := arun (cfgH FN noRows toldMk F) 1000 7 mkArgs (canH 0 (heapOf 20 (vars t1 t2 t3 t4)) mkObjs)
def mkKn (FN : Fns) (F : List (Value × Bool)) : Knw := ⟨20, F, FN, [], rows0⟩
theorem okF_node {run : List (Value × Bool) → Option (Value × Heap)} {Sf : List (Value × Bool) → Knw} {nb : Nat} {fins : List Shape} {e : Value} {t f : HTree} {F : List (Value × Bool)} (h1 : t.okF run Sf nb fins ((e, true) :: F) = true) (h2 : f.okF run Sf nb fins ((e, false) :: F) = true) : (HTree.node e t f).okF run Sf nb fins F = true := by
  simp only [HTree.okF, h1, h2, Bool.and_self]
theorem okF_need {run : List (Value × Bool) → Option (Value × Heap)} {Sf : List (Value × Bool) → Knw} {nb : Nat} {fins : List Shape} {e : Value} {b : Bool} {t : HTree} {F : List (Value × Bool)} (h1 : t.okF run Sf nb fins ((e, b) :: F) = true) : (HTree.need e b t).okF run Sf nb fins F = true := h1
def mkF5 (b : Bool) (F : List (Value × Bool)) : List (Value × Bool) := (sv 30 [mkLen 5 1, .int .i64 0], b) :: (sv 31 [mkLen 5 1, .int .i64 1001], true) :: (sv 30 [mkLen 5 1, mkLen 5 1], true) :: F
def mkF5n (F : List (Value × Bool)) : List (Value × Bool) := (sv 31 [sv 74 [sv 81 [.int .i64 103, sv 81 [.int .i64 110, mkSp 5]], .int .i64 1], .int .i64 16777216], true) :: (sv 31 [sv 74 [sv 81 [.int .i64 110, mkSp 5], .int .i64 1], .int .i64 16777216], true) :: mkF5 false F
theorem mk_r000 {FN : Fns} (t1 t2 t3 t4 : TypeId) : (mkNo mkI1 mkCn (.int .i64 0)).okF (mkRun FN t1 t2 t3 t4) (mkKn FN) 0 [mkFin] (mkF5 true ((mkE0, true) :: [(sv 31 [.int .u8 250, sv 0 [.int .u8 1]], true)])) = true := by kernel_rfl
theorem mk_r001 {FN : Fns} (t1 t2 t3 t4 : TypeId) : (mkYe mkI1 mkCn (.int .i64 0)).okF (mkRun FN t1 t2 t3 t4) (mkKn FN) 0 [mkFin] (mkF5n ((mkE0, true) :: [(sv 31 [.int .u8 250, sv 0 [.int .u8 1]], true)])) = true := by kernel_rfl
theorem mk_r010 {FN : Fns} (t1 t2 t3 t4 : TypeId) : (mkNo mkI1 (.int .i64 0) mkUn).okF (mkRun FN t1 t2 t3 t4) (mkKn FN) 0 [mkFin] (mkF5 true ((mkE1, true) :: (mkE0, false) :: [(sv 31 [.int .u8 250, sv 0 [.int .u8 1]], true)])) = true := by kernel_rfl
theorem mk_r011 {FN : Fns} (t1 t2 t3 t4 : TypeId) : (mkYe mkI1 (.int .i64 0) mkUn).okF (mkRun FN t1 t2 t3 t4) (mkKn FN) 0 [mkFin] (mkF5n ((mkE1, true) :: (mkE0, false) :: [(sv 31 [.int .u8 250, sv 0 [.int .u8 1]], true)])) = true := by kernel_rfl
theorem mk_r020 {FN : Fns} (t1 t2 t3 t4 : TypeId) : (mkNo mkI1 (.int .i64 0) (.int .i64 0)).okF (mkRun FN t1 t2 t3 t4) (mkKn FN) 0 [mkFin] (mkF5 true ((mkE1, false) :: (mkE0, false) :: [(sv 31 [.int .u8 250, sv 0 [.int .u8 1]], true)])) = true := by kernel_rfl
theorem mk_r021 {FN : Fns} (t1 t2 t3 t4 : TypeId) : (mkYe mkI1 (.int .i64 0) (.int .i64 0)).okF (mkRun FN t1 t2 t3 t4) (mkKn FN) 0 [mkFin] (mkF5n ((mkE1, false) :: (mkE0, false) :: [(sv 31 [.int .u8 250, sv 0 [.int .u8 1]], true)])) = true := by kernel_rfl
theorem mk_r100 {FN : Fns} (t1 t2 t3 t4 : TypeId) : (mkNo mkI2 mkCn (.int .i64 0)).okF (mkRun FN t1 t2 t3 t4) (mkKn FN) 0 [mkFin] (mkF5 true ((mkE0, true) :: [(sv 31 [.int .u8 250, sv 0 [.int .u8 1]], false)])) = true := by kernel_rfl
theorem mk_r101 {FN : Fns} (t1 t2 t3 t4 : TypeId) : (mkYe mkI2 mkCn (.int .i64 0)).okF (mkRun FN t1 t2 t3 t4) (mkKn FN) 0 [mkFin] (mkF5n ((mkE0, true) :: [(sv 31 [.int .u8 250, sv 0 [.int .u8 1]], false)])) = true := by kernel_rfl
theorem mk_r110 {FN : Fns} (t1 t2 t3 t4 : TypeId) : (mkNo mkI2 (.int .i64 0) mkUn).okF (mkRun FN t1 t2 t3 t4) (mkKn FN) 0 [mkFin] (mkF5 true ((mkE1, true) :: (mkE0, false) :: [(sv 31 [.int .u8 250, sv 0 [.int .u8 1]], false)])) = true := by kernel_rfl
theorem mk_r111 {FN : Fns} (t1 t2 t3 t4 : TypeId) : (mkYe mkI2 (.int .i64 0) mkUn).okF (mkRun FN t1 t2 t3 t4) (mkKn FN) 0 [mkFin] (mkF5n ((mkE1, true) :: (mkE0, false) :: [(sv 31 [.int .u8 250, sv 0 [.int .u8 1]], false)])) = true := by kernel_rfl
theorem mk_r120 {FN : Fns} (t1 t2 t3 t4 : TypeId) : (mkNo mkI2 (.int .i64 0) (.int .i64 0)).okF (mkRun FN t1 t2 t3 t4) (mkKn FN) 0 [mkFin] (mkF5 true ((mkE1, false) :: (mkE0, false) :: [(sv 31 [.int .u8 250, sv 0 [.int .u8 1]], false)])) = true := by kernel_rfl
theorem mk_r121 {FN : Fns} (t1 t2 t3 t4 : TypeId) : (mkYe mkI2 (.int .i64 0) (.int .i64 0)).okF (mkRun FN t1 t2 t3 t4) (mkKn FN) 0 [mkFin] (mkF5n ((mkE1, false) :: (mkE0, false) :: [(sv 31 [.int .u8 250, sv 0 [.int .u8 1]], false)])) = true := by kernel_rfl
theorem mk_run {FN : Fns} (t1 t2 t3 t4 : TypeId) : mkT.okF (mkRun FN t1 t2 t3 t4) (mkKn FN) 0 [mkFin] [] = true := okF_node (okF_node (okF_need (okF_need (okF_node (mk_r000 t1 t2 t3 t4) (okF_need (okF_need (mk_r001 t1 t2 t3 t4)))))) (okF_node (okF_need (okF_need (okF_node (mk_r010 t1 t2 t3 t4) (okF_need (okF_need (mk_r011 t1 t2 t3 t4)))))) (okF_need (okF_need (okF_node (mk_r020 t1 t2 t3 t4) (okF_need (okF_need (mk_r021 t1 t2 t3 t4)))))))) (okF_node (okF_need (okF_need (okF_node (mk_r100 t1 t2 t3 t4) (okF_need (okF_need (mk_r101 t1 t2 t3 t4)))))) (okF_node (okF_need (okF_need (okF_node (mk_r110 t1 t2 t3 t4) (okF_need (okF_need (mk_r111 t1 t2 t3 t4)))))) (okF_need (okF_need (okF_node (mk_r120 t1 t2 t3 t4) (okF_need (okF_need (mk_r121 t1 t2 t3 t4))))))))
end Go.Proofs.YthpapjdjnnkdbaaGreatDoor
