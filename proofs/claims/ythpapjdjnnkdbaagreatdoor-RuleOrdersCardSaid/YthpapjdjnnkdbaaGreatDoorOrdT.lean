/- RuleOrders: expressions by the argument's own; its decisions. -/
import Derived.Test.YthpapjdjnnkdbaaGreatDoorOrdC
import Derived.Test.YthpapjdjnnkdbaaGreatDoorLawR
import Derived.Test.YthpapjdjnnkdbaaGreatDoorSyT
namespace Go.Proofs.YthpapjdjnnkdbaaGreatDoor
set_option linter.unusedVariables false
set_option linter.unusedSimpArgs false
open Go Go.Sy Go.RowKit

/-- The expressions of an argument of kalendslaw02.R, and of what Make makes of it. -/
structure OA where
  v0 : Value
  v1 : Value
  v2 : Value
  v3 : Value
  v4 : Value
  r0 : Value
  r1 : Value
  r2 : Value
  r3 : Value
def OA.F (o : OA) : Value := sv 14 [.int .i64 0, sv 24 [.int .u8 0, o.v0, .int .u8 4]]
def OA.I (o : OA) : Value := sv 4 [.int .i64 121, o.v1]
def OA.C (o : OA) : Value := sv 4 [.int .i64 122, o.v2, o.v3]
def OA.U (o : OA) : Value := sv 4 [.int .i64 123, o.v2, o.v4]
def OA.M (o : OA) : Value := sv 81 [.int .i64 120, o.r0]
def OA.D (o : OA) : Value := sv 81 [.int .i64 124, o.v0, o.r1]
def OA.W (o : OA) : Value := sv 81 [.int .i64 125, o.v0, o.r2]
def OA.P (o : OA) : Value := sv 81 [.int .i64 126, o.v0, o.r0, o.r1, o.r2, o.r3]

def oX : OA := ⟨sv 0 [.int .u8 4], sv 0 [.int .u8 5], sv 0 [.int .u8 6], sv 0 [.int .u16 7], sv 0 [.int .u32 8], sv 80 [.int .i64 0], sv 80 [.int .i64 1], sv 80 [.int .i64 2], sv 80 [.int .i64 3]⟩
def oY : OA := ⟨sv 0 [.int .u8 9], sv 0 [.int .u8 10], sv 0 [.int .u8 11], sv 0 [.int .u16 12], sv 0 [.int .u32 13], sv 80 [.int .i64 4], sv 80 [.int .i64 5], sv 80 [.int .i64 6], sv 80 [.int .i64 7]⟩
/-- .. with Interval one more -/
def oZ : OA := { oX with v1 := sv 20 [.int .u8 0, sv 0 [.int .u8 5], .int .u8 1] }
def oN (i : Int) : Value := sv 0 [.int .i64 i]
def oFls : Tree := .leaf (.bool false)

/-- the lists' lengths are small -/
def oL : List (Value × Int) → Tree → Tree
  | [], T => T
  | (v, z) :: l, T => .need (sv 31 [sv 74 [v, .int .i64 z], .int .i64 16777216]) true (oL l T)
def OA.ls (o : OA) : List (Value × Int) := [(o.M, 1), (o.D, 1), (o.W, 2), (o.P, 1)]
def oMake (o : OA) (T : Tree) : Tree := .need (sv 31 [o.v0, .int .u8 0]) false (.need (sv 31 [sv 74 [o.r0, .int .i64 1], .int .i64 1001]) true (.need (sv 31 [sv 74 [o.r1, .int .i64 1], .int .i64 1001]) true
  (.need (sv 31 [sv 74 [o.r2, .int .i64 2], .int .i64 1001]) true (.need (sv 31 [sv 74 [o.r3, .int .i64 1], .int .i64 1001]) true (.need (sv 5 [.int .i64 127, o.r2]) true T)))))
/-- Same's answer -/
def oQ (o p : OA) : Value := sv 5 [.int .i64 142, o.F, o.I, o.C, o.U, p.F, p.I, p.C, p.U, o.M, o.D, o.W, o.P, p.M, p.D, p.W, p.P]
def oLeaf (o : OA) : Tree := .leaf (oQ o o)
/-- Order's answer -/
def oO (c d : Value) : Value := sv 4 [.int .i64 143, oN 0, oN 1, c, d]
def oOrd (c d less : Value) (T : Tree) : Tree := .node (sv 30 [sv 30 [oO c d, .int .i64 0], sv 33 [oN 0, c, oN 1, d]]) (.node (sv 30 [sv 31 [oO c d, .int .i64 0], less]) T oFls) oFls
def oStop (o : OA) (c d less : Value) (l : List (Value × Int)) : Tree := oOrd c d less (oL (l ++ l) (oLeaf o))
def oCmp (o p : OA) (c d less : Value) : Tree :=
  .node (sv 30 [o.F, p.F]) (.node (sv 30 [o.I, p.I]) (.node (sv 30 [o.C, p.C]) (.node (sv 30 [o.U, p.U])
    (oL [(o.M, 1), (p.M, 1)] (.node (sv 5 [.int .i64 140, o.M, p.M])
      (oL [(o.D, 1), (p.D, 1)] (.node (sv 5 [.int .i64 140, o.D, p.D])
        (oL [(o.W, 2), (p.W, 2)] (.node (sv 5 [.int .i64 141, o.W, p.W])
          (oL [(o.P, 1), (p.P, 1)] (oOrd c d less (.node (sv 30 [oQ o p, sv 5 [.int .i64 140, o.P, p.P]]) (oLeaf o) oFls)))
          (oStop o c d less [(o.P, 1)])))
        (oStop o c d less [(o.W, 2), (o.P, 1)])))
      (oStop o c d less [(o.D, 1), (o.W, 2), (o.P, 1)])))
    (oStop o c d less o.ls)) (oStop o c d less o.ls)) (oStop o c d less o.ls)) (oStop o c d less o.ls)
/-- a rule's lists beside themselves -/
def oLs (o : OA) (T : Tree) : Tree := oL [(o.M, 1), (o.M, 1)] (.need (sv 5 [.int .i64 140, o.M, o.M]) true (oL [(o.D, 1), (o.D, 1)] (.need (sv 5 [.int .i64 140, o.D, o.D]) true
  (oL [(o.W, 2), (o.W, 2)] (.need (sv 5 [.int .i64 141, o.W, o.W]) true (oL [(o.P, 1), (o.P, 1)] T))))))
def oAA (T : Tree) : Tree := .need (sv 31 [oN 0, oN 0]) false (.need (sv 30 [oN 0, oN 0]) true (oMake oX (.need (sv 30 [oX.F, oX.F]) true T)))
def oCU (T : Tree) : Tree := .need (sv 30 [oX.C, oX.C]) true (.need (sv 30 [oX.U, oX.U]) true T)
def oLt (a b : Int) : Value := sv 31 [oN a, oN b]
def oA : Tree := oAA (.node (sv 30 [oX.I, oZ.I]) (oCU (oLs oX (oOrd (oN 0) (oN 1) (oLt 1 1) (.node (sv 30 [oQ oX oZ, sv 5 [.int .i64 140, oX.P, oX.P]]) (oLeaf oX) oFls))))
  (oOrd (oN 0) (oN 1) (oLt 1 1) (oL (oX.ls ++ oX.ls) (.node (sv 30 [oQ oX oZ, .bool false]) (oLeaf oX) oFls))))
def oB : Tree := oAA (.need (sv 30 [oX.I, oX.I]) true (oCU (oLs oX (oOrd (oN 0) (oN 3) (oLt 1 3) (.node (sv 30 [oQ oX oX, sv 5 [.int .i64 140, oX.P, oX.P]]) (oLeaf oX) oFls)))))
def oC (less : Value) : Tree := oMake oX (oMake oY (oCmp oX oY (oN 2) (oN 3) less))
def oSm : Value := sv 24 [.int .u8 0, sv 0 [.int .u8 14], .int .u8 3]
def oTop : Tree := .node (sv 31 [.int .u8 0, oSm]) (.node (sv 31 [.int .u8 1, oSm]) oA oB)
  (.need (sv 31 [.int .u8 1, oSm]) false (.node (oLt 0 2) (oC (.bool true)) (.node (sv 30 [oN 0, oN 2]) (oC (oLt 1 3)) (oC (.bool false)))))
def oHead (i : Int) (T : Tree) : Tree := .node (xL i) (.leaf (.bool true)) (.node (xL (i + 1)) (.leaf (.bool true)) (.node (xL (i + 2)) (.leaf (.bool true)) (.node (sv 8 [xL (i + 3)]) T (.leaf (.bool true)))))
def ordersT : Tree := oHead 0 (oHead 4 oTop)

def oArgs : List Value := [.agg #[oN 0, oN 1], .agg #[oN 2, oN 3],
  .agg #[sv 0 [.int .u8 4], sv 0 [.int .u8 5], sv 0 [.int .u8 6], sv 0 [.int .u16 7], sv 0 [.int .u32 8], sv 9 [.int .i64 0], sv 9 [.int .i64 1], sv 9 [.int .i64 2], sv 9 [.int .i64 3]],
  .agg #[sv 0 [.int .u8 9], sv 0 [.int .u8 10], sv 0 [.int .u8 11], sv 0 [.int .u16 12], sv 0 [.int .u32 13], sv 9 [.int .i64 4], sv 9 [.int .i64 5], sv 9 [.int .i64 6], sv 9 [.int .i64 7]], sv 0 [.int .u8 14]]
def toldO : Tolds := ⟨[awC 4], [equalI, equalN], [makeC, sameC, orderC], [], []⟩
def rowsO (R S : RowE) : RowE where
  v i := match i with
    | 0 => R.v 0 | 1 => R.v 1 | 2 => R.v 2 | 3 => R.v 3 | 4 => S.v 0 | 5 => S.v 1 | 6 => S.v 2 | 7 => S.v 3
    | _ => undef
  cells i := match i with
    | 0 => R.cells 0 | 1 => R.cells 1 | 2 => R.cells 2 | 3 => R.cells 3 | 4 => S.cells 0 | 5 => S.cells 1 | 6 => S.cells 2 | 7 => S.cells 3
    | _ => []
def srtsO : List (Nat × List Srt) := [(0, [.int .u8]), (1, [.int .i8]), (2, [.int .i8, .int .u8]), (3, [.int .i16]), (4, [.int .u8]), (5, [.int .i8]), (6, [.int .i8, .int .u8]), (7, [.int .i16])]
def kO (R S : RowE) : RowsK := ⟨srtsO, rowsO R S⟩
noncomputable def orun (R S : RowE) (F : List (Value × Bool)) : Option Value := (arun (cfgH fn2 (kO R S) toldO F) 1000 3 oArgs (heapOf 20 (vars gT1 gT2 gT3 gT4))).map (·.1)
theorem oT_node {run : List (Value × Bool) → Option Value} {e : Value} {t f : Tree} {F : List (Value × Bool)} (h1 : t.ok run ((e, true) :: F) = true) (h2 : f.ok run ((e, false) :: F) = true) : (Tree.node e t f).ok run F = true := by
  simp only [Tree.ok, h1, h2, Bool.and_self]
theorem oT_need {run : List (Value × Bool) → Option Value} {e : Value} {b : Bool} {t : Tree} {F : List (Value × Bool)} (h1 : t.ok run ((e, b) :: F) = true) : (Tree.need e b t).ok run F = true := h1
def oLF : List (Value × Int) → List (Value × Bool) → List (Value × Bool)
  | [], F => F
  | (v, z) :: l, F => oLF l ((sv 31 [sv 74 [v, .int .i64 z], .int .i64 16777216], true) :: F)
theorem oT_L {run : List (Value × Bool) → Option Value} {T : Tree} : ∀ {l : List (Value × Int)} {F : List (Value × Bool)}, T.ok run (oLF l F) = true → (oL l T).ok run F = true
  | [], _, h => h
  | (_, _) :: _, _, h => oT_need (oT_L h)
def oMakeF (o : OA) (F : List (Value × Bool)) : List (Value × Bool) := (sv 5 [.int .i64 127, o.r2], true) :: (sv 31 [sv 74 [o.r3, .int .i64 1], .int .i64 1001], true) :: (sv 31 [sv 74 [o.r2, .int .i64 2], .int .i64 1001], true) ::
  (sv 31 [sv 74 [o.r1, .int .i64 1], .int .i64 1001], true) :: (sv 31 [sv 74 [o.r0, .int .i64 1], .int .i64 1001], true) :: (sv 31 [o.v0, .int .u8 0], false) :: F
theorem oT_make {run : List (Value × Bool) → Option Value} {o : OA} {T : Tree} {F : List (Value × Bool)} (h : T.ok run (oMakeF o F) = true) : (oMake o T).ok run F = true := h
def oHF : List (Value × Bool) := [(sv 8 [xL (4 + 3)], true), (xL (4 + 2), false), (xL (4 + 1), false), (xL 4, false), (sv 8 [xL (0 + 3)], true), (xL (0 + 2), false), (xL (0 + 1), false), (xL 0, false)]
def oVF : Nat → List (Value × Bool)
  | 0 => (oLt 0 2, true) :: (sv 31 [.int .u8 1, oSm], false) :: (sv 31 [.int .u8 0, oSm], false) :: oHF
  | 1 => (sv 30 [oN 0, oN 2], true) :: (oLt 0 2, false) :: (sv 31 [.int .u8 1, oSm], false) :: (sv 31 [.int .u8 0, oSm], false) :: oHF
  | _ => (sv 30 [oN 0, oN 2], false) :: (oLt 0 2, false) :: (sv 31 [.int .u8 1, oSm], false) :: (sv 31 [.int .u8 0, oSm], false) :: oHF
def oVL : Nat → Value
  | 0 => .bool true
  | 1 => oLt 1 3
  | _ => .bool false
def oG (v : Nat) : List (Value × Bool) := oMakeF oY (oMakeF oX (oVF v))
def oGF (v : Nat) := (sv 30 [oX.F, oY.F], true) :: oG v
def oGI (v : Nat) := (sv 30 [oX.I, oY.I], true) :: oGF v
def oGC (v : Nat) := (sv 30 [oX.C, oY.C], true) :: oGI v
def oGU (v : Nat) := oLF [(oX.M, 1), (oY.M, 1)] ((sv 30 [oX.U, oY.U], true) :: oGC v)
def oGM (v : Nat) := oLF [(oX.D, 1), (oY.D, 1)] ((sv 5 [.int .i64 140, oX.M, oY.M], true) :: oGU v)
def oGD (v : Nat) := oLF [(oX.W, 2), (oY.W, 2)] ((sv 5 [.int .i64 140, oX.D, oY.D], true) :: oGM v)
def oGW (v : Nat) := oLF [(oX.P, 1), (oY.P, 1)] ((sv 5 [.int .i64 141, oX.W, oY.W], true) :: oGD v)
def oSt (v : Nat) (l : List (Value × Int)) : Tree := oStop oX (oN 2) (oN 3) (oVL v) l

section
variable {R S : RowE}
theorem o_A : oA.ok (orun R S) ((sv 31 [.int .u8 1, oSm], true) :: (sv 31 [.int .u8 0, oSm], true) :: oHF) = true := by kernel_rfl
theorem o_B : oB.ok (orun R S) ((sv 31 [.int .u8 1, oSm], false) :: (sv 31 [.int .u8 0, oSm], true) :: oHF) = true := by kernel_rfl
theorem o_0_1 : (oSt 0 oX.ls).ok (orun R S) ((sv 30 [oX.F, oY.F], false) :: oG 0) = true := by kernel_rfl
theorem o_0_2 : (oSt 0 oX.ls).ok (orun R S) ((sv 30 [oX.I, oY.I], false) :: oGF 0) = true := by kernel_rfl
theorem o_0_3 : (oSt 0 oX.ls).ok (orun R S) ((sv 30 [oX.C, oY.C], false) :: oGI 0) = true := by kernel_rfl
theorem o_0_4 : (oSt 0 oX.ls).ok (orun R S) ((sv 30 [oX.U, oY.U], false) :: oGC 0) = true := by kernel_rfl
theorem o_0_5 : (oSt 0 [(oX.D, 1), (oX.W, 2), (oX.P, 1)]).ok (orun R S) ((sv 5 [.int .i64 140, oX.M, oY.M], false) :: oGU 0) = true := by kernel_rfl
theorem o_0_6 : (oSt 0 [(oX.W, 2), (oX.P, 1)]).ok (orun R S) ((sv 5 [.int .i64 140, oX.D, oY.D], false) :: oGM 0) = true := by kernel_rfl
theorem o_0_7 : (oSt 0 [(oX.P, 1)]).ok (orun R S) ((sv 5 [.int .i64 141, oX.W, oY.W], false) :: oGD 0) = true := by kernel_rfl
theorem o_0_8 : (oOrd (oN 2) (oN 3) (oVL 0) (.node (sv 30 [oQ oX oY, sv 5 [.int .i64 140, oX.P, oY.P]]) (oLeaf oX) oFls)).ok (orun R S) (oGW 0) = true := by kernel_rfl
theorem o_0 : (oC (oVL 0)).ok (orun R S) (oVF 0) = true := oT_make (oT_make (oT_node (oT_node (oT_node (oT_node (oT_L (oT_node (oT_L (oT_node (oT_L (oT_node (oT_L o_0_8) o_0_7)) o_0_6)) o_0_5)) o_0_4) o_0_3) o_0_2) o_0_1))
theorem o_1_1 : (oSt 1 oX.ls).ok (orun R S) ((sv 30 [oX.F, oY.F], false) :: oG 1) = true := by kernel_rfl
theorem o_1_2 : (oSt 1 oX.ls).ok (orun R S) ((sv 30 [oX.I, oY.I], false) :: oGF 1) = true := by kernel_rfl
theorem o_1_3 : (oSt 1 oX.ls).ok (orun R S) ((sv 30 [oX.C, oY.C], false) :: oGI 1) = true := by kernel_rfl
theorem o_1_4 : (oSt 1 oX.ls).ok (orun R S) ((sv 30 [oX.U, oY.U], false) :: oGC 1) = true := by kernel_rfl
theorem o_1_5 : (oSt 1 [(oX.D, 1), (oX.W, 2), (oX.P, 1)]).ok (orun R S) ((sv 5 [.int .i64 140, oX.M, oY.M], false) :: oGU 1) = true := by kernel_rfl
theorem o_1_6 : (oSt 1 [(oX.W, 2), (oX.P, 1)]).ok (orun R S) ((sv 5 [.int .i64 140, oX.D, oY.D], false) :: oGM 1) = true := by kernel_rfl
theorem o_1_7 : (oSt 1 [(oX.P, 1)]).ok (orun R S) ((sv 5 [.int .i64 141, oX.W, oY.W], false) :: oGD 1) = true := by kernel_rfl
theorem o_1_8 : (oOrd (oN 2) (oN 3) (oVL 1) (.node (sv 30 [oQ oX oY, sv 5 [.int .i64 140, oX.P, oY.P]]) (oLeaf oX) oFls)).ok (orun R S) (oGW 1) = true := by kernel_rfl
theorem o_1 : (oC (oVL 1)).ok (orun R S) (oVF 1) = true := oT_make (oT_make (oT_node (oT_node (oT_node (oT_node (oT_L (oT_node (oT_L (oT_node (oT_L (oT_node (oT_L o_1_8) o_1_7)) o_1_6)) o_1_5)) o_1_4) o_1_3) o_1_2) o_1_1))
theorem o_2_1 : (oSt 2 oX.ls).ok (orun R S) ((sv 30 [oX.F, oY.F], false) :: oG 2) = true := by kernel_rfl
theorem o_2_2 : (oSt 2 oX.ls).ok (orun R S) ((sv 30 [oX.I, oY.I], false) :: oGF 2) = true := by kernel_rfl
theorem o_2_3 : (oSt 2 oX.ls).ok (orun R S) ((sv 30 [oX.C, oY.C], false) :: oGI 2) = true := by kernel_rfl
theorem o_2_4 : (oSt 2 oX.ls).ok (orun R S) ((sv 30 [oX.U, oY.U], false) :: oGC 2) = true := by kernel_rfl
theorem o_2_5 : (oSt 2 [(oX.D, 1), (oX.W, 2), (oX.P, 1)]).ok (orun R S) ((sv 5 [.int .i64 140, oX.M, oY.M], false) :: oGU 2) = true := by kernel_rfl
theorem o_2_6 : (oSt 2 [(oX.W, 2), (oX.P, 1)]).ok (orun R S) ((sv 5 [.int .i64 140, oX.D, oY.D], false) :: oGM 2) = true := by kernel_rfl
theorem o_2_7 : (oSt 2 [(oX.P, 1)]).ok (orun R S) ((sv 5 [.int .i64 141, oX.W, oY.W], false) :: oGD 2) = true := by kernel_rfl
theorem o_2_8 : (oOrd (oN 2) (oN 3) (oVL 2) (.node (sv 30 [oQ oX oY, sv 5 [.int .i64 140, oX.P, oY.P]]) (oLeaf oX) oFls)).ok (orun R S) (oGW 2) = true := by kernel_rfl
theorem o_2 : (oC (oVL 2)).ok (orun R S) (oVF 2) = true := oT_make (oT_make (oT_node (oT_node (oT_node (oT_node (oT_L (oT_node (oT_L (oT_node (oT_L (oT_node (oT_L o_2_8) o_2_7)) o_2_6)) o_2_5)) o_2_4) o_2_3) o_2_2) o_2_1))
theorem o_h0 : Tree.ok (orun R S) (.leaf (.bool true)) [(xL 0, true)] = true := by kernel_rfl
theorem o_h1 : Tree.ok (orun R S) (.leaf (.bool true)) ((xL (0 + 1), true) :: [(xL 0, false)]) = true := by kernel_rfl
theorem o_h2 : Tree.ok (orun R S) (.leaf (.bool true)) ((xL (0 + 2), true) :: (xL (0 + 1), false) :: [(xL 0, false)]) = true := by kernel_rfl
theorem o_h3 : Tree.ok (orun R S) (.leaf (.bool true)) ((sv 8 [xL (0 + 3)], false) :: (xL (0 + 2), false) :: (xL (0 + 1), false) :: [(xL 0, false)]) = true := by kernel_rfl
def oH4 : List (Value × Bool) := (sv 8 [xL (0 + 3)], true) :: (xL (0 + 2), false) :: (xL (0 + 1), false) :: [(xL 0, false)]
theorem o_h4 : Tree.ok (orun R S) (.leaf (.bool true)) ((xL 4, true) :: oH4) = true := by kernel_rfl
theorem o_h5 : Tree.ok (orun R S) (.leaf (.bool true)) ((xL (4 + 1), true) :: (xL 4, false) :: oH4) = true := by kernel_rfl
theorem o_h6 : Tree.ok (orun R S) (.leaf (.bool true)) ((xL (4 + 2), true) :: (xL (4 + 1), false) :: (xL 4, false) :: oH4) = true := by kernel_rfl
theorem o_h7 : Tree.ok (orun R S) (.leaf (.bool true)) ((sv 8 [xL (4 + 3)], false) :: (xL (4 + 2), false) :: (xL (4 + 1), false) :: (xL 4, false) :: oH4) = true := by kernel_rfl
theorem orders_run : ordersT.ok (orun R S) [] = true :=
  oT_node o_h0 (oT_node o_h1 (oT_node o_h2 (oT_node (oT_node o_h4 (oT_node o_h5 (oT_node o_h6 (oT_node
    (oT_node (oT_node o_A o_B) (oT_need (oT_node o_0 (oT_node o_1 o_2)))) o_h7)))) o_h3)))
end
end Go.Proofs.YthpapjdjnnkdbaaGreatDoor
