/- kalendslaw10.runes: its loop, itself: contracts that speak of memory. -/
import Derived.Test.YtebkccfnilcfpaaGreatDoorSyCtrH
import Derived.Test.YtebkccfnilcfpaaGreatDoorFoldP
namespace Go.Proofs.YtebkccfnilcfpaaGreatDoor
set_option linter.unusedVariables false
set_option linter.unusedSimpArgs false
open Go Go.Sy Go.RowKit

/-! ### The round -/

def rS : Value := sv 2 [.int .i64 0]
def rI : Value := sv 0 [.int .i64 1]
def rP (k : Nat) : Value := match k with
  | 0 => rI
  | k + 1 => sv 20 [.int .i64 0, rI, .int .i64 (k + 1 : Nat)]
def rB (k : Nat) : Value := sv 12 [rS, rP k]
def rN : Value := sv 10 [rS]

def rLen (k : Nat) (R T : HTree) : HTree := .node (sv 31 [rN, rP k]) R T
def rBy (k : Nat) (lo hi : Nat) (R T : HTree) : HTree := .need (sv 31 [rP k, .int .i64 0]) false (.need (sv 31 [rP k, rN]) true (.node (sv 31 [rB k, .int .u8 lo]) R (.node (sv 31 [.int .u8 hi, rB k]) R T)))
def rFour (lo hi : Nat) (R : HTree) (O : Nat → HTree) : HTree := rLen 4 R (rBy 1 lo hi R (rBy 2 128 191 R (rBy 3 128 191 R (O 4))))
def rThree (lo hi : Nat) (R : HTree) (O : Nat → HTree) : HTree := rLen 3 R (rBy 1 lo hi R (rBy 2 128 191 R (O 3)))
def rTwo (R : HTree) (O : Nat → HTree) : HTree := rLen 2 R (rBy 1 128 191 R (O 2))
def rLt (n : Nat) : Value := sv 31 [rB 0, .int .u8 n]
def rGt (n : Nat) : Value := sv 31 [.int .u8 n, rB 0]
def rEq (n : Nat) : Value := sv 30 [rB 0, .int .u8 n]

def rnT (R : HTree) (O : Nat → HTree) (D : HTree) : HTree :=
  .node (sv 31 [rI, rN]) (.need (sv 31 [rI, .int .i64 0]) false (.node (rLt 128) (rLen 1 R (O 1))
    (.node (rLt 194) (.need (rLt 224) true (.need (rLt 240) true R))
      (.node (rGt 223) (.need (rLt 224) false (.node (rGt 239) (.need (rLt 240) false (.node (rGt 244) R
          (.node (rEq 240) (.need (rEq 244) false (rFour 144 191 R O)) (.node (rEq 244) (rFour 128 143 R O) (rFour 128 191 R O)))))
        (.node (rEq 224) (.need (rEq 237) false (rThree 160 191 R O)) (.node (rEq 237) (rThree 128 159 R O) (rThree 128 191 R O)))))
        (rTwo R O))))) D

def rPart (k : Nat) : Value := sv 13 [rS, rI, rP k]
def rR0 : HTree := .leaf .ret 0 [rI]
def rO0 (k : Nat) : HTree := .need (sv 31 [rP k, rI]) false (.leaf .normal 1 [rS, rP k, .agg #[rPart k]])
def rD0 : HTree := .leaf (.exit 0) 2 []
def rV : Value := sv 98 [.int .i64 1000002]
def rR1 : HTree := .leaf .ret 1 [rV, rI]
def rO1 (k : Nat) : HTree := .need (sv 31 [rP k, rI]) false (.need (sv 31 [sv 74 [rV, .int .i64 1], .int .i64 16777216]) true (.leaf .normal 1 [rS, rP k, sv 76 [rV, rPart k]]))
def rD1 : HTree := .leaf (.exit 0) 3 [rV]

def rnSh : List Shape := [⟨[(0, lfs 0), (5, lfi .i64 1), (4, .slice none 0 0)], [], 2⟩, ⟨[(0, lfs 0), (5, lfi .i64 1), (4, nmR 0)], [.own [.str] 9 2], 3⟩]
def rnFi : List Shape := [⟨[(2, .slice none 0 0), (3, lfi .i64 0)], [], 1⟩, ⟨[(2, nmR 0), (3, lfi .i64 1)], [.own [.str] 9 0], 2⟩, ⟨[(4, .slice none 0 0)], [], 0⟩, ⟨[(4, nmR 0)], [.own [.str] 9 0], 1⟩]
def rnK : List Nat := [0, 2, 3, 4, 5, 6, 7, 8, 9, 10, 11, 12, 13, 14, 15, 16, 17, 18, 19, 20, 21, 22, 23, 24, 25, 26, 27, 28, 29, 30, 31, 32, 33, 34, 35, 36, 37, 38, 39, 40, 41, 42, 43, 44, 45, 46, 47, 48, 49, 50, 51, 52, 53, 54, 55, 56, 57, 58, 59, 60, 61, 62, 63, 64, 65, 66, 67, 68, 69, 70, 71, 72, 73, 74, 75, 76, 77, 78, 79, 80, 81, 82, 83, 84, 85, 86, 87, 88, 89, 90, 91, 92, 93, 94, 95, 96]

theorem rnRounds {FN : Fns} : RoundsOk FN ⟨[], [], [], [], []⟩ 30 60 98 0 rnSh rnFi rnK [rnT rR0 rO0 rD0, rnT rR1 rO1 rD1] [[], []] := fun t1 t2 t3 t4 => by kernel_rfl
end Go.Proofs.YtebkccfnilcfpaaGreatDoor
