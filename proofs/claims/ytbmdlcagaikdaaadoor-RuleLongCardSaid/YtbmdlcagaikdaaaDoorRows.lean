/-
  NARROWER THAN 'FOR EVERY INPUT', by the rows' own cells (each row's printed sentence says how): RuleRaw: laid · RuleLong: laid · RuleMay: laid · RuleFewer: laid · RuleEnds: laid.
  DERIVED. THE GIVEN ROWS OF THIS SEAT. 5 by the template 'for every input the law returns true; each argument reads behind the call as it read before'; 0 by the template 'total and deterministic' (their statements: YtbmdlcagaikdaaaDoorTotals.lean).
  GIVEN WITH THE SEED: the statements are not yours to turn. If you find one false, say at which input.
  Laid BY PROGRAM, IN A SANDBOX (cutbox-rows.mjs): the forced cells as the released guide's own fill.sh prints them over the translation 7ea65018beb9f41e… (all of the seat's roots in one cut). By AI agents, Wed Nov 11 2026. No macro, syntax, notation, axiom, sorry.
-/
import Derived.Test.YtbmdlcagaikdaaaDoorChecked
import GoSem.Claim
import GoSem.ClaimJoined
import GoSem.ClaimMapViews
import Derived.JoinedTies
import Derived.KernelRfl
namespace Go.Proofs.YtbmdlcagaikdaaaDoor
/- THE CELL 'sum', in the pinned program and in every row, IS THE sha256 OF THE DUMP (.gsa) THAT YtbmdlcagaikdaaaDoorProg.lean LOADS. Nothing in Lean hashes anything: it is a label: what it is worth is what the hold of that sum in a sandbox is worth. -/
noncomputable def Tryd.pinned : Pinned := { name := "ytbmdlcagaikdaaadoor", sum := "7ea65018beb9f41e23f84be855fb45c5571808ddd0aa0c3077df374c43c90167", checked := Tryd.checked }
namespace Rows
def none {H : Type} : Left H := { results := [], args := [] }

/- WHAT THE LISTED PACKAGE-LEVEL VARIABLES READ AS WHEN THE CALL BEGINS. Each datum BY PROGRAM (the guide's laid-datum.mjs) off the statement by which the dump's own 'gosem.cut.vars' lays the variable. In a bare row this is a premise. The card (YtbmdlcagaikdaaaDoorCards.lean) ties it to the program's text. -/
def laid_math_bits_deBruijn32tab {H : Type} : DataW H := .agg [.lit (.int .u8 0), .lit (.int .u8 1), .lit (.int .u8 28), .lit (.int .u8 2), .lit (.int .u8 29), .lit (.int .u8 14), .lit (.int .u8 24), .lit (.int .u8 3), .lit (.int .u8 30), .lit (.int .u8 22), .lit (.int .u8 20), .lit (.int .u8 15), .lit (.int .u8 25), .lit (.int .u8 17), .lit (.int .u8 4), .lit (.int .u8 8), .lit (.int .u8 31), .lit (.int .u8 27), .lit (.int .u8 13), .lit (.int .u8 23), .lit (.int .u8 21), .lit (.int .u8 19), .lit (.int .u8 16), .lit (.int .u8 7), .lit (.int .u8 26), .lit (.int .u8 12), .lit (.int .u8 18), .lit (.int .u8 6), .lit (.int .u8 11), .lit (.int .u8 5), .lit (.int .u8 10), .lit (.int .u8 9)]
def laid_math_bits_deBruijn64tab {H : Type} : DataW H := .agg [.lit (.int .u8 0), .lit (.int .u8 1), .lit (.int .u8 56), .lit (.int .u8 2), .lit (.int .u8 57), .lit (.int .u8 49), .lit (.int .u8 28), .lit (.int .u8 3), .lit (.int .u8 61), .lit (.int .u8 58), .lit (.int .u8 42), .lit (.int .u8 50), .lit (.int .u8 38), .lit (.int .u8 29), .lit (.int .u8 17), .lit (.int .u8 4), .lit (.int .u8 62), .lit (.int .u8 47), .lit (.int .u8 59), .lit (.int .u8 36), .lit (.int .u8 45), .lit (.int .u8 43), .lit (.int .u8 51), .lit (.int .u8 22), .lit (.int .u8 53), .lit (.int .u8 39), .lit (.int .u8 33), .lit (.int .u8 30), .lit (.int .u8 24), .lit (.int .u8 18), .lit (.int .u8 12), .lit (.int .u8 5), .lit (.int .u8 63), .lit (.int .u8 55), .lit (.int .u8 48), .lit (.int .u8 27), .lit (.int .u8 60), .lit (.int .u8 41), .lit (.int .u8 37), .lit (.int .u8 16), .lit (.int .u8 46), .lit (.int .u8 35), .lit (.int .u8 44), .lit (.int .u8 21), .lit (.int .u8 52), .lit (.int .u8 32), .lit (.int .u8 23), .lit (.int .u8 11), .lit (.int .u8 54), .lit (.int .u8 26), .lit (.int .u8 40), .lit (.int .u8 15), .lit (.int .u8 34), .lit (.int .u8 20), .lit (.int .u8 31), .lit (.int .u8 10), .lit (.int .u8 25), .lit (.int .u8 14), .lit (.int .u8 19), .lit (.int .u8 9), .lit (.int .u8 13), .lit (.int .u8 8), .lit (.int .u8 7), .lit (.int .u8 6)]
def laid_internal_strconv_uint64pow10 {H : Type} : DataW H := .agg [.lit (.int .u64 1), .lit (.int .u64 10), .lit (.int .u64 100), .lit (.int .u64 1000), .lit (.int .u64 10000), .lit (.int .u64 100000), .lit (.int .u64 1000000), .lit (.int .u64 10000000), .lit (.int .u64 100000000), .lit (.int .u64 1000000000), .lit (.int .u64 10000000000), .lit (.int .u64 100000000000), .lit (.int .u64 1000000000000), .lit (.int .u64 10000000000000), .lit (.int .u64 100000000000000), .lit (.int .u64 1000000000000000), .lit (.int .u64 10000000000000000), .lit (.int .u64 100000000000000000), .lit (.int .u64 1000000000000000000), .lit (.int .u64 10000000000000000000)]
def laid_kalends_civil_months {H : Type} : DataW H := .agg [.lit (.int .i64 31), .lit (.int .i64 28), .lit (.int .i64 31), .lit (.int .i64 30), .lit (.int .i64 31), .lit (.int .i64 30), .lit (.int .i64 31), .lit (.int .i64 31), .lit (.int .i64 30), .lit (.int .i64 31), .lit (.int .i64 30), .lit (.int .i64 31)]

/-- 'kalendslaw02.RuleRaw': WHATEVER THE INPUT: true; the input reads as it did. -/
def ruleRawSpec : ChangeSpec := { name := "ruleRaw", fn := fun _ => fun
  | [d] => { results := [.lit (.bool true)], args := [d] }
  | _ => none }
def ruleRawRow : OpenClaim := { program := "ytbmdlcagaikdaaadoor", sum := "7ea65018beb9f41e23f84be855fb45c5571808ddd0aa0c3077df374c43c90167", func := "kalends/kalendslaw02.RuleRaw", spec := "ruleRaw", inPlace := ["internal/abi.NoEscape", "internal/bytealg.MakeNoZero"], unfollowed := true, recurses := true, named := ["kalends/civil.months", "internal/strconv.uint64pow10", "math/bits.deBruijn32tab", "math/bits.deBruijn64tab"], apart := false, laid := [("math/bits.deBruijn32tab", laid_math_bits_deBruijn32tab), ("math/bits.deBruijn64tab", laid_math_bits_deBruijn64tab), ("internal/strconv.uint64pow10", laid_internal_strconv_uint64pow10), ("kalends/civil.months", laid_kalends_civil_months)] }
def RuleRawSaid : Prop := ruleRawRow.holds Tryd.pinned (OpenSpec.ofChange ruleRawSpec)

/-- ITS FALSE NEIGHBOUR: 'it returns false'. Refute it at one input. -/
def ruleRawWrong : ChangeSpec := { name := "ruleRaw", fn := fun _ => fun
  | [d] => { results := [.lit (.bool false)], args := [d] }
  | _ => none }
def RuleRawWrongFalsely : Prop := ruleRawRow.holds Tryd.pinned (OpenSpec.ofChange ruleRawWrong)

/-- 'kalendslaw02.RuleLong': WHATEVER THE INPUT: true; the input reads as it did. -/
def ruleLongSpec : ChangeSpec := { name := "ruleLong", fn := fun _ => fun
  | [d1, d2] => { results := [.lit (.bool true)], args := [d1, d2] }
  | _ => none }
def ruleLongRow : OpenClaim := { program := "ytbmdlcagaikdaaadoor", sum := "7ea65018beb9f41e23f84be855fb45c5571808ddd0aa0c3077df374c43c90167", func := "kalends/kalendslaw02.RuleLong", spec := "ruleLong", inPlace := ["internal/abi.NoEscape", "internal/bytealg.MakeNoZero"], unfollowed := true, recurses := true, named := ["kalends/civil.months", "internal/strconv.uint64pow10", "math/bits.deBruijn32tab", "math/bits.deBruijn64tab"], apart := false, laid := [("math/bits.deBruijn32tab", laid_math_bits_deBruijn32tab), ("math/bits.deBruijn64tab", laid_math_bits_deBruijn64tab), ("internal/strconv.uint64pow10", laid_internal_strconv_uint64pow10), ("kalends/civil.months", laid_kalends_civil_months)] }
def RuleLongSaid : Prop := ruleLongRow.holds Tryd.pinned (OpenSpec.ofChange ruleLongSpec)

/-- ITS FALSE NEIGHBOUR: 'it returns false'. Refute it at one input. -/
def ruleLongWrong : ChangeSpec := { name := "ruleLong", fn := fun _ => fun
  | [d1, d2] => { results := [.lit (.bool false)], args := [d1, d2] }
  | _ => none }
def RuleLongWrongFalsely : Prop := ruleLongRow.holds Tryd.pinned (OpenSpec.ofChange ruleLongWrong)

/-- 'kalendslaw02.RuleMay': WHATEVER THE INPUT: true; the input reads as it did. -/
def ruleMaySpec : ChangeSpec := { name := "ruleMay", fn := fun _ => fun
  | [d1, d2, d3, d4, d5] => { results := [.lit (.bool true)], args := [d1, d2, d3, d4, d5] }
  | _ => none }
def ruleMayRow : OpenClaim := { program := "ytbmdlcagaikdaaadoor", sum := "7ea65018beb9f41e23f84be855fb45c5571808ddd0aa0c3077df374c43c90167", func := "kalends/kalendslaw02.RuleMay", spec := "ruleMay", inPlace := ["internal/abi.NoEscape", "internal/bytealg.MakeNoZero"], unfollowed := true, recurses := true, named := ["kalends/civil.months", "internal/strconv.uint64pow10", "math/bits.deBruijn32tab", "math/bits.deBruijn64tab"], apart := false, laid := [("math/bits.deBruijn32tab", laid_math_bits_deBruijn32tab), ("math/bits.deBruijn64tab", laid_math_bits_deBruijn64tab), ("internal/strconv.uint64pow10", laid_internal_strconv_uint64pow10), ("kalends/civil.months", laid_kalends_civil_months)] }
def RuleMaySaid : Prop := ruleMayRow.holds Tryd.pinned (OpenSpec.ofChange ruleMaySpec)

/-- ITS FALSE NEIGHBOUR: 'it returns false'. Refute it at one input. -/
def ruleMayWrong : ChangeSpec := { name := "ruleMay", fn := fun _ => fun
  | [d1, d2, d3, d4, d5] => { results := [.lit (.bool false)], args := [d1, d2, d3, d4, d5] }
  | _ => none }
def RuleMayWrongFalsely : Prop := ruleMayRow.holds Tryd.pinned (OpenSpec.ofChange ruleMayWrong)

/-- 'kalendslaw02.RuleFewer': WHATEVER THE INPUT: true; the input reads as it did. -/
def ruleFewerSpec : ChangeSpec := { name := "ruleFewer", fn := fun _ => fun
  | [d1, d2, d3, d4, d5] => { results := [.lit (.bool true)], args := [d1, d2, d3, d4, d5] }
  | _ => none }
def ruleFewerRow : OpenClaim := { program := "ytbmdlcagaikdaaadoor", sum := "7ea65018beb9f41e23f84be855fb45c5571808ddd0aa0c3077df374c43c90167", func := "kalends/kalendslaw02.RuleFewer", spec := "ruleFewer", inPlace := ["internal/abi.NoEscape", "internal/bytealg.MakeNoZero"], unfollowed := true, recurses := true, named := ["kalends/civil.months", "internal/strconv.uint64pow10", "math/bits.deBruijn32tab", "math/bits.deBruijn64tab"], apart := false, laid := [("math/bits.deBruijn32tab", laid_math_bits_deBruijn32tab), ("math/bits.deBruijn64tab", laid_math_bits_deBruijn64tab), ("internal/strconv.uint64pow10", laid_internal_strconv_uint64pow10), ("kalends/civil.months", laid_kalends_civil_months)] }
def RuleFewerSaid : Prop := ruleFewerRow.holds Tryd.pinned (OpenSpec.ofChange ruleFewerSpec)

/-- ITS FALSE NEIGHBOUR: 'it returns false'. Refute it at one input. -/
def ruleFewerWrong : ChangeSpec := { name := "ruleFewer", fn := fun _ => fun
  | [d1, d2, d3, d4, d5] => { results := [.lit (.bool false)], args := [d1, d2, d3, d4, d5] }
  | _ => none }
def RuleFewerWrongFalsely : Prop := ruleFewerRow.holds Tryd.pinned (OpenSpec.ofChange ruleFewerWrong)

/-- 'kalendslaw02.RuleEnds': WHATEVER THE INPUT: true; the input reads as it did. -/
def ruleEndsSpec : ChangeSpec := { name := "ruleEnds", fn := fun _ => fun
  | [d1, d2, d3, d4] => { results := [.lit (.bool true)], args := [d1, d2, d3, d4] }
  | _ => none }
def ruleEndsRow : OpenClaim := { program := "ytbmdlcagaikdaaadoor", sum := "7ea65018beb9f41e23f84be855fb45c5571808ddd0aa0c3077df374c43c90167", func := "kalends/kalendslaw02.RuleEnds", spec := "ruleEnds", inPlace := ["internal/abi.NoEscape", "internal/bytealg.MakeNoZero"], unfollowed := true, recurses := true, named := ["kalends/civil.months", "internal/strconv.uint64pow10", "math/bits.deBruijn32tab", "math/bits.deBruijn64tab"], apart := false, laid := [("math/bits.deBruijn32tab", laid_math_bits_deBruijn32tab), ("math/bits.deBruijn64tab", laid_math_bits_deBruijn64tab), ("internal/strconv.uint64pow10", laid_internal_strconv_uint64pow10), ("kalends/civil.months", laid_kalends_civil_months)] }
def RuleEndsSaid : Prop := ruleEndsRow.holds Tryd.pinned (OpenSpec.ofChange ruleEndsSpec)

/-- ITS FALSE NEIGHBOUR: 'it returns false'. Refute it at one input. -/
def ruleEndsWrong : ChangeSpec := { name := "ruleEnds", fn := fun _ => fun
  | [d1, d2, d3, d4] => { results := [.lit (.bool false)], args := [d1, d2, d3, d4] }
  | _ => none }
def RuleEndsWrongFalsely : Prop := ruleEndsRow.holds Tryd.pinned (OpenSpec.ofChange ruleEndsWrong)

/- THE SECOND FORM. 'bulk': how many values and letters a reading holds, each counted each time it is reached (what is shared counts as often as it is met; a slice's spare places count too). A statement '..UptoSaid' is the law's where the arguments, and the package variables that the reading takes, are together of bulk at most 1048576: NARROWER than '..Said'. Prove '..Said' where nothing that the law and all that it calls make is longer than what came in: it says more and counts as full. Else prove '..UptoSaid'. A law counts once. -/
mutual
def uptoBulk {H : Type} : DataW H → Nat
  | .lit (.string bytes) => bytes.length + 1
  | .lit _ => 1
  | .nil => 1
  | .ptr d => uptoBulk d + 1
  | .slice elems spare => uptoBulkAll elems + uptoBulkAll spare + 1
  | .agg parts => uptoBulkAll parts + 1
  | .iface _ d => uptoBulk d + 1
  | .map entries => uptoBulkEntries entries + 1
  | .held _ => 1
def uptoBulkAll {H : Type} : List (DataW H) → Nat
  | [] => 0
  | d :: r => uptoBulk d + uptoBulkAll r
def uptoBulkEntries {H : Type} : List (Lit × DataW H) → Nat
  | [] => 0
  | x :: r => uptoBulkEntry x + uptoBulkEntries r
def uptoBulkEntry {H : Type} : Lit × DataW H → Nat
  | (.string bytes, d) => bytes.length + uptoBulk d + 1
  | (_, d) => uptoBulk d + 1
 end
def uptoSmall : (H : Type) → List (DataW H) → Bool := fun _ ds => decide (uptoBulkAll ds ≤ 1048576)
def OpenSpec.upto (s : _root_.Go.ChangeSpec) : _root_.Go.OpenSpec := { _root_.Go.OpenSpec.ofChange s with cond := some uptoSmall }

/-- 'kalendslaw02.RuleRaw', WHERE WHAT IT READS IS OF BULK AT MOST 1048576: true; the input reads as it did. -/
def ruleRawUptoRow : OpenClaim := { program := "ytbmdlcagaikdaaadoor", sum := "7ea65018beb9f41e23f84be855fb45c5571808ddd0aa0c3077df374c43c90167", func := "kalends/kalendslaw02.RuleRaw", spec := "ruleRaw", inPlace := ["internal/abi.NoEscape", "internal/bytealg.MakeNoZero"], unfollowed := true, recurses := true, named := ["kalends/civil.months", "internal/strconv.uint64pow10", "math/bits.deBruijn32tab", "math/bits.deBruijn64tab"], apart := false, laid := [("math/bits.deBruijn32tab", laid_math_bits_deBruijn32tab), ("math/bits.deBruijn64tab", laid_math_bits_deBruijn64tab), ("internal/strconv.uint64pow10", laid_internal_strconv_uint64pow10), ("kalends/civil.months", laid_kalends_civil_months)], narrowed := true }
def RuleRawUptoSaid : Prop := ruleRawUptoRow.holds Tryd.pinned (OpenSpec.upto ruleRawSpec)

/-- 'kalendslaw02.RuleLong', WHERE WHAT IT READS IS OF BULK AT MOST 1048576: true; the input reads as it did. -/
def ruleLongUptoRow : OpenClaim := { program := "ytbmdlcagaikdaaadoor", sum := "7ea65018beb9f41e23f84be855fb45c5571808ddd0aa0c3077df374c43c90167", func := "kalends/kalendslaw02.RuleLong", spec := "ruleLong", inPlace := ["internal/abi.NoEscape", "internal/bytealg.MakeNoZero"], unfollowed := true, recurses := true, named := ["kalends/civil.months", "internal/strconv.uint64pow10", "math/bits.deBruijn32tab", "math/bits.deBruijn64tab"], apart := false, laid := [("math/bits.deBruijn32tab", laid_math_bits_deBruijn32tab), ("math/bits.deBruijn64tab", laid_math_bits_deBruijn64tab), ("internal/strconv.uint64pow10", laid_internal_strconv_uint64pow10), ("kalends/civil.months", laid_kalends_civil_months)], narrowed := true }
def RuleLongUptoSaid : Prop := ruleLongUptoRow.holds Tryd.pinned (OpenSpec.upto ruleLongSpec)

/-- 'kalendslaw02.RuleMay', WHERE WHAT IT READS IS OF BULK AT MOST 1048576: true; the input reads as it did. -/
def ruleMayUptoRow : OpenClaim := { program := "ytbmdlcagaikdaaadoor", sum := "7ea65018beb9f41e23f84be855fb45c5571808ddd0aa0c3077df374c43c90167", func := "kalends/kalendslaw02.RuleMay", spec := "ruleMay", inPlace := ["internal/abi.NoEscape", "internal/bytealg.MakeNoZero"], unfollowed := true, recurses := true, named := ["kalends/civil.months", "internal/strconv.uint64pow10", "math/bits.deBruijn32tab", "math/bits.deBruijn64tab"], apart := false, laid := [("math/bits.deBruijn32tab", laid_math_bits_deBruijn32tab), ("math/bits.deBruijn64tab", laid_math_bits_deBruijn64tab), ("internal/strconv.uint64pow10", laid_internal_strconv_uint64pow10), ("kalends/civil.months", laid_kalends_civil_months)], narrowed := true }
def RuleMayUptoSaid : Prop := ruleMayUptoRow.holds Tryd.pinned (OpenSpec.upto ruleMaySpec)

/-- 'kalendslaw02.RuleFewer', WHERE WHAT IT READS IS OF BULK AT MOST 1048576: true; the input reads as it did. -/
def ruleFewerUptoRow : OpenClaim := { program := "ytbmdlcagaikdaaadoor", sum := "7ea65018beb9f41e23f84be855fb45c5571808ddd0aa0c3077df374c43c90167", func := "kalends/kalendslaw02.RuleFewer", spec := "ruleFewer", inPlace := ["internal/abi.NoEscape", "internal/bytealg.MakeNoZero"], unfollowed := true, recurses := true, named := ["kalends/civil.months", "internal/strconv.uint64pow10", "math/bits.deBruijn32tab", "math/bits.deBruijn64tab"], apart := false, laid := [("math/bits.deBruijn32tab", laid_math_bits_deBruijn32tab), ("math/bits.deBruijn64tab", laid_math_bits_deBruijn64tab), ("internal/strconv.uint64pow10", laid_internal_strconv_uint64pow10), ("kalends/civil.months", laid_kalends_civil_months)], narrowed := true }
def RuleFewerUptoSaid : Prop := ruleFewerUptoRow.holds Tryd.pinned (OpenSpec.upto ruleFewerSpec)

/-- 'kalendslaw02.RuleEnds', WHERE WHAT IT READS IS OF BULK AT MOST 1048576: true; the input reads as it did. -/
def ruleEndsUptoRow : OpenClaim := { program := "ytbmdlcagaikdaaadoor", sum := "7ea65018beb9f41e23f84be855fb45c5571808ddd0aa0c3077df374c43c90167", func := "kalends/kalendslaw02.RuleEnds", spec := "ruleEnds", inPlace := ["internal/abi.NoEscape", "internal/bytealg.MakeNoZero"], unfollowed := true, recurses := true, named := ["kalends/civil.months", "internal/strconv.uint64pow10", "math/bits.deBruijn32tab", "math/bits.deBruijn64tab"], apart := false, laid := [("math/bits.deBruijn32tab", laid_math_bits_deBruijn32tab), ("math/bits.deBruijn64tab", laid_math_bits_deBruijn64tab), ("internal/strconv.uint64pow10", laid_internal_strconv_uint64pow10), ("kalends/civil.months", laid_kalends_civil_months)], narrowed := true }
def RuleEndsUptoSaid : Prop := ruleEndsUptoRow.holds Tryd.pinned (OpenSpec.upto ruleEndsSpec)

end Rows
end Go.Proofs.YtbmdlcagaikdaaaDoor
