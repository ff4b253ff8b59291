/-
  NARROWER THAN 'FOR EVERY INPUT', by the rows' own cells (each row's printed sentence says how): PluralJoins: laid · TableMore: laid · TableWords: laid · PluralHundreds: laid · FoldBad: laid · FoldSmall: laid · FoldLetters: laid · FoldJoins: laid.
  DERIVED. THE GIVEN ROWS OF THIS SEAT. 8 by the template 'for every input the law returns true; each argument reads behind the call as it read before'; 0 by the template 'total and deterministic' (their statements: YtebkccfnilcfpaaGreatDoorTotals.lean).
  GIVEN WITH THE SEED: the statements are not yours to turn. If you find one false, say at which input.
  Laid BY PROGRAM, IN A SANDBOX (cutbox-rows.mjs): the forced cells as the released guide's own fill.sh prints them over the translation cc2cd101f6aabd38… (all of the seat's roots in one cut). By AI agents, Wed Nov 11 2026. No macro, syntax, notation, axiom, sorry.
-/
import Derived.Test.YtebkccfnilcfpaaGreatDoorChecked
import GoSem.PinnedTables
import GoSem.Claim
import GoSem.ClaimJoined
import GoSem.ClaimMapViews
import Derived.JoinedTies
import Derived.KernelRfl
namespace Go.Proofs.YtebkccfnilcfpaaGreatDoor
/- THE CELL 'sum', in the pinned program and in every row, IS THE sha256 OF THE DUMP (.gsa) THAT YtebkccfnilcfpaaGreatDoorProg.lean LOADS. Nothing in Lean hashes anything: it is a label: what it is worth is what the hold of that sum in a sandbox is worth. -/
noncomputable def Tryz.pinned : Pinned := { name := "ytebkccfnilcfpaagreatdoor", sum := "cc2cd101f6aabd387dac78fbf58771d3c28d4f54132c535d622a10ba063d9231", checked := Tryz.checked }
namespace Rows
def none {H : Type} : Left H := { results := [], args := [] }

/- WHAT THE LISTED PACKAGE-LEVEL VARIABLES READ AS WHEN THE CALL BEGINS. Each datum BY PROGRAM (the guide's laid-datum.mjs) off the statement by which the dump's own 'gosem.cut.vars' lays the variable. In a bare row this is a premise. The card (YtebkccfnilcfpaaGreatDoorCards.lean) ties it to the program's text. -/
def laid_math_bits_deBruijn32tab {H : Type} : DataW H := .agg [.lit (.int .u8 0), .lit (.int .u8 1), .lit (.int .u8 28), .lit (.int .u8 2), .lit (.int .u8 29), .lit (.int .u8 14), .lit (.int .u8 24), .lit (.int .u8 3), .lit (.int .u8 30), .lit (.int .u8 22), .lit (.int .u8 20), .lit (.int .u8 15), .lit (.int .u8 25), .lit (.int .u8 17), .lit (.int .u8 4), .lit (.int .u8 8), .lit (.int .u8 31), .lit (.int .u8 27), .lit (.int .u8 13), .lit (.int .u8 23), .lit (.int .u8 21), .lit (.int .u8 19), .lit (.int .u8 16), .lit (.int .u8 7), .lit (.int .u8 26), .lit (.int .u8 12), .lit (.int .u8 18), .lit (.int .u8 6), .lit (.int .u8 11), .lit (.int .u8 5), .lit (.int .u8 10), .lit (.int .u8 9)]
def laid_math_bits_deBruijn64tab {H : Type} : DataW H := .agg [.lit (.int .u8 0), .lit (.int .u8 1), .lit (.int .u8 56), .lit (.int .u8 2), .lit (.int .u8 57), .lit (.int .u8 49), .lit (.int .u8 28), .lit (.int .u8 3), .lit (.int .u8 61), .lit (.int .u8 58), .lit (.int .u8 42), .lit (.int .u8 50), .lit (.int .u8 38), .lit (.int .u8 29), .lit (.int .u8 17), .lit (.int .u8 4), .lit (.int .u8 62), .lit (.int .u8 47), .lit (.int .u8 59), .lit (.int .u8 36), .lit (.int .u8 45), .lit (.int .u8 43), .lit (.int .u8 51), .lit (.int .u8 22), .lit (.int .u8 53), .lit (.int .u8 39), .lit (.int .u8 33), .lit (.int .u8 30), .lit (.int .u8 24), .lit (.int .u8 18), .lit (.int .u8 12), .lit (.int .u8 5), .lit (.int .u8 63), .lit (.int .u8 55), .lit (.int .u8 48), .lit (.int .u8 27), .lit (.int .u8 60), .lit (.int .u8 41), .lit (.int .u8 37), .lit (.int .u8 16), .lit (.int .u8 46), .lit (.int .u8 35), .lit (.int .u8 44), .lit (.int .u8 21), .lit (.int .u8 52), .lit (.int .u8 32), .lit (.int .u8 23), .lit (.int .u8 11), .lit (.int .u8 54), .lit (.int .u8 26), .lit (.int .u8 40), .lit (.int .u8 15), .lit (.int .u8 34), .lit (.int .u8 20), .lit (.int .u8 31), .lit (.int .u8 10), .lit (.int .u8 25), .lit (.int .u8 14), .lit (.int .u8 19), .lit (.int .u8 9), .lit (.int .u8 13), .lit (.int .u8 8), .lit (.int .u8 7), .lit (.int .u8 6)]
def laid_internal_strconv_uint64pow10 {H : Type} : DataW H := .agg [.lit (.int .u64 1), .lit (.int .u64 10), .lit (.int .u64 100), .lit (.int .u64 1000), .lit (.int .u64 10000), .lit (.int .u64 100000), .lit (.int .u64 1000000), .lit (.int .u64 10000000), .lit (.int .u64 100000000), .lit (.int .u64 1000000000), .lit (.int .u64 10000000000), .lit (.int .u64 100000000000), .lit (.int .u64 1000000000000), .lit (.int .u64 10000000000000), .lit (.int .u64 100000000000000), .lit (.int .u64 1000000000000000), .lit (.int .u64 10000000000000000), .lit (.int .u64 100000000000000000), .lit (.int .u64 1000000000000000000), .lit (.int .u64 10000000000000000000)]
def laid_unicode_utf8_acceptRanges {H : Type} : DataW H := .agg [.agg [.lit (.int .u8 128), .lit (.int .u8 191)], .agg [.lit (.int .u8 160), .lit (.int .u8 191)], .agg [.lit (.int .u8 128), .lit (.int .u8 159)], .agg [.lit (.int .u8 144), .lit (.int .u8 191)], .agg [.lit (.int .u8 128), .lit (.int .u8 143)], .agg [.lit (.int .u8 0), .lit (.int .u8 0)], .agg [.lit (.int .u8 0), .lit (.int .u8 0)], .agg [.lit (.int .u8 0), .lit (.int .u8 0)], .agg [.lit (.int .u8 0), .lit (.int .u8 0)], .agg [.lit (.int .u8 0), .lit (.int .u8 0)], .agg [.lit (.int .u8 0), .lit (.int .u8 0)], .agg [.lit (.int .u8 0), .lit (.int .u8 0)], .agg [.lit (.int .u8 0), .lit (.int .u8 0)], .agg [.lit (.int .u8 0), .lit (.int .u8 0)], .agg [.lit (.int .u8 0), .lit (.int .u8 0)], .agg [.lit (.int .u8 0), .lit (.int .u8 0)]]
def laid_strconv_ErrRange {H : Type} : DataW H := .iface "*errors.errorString" (.ptr (.agg [.lit (.string [118, 97, 108, 117, 101, 32, 111, 117, 116, 32, 111, 102, 32, 114, 97, 110, 103, 101])]))
def laid_strconv_ErrSyntax {H : Type} : DataW H := .iface "*errors.errorString" (.ptr (.agg [.lit (.string [105, 110, 118, 97, 108, 105, 100, 32, 115, 121, 110, 116, 97, 120])]))
def laid_kalends_civil_months {H : Type} : DataW H := .agg [.lit (.int .i64 31), .lit (.int .i64 28), .lit (.int .i64 31), .lit (.int .i64 30), .lit (.int .i64 31), .lit (.int .i64 30), .lit (.int .i64 31), .lit (.int .i64 31), .lit (.int .i64 30), .lit (.int .i64 31), .lit (.int .i64 30), .lit (.int .i64 31)]
def laid_kalends_rfc_freqs {H : Type} : DataW H := .agg [.lit (.string [68, 65, 73, 76, 89]), .lit (.string [87, 69, 69, 75, 76, 89]), .lit (.string [77, 79, 78, 84, 72, 76, 89]), .lit (.string [89, 69, 65, 82, 76, 89])]
def laid_kalends_rfc_weekdays {H : Type} : DataW H := .agg [.lit (.string [77, 79]), .lit (.string [84, 85]), .lit (.string [87, 69]), .lit (.string [84, 72]), .lit (.string [70, 82]), .lit (.string [83, 65]), .lit (.string [83, 85])]
/-- One of Go's own tables, pinned by name: the form's constant. -/
def laid_unicode_utf8_first : DataW Unit := Go.Pinned.utf8First
def laid_kalends_table_many {H : Type} : DataW H := .agg [.lit (.int .i64 1), .lit (.int .i64 1), .lit (.int .i64 4), .lit (.int .i64 4), .lit (.int .i64 4), .lit (.int .i64 1), .lit (.int .i64 1), .lit (.int .i64 1), .lit (.int .i64 1), .lit (.int .i64 1), .lit (.int .i64 1), .lit (.int .i64 1), .lit (.int .i64 1), .lit (.int .i64 12), .lit (.int .i64 7), .lit (.int .i64 0), .lit (.int .i64 0), .lit (.int .i64 0), .lit (.int .i64 0)]

/-- 'kalendslaw07.PluralJoins': WHATEVER THE INPUT: true; the input reads as it did. -/
def pluralJoinsSpec : ChangeSpec := { name := "pluralJoins", fn := fun _ => fun
  | [d1, d2] => { results := [.lit (.bool true)], args := [d1, d2] }
  | _ => none }
def pluralJoinsRow : OpenClaim := { program := "ytebkccfnilcfpaagreatdoor", sum := "cc2cd101f6aabd387dac78fbf58771d3c28d4f54132c535d622a10ba063d9231", func := "kalends/kalendslaw07.PluralJoins", spec := "pluralJoins", inPlace := ["internal/abi.NoEscape", "internal/bytealg.MakeNoZero", "internal/bytealg.CountString", "internal/bytealg.IndexByteString", "internal/bytealg.IndexString"], unfollowed := true, recurses := true, named := ["kalends/civil.months", "internal/strconv.uint64pow10", "math/bits.deBruijn32tab", "math/bits.deBruijn64tab", "unicode/utf8.first", "unicode/utf8.acceptRanges", "internal/bytealg.MaxLen", "kalends/rfc.freqs", "strconv.ErrSyntax", "strconv.ErrRange", "kalends/rfc.weekdays"], plainKeys := false, apart := false, laid := [("math/bits.deBruijn32tab", laid_math_bits_deBruijn32tab), ("math/bits.deBruijn64tab", laid_math_bits_deBruijn64tab), ("internal/strconv.uint64pow10", laid_internal_strconv_uint64pow10), ("unicode/utf8.acceptRanges", laid_unicode_utf8_acceptRanges), ("strconv.ErrRange", laid_strconv_ErrRange), ("strconv.ErrSyntax", laid_strconv_ErrSyntax), ("kalends/civil.months", laid_kalends_civil_months), ("kalends/rfc.freqs", laid_kalends_rfc_freqs), ("kalends/rfc.weekdays", laid_kalends_rfc_weekdays), ("unicode/utf8.first", laid_unicode_utf8_first)] }
def PluralJoinsSaid : Prop := pluralJoinsRow.holds Tryz.pinned (OpenSpec.ofChange pluralJoinsSpec)

/-- ITS FALSE NEIGHBOUR: 'it returns false'. Refute it at one input. -/
def pluralJoinsWrong : ChangeSpec := { name := "pluralJoins", fn := fun _ => fun
  | [d1, d2] => { results := [.lit (.bool false)], args := [d1, d2] }
  | _ => none }
def PluralJoinsWrongFalsely : Prop := pluralJoinsRow.holds Tryz.pinned (OpenSpec.ofChange pluralJoinsWrong)

/-- 'kalendslaw08.TableMore': WHATEVER THE INPUT: true; the input reads as it did. -/
def tableMoreSpec : ChangeSpec := { name := "tableMore", fn := fun _ => fun
  | [d1, d2, d3, d4, d5] => { results := [.lit (.bool true)], args := [d1, d2, d3, d4, d5] }
  | _ => none }
def tableMoreRow : OpenClaim := { program := "ytebkccfnilcfpaagreatdoor", sum := "cc2cd101f6aabd387dac78fbf58771d3c28d4f54132c535d622a10ba063d9231", func := "kalends/kalendslaw08.TableMore", spec := "tableMore", inPlace := ["internal/abi.NoEscape", "internal/bytealg.MakeNoZero", "internal/bytealg.CountString", "internal/bytealg.IndexByteString", "internal/bytealg.IndexString"], unfollowed := true, recurses := true, named := ["kalends/civil.months", "internal/strconv.uint64pow10", "math/bits.deBruijn32tab", "math/bits.deBruijn64tab", "unicode/utf8.first", "unicode/utf8.acceptRanges", "internal/bytealg.MaxLen", "kalends/rfc.freqs", "strconv.ErrSyntax", "strconv.ErrRange", "kalends/rfc.weekdays", "kalends/table.many"], plainKeys := false, apart := false, laid := [("math/bits.deBruijn32tab", laid_math_bits_deBruijn32tab), ("math/bits.deBruijn64tab", laid_math_bits_deBruijn64tab), ("internal/strconv.uint64pow10", laid_internal_strconv_uint64pow10), ("unicode/utf8.acceptRanges", laid_unicode_utf8_acceptRanges), ("strconv.ErrRange", laid_strconv_ErrRange), ("strconv.ErrSyntax", laid_strconv_ErrSyntax), ("kalends/civil.months", laid_kalends_civil_months), ("kalends/rfc.freqs", laid_kalends_rfc_freqs), ("kalends/rfc.weekdays", laid_kalends_rfc_weekdays), ("kalends/table.many", laid_kalends_table_many), ("unicode/utf8.first", laid_unicode_utf8_first)] }
def TableMoreSaid : Prop := tableMoreRow.holds Tryz.pinned (OpenSpec.ofChange tableMoreSpec)

/-- ITS FALSE NEIGHBOUR: 'it returns false'. Refute it at one input. -/
def tableMoreWrong : ChangeSpec := { name := "tableMore", fn := fun _ => fun
  | [d1, d2, d3, d4, d5] => { results := [.lit (.bool false)], args := [d1, d2, d3, d4, d5] }
  | _ => none }
def TableMoreWrongFalsely : Prop := tableMoreRow.holds Tryz.pinned (OpenSpec.ofChange tableMoreWrong)

/-- 'kalendslaw08.TableWords': WHATEVER THE INPUT: true; the input reads as it did. -/
def tableWordsSpec : ChangeSpec := { name := "tableWords", fn := fun _ => fun
  | [d1, d2, d3, d4, d5] => { results := [.lit (.bool true)], args := [d1, d2, d3, d4, d5] }
  | _ => none }
def tableWordsRow : OpenClaim := { program := "ytebkccfnilcfpaagreatdoor", sum := "cc2cd101f6aabd387dac78fbf58771d3c28d4f54132c535d622a10ba063d9231", func := "kalends/kalendslaw08.TableWords", spec := "tableWords", inPlace := ["internal/abi.NoEscape", "internal/bytealg.MakeNoZero", "internal/bytealg.CountString", "internal/bytealg.IndexByteString", "internal/bytealg.IndexString"], unfollowed := true, recurses := true, named := ["kalends/civil.months", "internal/strconv.uint64pow10", "math/bits.deBruijn32tab", "math/bits.deBruijn64tab", "unicode/utf8.first", "unicode/utf8.acceptRanges", "internal/bytealg.MaxLen", "kalends/rfc.freqs", "strconv.ErrSyntax", "strconv.ErrRange", "kalends/rfc.weekdays", "kalends/table.many"], plainKeys := false, apart := false, laid := [("math/bits.deBruijn32tab", laid_math_bits_deBruijn32tab), ("math/bits.deBruijn64tab", laid_math_bits_deBruijn64tab), ("internal/strconv.uint64pow10", laid_internal_strconv_uint64pow10), ("unicode/utf8.acceptRanges", laid_unicode_utf8_acceptRanges), ("strconv.ErrRange", laid_strconv_ErrRange), ("strconv.ErrSyntax", laid_strconv_ErrSyntax), ("kalends/civil.months", laid_kalends_civil_months), ("kalends/rfc.freqs", laid_kalends_rfc_freqs), ("kalends/rfc.weekdays", laid_kalends_rfc_weekdays), ("kalends/table.many", laid_kalends_table_many), ("unicode/utf8.first", laid_unicode_utf8_first)] }
def TableWordsSaid : Prop := tableWordsRow.holds Tryz.pinned (OpenSpec.ofChange tableWordsSpec)

/-- ITS FALSE NEIGHBOUR: 'it returns false'. Refute it at one input. -/
def tableWordsWrong : ChangeSpec := { name := "tableWords", fn := fun _ => fun
  | [d1, d2, d3, d4, d5] => { results := [.lit (.bool false)], args := [d1, d2, d3, d4, d5] }
  | _ => none }
def TableWordsWrongFalsely : Prop := tableWordsRow.holds Tryz.pinned (OpenSpec.ofChange tableWordsWrong)

/-- 'kalendslaw07.PluralHundreds': WHATEVER THE INPUT: true; the input reads as it did. -/
def pluralHundredsSpec : ChangeSpec := { name := "pluralHundreds", fn := fun _ => fun
  | [d1, d2, d3] => { results := [.lit (.bool true)], args := [d1, d2, d3] }
  | _ => none }
def pluralHundredsRow : OpenClaim := { program := "ytebkccfnilcfpaagreatdoor", sum := "cc2cd101f6aabd387dac78fbf58771d3c28d4f54132c535d622a10ba063d9231", func := "kalends/kalendslaw07.PluralHundreds", spec := "pluralHundreds", inPlace := ["internal/abi.NoEscape", "internal/bytealg.MakeNoZero", "internal/bytealg.CountString", "internal/bytealg.IndexByteString", "internal/bytealg.IndexString"], unfollowed := true, recurses := true, named := ["kalends/civil.months", "internal/strconv.uint64pow10", "math/bits.deBruijn32tab", "math/bits.deBruijn64tab", "unicode/utf8.first", "unicode/utf8.acceptRanges", "internal/bytealg.MaxLen", "kalends/rfc.freqs", "strconv.ErrSyntax", "strconv.ErrRange", "kalends/rfc.weekdays"], plainKeys := false, apart := false, laid := [("math/bits.deBruijn32tab", laid_math_bits_deBruijn32tab), ("math/bits.deBruijn64tab", laid_math_bits_deBruijn64tab), ("internal/strconv.uint64pow10", laid_internal_strconv_uint64pow10), ("unicode/utf8.acceptRanges", laid_unicode_utf8_acceptRanges), ("strconv.ErrRange", laid_strconv_ErrRange), ("strconv.ErrSyntax", laid_strconv_ErrSyntax), ("kalends/civil.months", laid_kalends_civil_months), ("kalends/rfc.freqs", laid_kalends_rfc_freqs), ("kalends/rfc.weekdays", laid_kalends_rfc_weekdays), ("unicode/utf8.first", laid_unicode_utf8_first)] }
def PluralHundredsSaid : Prop := pluralHundredsRow.holds Tryz.pinned (OpenSpec.ofChange pluralHundredsSpec)

/-- ITS FALSE NEIGHBOUR: 'it returns false'. Refute it at one input. -/
def pluralHundredsWrong : ChangeSpec := { name := "pluralHundreds", fn := fun _ => fun
  | [d1, d2, d3] => { results := [.lit (.bool false)], args := [d1, d2, d3] }
  | _ => none }
def PluralHundredsWrongFalsely : Prop := pluralHundredsRow.holds Tryz.pinned (OpenSpec.ofChange pluralHundredsWrong)

/-- 'kalendslaw10.FoldBad': WHATEVER THE INPUT: true; the input reads as it did. -/
def foldBadSpec : ChangeSpec := { name := "foldBad", fn := fun _ => fun
  | [d1, d2] => { results := [.lit (.bool true)], args := [d1, d2] }
  | _ => none }
def foldBadRow : OpenClaim := { program := "ytebkccfnilcfpaagreatdoor", sum := "cc2cd101f6aabd387dac78fbf58771d3c28d4f54132c535d622a10ba063d9231", func := "kalends/kalendslaw10.FoldBad", spec := "foldBad", inPlace := ["internal/abi.NoEscape", "internal/bytealg.MakeNoZero", "internal/bytealg.CountString", "internal/bytealg.IndexByteString", "internal/bytealg.IndexString"], unfollowed := true, recurses := true, named := ["kalends/civil.months", "internal/strconv.uint64pow10", "math/bits.deBruijn32tab", "math/bits.deBruijn64tab", "unicode/utf8.first", "unicode/utf8.acceptRanges", "internal/bytealg.MaxLen", "kalends/rfc.freqs", "strconv.ErrSyntax", "strconv.ErrRange", "kalends/rfc.weekdays", "kalends/table.many"], plainKeys := false, apart := false, laid := [("math/bits.deBruijn32tab", laid_math_bits_deBruijn32tab), ("math/bits.deBruijn64tab", laid_math_bits_deBruijn64tab), ("internal/strconv.uint64pow10", laid_internal_strconv_uint64pow10), ("unicode/utf8.acceptRanges", laid_unicode_utf8_acceptRanges), ("strconv.ErrRange", laid_strconv_ErrRange), ("strconv.ErrSyntax", laid_strconv_ErrSyntax), ("kalends/civil.months", laid_kalends_civil_months), ("kalends/rfc.freqs", laid_kalends_rfc_freqs), ("kalends/rfc.weekdays", laid_kalends_rfc_weekdays), ("kalends/table.many", laid_kalends_table_many), ("unicode/utf8.first", laid_unicode_utf8_first)] }
def FoldBadSaid : Prop := foldBadRow.holds Tryz.pinned (OpenSpec.ofChange foldBadSpec)

/-- ITS FALSE NEIGHBOUR: 'it returns false'. Refute it at one input. -/
def foldBadWrong : ChangeSpec := { name := "foldBad", fn := fun _ => fun
  | [d1, d2] => { results := [.lit (.bool false)], args := [d1, d2] }
  | _ => none }
def FoldBadWrongFalsely : Prop := foldBadRow.holds Tryz.pinned (OpenSpec.ofChange foldBadWrong)

/-- 'kalendslaw10.FoldSmall': WHATEVER THE INPUT: true; the input reads as it did. -/
def foldSmallSpec : ChangeSpec := { name := "foldSmall", fn := fun _ => fun
  | [d] => { results := [.lit (.bool true)], args := [d] }
  | _ => none }
def foldSmallRow : OpenClaim := { program := "ytebkccfnilcfpaagreatdoor", sum := "cc2cd101f6aabd387dac78fbf58771d3c28d4f54132c535d622a10ba063d9231", func := "kalends/kalendslaw10.FoldSmall", spec := "foldSmall", inPlace := ["internal/abi.NoEscape", "internal/bytealg.MakeNoZero", "internal/bytealg.CountString", "internal/bytealg.IndexByteString", "internal/bytealg.IndexString"], unfollowed := true, recurses := true, named := ["kalends/civil.months", "internal/strconv.uint64pow10", "math/bits.deBruijn32tab", "math/bits.deBruijn64tab", "unicode/utf8.first", "unicode/utf8.acceptRanges", "internal/bytealg.MaxLen", "kalends/rfc.freqs", "strconv.ErrSyntax", "strconv.ErrRange", "kalends/rfc.weekdays", "kalends/table.many"], plainKeys := false, apart := false, laid := [("math/bits.deBruijn32tab", laid_math_bits_deBruijn32tab), ("math/bits.deBruijn64tab", laid_math_bits_deBruijn64tab), ("internal/strconv.uint64pow10", laid_internal_strconv_uint64pow10), ("unicode/utf8.acceptRanges", laid_unicode_utf8_acceptRanges), ("strconv.ErrRange", laid_strconv_ErrRange), ("strconv.ErrSyntax", laid_strconv_ErrSyntax), ("kalends/civil.months", laid_kalends_civil_months), ("kalends/rfc.freqs", laid_kalends_rfc_freqs), ("kalends/rfc.weekdays", laid_kalends_rfc_weekdays), ("kalends/table.many", laid_kalends_table_many), ("unicode/utf8.first", laid_unicode_utf8_first)] }
def FoldSmallSaid : Prop := foldSmallRow.holds Tryz.pinned (OpenSpec.ofChange foldSmallSpec)

/-- ITS FALSE NEIGHBOUR: 'it returns false'. Refute it at one input. -/
def foldSmallWrong : ChangeSpec := { name := "foldSmall", fn := fun _ => fun
  | [d] => { results := [.lit (.bool false)], args := [d] }
  | _ => none }
def FoldSmallWrongFalsely : Prop := foldSmallRow.holds Tryz.pinned (OpenSpec.ofChange foldSmallWrong)

/-- 'kalendslaw10.FoldLetters': WHATEVER THE INPUT: true; the input reads as it did. -/
def foldLettersSpec : ChangeSpec := { name := "foldLetters", fn := fun _ => fun
  | [d] => { results := [.lit (.bool true)], args := [d] }
  | _ => none }
def foldLettersRow : OpenClaim := { program := "ytebkccfnilcfpaagreatdoor", sum := "cc2cd101f6aabd387dac78fbf58771d3c28d4f54132c535d622a10ba063d9231", func := "kalends/kalendslaw10.FoldLetters", spec := "foldLetters", inPlace := ["internal/abi.NoEscape", "internal/bytealg.MakeNoZero", "internal/bytealg.CountString", "internal/bytealg.IndexByteString", "internal/bytealg.IndexString"], unfollowed := true, recurses := true, named := ["kalends/civil.months", "internal/strconv.uint64pow10", "math/bits.deBruijn32tab", "math/bits.deBruijn64tab", "unicode/utf8.first", "unicode/utf8.acceptRanges", "internal/bytealg.MaxLen", "kalends/rfc.freqs", "strconv.ErrSyntax", "strconv.ErrRange", "kalends/rfc.weekdays", "kalends/table.many"], plainKeys := false, apart := false, laid := [("math/bits.deBruijn32tab", laid_math_bits_deBruijn32tab), ("math/bits.deBruijn64tab", laid_math_bits_deBruijn64tab), ("internal/strconv.uint64pow10", laid_internal_strconv_uint64pow10), ("unicode/utf8.acceptRanges", laid_unicode_utf8_acceptRanges), ("strconv.ErrRange", laid_strconv_ErrRange), ("strconv.ErrSyntax", laid_strconv_ErrSyntax), ("kalends/civil.months", laid_kalends_civil_months), ("kalends/rfc.freqs", laid_kalends_rfc_freqs), ("kalends/rfc.weekdays", laid_kalends_rfc_weekdays), ("kalends/table.many", laid_kalends_table_many), ("unicode/utf8.first", laid_unicode_utf8_first)] }
def FoldLettersSaid : Prop := foldLettersRow.holds Tryz.pinned (OpenSpec.ofChange foldLettersSpec)

/-- ITS FALSE NEIGHBOUR: 'it returns false'. Refute it at one input. -/
def foldLettersWrong : ChangeSpec := { name := "foldLetters", fn := fun _ => fun
  | [d] => { results := [.lit (.bool false)], args := [d] }
  | _ => none }
def FoldLettersWrongFalsely : Prop := foldLettersRow.holds Tryz.pinned (OpenSpec.ofChange foldLettersWrong)

/-- 'kalendslaw10.FoldJoins': WHATEVER THE INPUT: true; the input reads as it did. -/
def foldJoinsSpec : ChangeSpec := { name := "foldJoins", fn := fun _ => fun
  | [d1, d2] => { results := [.lit (.bool true)], args := [d1, d2] }
  | _ => none }
def foldJoinsRow : OpenClaim := { program := "ytebkccfnilcfpaagreatdoor", sum := "cc2cd101f6aabd387dac78fbf58771d3c28d4f54132c535d622a10ba063d9231", func := "kalends/kalendslaw10.FoldJoins", spec := "foldJoins", inPlace := ["internal/abi.NoEscape", "internal/bytealg.MakeNoZero", "internal/bytealg.CountString", "internal/bytealg.IndexByteString", "internal/bytealg.IndexString"], unfollowed := true, recurses := true, named := ["kalends/civil.months", "internal/strconv.uint64pow10", "math/bits.deBruijn32tab", "math/bits.deBruijn64tab", "unicode/utf8.first", "unicode/utf8.acceptRanges", "internal/bytealg.MaxLen", "kalends/rfc.freqs", "strconv.ErrSyntax", "strconv.ErrRange", "kalends/rfc.weekdays", "kalends/table.many"], plainKeys := false, apart := false, laid := [("math/bits.deBruijn32tab", laid_math_bits_deBruijn32tab), ("math/bits.deBruijn64tab", laid_math_bits_deBruijn64tab), ("internal/strconv.uint64pow10", laid_internal_strconv_uint64pow10), ("unicode/utf8.acceptRanges", laid_unicode_utf8_acceptRanges), ("strconv.ErrRange", laid_strconv_ErrRange), ("strconv.ErrSyntax", laid_strconv_ErrSyntax), ("kalends/civil.months", laid_kalends_civil_months), ("kalends/rfc.freqs", laid_kalends_rfc_freqs), ("kalends/rfc.weekdays", laid_kalends_rfc_weekdays), ("kalends/table.many", laid_kalends_table_many), ("unicode/utf8.first", laid_unicode_utf8_first)] }
def FoldJoinsSaid : Prop := foldJoinsRow.holds Tryz.pinned (OpenSpec.ofChange foldJoinsSpec)

/-- ITS FALSE NEIGHBOUR: 'it returns false'. Refute it at one input. -/
def foldJoinsWrong : ChangeSpec := { name := "foldJoins", fn := fun _ => fun
  | [d1, d2] => { results := [.lit (.bool false)], args := [d1, d2] }
  | _ => none }
def FoldJoinsWrongFalsely : Prop := foldJoinsRow.holds Tryz.pinned (OpenSpec.ofChange foldJoinsWrong)

/- THE SECOND FORM. 'bulk': how many values and letters a reading holds, each counted each time it is reached (what is shared counts as often as it is met; a slice's spare places count too). A statement '..UptoSaid' is the law's where the arguments, and the package variables that the reading takes, are together of bulk at most 1048576: NARROWER than '..Said'. Prove '..Said' where nothing that the law and all that it calls make is longer than what came in: it says more and counts as full. Else prove '..UptoSaid'. A law counts once. -/
mutual
def uptoBulk {H : Type} : DataW H → Nat
  | .lit (.string bytes) => bytes.length + 1
  | .lit _ => 1
  | .nil => 1
  | .ptr d => uptoBulk d + 1
  | .slice elems spare => uptoBulkAll elems + uptoBulkAll spare + 1
  | .agg parts => uptoBulkAll parts + 1
  | .iface _ d => uptoBulk d + 1
  | .map entries => uptoBulkEntries entries + 1
  | .held _ => 1
def uptoBulkAll {H : Type} : List (DataW H) → Nat
  | [] => 0
  | d :: r => uptoBulk d + uptoBulkAll r
def uptoBulkEntries {H : Type} : List (Lit × DataW H) → Nat
  | [] => 0
  | x :: r => uptoBulkEntry x + uptoBulkEntries r
def uptoBulkEntry {H : Type} : Lit × DataW H → Nat
  | (.string bytes, d) => bytes.length + uptoBulk d + 1
  | (_, d) => uptoBulk d + 1
 end
def uptoSmall : (H : Type) → List (DataW H) → Bool := fun _ ds => decide (uptoBulkAll ds ≤ 1048576)
def OpenSpec.upto (s : _root_.Go.ChangeSpec) : _root_.Go.OpenSpec := { _root_.Go.OpenSpec.ofChange s with cond := some uptoSmall }

/-- 'kalendslaw07.PluralJoins', WHERE WHAT IT READS IS OF BULK AT MOST 1048576: true; the input reads as it did. -/
def pluralJoinsUptoRow : OpenClaim := { program := "ytebkccfnilcfpaagreatdoor", sum := "cc2cd101f6aabd387dac78fbf58771d3c28d4f54132c535d622a10ba063d9231", func := "kalends/kalendslaw07.PluralJoins", spec := "pluralJoins", inPlace := ["internal/abi.NoEscape", "internal/bytealg.MakeNoZero", "internal/bytealg.CountString", "internal/bytealg.IndexByteString", "internal/bytealg.IndexString"], unfollowed := true, recurses := true, named := ["kalends/civil.months", "internal/strconv.uint64pow10", "math/bits.deBruijn32tab", "math/bits.deBruijn64tab", "unicode/utf8.first", "unicode/utf8.acceptRanges", "internal/bytealg.MaxLen", "kalends/rfc.freqs", "strconv.ErrSyntax", "strconv.ErrRange", "kalends/rfc.weekdays"], plainKeys := false, apart := false, laid := [("math/bits.deBruijn32tab", laid_math_bits_deBruijn32tab), ("math/bits.deBruijn64tab", laid_math_bits_deBruijn64tab), ("internal/strconv.uint64pow10", laid_internal_strconv_uint64pow10), ("unicode/utf8.acceptRanges", laid_unicode_utf8_acceptRanges), ("strconv.ErrRange", laid_strconv_ErrRange), ("strconv.ErrSyntax", laid_strconv_ErrSyntax), ("kalends/civil.months", laid_kalends_civil_months), ("kalends/rfc.freqs", laid_kalends_rfc_freqs), ("kalends/rfc.weekdays", laid_kalends_rfc_weekdays), ("unicode/utf8.first", laid_unicode_utf8_first)], narrowed := true }
def PluralJoinsUptoSaid : Prop := pluralJoinsUptoRow.holds Tryz.pinned (OpenSpec.upto pluralJoinsSpec)

/-- 'kalendslaw08.TableMore', WHERE WHAT IT READS IS OF BULK AT MOST 1048576: true; the input reads as it did. -/
def tableMoreUptoRow : OpenClaim := { program := "ytebkccfnilcfpaagreatdoor", sum := "cc2cd101f6aabd387dac78fbf58771d3c28d4f54132c535d622a10ba063d9231", func := "kalends/kalendslaw08.TableMore", spec := "tableMore", inPlace := ["internal/abi.NoEscape", "internal/bytealg.MakeNoZero", "internal/bytealg.CountString", "internal/bytealg.IndexByteString", "internal/bytealg.IndexString"], unfollowed := true, recurses := true, named := ["kalends/civil.months", "internal/strconv.uint64pow10", "math/bits.deBruijn32tab", "math/bits.deBruijn64tab", "unicode/utf8.first", "unicode/utf8.acceptRanges", "internal/bytealg.MaxLen", "kalends/rfc.freqs", "strconv.ErrSyntax", "strconv.ErrRange", "kalends/rfc.weekdays", "kalends/table.many"], plainKeys := false, apart := false, laid := [("math/bits.deBruijn32tab", laid_math_bits_deBruijn32tab), ("math/bits.deBruijn64tab", laid_math_bits_deBruijn64tab), ("internal/strconv.uint64pow10", laid_internal_strconv_uint64pow10), ("unicode/utf8.acceptRanges", laid_unicode_utf8_acceptRanges), ("strconv.ErrRange", laid_strconv_ErrRange), ("strconv.ErrSyntax", laid_strconv_ErrSyntax), ("kalends/civil.months", laid_kalends_civil_months), ("kalends/rfc.freqs", laid_kalends_rfc_freqs), ("kalends/rfc.weekdays", laid_kalends_rfc_weekdays), ("kalends/table.many", laid_kalends_table_many), ("unicode/utf8.first", laid_unicode_utf8_first)], narrowed := true }
def TableMoreUptoSaid : Prop := tableMoreUptoRow.holds Tryz.pinned (OpenSpec.upto tableMoreSpec)

/-- 'kalendslaw08.TableWords', WHERE WHAT IT READS IS OF BULK AT MOST 1048576: true; the input reads as it did. -/
def tableWordsUptoRow : OpenClaim := { program := "ytebkccfnilcfpaagreatdoor", sum := "cc2cd101f6aabd387dac78fbf58771d3c28d4f54132c535d622a10ba063d9231", func := "kalends/kalendslaw08.TableWords", spec := "tableWords", inPlace := ["internal/abi.NoEscape", "internal/bytealg.MakeNoZero", "internal/bytealg.CountString", "internal/bytealg.IndexByteString", "internal/bytealg.IndexString"], unfollowed := true, recurses := true, named := ["kalends/civil.months", "internal/strconv.uint64pow10", "math/bits.deBruijn32tab", "math/bits.deBruijn64tab", "unicode/utf8.first", "unicode/utf8.acceptRanges", "internal/bytealg.MaxLen", "kalends/rfc.freqs", "strconv.ErrSyntax", "strconv.ErrRange", "kalends/rfc.weekdays", "kalends/table.many"], plainKeys := false, apart := false, laid := [("math/bits.deBruijn32tab", laid_math_bits_deBruijn32tab), ("math/bits.deBruijn64tab", laid_math_bits_deBruijn64tab), ("internal/strconv.uint64pow10", laid_internal_strconv_uint64pow10), ("unicode/utf8.acceptRanges", laid_unicode_utf8_acceptRanges), ("strconv.ErrRange", laid_strconv_ErrRange), ("strconv.ErrSyntax", laid_strconv_ErrSyntax), ("kalends/civil.months", laid_kalends_civil_months), ("kalends/rfc.freqs", laid_kalends_rfc_freqs), ("kalends/rfc.weekdays", laid_kalends_rfc_weekdays), ("kalends/table.many", laid_kalends_table_many), ("unicode/utf8.first", laid_unicode_utf8_first)], narrowed := true }
def TableWordsUptoSaid : Prop := tableWordsUptoRow.holds Tryz.pinned (OpenSpec.upto tableWordsSpec)

/-- 'kalendslaw07.PluralHundreds', WHERE WHAT IT READS IS OF BULK AT MOST 1048576: true; the input reads as it did. -/
def pluralHundredsUptoRow : OpenClaim := { program := "ytebkccfnilcfpaagreatdoor", sum := "cc2cd101f6aabd387dac78fbf58771d3c28d4f54132c535d622a10ba063d9231", func := "kalends/kalendslaw07.PluralHundreds", spec := "pluralHundreds", inPlace := ["internal/abi.NoEscape", "internal/bytealg.MakeNoZero", "internal/bytealg.CountString", "internal/bytealg.IndexByteString", "internal/bytealg.IndexString"], unfollowed := true, recurses := true, named := ["kalends/civil.months", "internal/strconv.uint64pow10", "math/bits.deBruijn32tab", "math/bits.deBruijn64tab", "unicode/utf8.first", "unicode/utf8.acceptRanges", "internal/bytealg.MaxLen", "kalends/rfc.freqs", "strconv.ErrSyntax", "strconv.ErrRange", "kalends/rfc.weekdays"], plainKeys := false, apart := false, laid := [("math/bits.deBruijn32tab", laid_math_bits_deBruijn32tab), ("math/bits.deBruijn64tab", laid_math_bits_deBruijn64tab), ("internal/strconv.uint64pow10", laid_internal_strconv_uint64pow10), ("unicode/utf8.acceptRanges", laid_unicode_utf8_acceptRanges), ("strconv.ErrRange", laid_strconv_ErrRange), ("strconv.ErrSyntax", laid_strconv_ErrSyntax), ("kalends/civil.months", laid_kalends_civil_months), ("kalends/rfc.freqs", laid_kalends_rfc_freqs), ("kalends/rfc.weekdays", laid_kalends_rfc_weekdays), ("unicode/utf8.first", laid_unicode_utf8_first)], narrowed := true }
def PluralHundredsUptoSaid : Prop := pluralHundredsUptoRow.holds Tryz.pinned (OpenSpec.upto pluralHundredsSpec)

/-- 'kalendslaw10.FoldBad', WHERE WHAT IT READS IS OF BULK AT MOST 1048576: true; the input reads as it did. -/
def foldBadUptoRow : OpenClaim := { program := "ytebkccfnilcfpaagreatdoor", sum := "cc2cd101f6aabd387dac78fbf58771d3c28d4f54132c535d622a10ba063d9231", func := "kalends/kalendslaw10.FoldBad", spec := "foldBad", inPlace := ["internal/abi.NoEscape", "internal/bytealg.MakeNoZero", "internal/bytealg.CountString", "internal/bytealg.IndexByteString", "internal/bytealg.IndexString"], unfollowed := true, recurses := true, named := ["kalends/civil.months", "internal/strconv.uint64pow10", "math/bits.deBruijn32tab", "math/bits.deBruijn64tab", "unicode/utf8.first", "unicode/utf8.acceptRanges", "internal/bytealg.MaxLen", "kalends/rfc.freqs", "strconv.ErrSyntax", "strconv.ErrRange", "kalends/rfc.weekdays", "kalends/table.many"], plainKeys := false, apart := false, laid := [("math/bits.deBruijn32tab", laid_math_bits_deBruijn32tab), ("math/bits.deBruijn64tab", laid_math_bits_deBruijn64tab), ("internal/strconv.uint64pow10", laid_internal_strconv_uint64pow10), ("unicode/utf8.acceptRanges", laid_unicode_utf8_acceptRanges), ("strconv.ErrRange", laid_strconv_ErrRange), ("strconv.ErrSyntax", laid_strconv_ErrSyntax), ("kalends/civil.months", laid_kalends_civil_months), ("kalends/rfc.freqs", laid_kalends_rfc_freqs), ("kalends/rfc.weekdays", laid_kalends_rfc_weekdays), ("kalends/table.many", laid_kalends_table_many), ("unicode/utf8.first", laid_unicode_utf8_first)], narrowed := true }
def FoldBadUptoSaid : Prop := foldBadUptoRow.holds Tryz.pinned (OpenSpec.upto foldBadSpec)

/-- 'kalendslaw10.FoldSmall', WHERE WHAT IT READS IS OF BULK AT MOST 1048576: true; the input reads as it did. -/
def foldSmallUptoRow : OpenClaim := { program := "ytebkccfnilcfpaagreatdoor", sum := "cc2cd101f6aabd387dac78fbf58771d3c28d4f54132c535d622a10ba063d9231", func := "kalends/kalendslaw10.FoldSmall", spec := "foldSmall", inPlace := ["internal/abi.NoEscape", "internal/bytealg.MakeNoZero", "internal/bytealg.CountString", "internal/bytealg.IndexByteString", "internal/bytealg.IndexString"], unfollowed := true, recurses := true, named := ["kalends/civil.months", "internal/strconv.uint64pow10", "math/bits.deBruijn32tab", "math/bits.deBruijn64tab", "unicode/utf8.first", "unicode/utf8.acceptRanges", "internal/bytealg.MaxLen", "kalends/rfc.freqs", "strconv.ErrSyntax", "strconv.ErrRange", "kalends/rfc.weekdays", "kalends/table.many"], plainKeys := false, apart := false, laid := [("math/bits.deBruijn32tab", laid_math_bits_deBruijn32tab), ("math/bits.deBruijn64tab", laid_math_bits_deBruijn64tab), ("internal/strconv.uint64pow10", laid_internal_strconv_uint64pow10), ("unicode/utf8.acceptRanges", laid_unicode_utf8_acceptRanges), ("strconv.ErrRange", laid_strconv_ErrRange), ("strconv.ErrSyntax", laid_strconv_ErrSyntax), ("kalends/civil.months", laid_kalends_civil_months), ("kalends/rfc.freqs", laid_kalends_rfc_freqs), ("kalends/rfc.weekdays", laid_kalends_rfc_weekdays), ("kalends/table.many", laid_kalends_table_many), ("unicode/utf8.first", laid_unicode_utf8_first)], narrowed := true }
def FoldSmallUptoSaid : Prop := foldSmallUptoRow.holds Tryz.pinned (OpenSpec.upto foldSmallSpec)

/-- 'kalendslaw10.FoldLetters', WHERE WHAT IT READS IS OF BULK AT MOST 1048576: true; the input reads as it did. -/
def foldLettersUptoRow : OpenClaim := { program := "ytebkccfnilcfpaagreatdoor", sum := "cc2cd101f6aabd387dac78fbf58771d3c28d4f54132c535d622a10ba063d9231", func := "kalends/kalendslaw10.FoldLetters", spec := "foldLetters", inPlace := ["internal/abi.NoEscape", "internal/bytealg.MakeNoZero", "internal/bytealg.CountString", "internal/bytealg.IndexByteString", "internal/bytealg.IndexString"], unfollowed := true, recurses := true, named := ["kalends/civil.months", "internal/strconv.uint64pow10", "math/bits.deBruijn32tab", "math/bits.deBruijn64tab", "unicode/utf8.first", "unicode/utf8.acceptRanges", "internal/bytealg.MaxLen", "kalends/rfc.freqs", "strconv.ErrSyntax", "strconv.ErrRange", "kalends/rfc.weekdays", "kalends/table.many"], plainKeys := false, apart := false, laid := [("math/bits.deBruijn32tab", laid_math_bits_deBruijn32tab), ("math/bits.deBruijn64tab", laid_math_bits_deBruijn64tab), ("internal/strconv.uint64pow10", laid_internal_strconv_uint64pow10), ("unicode/utf8.acceptRanges", laid_unicode_utf8_acceptRanges), ("strconv.ErrRange", laid_strconv_ErrRange), ("strconv.ErrSyntax", laid_strconv_ErrSyntax), ("kalends/civil.months", laid_kalends_civil_months), ("kalends/rfc.freqs", laid_kalends_rfc_freqs), ("kalends/rfc.weekdays", laid_kalends_rfc_weekdays), ("kalends/table.many", laid_kalends_table_many), ("unicode/utf8.first", laid_unicode_utf8_first)], narrowed := true }
def FoldLettersUptoSaid : Prop := foldLettersUptoRow.holds Tryz.pinned (OpenSpec.upto foldLettersSpec)

/-- 'kalendslaw10.FoldJoins', WHERE WHAT IT READS IS OF BULK AT MOST 1048576: true; the input reads as it did. -/
def foldJoinsUptoRow : OpenClaim := { program := "ytebkccfnilcfpaagreatdoor", sum := "cc2cd101f6aabd387dac78fbf58771d3c28d4f54132c535d622a10ba063d9231", func := "kalends/kalendslaw10.FoldJoins", spec := "foldJoins", inPlace := ["internal/abi.NoEscape", "internal/bytealg.MakeNoZero", "internal/bytealg.CountString", "internal/bytealg.IndexByteString", "internal/bytealg.IndexString"], unfollowed := true, recurses := true, named := ["kalends/civil.months", "internal/strconv.uint64pow10", "math/bits.deBruijn32tab", "math/bits.deBruijn64tab", "unicode/utf8.first", "unicode/utf8.acceptRanges", "internal/bytealg.MaxLen", "kalends/rfc.freqs", "strconv.ErrSyntax", "strconv.ErrRange", "kalends/rfc.weekdays", "kalends/table.many"], plainKeys := false, apart := false, laid := [("math/bits.deBruijn32tab", laid_math_bits_deBruijn32tab), ("math/bits.deBruijn64tab", laid_math_bits_deBruijn64tab), ("internal/strconv.uint64pow10", laid_internal_strconv_uint64pow10), ("unicode/utf8.acceptRanges", laid_unicode_utf8_acceptRanges), ("strconv.ErrRange", laid_strconv_ErrRange), ("strconv.ErrSyntax", laid_strconv_ErrSyntax), ("kalends/civil.months", laid_kalends_civil_months), ("kalends/rfc.freqs", laid_kalends_rfc_freqs), ("kalends/rfc.weekdays", laid_kalends_rfc_weekdays), ("kalends/table.many", laid_kalends_table_many), ("unicode/utf8.first", laid_unicode_utf8_first)], narrowed := true }
def FoldJoinsUptoSaid : Prop := foldJoinsUptoRow.holds Tryz.pinned (OpenSpec.upto foldJoinsSpec)

end Rows
end Go.Proofs.YtebkccfnilcfpaaGreatDoor
