/-
  DERIVED. GIVEN WITH THE SEED: THE CARDS: each row of YtnbkknlljbhpgaaGreatDoorRows.lean that lists a variable, with what it lists TIED to the program's text (the seventh form; the later family's looks); each row that meets fmt, with fmt's text TOLD by the authors' own Lean function (tested against real Go, not proved from fmt's source: count such statements apart). THE CARD IS WHAT COUNTS. Prove the row's statement (the work); the ties are given (YtnbkknlljbhpgaaGreatDoorTie.lean); close each card by the builder's one call (the guide's Derived/Test/ToyasCard.lean, 'card_holds'). Laid BY PROGRAM, IN A SANDBOX (cutbox-door.mjs). By AI agents, Wed Nov 11 2026. No macro, syntax, notation, axiom, sorry.
-/
import Derived.Test.YtnbkknlljbhpgaaGreatDoorRows
import GoSem.ClaimSeven
namespace Go.Proofs.YtnbkknlljbhpgaaGreatDoor
namespace Rows

/-- THE TIED CARD OF 'kalendslaw02.RuleOrders'. -/
def ruleOrdersCard : Claim7 := { stood := { row := ruleOrdersRow, standIns := [], harness := (true, "c6f29600a41a8dc5d1fe9e99648a14a9b0b8e13f1287d9f4087629045ed17f7b"), looks := true }, kinds := [], alts := [], laidByText := true, laidKinds := [.data, .data, .data, .data], laidTests := true, laidLooks := .later }
def RuleOrdersCardSaid : Prop := Claim7.holds Tryz.pinned (.plain (OpenSpec.ofChange ruleOrdersSpec)) ruleOrdersCard

/-- THE TIED CARD OF 'kalendslaw05.ExpandPeriods'. -/
def expandPeriodsCard : Claim7 := { stood := { row := expandPeriodsRow, standIns := [], harness := (true, "c6f29600a41a8dc5d1fe9e99648a14a9b0b8e13f1287d9f4087629045ed17f7b"), looks := true }, kinds := [], alts := [], laidByText := true, laidKinds := [.data, .data, .data, .data, .sentinel, .sentinel, .data, .widerDeep, .widerDeep, .pinned], laidTests := true, laidLooks := .later }
def ExpandPeriodsCardSaid : Prop := Claim7.holds Tryz.pinned (.plain (OpenSpec.ofChange expandPeriodsSpec)) expandPeriodsCard

/-- THE TIED CARD OF 'kalendslaw05.ExpandParts'. -/
def expandPartsCard : Claim7 := { stood := { row := expandPartsRow, standIns := [], harness := (true, "c6f29600a41a8dc5d1fe9e99648a14a9b0b8e13f1287d9f4087629045ed17f7b"), looks := true }, kinds := [], alts := [], laidByText := true, laidKinds := [.data, .data, .data, .data, .sentinel, .sentinel, .data, .widerDeep, .widerDeep, .pinned], laidTests := true, laidLooks := .later }
def ExpandPartsCardSaid : Prop := Claim7.holds Tryz.pinned (.plain (OpenSpec.ofChange expandPartsSpec)) expandPartsCard

/-- THE TIED CARD OF 'kalendslaw03.RfcTwice'. -/
def rfcTwiceCard : Claim7 := { stood := { row := rfcTwiceRow, standIns := [], harness := (true, "c6f29600a41a8dc5d1fe9e99648a14a9b0b8e13f1287d9f4087629045ed17f7b"), looks := true }, kinds := [], alts := [], laidByText := true, laidKinds := [.data, .data, .data, .data, .sentinel, .sentinel, .data, .widerDeep, .widerDeep, .widerDeep, .widerDeep, .pinned], laidTests := true, laidLooks := .later }
def RfcTwiceCardSaid : Prop := Claim7.holds Tryz.pinned (.plain (OpenSpec.ofChange rfcTwiceSpec)) rfcTwiceCard

/-- THE TIED CARD OF 'kalendslaw03.RfcApart'. -/
def rfcApartCard : Claim7 := { stood := { row := rfcApartRow, standIns := [], harness := (true, "c6f29600a41a8dc5d1fe9e99648a14a9b0b8e13f1287d9f4087629045ed17f7b"), looks := true }, kinds := [], alts := [], laidByText := true, laidKinds := [.data, .data, .data, .data, .sentinel, .sentinel, .data, .widerDeep, .widerDeep, .pinned], laidTests := true, laidLooks := .later }
def RfcApartCardSaid : Prop := Claim7.holds Tryz.pinned (.plain (OpenSpec.ofChange rfcApartSpec)) rfcApartCard

/-- THE TIED CARD OF 'kalendslaw03.RfcBack'. -/
def rfcBackCard : Claim7 := { stood := { row := rfcBackRow, standIns := [], harness := (true, "c6f29600a41a8dc5d1fe9e99648a14a9b0b8e13f1287d9f4087629045ed17f7b"), looks := true }, kinds := [], alts := [], laidByText := true, laidKinds := [.data, .data, .data, .data, .sentinel, .sentinel, .data, .widerDeep, .widerDeep, .widerDeep, .widerDeep, .pinned], laidTests := true, laidLooks := .later }
def RfcBackCardSaid : Prop := Claim7.holds Tryz.pinned (.plain (OpenSpec.ofChange rfcBackSpec)) rfcBackCard

/-- THE TIED CARD OF 'kalendslaw04.NormalKeeps'. -/
def normalKeepsCard : Claim7 := { stood := { row := normalKeepsRow, standIns := [], harness := (true, "c6f29600a41a8dc5d1fe9e99648a14a9b0b8e13f1287d9f4087629045ed17f7b"), looks := true }, kinds := [], alts := [], laidByText := true, laidKinds := [.data, .data, .data, .data, .sentinel, .sentinel, .data, .widerDeep, .widerDeep, .pinned], laidTests := true, laidLooks := .later }
def NormalKeepsCardSaid : Prop := Claim7.holds Tryz.pinned (.plain (OpenSpec.ofChange normalKeepsSpec)) normalKeepsCard

/-- THE SECOND FORM's CARD OF 'kalendslaw02.RuleOrders'. -/
def ruleOrdersUptoCard : Claim7 := { stood := { row := ruleOrdersUptoRow, standIns := [], harness := (true, "c6f29600a41a8dc5d1fe9e99648a14a9b0b8e13f1287d9f4087629045ed17f7b"), looks := true }, kinds := [], alts := [], laidByText := true, laidKinds := [.data, .data, .data, .data], laidTests := true, laidLooks := .later }
def RuleOrdersUptoCardSaid : Prop := Claim7.holds Tryz.pinned (.plain (OpenSpec.upto ruleOrdersSpec)) ruleOrdersUptoCard

/-- THE SECOND FORM's CARD OF 'kalendslaw05.ExpandPeriods'. -/
def expandPeriodsUptoCard : Claim7 := { stood := { row := expandPeriodsUptoRow, standIns := [], harness := (true, "c6f29600a41a8dc5d1fe9e99648a14a9b0b8e13f1287d9f4087629045ed17f7b"), looks := true }, kinds := [], alts := [], laidByText := true, laidKinds := [.data, .data, .data, .data, .sentinel, .sentinel, .data, .widerDeep, .widerDeep, .pinned], laidTests := true, laidLooks := .later }
def ExpandPeriodsUptoCardSaid : Prop := Claim7.holds Tryz.pinned (.plain (OpenSpec.upto expandPeriodsSpec)) expandPeriodsUptoCard

/-- THE SECOND FORM's CARD OF 'kalendslaw05.ExpandParts'. -/
def expandPartsUptoCard : Claim7 := { stood := { row := expandPartsUptoRow, standIns := [], harness := (true, "c6f29600a41a8dc5d1fe9e99648a14a9b0b8e13f1287d9f4087629045ed17f7b"), looks := true }, kinds := [], alts := [], laidByText := true, laidKinds := [.data, .data, .data, .data, .sentinel, .sentinel, .data, .widerDeep, .widerDeep, .pinned], laidTests := true, laidLooks := .later }
def ExpandPartsUptoCardSaid : Prop := Claim7.holds Tryz.pinned (.plain (OpenSpec.upto expandPartsSpec)) expandPartsUptoCard

/-- THE SECOND FORM's CARD OF 'kalendslaw03.RfcTwice'. -/
def rfcTwiceUptoCard : Claim7 := { stood := { row := rfcTwiceUptoRow, standIns := [], harness := (true, "c6f29600a41a8dc5d1fe9e99648a14a9b0b8e13f1287d9f4087629045ed17f7b"), looks := true }, kinds := [], alts := [], laidByText := true, laidKinds := [.data, .data, .data, .data, .sentinel, .sentinel, .data, .widerDeep, .widerDeep, .widerDeep, .widerDeep, .pinned], laidTests := true, laidLooks := .later }
def RfcTwiceUptoCardSaid : Prop := Claim7.holds Tryz.pinned (.plain (OpenSpec.upto rfcTwiceSpec)) rfcTwiceUptoCard

/-- THE SECOND FORM's CARD OF 'kalendslaw03.RfcApart'. -/
def rfcApartUptoCard : Claim7 := { stood := { row := rfcApartUptoRow, standIns := [], harness := (true, "c6f29600a41a8dc5d1fe9e99648a14a9b0b8e13f1287d9f4087629045ed17f7b"), looks := true }, kinds := [], alts := [], laidByText := true, laidKinds := [.data, .data, .data, .data, .sentinel, .sentinel, .data, .widerDeep, .widerDeep, .pinned], laidTests := true, laidLooks := .later }
def RfcApartUptoCardSaid : Prop := Claim7.holds Tryz.pinned (.plain (OpenSpec.upto rfcApartSpec)) rfcApartUptoCard

/-- THE SECOND FORM's CARD OF 'kalendslaw03.RfcBack'. -/
def rfcBackUptoCard : Claim7 := { stood := { row := rfcBackUptoRow, standIns := [], harness := (true, "c6f29600a41a8dc5d1fe9e99648a14a9b0b8e13f1287d9f4087629045ed17f7b"), looks := true }, kinds := [], alts := [], laidByText := true, laidKinds := [.data, .data, .data, .data, .sentinel, .sentinel, .data, .widerDeep, .widerDeep, .widerDeep, .widerDeep, .pinned], laidTests := true, laidLooks := .later }
def RfcBackUptoCardSaid : Prop := Claim7.holds Tryz.pinned (.plain (OpenSpec.upto rfcBackSpec)) rfcBackUptoCard

/-- THE SECOND FORM's CARD OF 'kalendslaw04.NormalKeeps'. -/
def normalKeepsUptoCard : Claim7 := { stood := { row := normalKeepsUptoRow, standIns := [], harness := (true, "c6f29600a41a8dc5d1fe9e99648a14a9b0b8e13f1287d9f4087629045ed17f7b"), looks := true }, kinds := [], alts := [], laidByText := true, laidKinds := [.data, .data, .data, .data, .sentinel, .sentinel, .data, .widerDeep, .widerDeep, .pinned], laidTests := true, laidLooks := .later }
def NormalKeepsUptoCardSaid : Prop := Claim7.holds Tryz.pinned (.plain (OpenSpec.upto normalKeepsSpec)) normalKeepsUptoCard
end Rows
end Go.Proofs.YtnbkknlljbhpgaaGreatDoor
