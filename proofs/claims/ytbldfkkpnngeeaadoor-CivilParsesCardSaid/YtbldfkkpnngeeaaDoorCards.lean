/-
  DERIVED. GIVEN WITH THE SEED: THE CARDS: each row of YtbldfkkpnngeeaaDoorRows.lean that lists a variable, with what it lists TIED to the program's text (the seventh form; the later family's looks); each row that meets fmt, with fmt's text TOLD by the authors' own Lean function (tested against real Go, not proved from fmt's source: count such statements apart). THE CARD IS WHAT COUNTS. Prove the row's statement (the work); the ties are given (YtbldfkkpnngeeaaDoorTie.lean); close each card by the builder's one call (the guide's Derived/Test/ToyasCard.lean, 'card_holds'). Laid BY PROGRAM, IN A SANDBOX (cutbox-door.mjs). By AI agents, Wed Nov 11 2026. No macro, syntax, notation, axiom, sorry.
-/
import Derived.Test.YtbldfkkpnngeeaaDoorRows
import GoSem.ClaimSeven
namespace Go.Proofs.YtbldfkkpnngeeaaDoor
namespace Rows

/-- THE TIED CARD OF 'kalendslaw01.CivilLong'. -/
def civilLongCard : Claim7 := { stood := { row := civilLongRow, standIns := [], harness := (true, "6f176193157607088ea13f5d8de3df6f88dd0e56d0f2e77493a71e3f31eef889"), looks := true }, kinds := [], alts := [], laidByText := true, laidKinds := [.data, .data, .data, .data], laidTests := true, laidLooks := .later }
def CivilLongCardSaid : Prop := Claim7.holds Tryd.pinned (.plain (OpenSpec.ofChange civilLongSpec)) civilLongCard

/-- THE TIED CARD OF 'kalendslaw01.CivilOf'. -/
def civilOfCard : Claim7 := { stood := { row := civilOfRow, standIns := [], harness := (true, "6f176193157607088ea13f5d8de3df6f88dd0e56d0f2e77493a71e3f31eef889"), looks := true }, kinds := [], alts := [], laidByText := true, laidKinds := [.data, .data, .data, .data], laidTests := true, laidLooks := .later }
def CivilOfCardSaid : Prop := Claim7.holds Tryd.pinned (.plain (OpenSpec.ofChange civilOfSpec)) civilOfCard

/-- THE TIED CARD OF 'kalendslaw01.CivilNext'. -/
def civilNextCard : Claim7 := { stood := { row := civilNextRow, standIns := [], harness := (true, "6f176193157607088ea13f5d8de3df6f88dd0e56d0f2e77493a71e3f31eef889"), looks := true }, kinds := [], alts := [], laidByText := true, laidKinds := [.data, .data, .data, .data], laidTests := true, laidLooks := .later }
def CivilNextCardSaid : Prop := Claim7.holds Tryd.pinned (.plain (OpenSpec.ofChange civilNextSpec)) civilNextCard

/-- THE TIED CARD OF 'kalendslaw01.CivilYears'. -/
def civilYearsCard : Claim7 := { stood := { row := civilYearsRow, standIns := [], harness := (true, "6f176193157607088ea13f5d8de3df6f88dd0e56d0f2e77493a71e3f31eef889"), looks := true }, kinds := [], alts := [], laidByText := true, laidKinds := [.data, .data, .data, .data], laidTests := true, laidLooks := .later }
def CivilYearsCardSaid : Prop := Claim7.holds Tryd.pinned (.plain (OpenSpec.ofChange civilYearsSpec)) civilYearsCard

/-- THE TIED CARD OF 'kalendslaw01.CivilAges'. -/
def civilAgesCard : Claim7 := { stood := { row := civilAgesRow, standIns := [], harness := (true, "6f176193157607088ea13f5d8de3df6f88dd0e56d0f2e77493a71e3f31eef889"), looks := true }, kinds := [], alts := [], laidByText := true, laidKinds := [.data, .data, .data, .data], laidTests := true, laidLooks := .later }
def CivilAgesCardSaid : Prop := Claim7.holds Tryd.pinned (.plain (OpenSpec.ofChange civilAgesSpec)) civilAgesCard

/-- THE TIED CARD OF 'kalendslaw02.RuleRaw'. -/
def ruleRawCard : Claim7 := { stood := { row := ruleRawRow, standIns := [], harness := (true, "6f176193157607088ea13f5d8de3df6f88dd0e56d0f2e77493a71e3f31eef889"), looks := true }, kinds := [], alts := [], laidByText := true, laidKinds := [.data, .data, .data, .data], laidTests := true, laidLooks := .later }
def RuleRawCardSaid : Prop := Claim7.holds Tryd.pinned (.plain (OpenSpec.ofChange ruleRawSpec)) ruleRawCard

/-- THE TIED CARD OF 'kalendslaw02.RuleLong'. -/
def ruleLongCard : Claim7 := { stood := { row := ruleLongRow, standIns := [], harness := (true, "6f176193157607088ea13f5d8de3df6f88dd0e56d0f2e77493a71e3f31eef889"), looks := true }, kinds := [], alts := [], laidByText := true, laidKinds := [.data, .data, .data, .data], laidTests := true, laidLooks := .later }
def RuleLongCardSaid : Prop := Claim7.holds Tryd.pinned (.plain (OpenSpec.ofChange ruleLongSpec)) ruleLongCard

/-- THE TIED CARD OF 'kalendslaw01.CivilDates'. -/
def civilDatesCard : Claim7 := { stood := { row := civilDatesRow, standIns := [], harness := (true, "6f176193157607088ea13f5d8de3df6f88dd0e56d0f2e77493a71e3f31eef889"), looks := true }, kinds := [], alts := [], laidByText := true, laidKinds := [.data, .data, .data, .sentinel, .sentinel, .data], laidTests := true, laidLooks := .later }
def CivilDatesCardSaid : Prop := Claim7.holds Tryd.pinned (.plain (OpenSpec.ofChange civilDatesSpec)) civilDatesCard

/-- THE TIED CARD OF 'kalendslaw01.CivilParses'. -/
def civilParsesCard : Claim7 := { stood := { row := civilParsesRow, standIns := [], harness := (true, "6f176193157607088ea13f5d8de3df6f88dd0e56d0f2e77493a71e3f31eef889"), looks := true }, kinds := [], alts := [], laidByText := true, laidKinds := [.data, .data, .data, .sentinel, .sentinel, .data], laidTests := true, laidLooks := .later }
def CivilParsesCardSaid : Prop := Claim7.holds Tryd.pinned (.plain (OpenSpec.ofChange civilParsesSpec)) civilParsesCard

/-- THE TIED CARD OF 'kalendslaw02.RuleMay'. -/
def ruleMayCard : Claim7 := { stood := { row := ruleMayRow, standIns := [], harness := (true, "6f176193157607088ea13f5d8de3df6f88dd0e56d0f2e77493a71e3f31eef889"), looks := true }, kinds := [], alts := [], laidByText := true, laidKinds := [.data, .data, .data, .data], laidTests := true, laidLooks := .later }
def RuleMayCardSaid : Prop := Claim7.holds Tryd.pinned (.plain (OpenSpec.ofChange ruleMaySpec)) ruleMayCard

/-- THE TIED CARD OF 'kalendslaw02.RuleFewer'. -/
def ruleFewerCard : Claim7 := { stood := { row := ruleFewerRow, standIns := [], harness := (true, "6f176193157607088ea13f5d8de3df6f88dd0e56d0f2e77493a71e3f31eef889"), looks := true }, kinds := [], alts := [], laidByText := true, laidKinds := [.data, .data, .data, .data], laidTests := true, laidLooks := .later }
def RuleFewerCardSaid : Prop := Claim7.holds Tryd.pinned (.plain (OpenSpec.ofChange ruleFewerSpec)) ruleFewerCard

/-- THE TIED CARD OF 'kalendslaw02.RuleEnds'. -/
def ruleEndsCard : Claim7 := { stood := { row := ruleEndsRow, standIns := [], harness := (true, "6f176193157607088ea13f5d8de3df6f88dd0e56d0f2e77493a71e3f31eef889"), looks := true }, kinds := [], alts := [], laidByText := true, laidKinds := [.data, .data, .data, .data], laidTests := true, laidLooks := .later }
def RuleEndsCardSaid : Prop := Claim7.holds Tryd.pinned (.plain (OpenSpec.ofChange ruleEndsSpec)) ruleEndsCard

/-- THE SECOND FORM's CARD OF 'kalendslaw01.CivilLong'. -/
def civilLongUptoCard : Claim7 := { stood := { row := civilLongUptoRow, standIns := [], harness := (true, "6f176193157607088ea13f5d8de3df6f88dd0e56d0f2e77493a71e3f31eef889"), looks := true }, kinds := [], alts := [], laidByText := true, laidKinds := [.data, .data, .data, .data], laidTests := true, laidLooks := .later }
def CivilLongUptoCardSaid : Prop := Claim7.holds Tryd.pinned (.plain (OpenSpec.upto civilLongSpec)) civilLongUptoCard

/-- THE SECOND FORM's CARD OF 'kalendslaw01.CivilOf'. -/
def civilOfUptoCard : Claim7 := { stood := { row := civilOfUptoRow, standIns := [], harness := (true, "6f176193157607088ea13f5d8de3df6f88dd0e56d0f2e77493a71e3f31eef889"), looks := true }, kinds := [], alts := [], laidByText := true, laidKinds := [.data, .data, .data, .data], laidTests := true, laidLooks := .later }
def CivilOfUptoCardSaid : Prop := Claim7.holds Tryd.pinned (.plain (OpenSpec.upto civilOfSpec)) civilOfUptoCard

/-- THE SECOND FORM's CARD OF 'kalendslaw01.CivilNext'. -/
def civilNextUptoCard : Claim7 := { stood := { row := civilNextUptoRow, standIns := [], harness := (true, "6f176193157607088ea13f5d8de3df6f88dd0e56d0f2e77493a71e3f31eef889"), looks := true }, kinds := [], alts := [], laidByText := true, laidKinds := [.data, .data, .data, .data], laidTests := true, laidLooks := .later }
def CivilNextUptoCardSaid : Prop := Claim7.holds Tryd.pinned (.plain (OpenSpec.upto civilNextSpec)) civilNextUptoCard

/-- THE SECOND FORM's CARD OF 'kalendslaw01.CivilYears'. -/
def civilYearsUptoCard : Claim7 := { stood := { row := civilYearsUptoRow, standIns := [], harness := (true, "6f176193157607088ea13f5d8de3df6f88dd0e56d0f2e77493a71e3f31eef889"), looks := true }, kinds := [], alts := [], laidByText := true, laidKinds := [.data, .data, .data, .data], laidTests := true, laidLooks := .later }
def CivilYearsUptoCardSaid : Prop := Claim7.holds Tryd.pinned (.plain (OpenSpec.upto civilYearsSpec)) civilYearsUptoCard

/-- THE SECOND FORM's CARD OF 'kalendslaw01.CivilAges'. -/
def civilAgesUptoCard : Claim7 := { stood := { row := civilAgesUptoRow, standIns := [], harness := (true, "6f176193157607088ea13f5d8de3df6f88dd0e56d0f2e77493a71e3f31eef889"), looks := true }, kinds := [], alts := [], laidByText := true, laidKinds := [.data, .data, .data, .data], laidTests := true, laidLooks := .later }
def CivilAgesUptoCardSaid : Prop := Claim7.holds Tryd.pinned (.plain (OpenSpec.upto civilAgesSpec)) civilAgesUptoCard

/-- THE SECOND FORM's CARD OF 'kalendslaw02.RuleRaw'. -/
def ruleRawUptoCard : Claim7 := { stood := { row := ruleRawUptoRow, standIns := [], harness := (true, "6f176193157607088ea13f5d8de3df6f88dd0e56d0f2e77493a71e3f31eef889"), looks := true }, kinds := [], alts := [], laidByText := true, laidKinds := [.data, .data, .data, .data], laidTests := true, laidLooks := .later }
def RuleRawUptoCardSaid : Prop := Claim7.holds Tryd.pinned (.plain (OpenSpec.upto ruleRawSpec)) ruleRawUptoCard

/-- THE SECOND FORM's CARD OF 'kalendslaw02.RuleLong'. -/
def ruleLongUptoCard : Claim7 := { stood := { row := ruleLongUptoRow, standIns := [], harness := (true, "6f176193157607088ea13f5d8de3df6f88dd0e56d0f2e77493a71e3f31eef889"), looks := true }, kinds := [], alts := [], laidByText := true, laidKinds := [.data, .data, .data, .data], laidTests := true, laidLooks := .later }
def RuleLongUptoCardSaid : Prop := Claim7.holds Tryd.pinned (.plain (OpenSpec.upto ruleLongSpec)) ruleLongUptoCard

/-- THE SECOND FORM's CARD OF 'kalendslaw01.CivilDates'. -/
def civilDatesUptoCard : Claim7 := { stood := { row := civilDatesUptoRow, standIns := [], harness := (true, "6f176193157607088ea13f5d8de3df6f88dd0e56d0f2e77493a71e3f31eef889"), looks := true }, kinds := [], alts := [], laidByText := true, laidKinds := [.data, .data, .data, .sentinel, .sentinel, .data], laidTests := true, laidLooks := .later }
def CivilDatesUptoCardSaid : Prop := Claim7.holds Tryd.pinned (.plain (OpenSpec.upto civilDatesSpec)) civilDatesUptoCard

/-- THE SECOND FORM's CARD OF 'kalendslaw01.CivilParses'. -/
def civilParsesUptoCard : Claim7 := { stood := { row := civilParsesUptoRow, standIns := [], harness := (true, "6f176193157607088ea13f5d8de3df6f88dd0e56d0f2e77493a71e3f31eef889"), looks := true }, kinds := [], alts := [], laidByText := true, laidKinds := [.data, .data, .data, .sentinel, .sentinel, .data], laidTests := true, laidLooks := .later }
def CivilParsesUptoCardSaid : Prop := Claim7.holds Tryd.pinned (.plain (OpenSpec.upto civilParsesSpec)) civilParsesUptoCard

/-- THE SECOND FORM's CARD OF 'kalendslaw02.RuleMay'. -/
def ruleMayUptoCard : Claim7 := { stood := { row := ruleMayUptoRow, standIns := [], harness := (true, "6f176193157607088ea13f5d8de3df6f88dd0e56d0f2e77493a71e3f31eef889"), looks := true }, kinds := [], alts := [], laidByText := true, laidKinds := [.data, .data, .data, .data], laidTests := true, laidLooks := .later }
def RuleMayUptoCardSaid : Prop := Claim7.holds Tryd.pinned (.plain (OpenSpec.upto ruleMaySpec)) ruleMayUptoCard

/-- THE SECOND FORM's CARD OF 'kalendslaw02.RuleFewer'. -/
def ruleFewerUptoCard : Claim7 := { stood := { row := ruleFewerUptoRow, standIns := [], harness := (true, "6f176193157607088ea13f5d8de3df6f88dd0e56d0f2e77493a71e3f31eef889"), looks := true }, kinds := [], alts := [], laidByText := true, laidKinds := [.data, .data, .data, .data], laidTests := true, laidLooks := .later }
def RuleFewerUptoCardSaid : Prop := Claim7.holds Tryd.pinned (.plain (OpenSpec.upto ruleFewerSpec)) ruleFewerUptoCard

/-- THE SECOND FORM's CARD OF 'kalendslaw02.RuleEnds'. -/
def ruleEndsUptoCard : Claim7 := { stood := { row := ruleEndsUptoRow, standIns := [], harness := (true, "6f176193157607088ea13f5d8de3df6f88dd0e56d0f2e77493a71e3f31eef889"), looks := true }, kinds := [], alts := [], laidByText := true, laidKinds := [.data, .data, .data, .data], laidTests := true, laidLooks := .later }
def RuleEndsUptoCardSaid : Prop := Claim7.holds Tryd.pinned (.plain (OpenSpec.upto ruleEndsSpec)) ruleEndsUptoCard
end Rows
end Go.Proofs.YtbldfkkpnngeeaaDoor
