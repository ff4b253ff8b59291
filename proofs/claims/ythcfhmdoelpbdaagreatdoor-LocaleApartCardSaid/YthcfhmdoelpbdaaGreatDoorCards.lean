/-
  DERIVED. GIVEN WITH THE SEED: THE CARDS: each row of YthcfhmdoelpbdaaGreatDoorRows.lean that lists a variable, with what it lists TIED to the program's text (the seventh form; the later family's looks); each row that meets fmt, with fmt's text TOLD by the authors' own Lean function (tested against real Go, not proved from fmt's source: count such statements apart). THE CARD IS WHAT COUNTS. Prove the row's statement (the work); the ties are given (YthcfhmdoelpbdaaGreatDoorTie.lean); close each card by the builder's one call (the guide's Derived/Test/ToyasCard.lean, 'card_holds'). Laid BY PROGRAM, IN A SANDBOX (cutbox-door.mjs). By AI agents, Wed Nov 11 2026. No macro, syntax, notation, axiom, sorry.
-/
import Derived.Test.YthcfhmdoelpbdaaGreatDoorRows
import GoSem.ClaimSeven
namespace Go.Proofs.YthcfhmdoelpbdaaGreatDoor
namespace Rows

/-- THE TIED CARD OF 'kalendslaw07.PluralForms'. -/
def pluralFormsCard : Claim7 := { stood := { row := pluralFormsRow, standIns := [], harness := (true, "399d2e0c27d0eb2fb9b6901809d3709a5172c3279336ea9623afe6d976872858"), looks := true }, kinds := [], alts := [], laidByText := true, laidKinds := [.data, .data, .data, .data, .sentinel, .sentinel, .data, .widerDeep, .widerDeep, .pinned], laidTests := true, laidLooks := .later }
def PluralFormsCardSaid : Prop := Claim7.holds Tryz.pinned (.plain (OpenSpec.ofChange pluralFormsSpec)) pluralFormsCard

/-- THE TIED CARD OF 'kalendslaw07.PluralJoins'. -/
def pluralJoinsCard : Claim7 := { stood := { row := pluralJoinsRow, standIns := [], harness := (true, "399d2e0c27d0eb2fb9b6901809d3709a5172c3279336ea9623afe6d976872858"), looks := true }, kinds := [], alts := [], laidByText := true, laidKinds := [.data, .data, .data, .data, .sentinel, .sentinel, .data, .widerDeep, .widerDeep, .pinned], laidTests := true, laidLooks := .later }
def PluralJoinsCardSaid : Prop := Claim7.holds Tryz.pinned (.plain (OpenSpec.ofChange pluralJoinsSpec)) pluralJoinsCard

/-- THE TIED CARD OF 'kalendslaw07.PluralApart'. -/
def pluralApartCard : Claim7 := { stood := { row := pluralApartRow, standIns := [], harness := (true, "399d2e0c27d0eb2fb9b6901809d3709a5172c3279336ea9623afe6d976872858"), looks := true }, kinds := [], alts := [], laidByText := true, laidKinds := [.data, .data, .data, .data, .sentinel, .sentinel, .data, .widerDeep, .widerDeep, .pinned], laidTests := true, laidLooks := .later }
def PluralApartCardSaid : Prop := Claim7.holds Tryz.pinned (.plain (OpenSpec.ofChange pluralApartSpec)) pluralApartCard

/-- THE TIED CARD OF 'kalendslaw07.PluralOrdinals'. -/
def pluralOrdinalsCard : Claim7 := { stood := { row := pluralOrdinalsRow, standIns := [], harness := (true, "399d2e0c27d0eb2fb9b6901809d3709a5172c3279336ea9623afe6d976872858"), looks := true }, kinds := [], alts := [], laidByText := true, laidKinds := [.data, .data, .data, .data, .sentinel, .sentinel, .data, .widerDeep, .widerDeep, .pinned], laidTests := true, laidLooks := .later }
def PluralOrdinalsCardSaid : Prop := Claim7.holds Tryz.pinned (.plain (OpenSpec.ofChange pluralOrdinalsSpec)) pluralOrdinalsCard

/-- THE TIED CARD OF 'kalendslaw07.PluralReads'. -/
def pluralReadsCard : Claim7 := { stood := { row := pluralReadsRow, standIns := [], harness := (true, "399d2e0c27d0eb2fb9b6901809d3709a5172c3279336ea9623afe6d976872858"), looks := true }, kinds := [], alts := [], laidByText := true, laidKinds := [.data, .data, .data, .data, .sentinel, .sentinel, .data, .widerDeep, .widerDeep, .pinned], laidTests := true, laidLooks := .later }
def PluralReadsCardSaid : Prop := Claim7.holds Tryz.pinned (.plain (OpenSpec.ofChange pluralReadsSpec)) pluralReadsCard

/-- THE TIED CARD OF 'kalendslaw08.TableMore'. -/
def tableMoreCard : Claim7 := { stood := { row := tableMoreRow, standIns := [], harness := (true, "399d2e0c27d0eb2fb9b6901809d3709a5172c3279336ea9623afe6d976872858"), looks := true }, kinds := [], alts := [], laidByText := true, laidKinds := [.data, .data, .data, .data, .sentinel, .sentinel, .data, .widerDeep, .widerDeep, .data, .pinned], laidTests := true, laidLooks := .later }
def TableMoreCardSaid : Prop := Claim7.holds Tryz.pinned (.plain (OpenSpec.ofChange tableMoreSpec)) tableMoreCard

/-- THE TIED CARD OF 'kalendslaw08.TableWords'. -/
def tableWordsCard : Claim7 := { stood := { row := tableWordsRow, standIns := [], harness := (true, "399d2e0c27d0eb2fb9b6901809d3709a5172c3279336ea9623afe6d976872858"), looks := true }, kinds := [], alts := [], laidByText := true, laidKinds := [.data, .data, .data, .data, .sentinel, .sentinel, .data, .widerDeep, .widerDeep, .data, .pinned], laidTests := true, laidLooks := .later }
def TableWordsCardSaid : Prop := Claim7.holds Tryz.pinned (.plain (OpenSpec.ofChange tableWordsSpec)) tableWordsCard

/-- THE TIED CARD OF 'kalendslaw09.LocaleNamed'. -/
def localeNamedCard : Claim7 := { stood := { row := localeNamedRow, standIns := [], harness := (true, "399d2e0c27d0eb2fb9b6901809d3709a5172c3279336ea9623afe6d976872858"), looks := true }, kinds := [], alts := [], laidByText := true, laidKinds := [.data, .data, .data, .data, .sentinel, .sentinel, .data, .widerDeep, .widerDeep, .data, .pinned], laidTests := true, laidLooks := .later }
def LocaleNamedCardSaid : Prop := Claim7.holds Tryz.pinned (.plain (OpenSpec.ofChange localeNamedSpec)) localeNamedCard

/-- THE TIED CARD OF 'kalendslaw09.LocaleApart'. -/
def localeApartCard : Claim7 := { stood := { row := localeApartRow, standIns := [], harness := (true, "399d2e0c27d0eb2fb9b6901809d3709a5172c3279336ea9623afe6d976872858"), looks := true }, kinds := [], alts := [], laidByText := true, laidKinds := [.data, .data, .data, .data, .sentinel, .sentinel, .data, .widerDeep, .widerDeep, .data, .pinned], laidTests := true, laidLooks := .later }
def LocaleApartCardSaid : Prop := Claim7.holds Tryz.pinned (.plain (OpenSpec.ofChange localeApartSpec)) localeApartCard

/-- THE TIED CARD OF 'kalendslaw07.PluralHundreds'. -/
def pluralHundredsCard : Claim7 := { stood := { row := pluralHundredsRow, standIns := [], harness := (true, "399d2e0c27d0eb2fb9b6901809d3709a5172c3279336ea9623afe6d976872858"), looks := true }, kinds := [], alts := [], laidByText := true, laidKinds := [.data, .data, .data, .data, .sentinel, .sentinel, .data, .widerDeep, .widerDeep, .pinned], laidTests := true, laidLooks := .later }
def PluralHundredsCardSaid : Prop := Claim7.holds Tryz.pinned (.plain (OpenSpec.ofChange pluralHundredsSpec)) pluralHundredsCard

/-- THE SECOND FORM's CARD OF 'kalendslaw07.PluralForms'. -/
def pluralFormsUptoCard : Claim7 := { stood := { row := pluralFormsUptoRow, standIns := [], harness := (true, "399d2e0c27d0eb2fb9b6901809d3709a5172c3279336ea9623afe6d976872858"), looks := true }, kinds := [], alts := [], laidByText := true, laidKinds := [.data, .data, .data, .data, .sentinel, .sentinel, .data, .widerDeep, .widerDeep, .pinned], laidTests := true, laidLooks := .later }
def PluralFormsUptoCardSaid : Prop := Claim7.holds Tryz.pinned (.plain (OpenSpec.upto pluralFormsSpec)) pluralFormsUptoCard

/-- THE SECOND FORM's CARD OF 'kalendslaw07.PluralJoins'. -/
def pluralJoinsUptoCard : Claim7 := { stood := { row := pluralJoinsUptoRow, standIns := [], harness := (true, "399d2e0c27d0eb2fb9b6901809d3709a5172c3279336ea9623afe6d976872858"), looks := true }, kinds := [], alts := [], laidByText := true, laidKinds := [.data, .data, .data, .data, .sentinel, .sentinel, .data, .widerDeep, .widerDeep, .pinned], laidTests := true, laidLooks := .later }
def PluralJoinsUptoCardSaid : Prop := Claim7.holds Tryz.pinned (.plain (OpenSpec.upto pluralJoinsSpec)) pluralJoinsUptoCard

/-- THE SECOND FORM's CARD OF 'kalendslaw07.PluralApart'. -/
def pluralApartUptoCard : Claim7 := { stood := { row := pluralApartUptoRow, standIns := [], harness := (true, "399d2e0c27d0eb2fb9b6901809d3709a5172c3279336ea9623afe6d976872858"), looks := true }, kinds := [], alts := [], laidByText := true, laidKinds := [.data, .data, .data, .data, .sentinel, .sentinel, .data, .widerDeep, .widerDeep, .pinned], laidTests := true, laidLooks := .later }
def PluralApartUptoCardSaid : Prop := Claim7.holds Tryz.pinned (.plain (OpenSpec.upto pluralApartSpec)) pluralApartUptoCard

/-- THE SECOND FORM's CARD OF 'kalendslaw07.PluralOrdinals'. -/
def pluralOrdinalsUptoCard : Claim7 := { stood := { row := pluralOrdinalsUptoRow, standIns := [], harness := (true, "399d2e0c27d0eb2fb9b6901809d3709a5172c3279336ea9623afe6d976872858"), looks := true }, kinds := [], alts := [], laidByText := true, laidKinds := [.data, .data, .data, .data, .sentinel, .sentinel, .data, .widerDeep, .widerDeep, .pinned], laidTests := true, laidLooks := .later }
def PluralOrdinalsUptoCardSaid : Prop := Claim7.holds Tryz.pinned (.plain (OpenSpec.upto pluralOrdinalsSpec)) pluralOrdinalsUptoCard

/-- THE SECOND FORM's CARD OF 'kalendslaw07.PluralReads'. -/
def pluralReadsUptoCard : Claim7 := { stood := { row := pluralReadsUptoRow, standIns := [], harness := (true, "399d2e0c27d0eb2fb9b6901809d3709a5172c3279336ea9623afe6d976872858"), looks := true }, kinds := [], alts := [], laidByText := true, laidKinds := [.data, .data, .data, .data, .sentinel, .sentinel, .data, .widerDeep, .widerDeep, .pinned], laidTests := true, laidLooks := .later }
def PluralReadsUptoCardSaid : Prop := Claim7.holds Tryz.pinned (.plain (OpenSpec.upto pluralReadsSpec)) pluralReadsUptoCard

/-- THE SECOND FORM's CARD OF 'kalendslaw08.TableMore'. -/
def tableMoreUptoCard : Claim7 := { stood := { row := tableMoreUptoRow, standIns := [], harness := (true, "399d2e0c27d0eb2fb9b6901809d3709a5172c3279336ea9623afe6d976872858"), looks := true }, kinds := [], alts := [], laidByText := true, laidKinds := [.data, .data, .data, .data, .sentinel, .sentinel, .data, .widerDeep, .widerDeep, .data, .pinned], laidTests := true, laidLooks := .later }
def TableMoreUptoCardSaid : Prop := Claim7.holds Tryz.pinned (.plain (OpenSpec.upto tableMoreSpec)) tableMoreUptoCard

/-- THE SECOND FORM's CARD OF 'kalendslaw08.TableWords'. -/
def tableWordsUptoCard : Claim7 := { stood := { row := tableWordsUptoRow, standIns := [], harness := (true, "399d2e0c27d0eb2fb9b6901809d3709a5172c3279336ea9623afe6d976872858"), looks := true }, kinds := [], alts := [], laidByText := true, laidKinds := [.data, .data, .data, .data, .sentinel, .sentinel, .data, .widerDeep, .widerDeep, .data, .pinned], laidTests := true, laidLooks := .later }
def TableWordsUptoCardSaid : Prop := Claim7.holds Tryz.pinned (.plain (OpenSpec.upto tableWordsSpec)) tableWordsUptoCard

/-- THE SECOND FORM's CARD OF 'kalendslaw09.LocaleNamed'. -/
def localeNamedUptoCard : Claim7 := { stood := { row := localeNamedUptoRow, standIns := [], harness := (true, "399d2e0c27d0eb2fb9b6901809d3709a5172c3279336ea9623afe6d976872858"), looks := true }, kinds := [], alts := [], laidByText := true, laidKinds := [.data, .data, .data, .data, .sentinel, .sentinel, .data, .widerDeep, .widerDeep, .data, .pinned], laidTests := true, laidLooks := .later }
def LocaleNamedUptoCardSaid : Prop := Claim7.holds Tryz.pinned (.plain (OpenSpec.upto localeNamedSpec)) localeNamedUptoCard

/-- THE SECOND FORM's CARD OF 'kalendslaw09.LocaleApart'. -/
def localeApartUptoCard : Claim7 := { stood := { row := localeApartUptoRow, standIns := [], harness := (true, "399d2e0c27d0eb2fb9b6901809d3709a5172c3279336ea9623afe6d976872858"), looks := true }, kinds := [], alts := [], laidByText := true, laidKinds := [.data, .data, .data, .data, .sentinel, .sentinel, .data, .widerDeep, .widerDeep, .data, .pinned], laidTests := true, laidLooks := .later }
def LocaleApartUptoCardSaid : Prop := Claim7.holds Tryz.pinned (.plain (OpenSpec.upto localeApartSpec)) localeApartUptoCard

/-- THE SECOND FORM's CARD OF 'kalendslaw07.PluralHundreds'. -/
def pluralHundredsUptoCard : Claim7 := { stood := { row := pluralHundredsUptoRow, standIns := [], harness := (true, "399d2e0c27d0eb2fb9b6901809d3709a5172c3279336ea9623afe6d976872858"), looks := true }, kinds := [], alts := [], laidByText := true, laidKinds := [.data, .data, .data, .data, .sentinel, .sentinel, .data, .widerDeep, .widerDeep, .pinned], laidTests := true, laidLooks := .later }
def PluralHundredsUptoCardSaid : Prop := Claim7.holds Tryz.pinned (.plain (OpenSpec.upto pluralHundredsSpec)) pluralHundredsUptoCard
end Rows
end Go.Proofs.YthcfhmdoelpbdaaGreatDoor
