/-
  DERIVED. GIVEN WITH THE SEED: THE CARDS: each row of YtebkccfnilcfpaaGreatDoorRows.lean that lists a variable, with what it lists TIED to the program's text (the seventh form; the later family's looks); each row that meets fmt, with fmt's text TOLD by the authors' own Lean function (tested against real Go, not proved from fmt's source: count such statements apart). THE CARD IS WHAT COUNTS. Prove the row's statement (the work); the ties are given (YtebkccfnilcfpaaGreatDoorTie.lean); close each card by the builder's one call (the guide's Derived/Test/ToyasCard.lean, 'card_holds'). Laid BY PROGRAM, IN A SANDBOX (cutbox-door.mjs). By AI agents, Wed Nov 11 2026. No macro, syntax, notation, axiom, sorry.
-/
import Derived.Test.YtebkccfnilcfpaaGreatDoorRows
import GoSem.ClaimSeven
namespace Go.Proofs.YtebkccfnilcfpaaGreatDoor
namespace Rows

/-- THE TIED CARD OF 'kalendslaw07.PluralJoins'. -/
def pluralJoinsCard : Claim7 := { stood := { row := pluralJoinsRow, standIns := [], harness := (true, "bad78df86ad63d8551c03611889e2c9a04763305cec6b9ea4c23fc534c14e169"), looks := true }, kinds := [], alts := [], laidByText := true, laidKinds := [.data, .data, .data, .data, .sentinel, .sentinel, .data, .widerDeep, .widerDeep, .pinned], laidTests := true, laidLooks := .later }
def PluralJoinsCardSaid : Prop := Claim7.holds Tryz.pinned (.plain (OpenSpec.ofChange pluralJoinsSpec)) pluralJoinsCard

/-- THE TIED CARD OF 'kalendslaw08.TableMore'. -/
def tableMoreCard : Claim7 := { stood := { row := tableMoreRow, standIns := [], harness := (true, "bad78df86ad63d8551c03611889e2c9a04763305cec6b9ea4c23fc534c14e169"), looks := true }, kinds := [], alts := [], laidByText := true, laidKinds := [.data, .data, .data, .data, .sentinel, .sentinel, .data, .widerDeep, .widerDeep, .data, .pinned], laidTests := true, laidLooks := .later }
def TableMoreCardSaid : Prop := Claim7.holds Tryz.pinned (.plain (OpenSpec.ofChange tableMoreSpec)) tableMoreCard

/-- THE TIED CARD OF 'kalendslaw08.TableWords'. -/
def tableWordsCard : Claim7 := { stood := { row := tableWordsRow, standIns := [], harness := (true, "bad78df86ad63d8551c03611889e2c9a04763305cec6b9ea4c23fc534c14e169"), looks := true }, kinds := [], alts := [], laidByText := true, laidKinds := [.data, .data, .data, .data, .sentinel, .sentinel, .data, .widerDeep, .widerDeep, .data, .pinned], laidTests := true, laidLooks := .later }
def TableWordsCardSaid : Prop := Claim7.holds Tryz.pinned (.plain (OpenSpec.ofChange tableWordsSpec)) tableWordsCard

/-- THE TIED CARD OF 'kalendslaw07.PluralHundreds'. -/
def pluralHundredsCard : Claim7 := { stood := { row := pluralHundredsRow, standIns := [], harness := (true, "bad78df86ad63d8551c03611889e2c9a04763305cec6b9ea4c23fc534c14e169"), looks := true }, kinds := [], alts := [], laidByText := true, laidKinds := [.data, .data, .data, .data, .sentinel, .sentinel, .data, .widerDeep, .widerDeep, .pinned], laidTests := true, laidLooks := .later }
def PluralHundredsCardSaid : Prop := Claim7.holds Tryz.pinned (.plain (OpenSpec.ofChange pluralHundredsSpec)) pluralHundredsCard

/-- THE TIED CARD OF 'kalendslaw10.FoldBad'. -/
def foldBadCard : Claim7 := { stood := { row := foldBadRow, standIns := [], harness := (true, "bad78df86ad63d8551c03611889e2c9a04763305cec6b9ea4c23fc534c14e169"), looks := true }, kinds := [], alts := [], laidByText := true, laidKinds := [.data, .data, .data, .data, .sentinel, .sentinel, .data, .widerDeep, .widerDeep, .data, .pinned], laidTests := true, laidLooks := .later }
def FoldBadCardSaid : Prop := Claim7.holds Tryz.pinned (.plain (OpenSpec.ofChange foldBadSpec)) foldBadCard

/-- THE TIED CARD OF 'kalendslaw10.FoldSmall'. -/
def foldSmallCard : Claim7 := { stood := { row := foldSmallRow, standIns := [], harness := (true, "bad78df86ad63d8551c03611889e2c9a04763305cec6b9ea4c23fc534c14e169"), looks := true }, kinds := [], alts := [], laidByText := true, laidKinds := [.data, .data, .data, .data, .sentinel, .sentinel, .data, .widerDeep, .widerDeep, .data, .pinned], laidTests := true, laidLooks := .later }
def FoldSmallCardSaid : Prop := Claim7.holds Tryz.pinned (.plain (OpenSpec.ofChange foldSmallSpec)) foldSmallCard

/-- THE TIED CARD OF 'kalendslaw10.FoldLetters'. -/
def foldLettersCard : Claim7 := { stood := { row := foldLettersRow, standIns := [], harness := (true, "bad78df86ad63d8551c03611889e2c9a04763305cec6b9ea4c23fc534c14e169"), looks := true }, kinds := [], alts := [], laidByText := true, laidKinds := [.data, .data, .data, .data, .sentinel, .sentinel, .data, .widerDeep, .widerDeep, .data, .pinned], laidTests := true, laidLooks := .later }
def FoldLettersCardSaid : Prop := Claim7.holds Tryz.pinned (.plain (OpenSpec.ofChange foldLettersSpec)) foldLettersCard

/-- THE TIED CARD OF 'kalendslaw10.FoldJoins'. -/
def foldJoinsCard : Claim7 := { stood := { row := foldJoinsRow, standIns := [], harness := (true, "bad78df86ad63d8551c03611889e2c9a04763305cec6b9ea4c23fc534c14e169"), looks := true }, kinds := [], alts := [], laidByText := true, laidKinds := [.data, .data, .data, .data, .sentinel, .sentinel, .data, .widerDeep, .widerDeep, .data, .pinned], laidTests := true, laidLooks := .later }
def FoldJoinsCardSaid : Prop := Claim7.holds Tryz.pinned (.plain (OpenSpec.ofChange foldJoinsSpec)) foldJoinsCard

/-- THE SECOND FORM's CARD OF 'kalendslaw07.PluralJoins'. -/
def pluralJoinsUptoCard : Claim7 := { stood := { row := pluralJoinsUptoRow, standIns := [], harness := (true, "bad78df86ad63d8551c03611889e2c9a04763305cec6b9ea4c23fc534c14e169"), looks := true }, kinds := [], alts := [], laidByText := true, laidKinds := [.data, .data, .data, .data, .sentinel, .sentinel, .data, .widerDeep, .widerDeep, .pinned], laidTests := true, laidLooks := .later }
def PluralJoinsUptoCardSaid : Prop := Claim7.holds Tryz.pinned (.plain (OpenSpec.upto pluralJoinsSpec)) pluralJoinsUptoCard

/-- THE SECOND FORM's CARD OF 'kalendslaw08.TableMore'. -/
def tableMoreUptoCard : Claim7 := { stood := { row := tableMoreUptoRow, standIns := [], harness := (true, "bad78df86ad63d8551c03611889e2c9a04763305cec6b9ea4c23fc534c14e169"), looks := true }, kinds := [], alts := [], laidByText := true, laidKinds := [.data, .data, .data, .data, .sentinel, .sentinel, .data, .widerDeep, .widerDeep, .data, .pinned], laidTests := true, laidLooks := .later }
def TableMoreUptoCardSaid : Prop := Claim7.holds Tryz.pinned (.plain (OpenSpec.upto tableMoreSpec)) tableMoreUptoCard

/-- THE SECOND FORM's CARD OF 'kalendslaw08.TableWords'. -/
def tableWordsUptoCard : Claim7 := { stood := { row := tableWordsUptoRow, standIns := [], harness := (true, "bad78df86ad63d8551c03611889e2c9a04763305cec6b9ea4c23fc534c14e169"), looks := true }, kinds := [], alts := [], laidByText := true, laidKinds := [.data, .data, .data, .data, .sentinel, .sentinel, .data, .widerDeep, .widerDeep, .data, .pinned], laidTests := true, laidLooks := .later }
def TableWordsUptoCardSaid : Prop := Claim7.holds Tryz.pinned (.plain (OpenSpec.upto tableWordsSpec)) tableWordsUptoCard

/-- THE SECOND FORM's CARD OF 'kalendslaw07.PluralHundreds'. -/
def pluralHundredsUptoCard : Claim7 := { stood := { row := pluralHundredsUptoRow, standIns := [], harness := (true, "bad78df86ad63d8551c03611889e2c9a04763305cec6b9ea4c23fc534c14e169"), looks := true }, kinds := [], alts := [], laidByText := true, laidKinds := [.data, .data, .data, .data, .sentinel, .sentinel, .data, .widerDeep, .widerDeep, .pinned], laidTests := true, laidLooks := .later }
def PluralHundredsUptoCardSaid : Prop := Claim7.holds Tryz.pinned (.plain (OpenSpec.upto pluralHundredsSpec)) pluralHundredsUptoCard

/-- THE SECOND FORM's CARD OF 'kalendslaw10.FoldBad'. -/
def foldBadUptoCard : Claim7 := { stood := { row := foldBadUptoRow, standIns := [], harness := (true, "bad78df86ad63d8551c03611889e2c9a04763305cec6b9ea4c23fc534c14e169"), looks := true }, kinds := [], alts := [], laidByText := true, laidKinds := [.data, .data, .data, .data, .sentinel, .sentinel, .data, .widerDeep, .widerDeep, .data, .pinned], laidTests := true, laidLooks := .later }
def FoldBadUptoCardSaid : Prop := Claim7.holds Tryz.pinned (.plain (OpenSpec.upto foldBadSpec)) foldBadUptoCard

/-- THE SECOND FORM's CARD OF 'kalendslaw10.FoldSmall'. -/
def foldSmallUptoCard : Claim7 := { stood := { row := foldSmallUptoRow, standIns := [], harness := (true, "bad78df86ad63d8551c03611889e2c9a04763305cec6b9ea4c23fc534c14e169"), looks := true }, kinds := [], alts := [], laidByText := true, laidKinds := [.data, .data, .data, .data, .sentinel, .sentinel, .data, .widerDeep, .widerDeep, .data, .pinned], laidTests := true, laidLooks := .later }
def FoldSmallUptoCardSaid : Prop := Claim7.holds Tryz.pinned (.plain (OpenSpec.upto foldSmallSpec)) foldSmallUptoCard

/-- THE SECOND FORM's CARD OF 'kalendslaw10.FoldLetters'. -/
def foldLettersUptoCard : Claim7 := { stood := { row := foldLettersUptoRow, standIns := [], harness := (true, "bad78df86ad63d8551c03611889e2c9a04763305cec6b9ea4c23fc534c14e169"), looks := true }, kinds := [], alts := [], laidByText := true, laidKinds := [.data, .data, .data, .data, .sentinel, .sentinel, .data, .widerDeep, .widerDeep, .data, .pinned], laidTests := true, laidLooks := .later }
def FoldLettersUptoCardSaid : Prop := Claim7.holds Tryz.pinned (.plain (OpenSpec.upto foldLettersSpec)) foldLettersUptoCard

/-- THE SECOND FORM's CARD OF 'kalendslaw10.FoldJoins'. -/
def foldJoinsUptoCard : Claim7 := { stood := { row := foldJoinsUptoRow, standIns := [], harness := (true, "bad78df86ad63d8551c03611889e2c9a04763305cec6b9ea4c23fc534c14e169"), looks := true }, kinds := [], alts := [], laidByText := true, laidKinds := [.data, .data, .data, .data, .sentinel, .sentinel, .data, .widerDeep, .widerDeep, .data, .pinned], laidTests := true, laidLooks := .later }
def FoldJoinsUptoCardSaid : Prop := Claim7.holds Tryz.pinned (.plain (OpenSpec.upto foldJoinsSpec)) foldJoinsUptoCard
end Rows
end Go.Proofs.YtebkccfnilcfpaaGreatDoor
