/-
  DERIVED. GIVEN WITH THE SEED: THE CARDS: each row of YtbmdlcagaikdaaaDoorRows.lean that lists a variable, with what it lists TIED to the program's text (the seventh form; the later family's looks); each row that meets fmt, with fmt's text TOLD by the authors' own Lean function (tested against real Go, not proved from fmt's source: count such statements apart). THE CARD IS WHAT COUNTS. Prove the row's statement (the work); the ties are given (YtbmdlcagaikdaaaDoorTie.lean); close each card by the builder's one call (the guide's Derived/Test/ToyasCard.lean, 'card_holds'). Laid BY PROGRAM, IN A SANDBOX (cutbox-door.mjs). By AI agents, Wed Nov 11 2026. No macro, syntax, notation, axiom, sorry.
-/
import Derived.Test.YtbmdlcagaikdaaaDoorRows
import GoSem.ClaimSeven
namespace Go.Proofs.YtbmdlcagaikdaaaDoor
namespace Rows

/-- THE TIED CARD OF 'kalendslaw02.RuleRaw'. -/
def ruleRawCard : Claim7 := { stood := { row := ruleRawRow, standIns := [], harness := (true, "59ef7583dc84dfbf70f95919072ff7524b5c3364d82f5c3be9a3aec354044b71"), looks := false }, kinds := [], alts := [], laidByText := true, laidKinds := [.data, .data, .data, .data], laidTests := true, laidLooks := .later }
def RuleRawCardSaid : Prop := Claim7.holds Tryd.pinned (.plain (OpenSpec.ofChange ruleRawSpec)) ruleRawCard

/-- THE TIED CARD OF 'kalendslaw02.RuleLong'. -/
def ruleLongCard : Claim7 := { stood := { row := ruleLongRow, standIns := [], harness := (true, "59ef7583dc84dfbf70f95919072ff7524b5c3364d82f5c3be9a3aec354044b71"), looks := false }, kinds := [], alts := [], laidByText := true, laidKinds := [.data, .data, .data, .data], laidTests := true, laidLooks := .later }
def RuleLongCardSaid : Prop := Claim7.holds Tryd.pinned (.plain (OpenSpec.ofChange ruleLongSpec)) ruleLongCard

/-- THE TIED CARD OF 'kalendslaw02.RuleMay'. -/
def ruleMayCard : Claim7 := { stood := { row := ruleMayRow, standIns := [], harness := (true, "59ef7583dc84dfbf70f95919072ff7524b5c3364d82f5c3be9a3aec354044b71"), looks := false }, kinds := [], alts := [], laidByText := true, laidKinds := [.data, .data, .data, .data], laidTests := true, laidLooks := .later }
def RuleMayCardSaid : Prop := Claim7.holds Tryd.pinned (.plain (OpenSpec.ofChange ruleMaySpec)) ruleMayCard

/-- THE TIED CARD OF 'kalendslaw02.RuleFewer'. -/
def ruleFewerCard : Claim7 := { stood := { row := ruleFewerRow, standIns := [], harness := (true, "59ef7583dc84dfbf70f95919072ff7524b5c3364d82f5c3be9a3aec354044b71"), looks := false }, kinds := [], alts := [], laidByText := true, laidKinds := [.data, .data, .data, .data], laidTests := true, laidLooks := .later }
def RuleFewerCardSaid : Prop := Claim7.holds Tryd.pinned (.plain (OpenSpec.ofChange ruleFewerSpec)) ruleFewerCard

/-- THE TIED CARD OF 'kalendslaw02.RuleEnds'. -/
def ruleEndsCard : Claim7 := { stood := { row := ruleEndsRow, standIns := [], harness := (true, "59ef7583dc84dfbf70f95919072ff7524b5c3364d82f5c3be9a3aec354044b71"), looks := false }, kinds := [], alts := [], laidByText := true, laidKinds := [.data, .data, .data, .data], laidTests := true, laidLooks := .later }
def RuleEndsCardSaid : Prop := Claim7.holds Tryd.pinned (.plain (OpenSpec.ofChange ruleEndsSpec)) ruleEndsCard

/-- THE SECOND FORM's CARD OF 'kalendslaw02.RuleRaw'. -/
def ruleRawUptoCard : Claim7 := { stood := { row := ruleRawUptoRow, standIns := [], harness := (true, "59ef7583dc84dfbf70f95919072ff7524b5c3364d82f5c3be9a3aec354044b71"), looks := false }, kinds := [], alts := [], laidByText := true, laidKinds := [.data, .data, .data, .data], laidTests := true, laidLooks := .later }
def RuleRawUptoCardSaid : Prop := Claim7.holds Tryd.pinned (.plain (OpenSpec.upto ruleRawSpec)) ruleRawUptoCard

/-- THE SECOND FORM's CARD OF 'kalendslaw02.RuleLong'. -/
def ruleLongUptoCard : Claim7 := { stood := { row := ruleLongUptoRow, standIns := [], harness := (true, "59ef7583dc84dfbf70f95919072ff7524b5c3364d82f5c3be9a3aec354044b71"), looks := false }, kinds := [], alts := [], laidByText := true, laidKinds := [.data, .data, .data, .data], laidTests := true, laidLooks := .later }
def RuleLongUptoCardSaid : Prop := Claim7.holds Tryd.pinned (.plain (OpenSpec.upto ruleLongSpec)) ruleLongUptoCard

/-- THE SECOND FORM's CARD OF 'kalendslaw02.RuleMay'. -/
def ruleMayUptoCard : Claim7 := { stood := { row := ruleMayUptoRow, standIns := [], harness := (true, "59ef7583dc84dfbf70f95919072ff7524b5c3364d82f5c3be9a3aec354044b71"), looks := false }, kinds := [], alts := [], laidByText := true, laidKinds := [.data, .data, .data, .data], laidTests := true, laidLooks := .later }
def RuleMayUptoCardSaid : Prop := Claim7.holds Tryd.pinned (.plain (OpenSpec.upto ruleMaySpec)) ruleMayUptoCard

/-- THE SECOND FORM's CARD OF 'kalendslaw02.RuleFewer'. -/
def ruleFewerUptoCard : Claim7 := { stood := { row := ruleFewerUptoRow, standIns := [], harness := (true, "59ef7583dc84dfbf70f95919072ff7524b5c3364d82f5c3be9a3aec354044b71"), looks := false }, kinds := [], alts := [], laidByText := true, laidKinds := [.data, .data, .data, .data], laidTests := true, laidLooks := .later }
def RuleFewerUptoCardSaid : Prop := Claim7.holds Tryd.pinned (.plain (OpenSpec.upto ruleFewerSpec)) ruleFewerUptoCard

/-- THE SECOND FORM's CARD OF 'kalendslaw02.RuleEnds'. -/
def ruleEndsUptoCard : Claim7 := { stood := { row := ruleEndsUptoRow, standIns := [], harness := (true, "59ef7583dc84dfbf70f95919072ff7524b5c3364d82f5c3be9a3aec354044b71"), looks := false }, kinds := [], alts := [], laidByText := true, laidKinds := [.data, .data, .data, .data], laidTests := true, laidLooks := .later }
def RuleEndsUptoCardSaid : Prop := Claim7.holds Tryd.pinned (.plain (OpenSpec.upto ruleEndsSpec)) ruleEndsUptoCard
end Rows
end Go.Proofs.YtbmdlcagaikdaaaDoor
