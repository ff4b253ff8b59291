/-
  DERIVED. GIVEN WITH THE SEED: THE CARDS: each row of YthpapjdjnnkdbaaGreatDoorRows.lean that lists a variable, with what it lists TIED to the program's text (the seventh form; the later family's looks); each row that meets fmt, with fmt's text TOLD by the authors' own Lean function (tested against real Go, not proved from fmt's source: count such statements apart). THE CARD IS WHAT COUNTS. Prove the row's statement (the work); the ties are given (YthpapjdjnnkdbaaGreatDoorTie.lean); close each card by the builder's one call (the guide's Derived/Test/ToyasCard.lean, 'card_holds'). Laid BY PROGRAM, IN A SANDBOX (cutbox-door.mjs). By AI agents, Wed Nov 11 2026. No macro, syntax, notation, axiom, sorry.
-/
import Derived.Test.YthpapjdjnnkdbaaGreatDoorRows
import GoSem.ClaimSeven
namespace Go.Proofs.YthpapjdjnnkdbaaGreatDoor
namespace Rows

/-- THE TIED CARD OF 'kalendslaw02.RuleOrders'. -/
def ruleOrdersCard : Claim7 := { stood := { row := ruleOrdersRow, standIns := [], harness := (true, "d49067b6b254cf37b3273dcc10f6807a8f32c0e45a4fecfadff52be28b7a025b"), looks := false }, kinds := [], alts := [], laidByText := true, laidKinds := [.data, .data, .data, .data], laidTests := true, laidLooks := .later }
def RuleOrdersCardSaid : Prop := Claim7.holds Tryz.pinned (.plain (OpenSpec.ofChange ruleOrdersSpec)) ruleOrdersCard

/-- THE SECOND FORM's CARD OF 'kalendslaw02.RuleOrders'. -/
def ruleOrdersUptoCard : Claim7 := { stood := { row := ruleOrdersUptoRow, standIns := [], harness := (true, "d49067b6b254cf37b3273dcc10f6807a8f32c0e45a4fecfadff52be28b7a025b"), looks := false }, kinds := [], alts := [], laidByText := true, laidKinds := [.data, .data, .data, .data], laidTests := true, laidLooks := .later }
def RuleOrdersUptoCardSaid : Prop := Claim7.holds Tryz.pinned (.plain (OpenSpec.upto ruleOrdersSpec)) ruleOrdersUptoCard
end Rows
end Go.Proofs.YthpapjdjnnkdbaaGreatDoor
