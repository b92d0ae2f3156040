/-
  DERIVED. GIVEN WITH THE SEED: THE CARDS: each row of YtiofgoppgdgbaaaDoorRows.lean that lists a variable, with what it lists TIED to the program's text (the seventh form; the later family's looks); each row that meets fmt, with fmt's text TOLD by the authors' own Lean function (tested against real Go, not proved from fmt's source: count such statements apart). THE CARD IS WHAT COUNTS. Prove the row's statement (the work); the ties are given (YtiofgoppgdgbaaaDoorTie.lean); close each card by the builder's one call (the guide's Derived/Test/ToyasCard.lean, 'card_holds'). Laid BY PROGRAM, IN A SANDBOX (cutbox-door.mjs). By AI agents, Wed Nov 11 2026. No macro, syntax, notation, axiom, sorry.
-/
import Derived.Test.YtiofgoppgdgbaaaDoorRows
import GoSem.ClaimSeven
namespace Go.Proofs.YtiofgoppgdgbaaaDoor
namespace Rows

/-- THE TIED CARD OF 'laws.FnExactWageTable'. -/
def fnExactWageTableCard : Claim7 := { stood := { row := fnExactWageTableRow, standIns := [], harness := (true, "88d8f0fd19b5fa5a937c6fa849d5f45015f0b15cf50b32a389b767490cf6369a"), looks := false }, kinds := [], alts := [], laidByText := true, laidKinds := [.data, .data, .data], laidTests := true, laidLooks := .later }
def FnExactWageTableCardSaid : Prop := Claim7.holds Tryd.pinned (.plain (OpenSpec.ofChange fnExactWageTableSpec)) fnExactWageTableCard

/-- THE TIED CARD OF 'laws.FnWages'. -/
def fnWagesCard : Claim7 := { stood := { row := fnWagesRow, standIns := [], harness := (true, "88d8f0fd19b5fa5a937c6fa849d5f45015f0b15cf50b32a389b767490cf6369a"), looks := false }, kinds := [], alts := [], laidByText := true, laidKinds := [.data, .data, .data], laidTests := true, laidLooks := .later }
def FnWagesCardSaid : Prop := Claim7.holds Tryd.pinned (.plain (OpenSpec.ofChange fnWagesSpec)) fnWagesCard

/-- THE SECOND FORM's CARD OF 'laws.FnExactWageTable'. -/
def fnExactWageTableUptoCard : Claim7 := { stood := { row := fnExactWageTableUptoRow, standIns := [], harness := (true, "88d8f0fd19b5fa5a937c6fa849d5f45015f0b15cf50b32a389b767490cf6369a"), looks := false }, kinds := [], alts := [], laidByText := true, laidKinds := [.data, .data, .data], laidTests := true, laidLooks := .later }
def FnExactWageTableUptoCardSaid : Prop := Claim7.holds Tryd.pinned (.plain (OpenSpec.upto fnExactWageTableSpec)) fnExactWageTableUptoCard

/-- THE SECOND FORM's CARD OF 'laws.FnWages'. -/
def fnWagesUptoCard : Claim7 := { stood := { row := fnWagesUptoRow, standIns := [], harness := (true, "88d8f0fd19b5fa5a937c6fa849d5f45015f0b15cf50b32a389b767490cf6369a"), looks := false }, kinds := [], alts := [], laidByText := true, laidKinds := [.data, .data, .data], laidTests := true, laidLooks := .later }
def FnWagesUptoCardSaid : Prop := Claim7.holds Tryd.pinned (.plain (OpenSpec.upto fnWagesSpec)) fnWagesUptoCard
end Rows
end Go.Proofs.YtiofgoppgdgbaaaDoor
