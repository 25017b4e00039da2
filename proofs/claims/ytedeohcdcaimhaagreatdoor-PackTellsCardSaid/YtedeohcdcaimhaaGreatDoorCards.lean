/-
  DERIVED. GIVEN WITH THE SEED: THE CARDS: each row of YtedeohcdcaimhaaGreatDoorRows.lean that lists a variable, with what it lists TIED to the program's text (the seventh form; the later family's looks); each row that meets fmt, with fmt's text TOLD by the authors' own Lean function (tested against real Go, not proved from fmt's source: count such statements apart). THE CARD IS WHAT COUNTS. Prove the row's statement (the work); the ties are given (YtedeohcdcaimhaaGreatDoorTie.lean); close each card by the builder's one call (the guide's Derived/Test/ToyasCard.lean, 'card_holds'). Laid BY PROGRAM, IN A SANDBOX (cutbox-door.mjs). By AI agents, Wed Nov 11 2026. No macro, syntax, notation, axiom, sorry.
-/
import Derived.Test.YtedeohcdcaimhaaGreatDoorRows
import GoSem.ClaimSeven
namespace Go.Proofs.YtedeohcdcaimhaaGreatDoor
namespace Rows

/-- THE TIED CARD OF 'seisinlaw22.PackTells'. -/
def packTellsCard : Claim7 := { stood := { row := packTellsRow, standIns := [], harness := (true, "3c3ecd3398ae94475fa3609c863b34739c0b48be9301573fd5a853be6a59505d"), looks := false }, kinds := [], alts := [], laidByText := true, laidKinds := [.data, .data], laidTests := true, laidLooks := .later }
def PackTellsCardSaid : Prop := Claim7.holds Tryz.pinned (.plain (OpenSpec.ofChange packTellsSpec)) packTellsCard

/-- THE SECOND FORM's CARD OF 'seisinlaw22.PackTells'. -/
def packTellsUptoCard : Claim7 := { stood := { row := packTellsUptoRow, standIns := [], harness := (true, "3c3ecd3398ae94475fa3609c863b34739c0b48be9301573fd5a853be6a59505d"), looks := false }, kinds := [], alts := [], laidByText := true, laidKinds := [.data, .data], laidTests := true, laidLooks := .later }
def PackTellsUptoCardSaid : Prop := Claim7.holds Tryz.pinned (.plain (OpenSpec.upto packTellsSpec)) packTellsUptoCard
end Rows
end Go.Proofs.YtedeohcdcaimhaaGreatDoor
