/-
  DERIVED. GIVEN WITH THE SEED: THE CARDS: each row of YthgmcegmgjoafaaGreatDoorRows.lean that lists a variable, with what it lists TIED to the program's text (the seventh form; the later family's looks); each row that meets fmt, with fmt's text TOLD by the authors' own Lean function (tested against real Go, not proved from fmt's source: count such statements apart). THE CARD IS WHAT COUNTS. Prove the row's statement (the work); the ties are given (YthgmcegmgjoafaaGreatDoorTie.lean); close each card by the builder's one call (the guide's Derived/Test/ToyasCard.lean, 'card_holds'). Laid BY PROGRAM, IN A SANDBOX (cutbox-door.mjs). By AI agents, Wed Nov 11 2026. No macro, syntax, notation, axiom, sorry.
-/
import Derived.Test.YthgmcegmgjoafaaGreatDoorRows
import GoSem.ClaimSeven
namespace Go.Proofs.YthgmcegmgjoafaaGreatDoor
namespace Rows

/-- THE TIED CARD OF 'seisinlaw23.TurnNet'. -/
def turnNetCard : Claim7 := { stood := { row := turnNetRow, standIns := [], harness := (true, "98ba07b027c5dfc52c738a34846845b36404bf53cc2d06bc569c4a9fb11049c7"), looks := false }, kinds := [], alts := [], laidByText := true, laidKinds := [.data, .data, .data, .data], laidTests := true, laidLooks := .later }
def TurnNetCardSaid : Prop := Claim7.holds Tryz.pinned (.plain (OpenSpec.ofChange turnNetSpec)) turnNetCard

/-- THE TIED CARD OF 'seisinlaw23.TurnLeast'. -/
def turnLeastCard : Claim7 := { stood := { row := turnLeastRow, standIns := [], harness := (true, "98ba07b027c5dfc52c738a34846845b36404bf53cc2d06bc569c4a9fb11049c7"), looks := false }, kinds := [], alts := [], laidByText := true, laidKinds := [.data, .data, .data], laidTests := true, laidLooks := .later }
def TurnLeastCardSaid : Prop := Claim7.holds Tryz.pinned (.plain (OpenSpec.ofChange turnLeastSpec)) turnLeastCard

/-- THE TIED CARD OF 'seisinlaw23.TurnTells'. -/
def turnTellsCard : Claim7 := { stood := { row := turnTellsRow, standIns := [], harness := (true, "98ba07b027c5dfc52c738a34846845b36404bf53cc2d06bc569c4a9fb11049c7"), looks := false }, kinds := [], alts := [], laidByText := true, laidKinds := [.data, .data, .data], laidTests := true, laidLooks := .later }
def TurnTellsCardSaid : Prop := Claim7.holds Tryz.pinned (.plain (OpenSpec.ofChange turnTellsSpec)) turnTellsCard

/-- THE SECOND FORM's CARD OF 'seisinlaw23.TurnNet'. -/
def turnNetUptoCard : Claim7 := { stood := { row := turnNetUptoRow, standIns := [], harness := (true, "98ba07b027c5dfc52c738a34846845b36404bf53cc2d06bc569c4a9fb11049c7"), looks := false }, kinds := [], alts := [], laidByText := true, laidKinds := [.data, .data, .data, .data], laidTests := true, laidLooks := .later }
def TurnNetUptoCardSaid : Prop := Claim7.holds Tryz.pinned (.plain (OpenSpec.upto turnNetSpec)) turnNetUptoCard

/-- THE SECOND FORM's CARD OF 'seisinlaw23.TurnLeast'. -/
def turnLeastUptoCard : Claim7 := { stood := { row := turnLeastUptoRow, standIns := [], harness := (true, "98ba07b027c5dfc52c738a34846845b36404bf53cc2d06bc569c4a9fb11049c7"), looks := false }, kinds := [], alts := [], laidByText := true, laidKinds := [.data, .data, .data], laidTests := true, laidLooks := .later }
def TurnLeastUptoCardSaid : Prop := Claim7.holds Tryz.pinned (.plain (OpenSpec.upto turnLeastSpec)) turnLeastUptoCard

/-- THE SECOND FORM's CARD OF 'seisinlaw23.TurnTells'. -/
def turnTellsUptoCard : Claim7 := { stood := { row := turnTellsUptoRow, standIns := [], harness := (true, "98ba07b027c5dfc52c738a34846845b36404bf53cc2d06bc569c4a9fb11049c7"), looks := false }, kinds := [], alts := [], laidByText := true, laidKinds := [.data, .data, .data], laidTests := true, laidLooks := .later }
def TurnTellsUptoCardSaid : Prop := Claim7.holds Tryz.pinned (.plain (OpenSpec.upto turnTellsSpec)) turnTellsUptoCard
end Rows
end Go.Proofs.YthgmcegmgjoafaaGreatDoor
