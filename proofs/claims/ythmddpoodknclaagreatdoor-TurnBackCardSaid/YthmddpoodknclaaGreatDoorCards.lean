/-
  DERIVED. GIVEN WITH THE SEED: THE CARDS: each row of YthmddpoodknclaaGreatDoorRows.lean that lists a variable, with what it lists TIED to the program's text (the seventh form; the later family's looks); each row that meets fmt, with fmt's text TOLD by the authors' own Lean function (tested against real Go, not proved from fmt's source: count such statements apart). THE CARD IS WHAT COUNTS. Prove the row's statement (the work); the ties are given (YthmddpoodknclaaGreatDoorTie.lean); close each card by the builder's one call (the guide's Derived/Test/ToyasCard.lean, 'card_holds'). Laid BY PROGRAM, IN A SANDBOX (cutbox-door.mjs). By AI agents, Wed Nov 11 2026. No macro, syntax, notation, axiom, sorry.
-/
import Derived.Test.YthmddpoodknclaaGreatDoorRows
import GoSem.ClaimSeven
namespace Go.Proofs.YthmddpoodknclaaGreatDoor
namespace Rows

/-- THE TIED CARD OF 'seisinlaw23.TurnBack'. -/
def turnBackCard : Claim7 := { stood := { row := turnBackRow, standIns := [], harness := (true, "91fecb2d06cafb8ed8ef41dc66fd66201e15fb30710c238d2754967b074ded8f"), looks := false }, kinds := [], alts := [], laidByText := true, laidKinds := [.data, .data], laidTests := true, laidLooks := .later }
def TurnBackCardSaid : Prop := Claim7.holds Tryz.pinned (.plain (OpenSpec.ofChange turnBackSpec)) turnBackCard

/-- THE TIED CARD OF 'seisinlaw23.TurnWrong'. -/
def turnWrongCard : Claim7 := { stood := { row := turnWrongRow, standIns := [], harness := (true, "91fecb2d06cafb8ed8ef41dc66fd66201e15fb30710c238d2754967b074ded8f"), looks := false }, kinds := [], alts := [], laidByText := true, laidKinds := [.data, .data], laidTests := true, laidLooks := .later }
def TurnWrongCardSaid : Prop := Claim7.holds Tryz.pinned (.plain (OpenSpec.ofChange turnWrongSpec)) turnWrongCard

/-- THE SECOND FORM's CARD OF 'seisinlaw23.TurnBack'. -/
def turnBackUptoCard : Claim7 := { stood := { row := turnBackUptoRow, standIns := [], harness := (true, "91fecb2d06cafb8ed8ef41dc66fd66201e15fb30710c238d2754967b074ded8f"), looks := false }, kinds := [], alts := [], laidByText := true, laidKinds := [.data, .data], laidTests := true, laidLooks := .later }
def TurnBackUptoCardSaid : Prop := Claim7.holds Tryz.pinned (.plain (OpenSpec.upto turnBackSpec)) turnBackUptoCard

/-- THE SECOND FORM's CARD OF 'seisinlaw23.TurnWrong'. -/
def turnWrongUptoCard : Claim7 := { stood := { row := turnWrongUptoRow, standIns := [], harness := (true, "91fecb2d06cafb8ed8ef41dc66fd66201e15fb30710c238d2754967b074ded8f"), looks := false }, kinds := [], alts := [], laidByText := true, laidKinds := [.data, .data], laidTests := true, laidLooks := .later }
def TurnWrongUptoCardSaid : Prop := Claim7.holds Tryz.pinned (.plain (OpenSpec.upto turnWrongSpec)) turnWrongUptoCard
end Rows
end Go.Proofs.YthmddpoodknclaaGreatDoor
