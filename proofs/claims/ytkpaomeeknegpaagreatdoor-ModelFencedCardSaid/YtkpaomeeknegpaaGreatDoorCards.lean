/-
  DERIVED. GIVEN WITH THE SEED: THE CARDS: each row of YtkpaomeeknegpaaGreatDoorRows.lean that lists a variable, with what it lists TIED to the program's text (the seventh form; the later family's looks); each row that meets fmt, with fmt's text TOLD by the authors' own Lean function (tested against real Go, not proved from fmt's source: count such statements apart). THE CARD IS WHAT COUNTS. Prove the row's statement (the work); the ties are given (YtkpaomeeknegpaaGreatDoorTie.lean); close each card by the builder's one call (the guide's Derived/Test/ToyasCard.lean, 'card_holds'). Laid BY PROGRAM, IN A SANDBOX (cutbox-door.mjs). By AI agents, Wed Nov 11 2026. No macro, syntax, notation, axiom, sorry.
-/
import Derived.Test.YtkpaomeeknegpaaGreatDoorRows
import GoSem.ClaimSeven
namespace Go.Proofs.YtkpaomeeknegpaaGreatDoor
namespace Rows

/-- THE TIED CARD OF 'seisinlaw10.ModelOne'. -/
def modelOneCard : Claim7 := { stood := { row := modelOneRow, standIns := [], harness := (true, "cd39d7283224b547121be537d0b2a6b1b11a776030fe68b7e3be140bbcc425ee"), looks := false }, kinds := [], alts := [], laidByText := true, laidKinds := [.data, .data, .data], laidTests := true, laidLooks := .later }
def ModelOneCardSaid : Prop := Claim7.holds Tryz.pinned (.plain (OpenSpec.ofChange modelOneSpec)) modelOneCard

/-- THE TIED CARD OF 'seisinlaw10.ModelFenced'. -/
def modelFencedCard : Claim7 := { stood := { row := modelFencedRow, standIns := [], harness := (true, "cd39d7283224b547121be537d0b2a6b1b11a776030fe68b7e3be140bbcc425ee"), looks := false }, kinds := [], alts := [], laidByText := true, laidKinds := [.data, .data, .data], laidTests := true, laidLooks := .later }
def ModelFencedCardSaid : Prop := Claim7.holds Tryz.pinned (.plain (OpenSpec.ofChange modelFencedSpec)) modelFencedCard

/-- THE TIED CARD OF 'seisinlaw10.ModelAtomic'. -/
def modelAtomicCard : Claim7 := { stood := { row := modelAtomicRow, standIns := [], harness := (true, "cd39d7283224b547121be537d0b2a6b1b11a776030fe68b7e3be140bbcc425ee"), looks := false }, kinds := [], alts := [], laidByText := true, laidKinds := [.data, .data, .data], laidTests := true, laidLooks := .later }
def ModelAtomicCardSaid : Prop := Claim7.holds Tryz.pinned (.plain (OpenSpec.ofChange modelAtomicSpec)) modelAtomicCard

/-- THE TIED CARD OF 'seisinlaw10.ModelRows'. -/
def modelRowsCard : Claim7 := { stood := { row := modelRowsRow, standIns := [], harness := (true, "cd39d7283224b547121be537d0b2a6b1b11a776030fe68b7e3be140bbcc425ee"), looks := false }, kinds := [], alts := [], laidByText := true, laidKinds := [.data, .data, .data], laidTests := true, laidLooks := .later }
def ModelRowsCardSaid : Prop := Claim7.holds Tryz.pinned (.plain (OpenSpec.ofChange modelRowsSpec)) modelRowsCard

/-- THE SECOND FORM's CARD OF 'seisinlaw10.ModelOne'. -/
def modelOneUptoCard : Claim7 := { stood := { row := modelOneUptoRow, standIns := [], harness := (true, "cd39d7283224b547121be537d0b2a6b1b11a776030fe68b7e3be140bbcc425ee"), looks := false }, kinds := [], alts := [], laidByText := true, laidKinds := [.data, .data, .data], laidTests := true, laidLooks := .later }
def ModelOneUptoCardSaid : Prop := Claim7.holds Tryz.pinned (.plain (OpenSpec.upto modelOneSpec)) modelOneUptoCard

/-- THE SECOND FORM's CARD OF 'seisinlaw10.ModelFenced'. -/
def modelFencedUptoCard : Claim7 := { stood := { row := modelFencedUptoRow, standIns := [], harness := (true, "cd39d7283224b547121be537d0b2a6b1b11a776030fe68b7e3be140bbcc425ee"), looks := false }, kinds := [], alts := [], laidByText := true, laidKinds := [.data, .data, .data], laidTests := true, laidLooks := .later }
def ModelFencedUptoCardSaid : Prop := Claim7.holds Tryz.pinned (.plain (OpenSpec.upto modelFencedSpec)) modelFencedUptoCard

/-- THE SECOND FORM's CARD OF 'seisinlaw10.ModelAtomic'. -/
def modelAtomicUptoCard : Claim7 := { stood := { row := modelAtomicUptoRow, standIns := [], harness := (true, "cd39d7283224b547121be537d0b2a6b1b11a776030fe68b7e3be140bbcc425ee"), looks := false }, kinds := [], alts := [], laidByText := true, laidKinds := [.data, .data, .data], laidTests := true, laidLooks := .later }
def ModelAtomicUptoCardSaid : Prop := Claim7.holds Tryz.pinned (.plain (OpenSpec.upto modelAtomicSpec)) modelAtomicUptoCard

/-- THE SECOND FORM's CARD OF 'seisinlaw10.ModelRows'. -/
def modelRowsUptoCard : Claim7 := { stood := { row := modelRowsUptoRow, standIns := [], harness := (true, "cd39d7283224b547121be537d0b2a6b1b11a776030fe68b7e3be140bbcc425ee"), looks := false }, kinds := [], alts := [], laidByText := true, laidKinds := [.data, .data, .data], laidTests := true, laidLooks := .later }
def ModelRowsUptoCardSaid : Prop := Claim7.holds Tryz.pinned (.plain (OpenSpec.upto modelRowsSpec)) modelRowsUptoCard
end Rows
end Go.Proofs.YtkpaomeeknegpaaGreatDoor
