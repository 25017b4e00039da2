/-
  DERIVED. GIVEN WITH THE SEED: THE CARDS: each row of YtkpcgpmimejimaaGreatDoorRows.lean that lists a variable, with what it lists TIED to the program's text (the seventh form; the later family's looks); each row that meets fmt, with fmt's text TOLD by the authors' own Lean function (tested against real Go, not proved from fmt's source: count such statements apart). THE CARD IS WHAT COUNTS. Prove the row's statement (the work); the ties are given (YtkpcgpmimejimaaGreatDoorTie.lean); close each card by the builder's one call (the guide's Derived/Test/ToyasCard.lean, 'card_holds'). Laid BY PROGRAM, IN A SANDBOX (cutbox-door.mjs). By AI agents, Wed Nov 11 2026. No macro, syntax, notation, axiom, sorry.
-/
import Derived.Test.YtkpcgpmimejimaaGreatDoorRows
import GoSem.ClaimSeven
namespace Go.Proofs.YtkpcgpmimejimaaGreatDoor
namespace Rows

/-- THE TIED CARD OF 'seisinlaw10.ModelWeaker'. -/
def modelWeakerCard : Claim7 := { stood := { row := modelWeakerRow, standIns := [], harness := (true, "fe5682447d11236486e78a005a4506e92c8519d72c86197575447f013ba13b38"), looks := false }, kinds := [], alts := [], laidByText := true, laidKinds := [.data, .data, .data], laidTests := true, laidLooks := .later }
def ModelWeakerCardSaid : Prop := Claim7.holds Tryz.pinned (.plain (OpenSpec.ofChange modelWeakerSpec)) modelWeakerCard

/-- THE TIED CARD OF 'seisinlaw10.ModelSplit'. -/
def modelSplitCard : Claim7 := { stood := { row := modelSplitRow, standIns := [], harness := (true, "fe5682447d11236486e78a005a4506e92c8519d72c86197575447f013ba13b38"), looks := false }, kinds := [], alts := [], laidByText := true, laidKinds := [.data, .data, .data], laidTests := true, laidLooks := .later }
def ModelSplitCardSaid : Prop := Claim7.holds Tryz.pinned (.plain (OpenSpec.ofChange modelSplitSpec)) modelSplitCard

/-- THE SECOND FORM's CARD OF 'seisinlaw10.ModelWeaker'. -/
def modelWeakerUptoCard : Claim7 := { stood := { row := modelWeakerUptoRow, standIns := [], harness := (true, "fe5682447d11236486e78a005a4506e92c8519d72c86197575447f013ba13b38"), looks := false }, kinds := [], alts := [], laidByText := true, laidKinds := [.data, .data, .data], laidTests := true, laidLooks := .later }
def ModelWeakerUptoCardSaid : Prop := Claim7.holds Tryz.pinned (.plain (OpenSpec.upto modelWeakerSpec)) modelWeakerUptoCard

/-- THE SECOND FORM's CARD OF 'seisinlaw10.ModelSplit'. -/
def modelSplitUptoCard : Claim7 := { stood := { row := modelSplitUptoRow, standIns := [], harness := (true, "fe5682447d11236486e78a005a4506e92c8519d72c86197575447f013ba13b38"), looks := false }, kinds := [], alts := [], laidByText := true, laidKinds := [.data, .data, .data], laidTests := true, laidLooks := .later }
def ModelSplitUptoCardSaid : Prop := Claim7.holds Tryz.pinned (.plain (OpenSpec.upto modelSplitSpec)) modelSplitUptoCard
end Rows
end Go.Proofs.YtkpcgpmimejimaaGreatDoor
