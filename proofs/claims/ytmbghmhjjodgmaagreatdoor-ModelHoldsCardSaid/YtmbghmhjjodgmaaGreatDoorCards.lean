/-
  DERIVED. GIVEN WITH THE SEED: THE CARDS: each row of YtmbghmhjjodgmaaGreatDoorRows.lean that lists a variable, with what it lists TIED to the program's text (the seventh form; the later family's looks); each row that meets fmt, with fmt's text TOLD by the authors' own Lean function (tested against real Go, not proved from fmt's source: count such statements apart). THE CARD IS WHAT COUNTS. Prove the row's statement (the work); the ties are given (YtmbghmhjjodgmaaGreatDoorTie.lean); close each card by the builder's one call (the guide's Derived/Test/ToyasCard.lean, 'card_holds'). Laid BY PROGRAM, IN A SANDBOX (cutbox-door.mjs). By AI agents, Wed Nov 11 2026. No macro, syntax, notation, axiom, sorry.
-/
import Derived.Test.YtmbghmhjjodgmaaGreatDoorRows
import GoSem.ClaimSeven
namespace Go.Proofs.YtmbghmhjjodgmaaGreatDoor
namespace Rows

/-- THE TIED CARD OF 'seisinlaw09.CandRight'. -/
def candRightCard : Claim7 := { stood := { row := candRightRow, standIns := [], harness := (true, "137d594a825dc643552e95a04a0391fd0b3a6f02b94e6414a34941a6d1eeab92"), looks := false }, kinds := [], alts := [], laidByText := true, laidKinds := [.data, .data, .data], laidTests := true, laidLooks := .later }
def CandRightCardSaid : Prop := Claim7.holds Tryz.pinned (.plain (OpenSpec.ofChange candRightSpec)) candRightCard

/-- THE TIED CARD OF 'seisinlaw10.ModelHolds'. -/
def modelHoldsCard : Claim7 := { stood := { row := modelHoldsRow, standIns := [], harness := (true, "137d594a825dc643552e95a04a0391fd0b3a6f02b94e6414a34941a6d1eeab92"), looks := false }, kinds := [], alts := [], laidByText := true, laidKinds := [.data, .data, .data], laidTests := true, laidLooks := .later }
def ModelHoldsCardSaid : Prop := Claim7.holds Tryz.pinned (.plain (OpenSpec.ofChange modelHoldsSpec)) modelHoldsCard

/-- THE TIED CARD OF 'seisinlaw10.ModelTells'. -/
def modelTellsCard : Claim7 := { stood := { row := modelTellsRow, standIns := [], harness := (true, "137d594a825dc643552e95a04a0391fd0b3a6f02b94e6414a34941a6d1eeab92"), looks := false }, kinds := [], alts := [], laidByText := true, laidKinds := [.data, .data, .data], laidTests := true, laidLooks := .later }
def ModelTellsCardSaid : Prop := Claim7.holds Tryz.pinned (.plain (OpenSpec.ofChange modelTellsSpec)) modelTellsCard

/-- THE TIED CARD OF 'seisinlaw10.ModelSplit'. -/
def modelSplitCard : Claim7 := { stood := { row := modelSplitRow, standIns := [], harness := (true, "137d594a825dc643552e95a04a0391fd0b3a6f02b94e6414a34941a6d1eeab92"), looks := false }, kinds := [], alts := [], laidByText := true, laidKinds := [.data, .data, .data], laidTests := true, laidLooks := .later }
def ModelSplitCardSaid : Prop := Claim7.holds Tryz.pinned (.plain (OpenSpec.ofChange modelSplitSpec)) modelSplitCard

/-- THE SECOND FORM's CARD OF 'seisinlaw09.CandRight'. -/
def candRightUptoCard : Claim7 := { stood := { row := candRightUptoRow, standIns := [], harness := (true, "137d594a825dc643552e95a04a0391fd0b3a6f02b94e6414a34941a6d1eeab92"), looks := false }, kinds := [], alts := [], laidByText := true, laidKinds := [.data, .data, .data], laidTests := true, laidLooks := .later }
def CandRightUptoCardSaid : Prop := Claim7.holds Tryz.pinned (.plain (OpenSpec.upto candRightSpec)) candRightUptoCard

/-- THE SECOND FORM's CARD OF 'seisinlaw10.ModelHolds'. -/
def modelHoldsUptoCard : Claim7 := { stood := { row := modelHoldsUptoRow, standIns := [], harness := (true, "137d594a825dc643552e95a04a0391fd0b3a6f02b94e6414a34941a6d1eeab92"), looks := false }, kinds := [], alts := [], laidByText := true, laidKinds := [.data, .data, .data], laidTests := true, laidLooks := .later }
def ModelHoldsUptoCardSaid : Prop := Claim7.holds Tryz.pinned (.plain (OpenSpec.upto modelHoldsSpec)) modelHoldsUptoCard

/-- THE SECOND FORM's CARD OF 'seisinlaw10.ModelTells'. -/
def modelTellsUptoCard : Claim7 := { stood := { row := modelTellsUptoRow, standIns := [], harness := (true, "137d594a825dc643552e95a04a0391fd0b3a6f02b94e6414a34941a6d1eeab92"), looks := false }, kinds := [], alts := [], laidByText := true, laidKinds := [.data, .data, .data], laidTests := true, laidLooks := .later }
def ModelTellsUptoCardSaid : Prop := Claim7.holds Tryz.pinned (.plain (OpenSpec.upto modelTellsSpec)) modelTellsUptoCard

/-- THE SECOND FORM's CARD OF 'seisinlaw10.ModelSplit'. -/
def modelSplitUptoCard : Claim7 := { stood := { row := modelSplitUptoRow, standIns := [], harness := (true, "137d594a825dc643552e95a04a0391fd0b3a6f02b94e6414a34941a6d1eeab92"), looks := false }, kinds := [], alts := [], laidByText := true, laidKinds := [.data, .data, .data], laidTests := true, laidLooks := .later }
def ModelSplitUptoCardSaid : Prop := Claim7.holds Tryz.pinned (.plain (OpenSpec.upto modelSplitSpec)) modelSplitUptoCard
end Rows
end Go.Proofs.YtmbghmhjjodgmaaGreatDoor
