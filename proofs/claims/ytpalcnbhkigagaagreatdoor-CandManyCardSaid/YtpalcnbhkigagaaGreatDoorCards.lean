/-
  DERIVED. GIVEN WITH THE SEED: THE CARDS: each row of YtpalcnbhkigagaaGreatDoorRows.lean that lists a variable, with what it lists TIED to the program's text (the seventh form; the later family's looks); each row that meets fmt, with fmt's text TOLD by the authors' own Lean function (tested against real Go, not proved from fmt's source: count such statements apart). THE CARD IS WHAT COUNTS. Prove the row's statement (the work); the ties are given (YtpalcnbhkigagaaGreatDoorTie.lean); close each card by the builder's one call (the guide's Derived/Test/ToyasCard.lean, 'card_holds'). Laid BY PROGRAM, IN A SANDBOX (cutbox-door.mjs). By AI agents, Wed Nov 11 2026. No macro, syntax, notation, axiom, sorry.
-/
import Derived.Test.YtpalcnbhkigagaaGreatDoorRows
import GoSem.ClaimSeven
namespace Go.Proofs.YtpalcnbhkigagaaGreatDoor
namespace Rows

/-- THE TIED CARD OF 'seisinlaw09.CandMany'. -/
def candManyCard : Claim7 := { stood := { row := candManyRow, standIns := [], harness := (true, "76acc19b285334ce7673b6988976cf633678d4066e5bce3b1ef6e0e30cc6564b"), looks := false }, kinds := [], alts := [], laidByText := true, laidKinds := [.data, .data, .data], laidTests := true, laidLooks := .later }
def CandManyCardSaid : Prop := Claim7.holds Tryz.pinned (.plain (OpenSpec.ofChange candManySpec)) candManyCard

/-- THE TIED CARD OF 'seisinlaw09.CandSpoilt'. -/
def candSpoiltCard : Claim7 := { stood := { row := candSpoiltRow, standIns := [], harness := (true, "76acc19b285334ce7673b6988976cf633678d4066e5bce3b1ef6e0e30cc6564b"), looks := false }, kinds := [], alts := [], laidByText := true, laidKinds := [.data, .data, .data], laidTests := true, laidLooks := .later }
def CandSpoiltCardSaid : Prop := Claim7.holds Tryz.pinned (.plain (OpenSpec.ofChange candSpoiltSpec)) candSpoiltCard

/-- THE TIED CARD OF 'seisinlaw09.CandWrong'. -/
def candWrongCard : Claim7 := { stood := { row := candWrongRow, standIns := [], harness := (true, "76acc19b285334ce7673b6988976cf633678d4066e5bce3b1ef6e0e30cc6564b"), looks := false }, kinds := [], alts := [], laidByText := true, laidKinds := [.data, .data, .data], laidTests := true, laidLooks := .later }
def CandWrongCardSaid : Prop := Claim7.holds Tryz.pinned (.plain (OpenSpec.ofChange candWrongSpec)) candWrongCard

/-- THE TIED CARD OF 'seisinlaw09.CandChoice'. -/
def candChoiceCard : Claim7 := { stood := { row := candChoiceRow, standIns := [], harness := (true, "76acc19b285334ce7673b6988976cf633678d4066e5bce3b1ef6e0e30cc6564b"), looks := false }, kinds := [], alts := [], laidByText := true, laidKinds := [.data, .data, .data], laidTests := true, laidLooks := .later }
def CandChoiceCardSaid : Prop := Claim7.holds Tryz.pinned (.plain (OpenSpec.ofChange candChoiceSpec)) candChoiceCard

/-- THE TIED CARD OF 'seisinlaw09.CandEach'. -/
def candEachCard : Claim7 := { stood := { row := candEachRow, standIns := [], harness := (true, "76acc19b285334ce7673b6988976cf633678d4066e5bce3b1ef6e0e30cc6564b"), looks := false }, kinds := [], alts := [], laidByText := true, laidKinds := [.data, .data, .data], laidTests := true, laidLooks := .later }
def CandEachCardSaid : Prop := Claim7.holds Tryz.pinned (.plain (OpenSpec.ofChange candEachSpec)) candEachCard

/-- THE TIED CARD OF 'seisinlaw09.CandPaths'. -/
def candPathsCard : Claim7 := { stood := { row := candPathsRow, standIns := [], harness := (true, "76acc19b285334ce7673b6988976cf633678d4066e5bce3b1ef6e0e30cc6564b"), looks := false }, kinds := [], alts := [], laidByText := true, laidKinds := [.data, .data, .data], laidTests := true, laidLooks := .later }
def CandPathsCardSaid : Prop := Claim7.holds Tryz.pinned (.plain (OpenSpec.ofChange candPathsSpec)) candPathsCard

/-- THE SECOND FORM's CARD OF 'seisinlaw09.CandMany'. -/
def candManyUptoCard : Claim7 := { stood := { row := candManyUptoRow, standIns := [], harness := (true, "76acc19b285334ce7673b6988976cf633678d4066e5bce3b1ef6e0e30cc6564b"), looks := false }, kinds := [], alts := [], laidByText := true, laidKinds := [.data, .data, .data], laidTests := true, laidLooks := .later }
def CandManyUptoCardSaid : Prop := Claim7.holds Tryz.pinned (.plain (OpenSpec.upto candManySpec)) candManyUptoCard

/-- THE SECOND FORM's CARD OF 'seisinlaw09.CandSpoilt'. -/
def candSpoiltUptoCard : Claim7 := { stood := { row := candSpoiltUptoRow, standIns := [], harness := (true, "76acc19b285334ce7673b6988976cf633678d4066e5bce3b1ef6e0e30cc6564b"), looks := false }, kinds := [], alts := [], laidByText := true, laidKinds := [.data, .data, .data], laidTests := true, laidLooks := .later }
def CandSpoiltUptoCardSaid : Prop := Claim7.holds Tryz.pinned (.plain (OpenSpec.upto candSpoiltSpec)) candSpoiltUptoCard

/-- THE SECOND FORM's CARD OF 'seisinlaw09.CandWrong'. -/
def candWrongUptoCard : Claim7 := { stood := { row := candWrongUptoRow, standIns := [], harness := (true, "76acc19b285334ce7673b6988976cf633678d4066e5bce3b1ef6e0e30cc6564b"), looks := false }, kinds := [], alts := [], laidByText := true, laidKinds := [.data, .data, .data], laidTests := true, laidLooks := .later }
def CandWrongUptoCardSaid : Prop := Claim7.holds Tryz.pinned (.plain (OpenSpec.upto candWrongSpec)) candWrongUptoCard

/-- THE SECOND FORM's CARD OF 'seisinlaw09.CandChoice'. -/
def candChoiceUptoCard : Claim7 := { stood := { row := candChoiceUptoRow, standIns := [], harness := (true, "76acc19b285334ce7673b6988976cf633678d4066e5bce3b1ef6e0e30cc6564b"), looks := false }, kinds := [], alts := [], laidByText := true, laidKinds := [.data, .data, .data], laidTests := true, laidLooks := .later }
def CandChoiceUptoCardSaid : Prop := Claim7.holds Tryz.pinned (.plain (OpenSpec.upto candChoiceSpec)) candChoiceUptoCard

/-- THE SECOND FORM's CARD OF 'seisinlaw09.CandEach'. -/
def candEachUptoCard : Claim7 := { stood := { row := candEachUptoRow, standIns := [], harness := (true, "76acc19b285334ce7673b6988976cf633678d4066e5bce3b1ef6e0e30cc6564b"), looks := false }, kinds := [], alts := [], laidByText := true, laidKinds := [.data, .data, .data], laidTests := true, laidLooks := .later }
def CandEachUptoCardSaid : Prop := Claim7.holds Tryz.pinned (.plain (OpenSpec.upto candEachSpec)) candEachUptoCard

/-- THE SECOND FORM's CARD OF 'seisinlaw09.CandPaths'. -/
def candPathsUptoCard : Claim7 := { stood := { row := candPathsUptoRow, standIns := [], harness := (true, "76acc19b285334ce7673b6988976cf633678d4066e5bce3b1ef6e0e30cc6564b"), looks := false }, kinds := [], alts := [], laidByText := true, laidKinds := [.data, .data, .data], laidTests := true, laidLooks := .later }
def CandPathsUptoCardSaid : Prop := Claim7.holds Tryz.pinned (.plain (OpenSpec.upto candPathsSpec)) candPathsUptoCard
end Rows
end Go.Proofs.YtpalcnbhkigagaaGreatDoor
