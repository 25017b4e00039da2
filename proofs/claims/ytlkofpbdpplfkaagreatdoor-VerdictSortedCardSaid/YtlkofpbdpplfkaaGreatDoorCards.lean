/-
  DERIVED. GIVEN WITH THE SEED: THE CARDS: each row of YtlkofpbdpplfkaaGreatDoorRows.lean that lists a variable, with what it lists TIED to the program's text (the seventh form; the later family's looks); each row that meets fmt, with fmt's text TOLD by the authors' own Lean function (tested against real Go, not proved from fmt's source: count such statements apart). THE CARD IS WHAT COUNTS. Prove the row's statement (the work); the ties are given (YtlkofpbdpplfkaaGreatDoorTie.lean); close each card by the builder's one call (the guide's Derived/Test/ToyasCard.lean, 'card_holds'). Laid BY PROGRAM, IN A SANDBOX (cutbox-door.mjs). By AI agents, Wed Nov 11 2026. No macro, syntax, notation, axiom, sorry.
-/
import Derived.Test.YtlkofpbdpplfkaaGreatDoorRows
import GoSem.ClaimSeven
namespace Go.Proofs.YtlkofpbdpplfkaaGreatDoor
namespace Rows

/-- THE TIED CARD OF 'seisinlaw12.VerdictLogic'. -/
def verdictLogicCard : Claim7 := { stood := { row := verdictLogicRow, standIns := [], harness := (true, "4ed6074b40fb270f5cb633c64019e504475617ae44615508c33572c0b91ad156"), looks := true }, kinds := [], alts := [], laidByText := true, laidKinds := [.data, .data, .data, .data], laidTests := true, laidLooks := .later }
def VerdictLogicCardSaid : Prop := Claim7.holds Tryz.pinned (.plain (OpenSpec.ofChange verdictLogicSpec)) verdictLogicCard

/-- THE TIED CARD OF 'seisinlaw12.VerdictAsks'. -/
def verdictAsksCard : Claim7 := { stood := { row := verdictAsksRow, standIns := [], harness := (true, "4ed6074b40fb270f5cb633c64019e504475617ae44615508c33572c0b91ad156"), looks := true }, kinds := [], alts := [], laidByText := true, laidKinds := [.data, .data, .data, .data], laidTests := true, laidLooks := .later }
def VerdictAsksCardSaid : Prop := Claim7.holds Tryz.pinned (.plain (OpenSpec.ofChange verdictAsksSpec)) verdictAsksCard

/-- THE TIED CARD OF 'seisinlaw12.VerdictDeep'. -/
def verdictDeepCard : Claim7 := { stood := { row := verdictDeepRow, standIns := [], harness := (true, "4ed6074b40fb270f5cb633c64019e504475617ae44615508c33572c0b91ad156"), looks := true }, kinds := [], alts := [], laidByText := true, laidKinds := [.data, .data, .data, .data], laidTests := true, laidLooks := .later }
def VerdictDeepCardSaid : Prop := Claim7.holds Tryz.pinned (.plain (OpenSpec.ofChange verdictDeepSpec)) verdictDeepCard

/-- THE TIED CARD OF 'seisinlaw12.VerdictTells'. -/
def verdictTellsCard : Claim7 := { stood := { row := verdictTellsRow, standIns := [], harness := (true, "4ed6074b40fb270f5cb633c64019e504475617ae44615508c33572c0b91ad156"), looks := true }, kinds := [], alts := [], laidByText := true, laidKinds := [.data, .data, .data, .data], laidTests := true, laidLooks := .later }
def VerdictTellsCardSaid : Prop := Claim7.holds Tryz.pinned (.plain (OpenSpec.ofChange verdictTellsSpec)) verdictTellsCard

/-- THE TIED CARD OF 'seisinlaw12.VerdictSorted'. -/
def verdictSortedCard : Claim7 := { stood := { row := verdictSortedRow, standIns := [], harness := (true, "4ed6074b40fb270f5cb633c64019e504475617ae44615508c33572c0b91ad156"), looks := true }, kinds := [], alts := [], laidByText := true, laidKinds := [.data, .data, .data, .data], laidTests := true, laidLooks := .later }
def VerdictSortedCardSaid : Prop := Claim7.holds Tryz.pinned (.plain (OpenSpec.ofChange verdictSortedSpec)) verdictSortedCard

/-- THE TIED CARD OF 'seisinlaw12.VerdictShow'. -/
def verdictShowCard : Claim7 := { stood := { row := verdictShowRow, standIns := [], harness := (true, "4ed6074b40fb270f5cb633c64019e504475617ae44615508c33572c0b91ad156"), looks := true }, kinds := [], alts := [], laidByText := true, laidKinds := [.data, .data, .data, .data, .sentinel, .sentinel, .data, .pinned], laidTests := true, laidLooks := .later }
def VerdictShowCardSaid : Prop := Claim7.holds Tryz.pinned (.plain (OpenSpec.ofChange verdictShowSpec)) verdictShowCard

/-- THE SECOND FORM's CARD OF 'seisinlaw12.VerdictLogic'. -/
def verdictLogicUptoCard : Claim7 := { stood := { row := verdictLogicUptoRow, standIns := [], harness := (true, "4ed6074b40fb270f5cb633c64019e504475617ae44615508c33572c0b91ad156"), looks := true }, kinds := [], alts := [], laidByText := true, laidKinds := [.data, .data, .data, .data], laidTests := true, laidLooks := .later }
def VerdictLogicUptoCardSaid : Prop := Claim7.holds Tryz.pinned (.plain (OpenSpec.upto verdictLogicSpec)) verdictLogicUptoCard

/-- THE SECOND FORM's CARD OF 'seisinlaw12.VerdictAsks'. -/
def verdictAsksUptoCard : Claim7 := { stood := { row := verdictAsksUptoRow, standIns := [], harness := (true, "4ed6074b40fb270f5cb633c64019e504475617ae44615508c33572c0b91ad156"), looks := true }, kinds := [], alts := [], laidByText := true, laidKinds := [.data, .data, .data, .data], laidTests := true, laidLooks := .later }
def VerdictAsksUptoCardSaid : Prop := Claim7.holds Tryz.pinned (.plain (OpenSpec.upto verdictAsksSpec)) verdictAsksUptoCard

/-- THE SECOND FORM's CARD OF 'seisinlaw12.VerdictDeep'. -/
def verdictDeepUptoCard : Claim7 := { stood := { row := verdictDeepUptoRow, standIns := [], harness := (true, "4ed6074b40fb270f5cb633c64019e504475617ae44615508c33572c0b91ad156"), looks := true }, kinds := [], alts := [], laidByText := true, laidKinds := [.data, .data, .data, .data], laidTests := true, laidLooks := .later }
def VerdictDeepUptoCardSaid : Prop := Claim7.holds Tryz.pinned (.plain (OpenSpec.upto verdictDeepSpec)) verdictDeepUptoCard

/-- THE SECOND FORM's CARD OF 'seisinlaw12.VerdictTells'. -/
def verdictTellsUptoCard : Claim7 := { stood := { row := verdictTellsUptoRow, standIns := [], harness := (true, "4ed6074b40fb270f5cb633c64019e504475617ae44615508c33572c0b91ad156"), looks := true }, kinds := [], alts := [], laidByText := true, laidKinds := [.data, .data, .data, .data], laidTests := true, laidLooks := .later }
def VerdictTellsUptoCardSaid : Prop := Claim7.holds Tryz.pinned (.plain (OpenSpec.upto verdictTellsSpec)) verdictTellsUptoCard

/-- THE SECOND FORM's CARD OF 'seisinlaw12.VerdictSorted'. -/
def verdictSortedUptoCard : Claim7 := { stood := { row := verdictSortedUptoRow, standIns := [], harness := (true, "4ed6074b40fb270f5cb633c64019e504475617ae44615508c33572c0b91ad156"), looks := true }, kinds := [], alts := [], laidByText := true, laidKinds := [.data, .data, .data, .data], laidTests := true, laidLooks := .later }
def VerdictSortedUptoCardSaid : Prop := Claim7.holds Tryz.pinned (.plain (OpenSpec.upto verdictSortedSpec)) verdictSortedUptoCard

/-- THE SECOND FORM's CARD OF 'seisinlaw12.VerdictShow'. -/
def verdictShowUptoCard : Claim7 := { stood := { row := verdictShowUptoRow, standIns := [], harness := (true, "4ed6074b40fb270f5cb633c64019e504475617ae44615508c33572c0b91ad156"), looks := true }, kinds := [], alts := [], laidByText := true, laidKinds := [.data, .data, .data, .data, .sentinel, .sentinel, .data, .pinned], laidTests := true, laidLooks := .later }
def VerdictShowUptoCardSaid : Prop := Claim7.holds Tryz.pinned (.plain (OpenSpec.upto verdictShowSpec)) verdictShowUptoCard
end Rows
end Go.Proofs.YtlkofpbdpplfkaaGreatDoor
