/-
  DERIVED. GIVEN WITH THE SEED: THE CARDS: each row of YtakcdebpklffiaaGreatDoorRows.lean that lists a variable, with what it lists TIED to the program's text (the seventh form; the later family's looks); each row that meets fmt, with fmt's text TOLD by the authors' own Lean function (tested against real Go, not proved from fmt's source: count such statements apart). THE CARD IS WHAT COUNTS. Prove the row's statement (the work); the ties are given (YtakcdebpklffiaaGreatDoorTie.lean); close each card by the builder's one call (the guide's Derived/Test/ToyasCard.lean, 'card_holds'). Laid BY PROGRAM, IN A SANDBOX (cutbox-door.mjs). By AI agents, Wed Nov 11 2026. No macro, syntax, notation, axiom, sorry.
-/
import Derived.Test.YtakcdebpklffiaaGreatDoorRows
import GoSem.ClaimSeven
namespace Go.Proofs.YtakcdebpklffiaaGreatDoor
namespace Rows

/-- THE TIED CARD OF 'seisinlaw09.CandTells'. -/
def candTellsCard : Claim7 := { stood := { row := candTellsRow, standIns := [], harness := (true, "abb8956cfd031f670eb2b1f7f5cbabbbef3d0596c74b93762e4302bef3b06e65"), looks := true }, kinds := [], alts := [], laidByText := true, laidKinds := [.data, .data, .data], laidTests := true, laidLooks := .later }
def CandTellsCardSaid : Prop := Claim7.holds Tryz.pinned (.plain (OpenSpec.ofChange candTellsSpec)) candTellsCard

/-- THE TIED CARD OF 'seisinlaw12.VerdictModels'. -/
def verdictModelsCard : Claim7 := { stood := { row := verdictModelsRow, standIns := [], harness := (true, "abb8956cfd031f670eb2b1f7f5cbabbbef3d0596c74b93762e4302bef3b06e65"), looks := true }, kinds := [], alts := [], laidByText := true, laidKinds := [.data, .data, .data, .data], laidTests := true, laidLooks := .later }
def VerdictModelsCardSaid : Prop := Claim7.holds Tryz.pinned (.plain (OpenSpec.ofChange verdictModelsSpec)) verdictModelsCard

/-- THE TIED CARD OF 'seisinlaw12.VerdictShow'. -/
def verdictShowCard : Claim7 := { stood := { row := verdictShowRow, standIns := [], harness := (true, "abb8956cfd031f670eb2b1f7f5cbabbbef3d0596c74b93762e4302bef3b06e65"), looks := true }, kinds := [], alts := [], laidByText := true, laidKinds := [.data, .data, .data, .data, .sentinel, .sentinel, .data, .pinned], laidTests := true, laidLooks := .later }
def VerdictShowCardSaid : Prop := Claim7.holds Tryz.pinned (.plain (OpenSpec.ofChange verdictShowSpec)) verdictShowCard

/-- THE SECOND FORM's CARD OF 'seisinlaw09.CandTells'. -/
def candTellsUptoCard : Claim7 := { stood := { row := candTellsUptoRow, standIns := [], harness := (true, "abb8956cfd031f670eb2b1f7f5cbabbbef3d0596c74b93762e4302bef3b06e65"), looks := true }, kinds := [], alts := [], laidByText := true, laidKinds := [.data, .data, .data], laidTests := true, laidLooks := .later }
def CandTellsUptoCardSaid : Prop := Claim7.holds Tryz.pinned (.plain (OpenSpec.upto candTellsSpec)) candTellsUptoCard

/-- THE SECOND FORM's CARD OF 'seisinlaw12.VerdictModels'. -/
def verdictModelsUptoCard : Claim7 := { stood := { row := verdictModelsUptoRow, standIns := [], harness := (true, "abb8956cfd031f670eb2b1f7f5cbabbbef3d0596c74b93762e4302bef3b06e65"), looks := true }, kinds := [], alts := [], laidByText := true, laidKinds := [.data, .data, .data, .data], laidTests := true, laidLooks := .later }
def VerdictModelsUptoCardSaid : Prop := Claim7.holds Tryz.pinned (.plain (OpenSpec.upto verdictModelsSpec)) verdictModelsUptoCard

/-- THE SECOND FORM's CARD OF 'seisinlaw12.VerdictShow'. -/
def verdictShowUptoCard : Claim7 := { stood := { row := verdictShowUptoRow, standIns := [], harness := (true, "abb8956cfd031f670eb2b1f7f5cbabbbef3d0596c74b93762e4302bef3b06e65"), looks := true }, kinds := [], alts := [], laidByText := true, laidKinds := [.data, .data, .data, .data, .sentinel, .sentinel, .data, .pinned], laidTests := true, laidLooks := .later }
def VerdictShowUptoCardSaid : Prop := Claim7.holds Tryz.pinned (.plain (OpenSpec.upto verdictShowSpec)) verdictShowUptoCard
end Rows
end Go.Proofs.YtakcdebpklffiaaGreatDoor
