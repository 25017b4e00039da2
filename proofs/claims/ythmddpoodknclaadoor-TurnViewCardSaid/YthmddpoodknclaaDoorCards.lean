/-
  DERIVED. GIVEN WITH THE SEED: THE CARDS: each row of YthmddpoodknclaaDoorRows.lean that lists a variable, with what it lists TIED to the program's text (the seventh form; the later family's looks); each row that meets fmt, with fmt's text TOLD by the authors' own Lean function (tested against real Go, not proved from fmt's source: count such statements apart). THE CARD IS WHAT COUNTS. Prove the row's statement (the work); the ties are given (YthmddpoodknclaaDoorTie.lean); close each card by the builder's one call (the guide's Derived/Test/ToyasCard.lean, 'card_holds'). Laid BY PROGRAM, IN A SANDBOX (cutbox-door.mjs). By AI agents, Wed Nov 11 2026. No macro, syntax, notation, axiom, sorry.
-/
import Derived.Test.YthmddpoodknclaaDoorRows
import GoSem.ClaimSeven
namespace Go.Proofs.YthmddpoodknclaaDoor
namespace Rows

/-- THE TIED CARD OF 'seisinlaw23.TurnGroup'. -/
def turnGroupCard : Claim7 := { stood := { row := turnGroupRow, standIns := [], harness := (true, "41f4b2f5d222eee090f21a1ea56261b7061102186433942c9d2bea529b584b32"), looks := false }, kinds := [], alts := [], laidByText := true, laidKinds := [.data, .data], laidTests := true, laidLooks := .later }
def TurnGroupCardSaid : Prop := Claim7.holds Tryd.pinned (.plain (OpenSpec.ofChange turnGroupSpec)) turnGroupCard

/-- THE TIED CARD OF 'seisinlaw23.TurnThen'. -/
def turnThenCard : Claim7 := { stood := { row := turnThenRow, standIns := [], harness := (true, "41f4b2f5d222eee090f21a1ea56261b7061102186433942c9d2bea529b584b32"), looks := false }, kinds := [], alts := [], laidByText := true, laidKinds := [.data, .data], laidTests := true, laidLooks := .later }
def TurnThenCardSaid : Prop := Claim7.holds Tryd.pinned (.plain (OpenSpec.ofChange turnThenSpec)) turnThenCard

/-- THE TIED CARD OF 'seisinlaw23.TurnView'. -/
def turnViewCard : Claim7 := { stood := { row := turnViewRow, standIns := [], harness := (true, "41f4b2f5d222eee090f21a1ea56261b7061102186433942c9d2bea529b584b32"), looks := false }, kinds := [], alts := [], laidByText := true, laidKinds := [.data, .data, .data], laidTests := true, laidLooks := .later }
def TurnViewCardSaid : Prop := Claim7.holds Tryd.pinned (.plain (OpenSpec.ofChange turnViewSpec)) turnViewCard

/-- THE SECOND FORM's CARD OF 'seisinlaw23.TurnGroup'. -/
def turnGroupUptoCard : Claim7 := { stood := { row := turnGroupUptoRow, standIns := [], harness := (true, "41f4b2f5d222eee090f21a1ea56261b7061102186433942c9d2bea529b584b32"), looks := false }, kinds := [], alts := [], laidByText := true, laidKinds := [.data, .data], laidTests := true, laidLooks := .later }
def TurnGroupUptoCardSaid : Prop := Claim7.holds Tryd.pinned (.plain (OpenSpec.upto turnGroupSpec)) turnGroupUptoCard

/-- THE SECOND FORM's CARD OF 'seisinlaw23.TurnThen'. -/
def turnThenUptoCard : Claim7 := { stood := { row := turnThenUptoRow, standIns := [], harness := (true, "41f4b2f5d222eee090f21a1ea56261b7061102186433942c9d2bea529b584b32"), looks := false }, kinds := [], alts := [], laidByText := true, laidKinds := [.data, .data], laidTests := true, laidLooks := .later }
def TurnThenUptoCardSaid : Prop := Claim7.holds Tryd.pinned (.plain (OpenSpec.upto turnThenSpec)) turnThenUptoCard

/-- THE SECOND FORM's CARD OF 'seisinlaw23.TurnView'. -/
def turnViewUptoCard : Claim7 := { stood := { row := turnViewUptoRow, standIns := [], harness := (true, "41f4b2f5d222eee090f21a1ea56261b7061102186433942c9d2bea529b584b32"), looks := false }, kinds := [], alts := [], laidByText := true, laidKinds := [.data, .data, .data], laidTests := true, laidLooks := .later }
def TurnViewUptoCardSaid : Prop := Claim7.holds Tryd.pinned (.plain (OpenSpec.upto turnViewSpec)) turnViewUptoCard
end Rows
end Go.Proofs.YthmddpoodknclaaDoor
