/-
  DERIVED. GIVEN WITH THE SEED: THE CARDS: each row of YtnadlhpkpnfmbaaGreatDoorRows.lean that lists a variable, with what it lists TIED to the program's text (the seventh form; the later family's looks); each row that meets fmt, with fmt's text TOLD by the authors' own Lean function (tested against real Go, not proved from fmt's source: count such statements apart). THE CARD IS WHAT COUNTS. Prove the row's statement (the work); the ties are given (YtnadlhpkpnfmbaaGreatDoorTie.lean); close each card by the builder's one call (the guide's Derived/Test/ToyasCard.lean, 'card_holds'). Laid BY PROGRAM, IN A SANDBOX (cutbox-door.mjs). By AI agents, Wed Nov 11 2026. No macro, syntax, notation, axiom, sorry.
-/
import Derived.Test.YtnadlhpkpnfmbaaGreatDoorRows
import GoSem.ClaimSeven
namespace Go.Proofs.YtnadlhpkpnfmbaaGreatDoor
namespace Rows

/-- THE TIED CARD OF 'seisinlaw11.CatLet'. -/
def catLetCard : Claim7 := { stood := { row := catLetRow, standIns := [], harness := (true, "31b03d815a0bd5bc9b445050af735934c952833762b16b07194bc58e768549f4"), looks := false }, kinds := [], alts := [], laidByText := true, laidKinds := [.data, .data, .data, .data, .data, .data, .data], laidTests := true, laidLooks := .later }
def CatLetCardSaid : Prop := Claim7.holds Tryz.pinned (.plain (OpenSpec.ofChange catLetSpec)) catLetCard

/-- THE TIED CARD OF 'seisinlaw11.CatRules'. -/
def catRulesCard : Claim7 := { stood := { row := catRulesRow, standIns := [], harness := (true, "31b03d815a0bd5bc9b445050af735934c952833762b16b07194bc58e768549f4"), looks := false }, kinds := [], alts := [], laidByText := true, laidKinds := [.data, .data, .data, .data, .data, .data, .data], laidTests := true, laidLooks := .later }
def CatRulesCardSaid : Prop := Claim7.holds Tryz.pinned (.plain (OpenSpec.ofChange catRulesSpec)) catRulesCard

/-- THE TIED CARD OF 'seisinlaw11.CatBooks'. -/
def catBooksCard : Claim7 := { stood := { row := catBooksRow, standIns := [], harness := (true, "31b03d815a0bd5bc9b445050af735934c952833762b16b07194bc58e768549f4"), looks := false }, kinds := [], alts := [], laidByText := true, laidKinds := [.data, .data, .data, .data, .data, .data, .data], laidTests := true, laidLooks := .later }
def CatBooksCardSaid : Prop := Claim7.holds Tryz.pinned (.plain (OpenSpec.ofChange catBooksSpec)) catBooksCard

/-- THE TIED CARD OF 'seisinlaw11.CatMore'. -/
def catMoreCard : Claim7 := { stood := { row := catMoreRow, standIns := [], harness := (true, "31b03d815a0bd5bc9b445050af735934c952833762b16b07194bc58e768549f4"), looks := false }, kinds := [], alts := [], laidByText := true, laidKinds := [.data, .data, .data, .data, .data, .data, .data], laidTests := true, laidLooks := .later }
def CatMoreCardSaid : Prop := Claim7.holds Tryz.pinned (.plain (OpenSpec.ofChange catMoreSpec)) catMoreCard

/-- THE TIED CARD OF 'seisinlaw11.CatBack'. -/
def catBackCard : Claim7 := { stood := { row := catBackRow, standIns := [], harness := (true, "31b03d815a0bd5bc9b445050af735934c952833762b16b07194bc58e768549f4"), looks := false }, kinds := [], alts := [], laidByText := true, laidKinds := [.data, .data, .data, .data, .data, .data, .data, .data, .pinned], laidTests := true, laidLooks := .later }
def CatBackCardSaid : Prop := Claim7.holds Tryz.pinned (.plain (OpenSpec.ofChange catBackSpec)) catBackCard

/-- THE SECOND FORM's CARD OF 'seisinlaw11.CatLet'. -/
def catLetUptoCard : Claim7 := { stood := { row := catLetUptoRow, standIns := [], harness := (true, "31b03d815a0bd5bc9b445050af735934c952833762b16b07194bc58e768549f4"), looks := false }, kinds := [], alts := [], laidByText := true, laidKinds := [.data, .data, .data, .data, .data, .data, .data], laidTests := true, laidLooks := .later }
def CatLetUptoCardSaid : Prop := Claim7.holds Tryz.pinned (.plain (OpenSpec.upto catLetSpec)) catLetUptoCard

/-- THE SECOND FORM's CARD OF 'seisinlaw11.CatRules'. -/
def catRulesUptoCard : Claim7 := { stood := { row := catRulesUptoRow, standIns := [], harness := (true, "31b03d815a0bd5bc9b445050af735934c952833762b16b07194bc58e768549f4"), looks := false }, kinds := [], alts := [], laidByText := true, laidKinds := [.data, .data, .data, .data, .data, .data, .data], laidTests := true, laidLooks := .later }
def CatRulesUptoCardSaid : Prop := Claim7.holds Tryz.pinned (.plain (OpenSpec.upto catRulesSpec)) catRulesUptoCard

/-- THE SECOND FORM's CARD OF 'seisinlaw11.CatBooks'. -/
def catBooksUptoCard : Claim7 := { stood := { row := catBooksUptoRow, standIns := [], harness := (true, "31b03d815a0bd5bc9b445050af735934c952833762b16b07194bc58e768549f4"), looks := false }, kinds := [], alts := [], laidByText := true, laidKinds := [.data, .data, .data, .data, .data, .data, .data], laidTests := true, laidLooks := .later }
def CatBooksUptoCardSaid : Prop := Claim7.holds Tryz.pinned (.plain (OpenSpec.upto catBooksSpec)) catBooksUptoCard

/-- THE SECOND FORM's CARD OF 'seisinlaw11.CatMore'. -/
def catMoreUptoCard : Claim7 := { stood := { row := catMoreUptoRow, standIns := [], harness := (true, "31b03d815a0bd5bc9b445050af735934c952833762b16b07194bc58e768549f4"), looks := false }, kinds := [], alts := [], laidByText := true, laidKinds := [.data, .data, .data, .data, .data, .data, .data], laidTests := true, laidLooks := .later }
def CatMoreUptoCardSaid : Prop := Claim7.holds Tryz.pinned (.plain (OpenSpec.upto catMoreSpec)) catMoreUptoCard

/-- THE SECOND FORM's CARD OF 'seisinlaw11.CatBack'. -/
def catBackUptoCard : Claim7 := { stood := { row := catBackUptoRow, standIns := [], harness := (true, "31b03d815a0bd5bc9b445050af735934c952833762b16b07194bc58e768549f4"), looks := false }, kinds := [], alts := [], laidByText := true, laidKinds := [.data, .data, .data, .data, .data, .data, .data, .data, .pinned], laidTests := true, laidLooks := .later }
def CatBackUptoCardSaid : Prop := Claim7.holds Tryz.pinned (.plain (OpenSpec.upto catBackSpec)) catBackUptoCard
end Rows
end Go.Proofs.YtnadlhpkpnfmbaaGreatDoor
