/-
  DERIVED. GIVEN WITH THE SEED: THE CARDS: each row of YtoifcihikokpfaaDoorRows.lean that lists a variable, with what it lists TIED to the program's text (the seventh form; the later family's looks); each row that meets fmt, with fmt's text TOLD by the authors' own Lean function (tested against real Go, not proved from fmt's source: count such statements apart). THE CARD IS WHAT COUNTS. Prove the row's statement (the work); the ties are given (YtoifcihikokpfaaDoorTie.lean); close each card by the builder's one call (the guide's Derived/Test/ToyasCard.lean, 'card_holds'). Laid BY PROGRAM, IN A SANDBOX (cutbox-door.mjs). By AI agents, Wed Nov 11 2026. No macro, syntax, notation, axiom, sorry.
-/
import Derived.Test.YtoifcihikokpfaaDoorRows
import GoSem.ClaimSeven
namespace Go.Proofs.YtoifcihikokpfaaDoor
namespace Rows

/-- THE TIED CARD OF 'seisinlaw17.MsgOnly'. -/
def msgOnlyCard : Claim7 := { stood := { row := msgOnlyRow, standIns := [], harness := (true, "cf2fb7f36b5bf70bfa70822f27aa314b106d61809952f7c5fab057a6336e745d"), looks := true }, kinds := [], alts := [], laidByText := true, laidKinds := [.data, .data, .data, .data, .sentinel, .sentinel, .data, .data, .pinned], laidTests := true, laidLooks := .later }
def MsgOnlyCardSaid : Prop := Claim7.holds Tryd.pinned (.plain (OpenSpec.ofChange msgOnlySpec)) msgOnlyCard

/-- THE TIED CARD OF 'seisinlaw17.MsgOrder'. -/
def msgOrderCard : Claim7 := { stood := { row := msgOrderRow, standIns := [], harness := (true, "cf2fb7f36b5bf70bfa70822f27aa314b106d61809952f7c5fab057a6336e745d"), looks := true }, kinds := [], alts := [], laidByText := true, laidKinds := [.data, .data, .data, .data, .sentinel, .sentinel, .data, .data, .pinned], laidTests := true, laidLooks := .later }
def MsgOrderCardSaid : Prop := Claim7.holds Tryd.pinned (.plain (OpenSpec.ofChange msgOrderSpec)) msgOrderCard

/-- THE TIED CARD OF 'seisinlaw17.MsgBack'. -/
def msgBackCard : Claim7 := { stood := { row := msgBackRow, standIns := [], harness := (true, "cf2fb7f36b5bf70bfa70822f27aa314b106d61809952f7c5fab057a6336e745d"), looks := true }, kinds := [], alts := [], laidByText := true, laidKinds := [.data, .data, .data, .data, .sentinel, .sentinel, .data, .data, .pinned], laidTests := true, laidLooks := .later }
def MsgBackCardSaid : Prop := Claim7.holds Tryd.pinned (.plain (OpenSpec.ofChange msgBackSpec)) msgBackCard

/-- THE TIED CARD OF 'seisinlaw17.MsgWays'. -/
def msgWaysCard : Claim7 := { stood := { row := msgWaysRow, standIns := [], harness := (true, "cf2fb7f36b5bf70bfa70822f27aa314b106d61809952f7c5fab057a6336e745d"), looks := true }, kinds := [], alts := [], laidByText := true, laidKinds := [.data, .data, .data, .data, .data, .sentinel, .sentinel, .data, .data, .data, .pinned], laidTests := true, laidLooks := .later }
def MsgWaysCardSaid : Prop := Claim7.holds Tryd.pinned (.plain (OpenSpec.ofChange msgWaysSpec)) msgWaysCard

/-- THE SECOND FORM's CARD OF 'seisinlaw17.MsgOnly'. -/
def msgOnlyUptoCard : Claim7 := { stood := { row := msgOnlyUptoRow, standIns := [], harness := (true, "cf2fb7f36b5bf70bfa70822f27aa314b106d61809952f7c5fab057a6336e745d"), looks := true }, kinds := [], alts := [], laidByText := true, laidKinds := [.data, .data, .data, .data, .sentinel, .sentinel, .data, .data, .pinned], laidTests := true, laidLooks := .later }
def MsgOnlyUptoCardSaid : Prop := Claim7.holds Tryd.pinned (.plain (OpenSpec.upto msgOnlySpec)) msgOnlyUptoCard

/-- THE SECOND FORM's CARD OF 'seisinlaw17.MsgOrder'. -/
def msgOrderUptoCard : Claim7 := { stood := { row := msgOrderUptoRow, standIns := [], harness := (true, "cf2fb7f36b5bf70bfa70822f27aa314b106d61809952f7c5fab057a6336e745d"), looks := true }, kinds := [], alts := [], laidByText := true, laidKinds := [.data, .data, .data, .data, .sentinel, .sentinel, .data, .data, .pinned], laidTests := true, laidLooks := .later }
def MsgOrderUptoCardSaid : Prop := Claim7.holds Tryd.pinned (.plain (OpenSpec.upto msgOrderSpec)) msgOrderUptoCard

/-- THE SECOND FORM's CARD OF 'seisinlaw17.MsgBack'. -/
def msgBackUptoCard : Claim7 := { stood := { row := msgBackUptoRow, standIns := [], harness := (true, "cf2fb7f36b5bf70bfa70822f27aa314b106d61809952f7c5fab057a6336e745d"), looks := true }, kinds := [], alts := [], laidByText := true, laidKinds := [.data, .data, .data, .data, .sentinel, .sentinel, .data, .data, .pinned], laidTests := true, laidLooks := .later }
def MsgBackUptoCardSaid : Prop := Claim7.holds Tryd.pinned (.plain (OpenSpec.upto msgBackSpec)) msgBackUptoCard

/-- THE SECOND FORM's CARD OF 'seisinlaw17.MsgWays'. -/
def msgWaysUptoCard : Claim7 := { stood := { row := msgWaysUptoRow, standIns := [], harness := (true, "cf2fb7f36b5bf70bfa70822f27aa314b106d61809952f7c5fab057a6336e745d"), looks := true }, kinds := [], alts := [], laidByText := true, laidKinds := [.data, .data, .data, .data, .data, .sentinel, .sentinel, .data, .data, .data, .pinned], laidTests := true, laidLooks := .later }
def MsgWaysUptoCardSaid : Prop := Claim7.holds Tryd.pinned (.plain (OpenSpec.upto msgWaysSpec)) msgWaysUptoCard
end Rows
end Go.Proofs.YtoifcihikokpfaaDoor
