/-
  DERIVED. GIVEN WITH THE SEED: THE CARDS: each row of YtkekidalckflhaaGreatDoorRows.lean that lists a variable, with what it lists TIED to the program's text (the seventh form; the later family's looks); each row that meets fmt, with fmt's text TOLD by the authors' own Lean function (tested against real Go, not proved from fmt's source: count such statements apart). THE CARD IS WHAT COUNTS. Prove the row's statement (the work); the ties are given (YtkekidalckflhaaGreatDoorTie.lean); close each card by the builder's one call (the guide's Derived/Test/ToyasCard.lean, 'card_holds'). Laid BY PROGRAM, IN A SANDBOX (cutbox-door.mjs). By AI agents, Wed Nov 11 2026. No macro, syntax, notation, axiom, sorry.
-/
import Derived.Test.YtkekidalckflhaaGreatDoorRows
import GoSem.ClaimSeven
namespace Go.Proofs.YtkekidalckflhaaGreatDoor
namespace Rows

/-- THE TIED CARD OF 'seisinlaw17.MsgEnds'. -/
def msgEndsCard : Claim7 := { stood := { row := msgEndsRow, standIns := [], harness := (true, "dda6d480666f583b8ab5eb9495826d712d86311a336c14b90deda671d318aaf4"), looks := true }, kinds := [], alts := [], laidByText := true, laidKinds := [.data, .data, .data, .data, .data, .sentinel, .sentinel, .data, .data, .data, .pinned], laidTests := true, laidLooks := .later }
def MsgEndsCardSaid : Prop := Claim7.holds Tryz.pinned (.plain (OpenSpec.ofChange msgEndsSpec)) msgEndsCard

/-- THE SECOND FORM's CARD OF 'seisinlaw17.MsgEnds'. -/
def msgEndsUptoCard : Claim7 := { stood := { row := msgEndsUptoRow, standIns := [], harness := (true, "dda6d480666f583b8ab5eb9495826d712d86311a336c14b90deda671d318aaf4"), looks := true }, kinds := [], alts := [], laidByText := true, laidKinds := [.data, .data, .data, .data, .data, .sentinel, .sentinel, .data, .data, .data, .pinned], laidTests := true, laidLooks := .later }
def MsgEndsUptoCardSaid : Prop := Claim7.holds Tryz.pinned (.plain (OpenSpec.upto msgEndsSpec)) msgEndsUptoCard
end Rows
end Go.Proofs.YtkekidalckflhaaGreatDoor
