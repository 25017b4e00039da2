/-
  DERIVED. GIVEN WITH THE SEED: THE CARDS: each row of YtmfplkeenombbaaDoorRows.lean that lists a variable, with what it lists TIED to the program's text (the seventh form; the later family's looks); each row that meets fmt, with fmt's text TOLD by the authors' own Lean function (tested against real Go, not proved from fmt's source: count such statements apart). THE CARD IS WHAT COUNTS. Prove the row's statement (the work); the ties are given (YtmfplkeenombbaaDoorTie.lean); close each card by the builder's one call (the guide's Derived/Test/ToyasCard.lean, 'card_holds'). Laid BY PROGRAM, IN A SANDBOX (cutbox-door.mjs). By AI agents, Wed Nov 11 2026. No macro, syntax, notation, axiom, sorry.
-/
import Derived.Test.YtmfplkeenombbaaDoorRows
import GoSem.ClaimSeven
namespace Go.Proofs.YtmfplkeenombbaaDoor
namespace Rows

/-- THE TIED CARD OF 'seisinlaw22.PackBack'. -/
def packBackCard : Claim7 := { stood := { row := packBackRow, standIns := [], harness := (true, "a741fe661f09b6c65b4d18a9944c8af81e7638361fa594b7a5c68239d306b9f3"), looks := false }, kinds := [], alts := [], laidByText := true, laidKinds := [.data, .data], laidTests := true, laidLooks := .later }
def PackBackCardSaid : Prop := Claim7.holds Tryd.pinned (.plain (OpenSpec.ofChange packBackSpec)) packBackCard

/-- THE TIED CARD OF 'seisinlaw22.PackOnly'. -/
def packOnlyCard : Claim7 := { stood := { row := packOnlyRow, standIns := [], harness := (true, "a741fe661f09b6c65b4d18a9944c8af81e7638361fa594b7a5c68239d306b9f3"), looks := false }, kinds := [], alts := [], laidByText := true, laidKinds := [.data, .data], laidTests := true, laidLooks := .later }
def PackOnlyCardSaid : Prop := Claim7.holds Tryd.pinned (.plain (OpenSpec.ofChange packOnlySpec)) packOnlyCard

/-- THE TIED CARD OF 'seisinlaw22.PackLong'. -/
def packLongCard : Claim7 := { stood := { row := packLongRow, standIns := [], harness := (true, "a741fe661f09b6c65b4d18a9944c8af81e7638361fa594b7a5c68239d306b9f3"), looks := false }, kinds := [], alts := [], laidByText := true, laidKinds := [.data, .data], laidTests := true, laidLooks := .later }
def PackLongCardSaid : Prop := Claim7.holds Tryd.pinned (.plain (OpenSpec.ofChange packLongSpec)) packLongCard

/-- THE TIED CARD OF 'seisinlaw22.PackSame'. -/
def packSameCard : Claim7 := { stood := { row := packSameRow, standIns := [], harness := (true, "a741fe661f09b6c65b4d18a9944c8af81e7638361fa594b7a5c68239d306b9f3"), looks := false }, kinds := [], alts := [], laidByText := true, laidKinds := [.data, .data], laidTests := true, laidLooks := .later }
def PackSameCardSaid : Prop := Claim7.holds Tryd.pinned (.plain (OpenSpec.ofChange packSameSpec)) packSameCard

/-- THE SECOND FORM's CARD OF 'seisinlaw22.PackBack'. -/
def packBackUptoCard : Claim7 := { stood := { row := packBackUptoRow, standIns := [], harness := (true, "a741fe661f09b6c65b4d18a9944c8af81e7638361fa594b7a5c68239d306b9f3"), looks := false }, kinds := [], alts := [], laidByText := true, laidKinds := [.data, .data], laidTests := true, laidLooks := .later }
def PackBackUptoCardSaid : Prop := Claim7.holds Tryd.pinned (.plain (OpenSpec.upto packBackSpec)) packBackUptoCard

/-- THE SECOND FORM's CARD OF 'seisinlaw22.PackOnly'. -/
def packOnlyUptoCard : Claim7 := { stood := { row := packOnlyUptoRow, standIns := [], harness := (true, "a741fe661f09b6c65b4d18a9944c8af81e7638361fa594b7a5c68239d306b9f3"), looks := false }, kinds := [], alts := [], laidByText := true, laidKinds := [.data, .data], laidTests := true, laidLooks := .later }
def PackOnlyUptoCardSaid : Prop := Claim7.holds Tryd.pinned (.plain (OpenSpec.upto packOnlySpec)) packOnlyUptoCard

/-- THE SECOND FORM's CARD OF 'seisinlaw22.PackLong'. -/
def packLongUptoCard : Claim7 := { stood := { row := packLongUptoRow, standIns := [], harness := (true, "a741fe661f09b6c65b4d18a9944c8af81e7638361fa594b7a5c68239d306b9f3"), looks := false }, kinds := [], alts := [], laidByText := true, laidKinds := [.data, .data], laidTests := true, laidLooks := .later }
def PackLongUptoCardSaid : Prop := Claim7.holds Tryd.pinned (.plain (OpenSpec.upto packLongSpec)) packLongUptoCard

/-- THE SECOND FORM's CARD OF 'seisinlaw22.PackSame'. -/
def packSameUptoCard : Claim7 := { stood := { row := packSameUptoRow, standIns := [], harness := (true, "a741fe661f09b6c65b4d18a9944c8af81e7638361fa594b7a5c68239d306b9f3"), looks := false }, kinds := [], alts := [], laidByText := true, laidKinds := [.data, .data], laidTests := true, laidLooks := .later }
def PackSameUptoCardSaid : Prop := Claim7.holds Tryd.pinned (.plain (OpenSpec.upto packSameSpec)) packSameUptoCard
end Rows
end Go.Proofs.YtmfplkeenombbaaDoor
