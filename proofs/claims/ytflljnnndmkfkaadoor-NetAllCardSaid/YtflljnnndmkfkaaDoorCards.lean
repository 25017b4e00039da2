/-
  DERIVED. GIVEN WITH THE SEED: THE CARDS: each row of YtflljnnndmkfkaaDoorRows.lean that lists a variable, with what it lists TIED to the program's text (the seventh form; the later family's looks); each row that meets fmt, with fmt's text TOLD by the authors' own Lean function (tested against real Go, not proved from fmt's source: count such statements apart). THE CARD IS WHAT COUNTS. Prove the row's statement (the work); the ties are given (YtflljnnndmkfkaaDoorTie.lean); close each card by the builder's one call (the guide's Derived/Test/ToyasCard.lean, 'card_holds'). Laid BY PROGRAM, IN A SANDBOX (cutbox-door.mjs). By AI agents, Wed Nov 11 2026. No macro, syntax, notation, axiom, sorry.
-/
import Derived.Test.YtflljnnndmkfkaaDoorRows
import GoSem.ClaimSeven
namespace Go.Proofs.YtflljnnndmkfkaaDoor
namespace Rows

/-- THE TIED CARD OF 'seisinlaw18.NetNext'. -/
def netNextCard : Claim7 := { stood := { row := netNextRow, standIns := [], harness := (true, "930a0d5b0b24edcb643afcd3c40b53721ad970cf51dddc7c8511224a844c0432"), looks := false }, kinds := [], alts := [], laidByText := true, laidKinds := [.data], laidTests := true, laidLooks := .later }
def NetNextCardSaid : Prop := Claim7.holds Tryd.pinned (.plain (OpenSpec.ofChange netNextSpec)) netNextCard

/-- THE TIED CARD OF 'seisinlaw18.NetSame'. -/
def netSameCard : Claim7 := { stood := { row := netSameRow, standIns := [], harness := (true, "930a0d5b0b24edcb643afcd3c40b53721ad970cf51dddc7c8511224a844c0432"), looks := false }, kinds := [], alts := [], laidByText := true, laidKinds := [.data], laidTests := true, laidLooks := .later }
def NetSameCardSaid : Prop := Claim7.holds Tryd.pinned (.plain (OpenSpec.ofChange netSameSpec)) netSameCard

/-- THE TIED CARD OF 'seisinlaw18.NetAll'. -/
def netAllCard : Claim7 := { stood := { row := netAllRow, standIns := [], harness := (true, "930a0d5b0b24edcb643afcd3c40b53721ad970cf51dddc7c8511224a844c0432"), looks := false }, kinds := [], alts := [], laidByText := true, laidKinds := [.data], laidTests := true, laidLooks := .later }
def NetAllCardSaid : Prop := Claim7.holds Tryd.pinned (.plain (OpenSpec.ofChange netAllSpec)) netAllCard

/-- THE TIED CARD OF 'seisinlaw18.NetSorts'. -/
def netSortsCard : Claim7 := { stood := { row := netSortsRow, standIns := [], harness := (true, "930a0d5b0b24edcb643afcd3c40b53721ad970cf51dddc7c8511224a844c0432"), looks := false }, kinds := [], alts := [], laidByText := true, laidKinds := [.data], laidTests := true, laidLooks := .later }
def NetSortsCardSaid : Prop := Claim7.holds Tryd.pinned (.plain (OpenSpec.ofChange netSortsSpec)) netSortsCard

/-- THE SECOND FORM's CARD OF 'seisinlaw18.NetNext'. -/
def netNextUptoCard : Claim7 := { stood := { row := netNextUptoRow, standIns := [], harness := (true, "930a0d5b0b24edcb643afcd3c40b53721ad970cf51dddc7c8511224a844c0432"), looks := false }, kinds := [], alts := [], laidByText := true, laidKinds := [.data], laidTests := true, laidLooks := .later }
def NetNextUptoCardSaid : Prop := Claim7.holds Tryd.pinned (.plain (OpenSpec.upto netNextSpec)) netNextUptoCard

/-- THE SECOND FORM's CARD OF 'seisinlaw18.NetSame'. -/
def netSameUptoCard : Claim7 := { stood := { row := netSameUptoRow, standIns := [], harness := (true, "930a0d5b0b24edcb643afcd3c40b53721ad970cf51dddc7c8511224a844c0432"), looks := false }, kinds := [], alts := [], laidByText := true, laidKinds := [.data], laidTests := true, laidLooks := .later }
def NetSameUptoCardSaid : Prop := Claim7.holds Tryd.pinned (.plain (OpenSpec.upto netSameSpec)) netSameUptoCard

/-- THE SECOND FORM's CARD OF 'seisinlaw18.NetAll'. -/
def netAllUptoCard : Claim7 := { stood := { row := netAllUptoRow, standIns := [], harness := (true, "930a0d5b0b24edcb643afcd3c40b53721ad970cf51dddc7c8511224a844c0432"), looks := false }, kinds := [], alts := [], laidByText := true, laidKinds := [.data], laidTests := true, laidLooks := .later }
def NetAllUptoCardSaid : Prop := Claim7.holds Tryd.pinned (.plain (OpenSpec.upto netAllSpec)) netAllUptoCard

/-- THE SECOND FORM's CARD OF 'seisinlaw18.NetSorts'. -/
def netSortsUptoCard : Claim7 := { stood := { row := netSortsUptoRow, standIns := [], harness := (true, "930a0d5b0b24edcb643afcd3c40b53721ad970cf51dddc7c8511224a844c0432"), looks := false }, kinds := [], alts := [], laidByText := true, laidKinds := [.data], laidTests := true, laidLooks := .later }
def NetSortsUptoCardSaid : Prop := Claim7.holds Tryd.pinned (.plain (OpenSpec.upto netSortsSpec)) netSortsUptoCard
end Rows
end Go.Proofs.YtflljnnndmkfkaaDoor
