/-
  NARROWER THAN 'FOR EVERY INPUT', by the rows' own cells (each row's printed sentence says how): TurnNet: loops, laid · TurnLeast: loops, laid · TurnTells: loops, laid.
  DERIVED. THE GIVEN ROWS OF THIS SEAT. 3 by the template 'for every input the law returns true; each argument reads behind the call as it read before'; 0 by the template 'total and deterministic' (their statements: YthgmcegmgjoafaaGreatDoorTotals.lean).
  GIVEN WITH THE SEED: the statements are not yours to turn. If you find one false, say at which input.
  Laid BY PROGRAM, IN A SANDBOX (cutbox-rows.mjs): the forced cells as the released guide's own fill.sh prints them over the translation 7e6d78e6d4609a66… (all of the seat's roots in one cut). By AI agents, Wed Nov 11 2026. No macro, syntax, notation, axiom, sorry.
-/
import Derived.Test.YthgmcegmgjoafaaGreatDoorChecked
import GoSem.Claim
import GoSem.ClaimJoined
import GoSem.ClaimMapViews
import Derived.JoinedTies
import Derived.KernelRfl
namespace Go.Proofs.YthgmcegmgjoafaaGreatDoor
/- THE CELL 'sum', in the pinned program and in every row, IS THE sha256 OF THE DUMP (.gsa) THAT YthgmcegmgjoafaaGreatDoorProg.lean LOADS. Nothing in Lean hashes anything: it is a label: what it is worth is what the hold of that sum in a sandbox is worth. -/
noncomputable def Tryz.pinned : Pinned := { name := "ythgmcegmgjoafaagreatdoor", sum := "7e6d78e6d4609a66221620e292f5cf7524ac8e9ead8f3ac7ec01aa6549c69cce", checked := Tryz.checked }
namespace Rows
def none {H : Type} : Left H := { results := [], args := [] }

/- WHAT THE LISTED PACKAGE-LEVEL VARIABLES READ AS WHEN THE CALL BEGINS. Each datum BY PROGRAM (the guide's laid-datum.mjs) off the statement by which the dump's own 'gosem.cut.vars' lays the variable. In a bare row this is a premise. The card (YthgmcegmgjoafaaGreatDoorCards.lean) ties it to the program's text. -/
def laid_seisin_geo_bounds {H : Type} : DataW H := .agg [.lit (.int .i64 4), .lit (.int .i64 2), .lit (.int .i64 4), .lit (.int .i64 4), .lit (.int .i64 4)]
def laid_seisin_check_needs {H : Type} : DataW H := .agg [.lit (.int .u8 0), .lit (.int .u8 35), .lit (.int .u8 38), .lit (.int .u8 29), .lit (.int .u8 7), .lit (.int .u8 7), .lit (.int .u8 15), .lit (.int .u8 32), .lit (.int .u8 92)]
def laid_seisin_msg_uses {H : Type} : DataW H := .agg [.lit (.int .u8 0), .lit (.int .u8 96), .lit (.int .u8 96), .lit (.int .u8 104), .lit (.int .u8 96), .lit (.int .u8 104), .lit (.int .u8 145), .lit (.int .u8 147), .lit (.int .u8 145), .lit (.int .u8 144), .lit (.int .u8 190), .lit (.int .u8 146), .lit (.int .u8 160)]
def laid_seisin_msg_classes {H : Type} : DataW H := .agg [.lit (.int .u8 0), .lit (.int .u8 1), .lit (.int .u8 1), .lit (.int .u8 1), .lit (.int .u8 3), .lit (.int .u8 3), .lit (.int .u8 2), .lit (.int .u8 2), .lit (.int .u8 2), .lit (.int .u8 2), .lit (.int .u8 3), .lit (.int .u8 3), .lit (.int .u8 3)]

/-- 'seisinlaw23.TurnNet': WHATEVER THE INPUT: true; the input reads as it did. -/
def turnNetSpec : ChangeSpec := { name := "turnNet", fn := fun _ => fun
  | [d1, d2, d3, d4, d5] => { results := [.lit (.bool true)], args := [d1, d2, d3, d4, d5] }
  | _ => none }
def turnNetRow : OpenClaim := { program := "ythgmcegmgjoafaagreatdoor", sum := "7e6d78e6d4609a66221620e292f5cf7524ac8e9ead8f3ac7ec01aa6549c69cce", func := "seisin/seisinlaw23.TurnNet", spec := "turnNet", unfollowed := true, recurses := true, named := ["seisin/geo.bounds", "seisin/check.needs", "seisin/msg.uses", "seisin/msg.classes"], loops := true, plainKeys := false, apart := false, laid := [("seisin/geo.bounds", laid_seisin_geo_bounds), ("seisin/check.needs", laid_seisin_check_needs), ("seisin/msg.uses", laid_seisin_msg_uses), ("seisin/msg.classes", laid_seisin_msg_classes)] }
def TurnNetSaid : Prop := turnNetRow.holds Tryz.pinned (OpenSpec.ofChange turnNetSpec)

/-- ITS FALSE NEIGHBOUR: 'it returns false'. Refute it at one input. -/
def turnNetWrong : ChangeSpec := { name := "turnNet", fn := fun _ => fun
  | [d1, d2, d3, d4, d5] => { results := [.lit (.bool false)], args := [d1, d2, d3, d4, d5] }
  | _ => none }
def TurnNetWrongFalsely : Prop := turnNetRow.holds Tryz.pinned (OpenSpec.ofChange turnNetWrong)

/-- 'seisinlaw23.TurnLeast': WHATEVER THE INPUT: true; the input reads as it did. -/
def turnLeastSpec : ChangeSpec := { name := "turnLeast", fn := fun _ => fun
  | [d1, d2, d3] => { results := [.lit (.bool true)], args := [d1, d2, d3] }
  | _ => none }
def turnLeastRow : OpenClaim := { program := "ythgmcegmgjoafaagreatdoor", sum := "7e6d78e6d4609a66221620e292f5cf7524ac8e9ead8f3ac7ec01aa6549c69cce", func := "seisin/seisinlaw23.TurnLeast", spec := "turnLeast", unfollowed := true, recurses := true, named := ["seisin/geo.bounds", "seisin/check.needs", "seisin/msg.classes"], loops := true, plainKeys := false, apart := false, laid := [("seisin/geo.bounds", laid_seisin_geo_bounds), ("seisin/check.needs", laid_seisin_check_needs), ("seisin/msg.classes", laid_seisin_msg_classes)] }
def TurnLeastSaid : Prop := turnLeastRow.holds Tryz.pinned (OpenSpec.ofChange turnLeastSpec)

/-- ITS FALSE NEIGHBOUR: 'it returns false'. Refute it at one input. -/
def turnLeastWrong : ChangeSpec := { name := "turnLeast", fn := fun _ => fun
  | [d1, d2, d3] => { results := [.lit (.bool false)], args := [d1, d2, d3] }
  | _ => none }
def TurnLeastWrongFalsely : Prop := turnLeastRow.holds Tryz.pinned (OpenSpec.ofChange turnLeastWrong)

/-- 'seisinlaw23.TurnTells': WHATEVER THE INPUT: true; the input reads as it did. -/
def turnTellsSpec : ChangeSpec := { name := "turnTells", fn := fun _ => fun
  | [d1, d2, d3, d4, d5, d6, d7, d8] => { results := [.lit (.bool true)], args := [d1, d2, d3, d4, d5, d6, d7, d8] }
  | _ => none }
def turnTellsRow : OpenClaim := { program := "ythgmcegmgjoafaagreatdoor", sum := "7e6d78e6d4609a66221620e292f5cf7524ac8e9ead8f3ac7ec01aa6549c69cce", func := "seisin/seisinlaw23.TurnTells", spec := "turnTells", unfollowed := true, recurses := true, named := ["seisin/geo.bounds", "seisin/check.needs", "seisin/msg.classes"], loops := true, plainKeys := false, apart := false, laid := [("seisin/geo.bounds", laid_seisin_geo_bounds), ("seisin/check.needs", laid_seisin_check_needs), ("seisin/msg.classes", laid_seisin_msg_classes)] }
def TurnTellsSaid : Prop := turnTellsRow.holds Tryz.pinned (OpenSpec.ofChange turnTellsSpec)

/-- ITS FALSE NEIGHBOUR: 'it returns false'. Refute it at one input. -/
def turnTellsWrong : ChangeSpec := { name := "turnTells", fn := fun _ => fun
  | [d1, d2, d3, d4, d5, d6, d7, d8] => { results := [.lit (.bool false)], args := [d1, d2, d3, d4, d5, d6, d7, d8] }
  | _ => none }
def TurnTellsWrongFalsely : Prop := turnTellsRow.holds Tryz.pinned (OpenSpec.ofChange turnTellsWrong)

/- THE SECOND FORM. 'bulk': how many values and letters a reading holds, each counted each time it is reached (what is shared counts as often as it is met; a slice's spare places count too). A statement '..UptoSaid' is the law's where the arguments, and the package variables that the reading takes, are together of bulk at most 1048576: NARROWER than '..Said'. Prove '..Said' where nothing that the law and all that it calls make is longer than what came in: it says more and counts as full. Else prove '..UptoSaid'. A law counts once. -/
mutual
def uptoBulk {H : Type} : DataW H → Nat
  | .lit (.string bytes) => bytes.length + 1
  | .lit _ => 1
  | .nil => 1
  | .ptr d => uptoBulk d + 1
  | .slice elems spare => uptoBulkAll elems + uptoBulkAll spare + 1
  | .agg parts => uptoBulkAll parts + 1
  | .iface _ d => uptoBulk d + 1
  | .map entries => uptoBulkEntries entries + 1
  | .held _ => 1
def uptoBulkAll {H : Type} : List (DataW H) → Nat
  | [] => 0
  | d :: r => uptoBulk d + uptoBulkAll r
def uptoBulkEntries {H : Type} : List (Lit × DataW H) → Nat
  | [] => 0
  | x :: r => uptoBulkEntry x + uptoBulkEntries r
def uptoBulkEntry {H : Type} : Lit × DataW H → Nat
  | (.string bytes, d) => bytes.length + uptoBulk d + 1
  | (_, d) => uptoBulk d + 1
 end
def uptoSmall : (H : Type) → List (DataW H) → Bool := fun _ ds => decide (uptoBulkAll ds ≤ 1048576)
def OpenSpec.upto (s : _root_.Go.ChangeSpec) : _root_.Go.OpenSpec := { _root_.Go.OpenSpec.ofChange s with cond := some uptoSmall }

/-- 'seisinlaw23.TurnNet', WHERE WHAT IT READS IS OF BULK AT MOST 1048576: true; the input reads as it did. -/
def turnNetUptoRow : OpenClaim := { program := "ythgmcegmgjoafaagreatdoor", sum := "7e6d78e6d4609a66221620e292f5cf7524ac8e9ead8f3ac7ec01aa6549c69cce", func := "seisin/seisinlaw23.TurnNet", spec := "turnNet", unfollowed := true, recurses := true, named := ["seisin/geo.bounds", "seisin/check.needs", "seisin/msg.uses", "seisin/msg.classes"], loops := true, plainKeys := false, apart := false, laid := [("seisin/geo.bounds", laid_seisin_geo_bounds), ("seisin/check.needs", laid_seisin_check_needs), ("seisin/msg.uses", laid_seisin_msg_uses), ("seisin/msg.classes", laid_seisin_msg_classes)], narrowed := true }
def TurnNetUptoSaid : Prop := turnNetUptoRow.holds Tryz.pinned (OpenSpec.upto turnNetSpec)

/-- 'seisinlaw23.TurnLeast', WHERE WHAT IT READS IS OF BULK AT MOST 1048576: true; the input reads as it did. -/
def turnLeastUptoRow : OpenClaim := { program := "ythgmcegmgjoafaagreatdoor", sum := "7e6d78e6d4609a66221620e292f5cf7524ac8e9ead8f3ac7ec01aa6549c69cce", func := "seisin/seisinlaw23.TurnLeast", spec := "turnLeast", unfollowed := true, recurses := true, named := ["seisin/geo.bounds", "seisin/check.needs", "seisin/msg.classes"], loops := true, plainKeys := false, apart := false, laid := [("seisin/geo.bounds", laid_seisin_geo_bounds), ("seisin/check.needs", laid_seisin_check_needs), ("seisin/msg.classes", laid_seisin_msg_classes)], narrowed := true }
def TurnLeastUptoSaid : Prop := turnLeastUptoRow.holds Tryz.pinned (OpenSpec.upto turnLeastSpec)

/-- 'seisinlaw23.TurnTells', WHERE WHAT IT READS IS OF BULK AT MOST 1048576: true; the input reads as it did. -/
def turnTellsUptoRow : OpenClaim := { program := "ythgmcegmgjoafaagreatdoor", sum := "7e6d78e6d4609a66221620e292f5cf7524ac8e9ead8f3ac7ec01aa6549c69cce", func := "seisin/seisinlaw23.TurnTells", spec := "turnTells", unfollowed := true, recurses := true, named := ["seisin/geo.bounds", "seisin/check.needs", "seisin/msg.classes"], loops := true, plainKeys := false, apart := false, laid := [("seisin/geo.bounds", laid_seisin_geo_bounds), ("seisin/check.needs", laid_seisin_check_needs), ("seisin/msg.classes", laid_seisin_msg_classes)], narrowed := true }
def TurnTellsUptoSaid : Prop := turnTellsUptoRow.holds Tryz.pinned (OpenSpec.upto turnTellsSpec)

end Rows
end Go.Proofs.YthgmcegmgjoafaaGreatDoor
