/-
  NARROWER THAN 'FOR EVERY INPUT', by the rows' own cells (each row's printed sentence says how): PackBack: loops, laid · PackOnly: loops, laid · PackLong: loops, laid · PackSame: loops, laid.
  DERIVED. THE GIVEN ROWS OF THIS SEAT. 4 by the template 'for every input the law returns true; each argument reads behind the call as it read before'; 0 by the template 'total and deterministic' (their statements: YtmfplkeenombbaaDoorTotals.lean).
  GIVEN WITH THE SEED: the statements are not yours to turn. If you find one false, say at which input.
  Laid BY PROGRAM, IN A SANDBOX (cutbox-rows.mjs): the forced cells as the released guide's own fill.sh prints them over the translation a6a996fc64d2f078… (all of the seat's roots in one cut). By AI agents, Wed Nov 11 2026. No macro, syntax, notation, axiom, sorry.
-/
import Derived.Test.YtmfplkeenombbaaDoorChecked
import GoSem.Claim
import GoSem.ClaimJoined
import GoSem.ClaimMapViews
import Derived.JoinedTies
import Derived.KernelRfl
namespace Go.Proofs.YtmfplkeenombbaaDoor
/- THE CELL 'sum', in the pinned program and in every row, IS THE sha256 OF THE DUMP (.gsa) THAT YtmfplkeenombbaaDoorProg.lean LOADS. Nothing in Lean hashes anything: it is a label: what it is worth is what the hold of that sum in a sandbox is worth. -/
noncomputable def Tryd.pinned : Pinned := { name := "ytmfplkeenombbaadoor", sum := "a6a996fc64d2f07843453f6fb8540199b5de25511a9fc2088edbb14b873d0db8", checked := Tryd.checked }
namespace Rows
def none {H : Type} : Left H := { results := [], args := [] }

/- WHAT THE LISTED PACKAGE-LEVEL VARIABLES READ AS WHEN THE CALL BEGINS. Each datum BY PROGRAM (the guide's laid-datum.mjs) off the statement by which the dump's own 'gosem.cut.vars' lays the variable. In a bare row this is a premise. The card (YtmfplkeenombbaaDoorCards.lean) ties it to the program's text. -/
def laid_seisin_geo_bounds {H : Type} : DataW H := .agg [.lit (.int .i64 4), .lit (.int .i64 2), .lit (.int .i64 4), .lit (.int .i64 4), .lit (.int .i64 4)]
def laid_seisin_msg_classes {H : Type} : DataW H := .agg [.lit (.int .u8 0), .lit (.int .u8 1), .lit (.int .u8 1), .lit (.int .u8 1), .lit (.int .u8 3), .lit (.int .u8 3), .lit (.int .u8 2), .lit (.int .u8 2), .lit (.int .u8 2), .lit (.int .u8 2), .lit (.int .u8 3), .lit (.int .u8 3), .lit (.int .u8 3)]

/-- 'seisinlaw22.PackBack': WHATEVER THE INPUT: true; the input reads as it did. -/
def packBackSpec : ChangeSpec := { name := "packBack", fn := fun _ => fun
  | [d1, d2, d3] => { results := [.lit (.bool true)], args := [d1, d2, d3] }
  | _ => none }
def packBackRow : OpenClaim := { program := "ytmfplkeenombbaadoor", sum := "a6a996fc64d2f07843453f6fb8540199b5de25511a9fc2088edbb14b873d0db8", func := "seisin/seisinlaw22.PackBack", spec := "packBack", unfollowed := true, recurses := true, named := ["seisin/geo.bounds", "seisin/msg.classes"], loops := true, apart := false, laid := [("seisin/geo.bounds", laid_seisin_geo_bounds), ("seisin/msg.classes", laid_seisin_msg_classes)] }
def PackBackSaid : Prop := packBackRow.holds Tryd.pinned (OpenSpec.ofChange packBackSpec)

/-- ITS FALSE NEIGHBOUR: 'it returns false'. Refute it at one input. -/
def packBackWrong : ChangeSpec := { name := "packBack", fn := fun _ => fun
  | [d1, d2, d3] => { results := [.lit (.bool false)], args := [d1, d2, d3] }
  | _ => none }
def PackBackWrongFalsely : Prop := packBackRow.holds Tryd.pinned (OpenSpec.ofChange packBackWrong)

/-- 'seisinlaw22.PackOnly': WHATEVER THE INPUT: true; the input reads as it did. -/
def packOnlySpec : ChangeSpec := { name := "packOnly", fn := fun _ => fun
  | [d1, d2] => { results := [.lit (.bool true)], args := [d1, d2] }
  | _ => none }
def packOnlyRow : OpenClaim := { program := "ytmfplkeenombbaadoor", sum := "a6a996fc64d2f07843453f6fb8540199b5de25511a9fc2088edbb14b873d0db8", func := "seisin/seisinlaw22.PackOnly", spec := "packOnly", unfollowed := true, recurses := true, named := ["seisin/geo.bounds", "seisin/msg.classes"], loops := true, apart := false, laid := [("seisin/geo.bounds", laid_seisin_geo_bounds), ("seisin/msg.classes", laid_seisin_msg_classes)] }
def PackOnlySaid : Prop := packOnlyRow.holds Tryd.pinned (OpenSpec.ofChange packOnlySpec)

/-- ITS FALSE NEIGHBOUR: 'it returns false'. Refute it at one input. -/
def packOnlyWrong : ChangeSpec := { name := "packOnly", fn := fun _ => fun
  | [d1, d2] => { results := [.lit (.bool false)], args := [d1, d2] }
  | _ => none }
def PackOnlyWrongFalsely : Prop := packOnlyRow.holds Tryd.pinned (OpenSpec.ofChange packOnlyWrong)

/-- 'seisinlaw22.PackLong': WHATEVER THE INPUT: true; the input reads as it did. -/
def packLongSpec : ChangeSpec := { name := "packLong", fn := fun _ => fun
  | [d1, d2, d3] => { results := [.lit (.bool true)], args := [d1, d2, d3] }
  | _ => none }
def packLongRow : OpenClaim := { program := "ytmfplkeenombbaadoor", sum := "a6a996fc64d2f07843453f6fb8540199b5de25511a9fc2088edbb14b873d0db8", func := "seisin/seisinlaw22.PackLong", spec := "packLong", unfollowed := true, recurses := true, named := ["seisin/geo.bounds", "seisin/msg.classes"], loops := true, apart := false, laid := [("seisin/geo.bounds", laid_seisin_geo_bounds), ("seisin/msg.classes", laid_seisin_msg_classes)] }
def PackLongSaid : Prop := packLongRow.holds Tryd.pinned (OpenSpec.ofChange packLongSpec)

/-- ITS FALSE NEIGHBOUR: 'it returns false'. Refute it at one input. -/
def packLongWrong : ChangeSpec := { name := "packLong", fn := fun _ => fun
  | [d1, d2, d3] => { results := [.lit (.bool false)], args := [d1, d2, d3] }
  | _ => none }
def PackLongWrongFalsely : Prop := packLongRow.holds Tryd.pinned (OpenSpec.ofChange packLongWrong)

/-- 'seisinlaw22.PackSame': WHATEVER THE INPUT: true; the input reads as it did. -/
def packSameSpec : ChangeSpec := { name := "packSame", fn := fun _ => fun
  | [d1, d2, d3] => { results := [.lit (.bool true)], args := [d1, d2, d3] }
  | _ => none }
def packSameRow : OpenClaim := { program := "ytmfplkeenombbaadoor", sum := "a6a996fc64d2f07843453f6fb8540199b5de25511a9fc2088edbb14b873d0db8", func := "seisin/seisinlaw22.PackSame", spec := "packSame", unfollowed := true, recurses := true, named := ["seisin/geo.bounds", "seisin/msg.classes"], loops := true, apart := false, laid := [("seisin/geo.bounds", laid_seisin_geo_bounds), ("seisin/msg.classes", laid_seisin_msg_classes)] }
def PackSameSaid : Prop := packSameRow.holds Tryd.pinned (OpenSpec.ofChange packSameSpec)

/-- ITS FALSE NEIGHBOUR: 'it returns false'. Refute it at one input. -/
def packSameWrong : ChangeSpec := { name := "packSame", fn := fun _ => fun
  | [d1, d2, d3] => { results := [.lit (.bool false)], args := [d1, d2, d3] }
  | _ => none }
def PackSameWrongFalsely : Prop := packSameRow.holds Tryd.pinned (OpenSpec.ofChange packSameWrong)

/- THE SECOND FORM. 'bulk': how many values and letters a reading holds, each counted each time it is reached (what is shared counts as often as it is met; a slice's spare places count too). A statement '..UptoSaid' is the law's where the arguments, and the package variables that the reading takes, are together of bulk at most 1048576: NARROWER than '..Said'. Prove '..Said' where nothing that the law and all that it calls make is longer than what came in: it says more and counts as full. Else prove '..UptoSaid'. A law counts once. -/
mutual
def uptoBulk {H : Type} : DataW H → Nat
  | .lit (.string bytes) => bytes.length + 1
  | .lit _ => 1
  | .nil => 1
  | .ptr d => uptoBulk d + 1
  | .slice elems spare => uptoBulkAll elems + uptoBulkAll spare + 1
  | .agg parts => uptoBulkAll parts + 1
  | .iface _ d => uptoBulk d + 1
  | .map entries => uptoBulkEntries entries + 1
  | .held _ => 1
def uptoBulkAll {H : Type} : List (DataW H) → Nat
  | [] => 0
  | d :: r => uptoBulk d + uptoBulkAll r
def uptoBulkEntries {H : Type} : List (Lit × DataW H) → Nat
  | [] => 0
  | x :: r => uptoBulkEntry x + uptoBulkEntries r
def uptoBulkEntry {H : Type} : Lit × DataW H → Nat
  | (.string bytes, d) => bytes.length + uptoBulk d + 1
  | (_, d) => uptoBulk d + 1
 end
def uptoSmall : (H : Type) → List (DataW H) → Bool := fun _ ds => decide (uptoBulkAll ds ≤ 1048576)
def OpenSpec.upto (s : _root_.Go.ChangeSpec) : _root_.Go.OpenSpec := { _root_.Go.OpenSpec.ofChange s with cond := some uptoSmall }

/-- 'seisinlaw22.PackBack', WHERE WHAT IT READS IS OF BULK AT MOST 1048576: true; the input reads as it did. -/
def packBackUptoRow : OpenClaim := { program := "ytmfplkeenombbaadoor", sum := "a6a996fc64d2f07843453f6fb8540199b5de25511a9fc2088edbb14b873d0db8", func := "seisin/seisinlaw22.PackBack", spec := "packBack", unfollowed := true, recurses := true, named := ["seisin/geo.bounds", "seisin/msg.classes"], loops := true, apart := false, laid := [("seisin/geo.bounds", laid_seisin_geo_bounds), ("seisin/msg.classes", laid_seisin_msg_classes)], narrowed := true }
def PackBackUptoSaid : Prop := packBackUptoRow.holds Tryd.pinned (OpenSpec.upto packBackSpec)

/-- 'seisinlaw22.PackOnly', WHERE WHAT IT READS IS OF BULK AT MOST 1048576: true; the input reads as it did. -/
def packOnlyUptoRow : OpenClaim := { program := "ytmfplkeenombbaadoor", sum := "a6a996fc64d2f07843453f6fb8540199b5de25511a9fc2088edbb14b873d0db8", func := "seisin/seisinlaw22.PackOnly", spec := "packOnly", unfollowed := true, recurses := true, named := ["seisin/geo.bounds", "seisin/msg.classes"], loops := true, apart := false, laid := [("seisin/geo.bounds", laid_seisin_geo_bounds), ("seisin/msg.classes", laid_seisin_msg_classes)], narrowed := true }
def PackOnlyUptoSaid : Prop := packOnlyUptoRow.holds Tryd.pinned (OpenSpec.upto packOnlySpec)

/-- 'seisinlaw22.PackLong', WHERE WHAT IT READS IS OF BULK AT MOST 1048576: true; the input reads as it did. -/
def packLongUptoRow : OpenClaim := { program := "ytmfplkeenombbaadoor", sum := "a6a996fc64d2f07843453f6fb8540199b5de25511a9fc2088edbb14b873d0db8", func := "seisin/seisinlaw22.PackLong", spec := "packLong", unfollowed := true, recurses := true, named := ["seisin/geo.bounds", "seisin/msg.classes"], loops := true, apart := false, laid := [("seisin/geo.bounds", laid_seisin_geo_bounds), ("seisin/msg.classes", laid_seisin_msg_classes)], narrowed := true }
def PackLongUptoSaid : Prop := packLongUptoRow.holds Tryd.pinned (OpenSpec.upto packLongSpec)

/-- 'seisinlaw22.PackSame', WHERE WHAT IT READS IS OF BULK AT MOST 1048576: true; the input reads as it did. -/
def packSameUptoRow : OpenClaim := { program := "ytmfplkeenombbaadoor", sum := "a6a996fc64d2f07843453f6fb8540199b5de25511a9fc2088edbb14b873d0db8", func := "seisin/seisinlaw22.PackSame", spec := "packSame", unfollowed := true, recurses := true, named := ["seisin/geo.bounds", "seisin/msg.classes"], loops := true, apart := false, laid := [("seisin/geo.bounds", laid_seisin_geo_bounds), ("seisin/msg.classes", laid_seisin_msg_classes)], narrowed := true }
def PackSameUptoSaid : Prop := packSameUptoRow.holds Tryd.pinned (OpenSpec.upto packSameSpec)

end Rows
end Go.Proofs.YtmfplkeenombbaaDoor
