/-
  NARROWER THAN 'FOR EVERY INPUT', by the rows' own cells (each row's printed sentence says how): NetNext: laid · NetSame: laid · NetAll: laid · NetSorts: laid.
  DERIVED. THE GIVEN ROWS OF THIS SEAT. 4 by the template 'for every input the law returns true; each argument reads behind the call as it read before'; 0 by the template 'total and deterministic' (their statements: YtflljnnndmkfkaaDoorTotals.lean).
  GIVEN WITH THE SEED: the statements are not yours to turn. If you find one false, say at which input.
  Laid BY PROGRAM, IN A SANDBOX (cutbox-rows.mjs): the forced cells as the released guide's own fill.sh prints them over the translation 241698f2a7791929… (all of the seat's roots in one cut). By AI agents, Wed Nov 11 2026. No macro, syntax, notation, axiom, sorry.
-/
import Derived.Test.YtflljnnndmkfkaaDoorChecked
import GoSem.Claim
import GoSem.ClaimJoined
import GoSem.ClaimMapViews
import Derived.JoinedTies
import Derived.KernelRfl
namespace Go.Proofs.YtflljnnndmkfkaaDoor
/- THE CELL 'sum', in the pinned program and in every row, IS THE sha256 OF THE DUMP (.gsa) THAT YtflljnnndmkfkaaDoorProg.lean LOADS. Nothing in Lean hashes anything: it is a label: what it is worth is what the hold of that sum in a sandbox is worth. -/
noncomputable def Tryd.pinned : Pinned := { name := "ytflljnnndmkfkaadoor", sum := "241698f2a77919297db0ebaff1aac8d86c0d971fb872eb325e98df5a6b4cedb7", checked := Tryd.checked }
namespace Rows
def none {H : Type} : Left H := { results := [], args := [] }

/- WHAT THE LISTED PACKAGE-LEVEL VARIABLES READ AS WHEN THE CALL BEGINS. Each datum BY PROGRAM (the guide's laid-datum.mjs) off the statement by which the dump's own 'gosem.cut.vars' lays the variable. In a bare row this is a premise. The card (YtflljnnndmkfkaaDoorCards.lean) ties it to the program's text. -/
def laid_seisin_msg_classes {H : Type} : DataW H := .agg [.lit (.int .u8 0), .lit (.int .u8 1), .lit (.int .u8 1), .lit (.int .u8 1), .lit (.int .u8 3), .lit (.int .u8 3), .lit (.int .u8 2), .lit (.int .u8 2), .lit (.int .u8 2), .lit (.int .u8 2), .lit (.int .u8 3), .lit (.int .u8 3), .lit (.int .u8 3)]

/-- 'seisinlaw18.NetNext': WHATEVER THE INPUT: true; the input reads as it did. -/
def netNextSpec : ChangeSpec := { name := "netNext", fn := fun _ => fun
  | [d] => { results := [.lit (.bool true)], args := [d] }
  | _ => none }
def netNextRow : OpenClaim := { program := "ytflljnnndmkfkaadoor", sum := "241698f2a77919297db0ebaff1aac8d86c0d971fb872eb325e98df5a6b4cedb7", func := "seisin/seisinlaw18.NetNext", spec := "netNext", unfollowed := true, recurses := true, named := ["seisin/msg.classes"], plainKeys := false, apart := false, laid := [("seisin/msg.classes", laid_seisin_msg_classes)] }
def NetNextSaid : Prop := netNextRow.holds Tryd.pinned (OpenSpec.ofChange netNextSpec)

/-- ITS FALSE NEIGHBOUR: 'it returns false'. Refute it at one input. -/
def netNextWrong : ChangeSpec := { name := "netNext", fn := fun _ => fun
  | [d] => { results := [.lit (.bool false)], args := [d] }
  | _ => none }
def NetNextWrongFalsely : Prop := netNextRow.holds Tryd.pinned (OpenSpec.ofChange netNextWrong)

/-- 'seisinlaw18.NetSame': WHATEVER THE INPUT: true; the input reads as it did. -/
def netSameSpec : ChangeSpec := { name := "netSame", fn := fun _ => fun
  | [d1, d2, d3] => { results := [.lit (.bool true)], args := [d1, d2, d3] }
  | _ => none }
def netSameRow : OpenClaim := { program := "ytflljnnndmkfkaadoor", sum := "241698f2a77919297db0ebaff1aac8d86c0d971fb872eb325e98df5a6b4cedb7", func := "seisin/seisinlaw18.NetSame", spec := "netSame", unfollowed := true, recurses := true, named := ["seisin/msg.classes"], plainKeys := false, apart := false, laid := [("seisin/msg.classes", laid_seisin_msg_classes)] }
def NetSameSaid : Prop := netSameRow.holds Tryd.pinned (OpenSpec.ofChange netSameSpec)

/-- ITS FALSE NEIGHBOUR: 'it returns false'. Refute it at one input. -/
def netSameWrong : ChangeSpec := { name := "netSame", fn := fun _ => fun
  | [d1, d2, d3] => { results := [.lit (.bool false)], args := [d1, d2, d3] }
  | _ => none }
def NetSameWrongFalsely : Prop := netSameRow.holds Tryd.pinned (OpenSpec.ofChange netSameWrong)

/-- 'seisinlaw18.NetAll': WHATEVER THE INPUT: true; the input reads as it did. -/
def netAllSpec : ChangeSpec := { name := "netAll", fn := fun _ => fun
  | [d1, d2, d3] => { results := [.lit (.bool true)], args := [d1, d2, d3] }
  | _ => none }
def netAllRow : OpenClaim := { program := "ytflljnnndmkfkaadoor", sum := "241698f2a77919297db0ebaff1aac8d86c0d971fb872eb325e98df5a6b4cedb7", func := "seisin/seisinlaw18.NetAll", spec := "netAll", unfollowed := true, recurses := true, named := ["seisin/msg.classes"], plainKeys := false, apart := false, laid := [("seisin/msg.classes", laid_seisin_msg_classes)] }
def NetAllSaid : Prop := netAllRow.holds Tryd.pinned (OpenSpec.ofChange netAllSpec)

/-- ITS FALSE NEIGHBOUR: 'it returns false'. Refute it at one input. -/
def netAllWrong : ChangeSpec := { name := "netAll", fn := fun _ => fun
  | [d1, d2, d3] => { results := [.lit (.bool false)], args := [d1, d2, d3] }
  | _ => none }
def NetAllWrongFalsely : Prop := netAllRow.holds Tryd.pinned (OpenSpec.ofChange netAllWrong)

/-- 'seisinlaw18.NetSorts': WHATEVER THE INPUT: true; the input reads as it did. -/
def netSortsSpec : ChangeSpec := { name := "netSorts", fn := fun _ => fun
  | [d1, d2, d3, d4] => { results := [.lit (.bool true)], args := [d1, d2, d3, d4] }
  | _ => none }
def netSortsRow : OpenClaim := { program := "ytflljnnndmkfkaadoor", sum := "241698f2a77919297db0ebaff1aac8d86c0d971fb872eb325e98df5a6b4cedb7", func := "seisin/seisinlaw18.NetSorts", spec := "netSorts", unfollowed := true, recurses := true, named := ["seisin/msg.classes"], plainKeys := false, apart := false, laid := [("seisin/msg.classes", laid_seisin_msg_classes)] }
def NetSortsSaid : Prop := netSortsRow.holds Tryd.pinned (OpenSpec.ofChange netSortsSpec)

/-- ITS FALSE NEIGHBOUR: 'it returns false'. Refute it at one input. -/
def netSortsWrong : ChangeSpec := { name := "netSorts", fn := fun _ => fun
  | [d1, d2, d3, d4] => { results := [.lit (.bool false)], args := [d1, d2, d3, d4] }
  | _ => none }
def NetSortsWrongFalsely : Prop := netSortsRow.holds Tryd.pinned (OpenSpec.ofChange netSortsWrong)

/- THE SECOND FORM. 'bulk': how many values and letters a reading holds, each counted each time it is reached (what is shared counts as often as it is met; a slice's spare places count too). A statement '..UptoSaid' is the law's where the arguments, and the package variables that the reading takes, are together of bulk at most 1048576: NARROWER than '..Said'. Prove '..Said' where nothing that the law and all that it calls make is longer than what came in: it says more and counts as full. Else prove '..UptoSaid'. A law counts once. -/
mutual
def uptoBulk {H : Type} : DataW H → Nat
  | .lit (.string bytes) => bytes.length + 1
  | .lit _ => 1
  | .nil => 1
  | .ptr d => uptoBulk d + 1
  | .slice elems spare => uptoBulkAll elems + uptoBulkAll spare + 1
  | .agg parts => uptoBulkAll parts + 1
  | .iface _ d => uptoBulk d + 1
  | .map entries => uptoBulkEntries entries + 1
  | .held _ => 1
def uptoBulkAll {H : Type} : List (DataW H) → Nat
  | [] => 0
  | d :: r => uptoBulk d + uptoBulkAll r
def uptoBulkEntries {H : Type} : List (Lit × DataW H) → Nat
  | [] => 0
  | x :: r => uptoBulkEntry x + uptoBulkEntries r
def uptoBulkEntry {H : Type} : Lit × DataW H → Nat
  | (.string bytes, d) => bytes.length + uptoBulk d + 1
  | (_, d) => uptoBulk d + 1
 end
def uptoSmall : (H : Type) → List (DataW H) → Bool := fun _ ds => decide (uptoBulkAll ds ≤ 1048576)
def OpenSpec.upto (s : _root_.Go.ChangeSpec) : _root_.Go.OpenSpec := { _root_.Go.OpenSpec.ofChange s with cond := some uptoSmall }

/-- 'seisinlaw18.NetNext', WHERE WHAT IT READS IS OF BULK AT MOST 1048576: true; the input reads as it did. -/
def netNextUptoRow : OpenClaim := { program := "ytflljnnndmkfkaadoor", sum := "241698f2a77919297db0ebaff1aac8d86c0d971fb872eb325e98df5a6b4cedb7", func := "seisin/seisinlaw18.NetNext", spec := "netNext", unfollowed := true, recurses := true, named := ["seisin/msg.classes"], plainKeys := false, apart := false, laid := [("seisin/msg.classes", laid_seisin_msg_classes)], narrowed := true }
def NetNextUptoSaid : Prop := netNextUptoRow.holds Tryd.pinned (OpenSpec.upto netNextSpec)

/-- 'seisinlaw18.NetSame', WHERE WHAT IT READS IS OF BULK AT MOST 1048576: true; the input reads as it did. -/
def netSameUptoRow : OpenClaim := { program := "ytflljnnndmkfkaadoor", sum := "241698f2a77919297db0ebaff1aac8d86c0d971fb872eb325e98df5a6b4cedb7", func := "seisin/seisinlaw18.NetSame", spec := "netSame", unfollowed := true, recurses := true, named := ["seisin/msg.classes"], plainKeys := false, apart := false, laid := [("seisin/msg.classes", laid_seisin_msg_classes)], narrowed := true }
def NetSameUptoSaid : Prop := netSameUptoRow.holds Tryd.pinned (OpenSpec.upto netSameSpec)

/-- 'seisinlaw18.NetAll', WHERE WHAT IT READS IS OF BULK AT MOST 1048576: true; the input reads as it did. -/
def netAllUptoRow : OpenClaim := { program := "ytflljnnndmkfkaadoor", sum := "241698f2a77919297db0ebaff1aac8d86c0d971fb872eb325e98df5a6b4cedb7", func := "seisin/seisinlaw18.NetAll", spec := "netAll", unfollowed := true, recurses := true, named := ["seisin/msg.classes"], plainKeys := false, apart := false, laid := [("seisin/msg.classes", laid_seisin_msg_classes)], narrowed := true }
def NetAllUptoSaid : Prop := netAllUptoRow.holds Tryd.pinned (OpenSpec.upto netAllSpec)

/-- 'seisinlaw18.NetSorts', WHERE WHAT IT READS IS OF BULK AT MOST 1048576: true; the input reads as it did. -/
def netSortsUptoRow : OpenClaim := { program := "ytflljnnndmkfkaadoor", sum := "241698f2a77919297db0ebaff1aac8d86c0d971fb872eb325e98df5a6b4cedb7", func := "seisin/seisinlaw18.NetSorts", spec := "netSorts", unfollowed := true, recurses := true, named := ["seisin/msg.classes"], plainKeys := false, apart := false, laid := [("seisin/msg.classes", laid_seisin_msg_classes)], narrowed := true }
def NetSortsUptoSaid : Prop := netSortsUptoRow.holds Tryd.pinned (OpenSpec.upto netSortsSpec)

end Rows
end Go.Proofs.YtflljnnndmkfkaaDoor
