/-
  NARROWER THAN 'FOR EVERY INPUT', by the rows' own cells (each row's printed sentence says how): CandMany: loops, laid · CandSpoilt: loops, laid · CandWrong: loops, laid · CandChoice: loops, laid · CandEach: loops, laid · CandPaths: loops, laid.
  DERIVED. THE GIVEN ROWS OF THIS SEAT. 6 by the template 'for every input the law returns true; each argument reads behind the call as it read before'; 0 by the template 'total and deterministic' (their statements: YtpalcnbhkigagaaGreatDoorTotals.lean).
  GIVEN WITH THE SEED: the statements are not yours to turn. If you find one false, say at which input.
  Laid BY PROGRAM, IN A SANDBOX (cutbox-rows.mjs): the forced cells as the released guide's own fill.sh prints them over the translation acda8bdd220b1919… (all of the seat's roots in one cut). By AI agents, Wed Nov 11 2026. No macro, syntax, notation, axiom, sorry.
-/
import Derived.Test.YtpalcnbhkigagaaGreatDoorChecked
import GoSem.Claim
import GoSem.ClaimJoined
import GoSem.ClaimMapViews
import Derived.JoinedTies
import Derived.KernelRfl
namespace Go.Proofs.YtpalcnbhkigagaaGreatDoor
/- THE CELL 'sum', in the pinned program and in every row, IS THE sha256 OF THE DUMP (.gsa) THAT YtpalcnbhkigagaaGreatDoorProg.lean LOADS. Nothing in Lean hashes anything: it is a label: what it is worth is what the hold of that sum in a sandbox is worth. -/
noncomputable def Tryz.pinned : Pinned := { name := "ytpalcnbhkigagaagreatdoor", sum := "acda8bdd220b19198d7d1a5999992ac7d6a321c8ac4652d73e4990f99bc27de7", checked := Tryz.checked }
namespace Rows
def none {H : Type} : Left H := { results := [], args := [] }

/- WHAT THE LISTED PACKAGE-LEVEL VARIABLES READ AS WHEN THE CALL BEGINS. Each datum BY PROGRAM (the guide's laid-datum.mjs) off the statement by which the dump's own 'gosem.cut.vars' lays the variable. In a bare row this is a premise. The card (YtpalcnbhkigagaaGreatDoorCards.lean) ties it to the program's text. -/
def laid_math_bits_deBruijn32tab {H : Type} : DataW H := .agg [.lit (.int .u8 0), .lit (.int .u8 1), .lit (.int .u8 28), .lit (.int .u8 2), .lit (.int .u8 29), .lit (.int .u8 14), .lit (.int .u8 24), .lit (.int .u8 3), .lit (.int .u8 30), .lit (.int .u8 22), .lit (.int .u8 20), .lit (.int .u8 15), .lit (.int .u8 25), .lit (.int .u8 17), .lit (.int .u8 4), .lit (.int .u8 8), .lit (.int .u8 31), .lit (.int .u8 27), .lit (.int .u8 13), .lit (.int .u8 23), .lit (.int .u8 21), .lit (.int .u8 19), .lit (.int .u8 16), .lit (.int .u8 7), .lit (.int .u8 26), .lit (.int .u8 12), .lit (.int .u8 18), .lit (.int .u8 6), .lit (.int .u8 11), .lit (.int .u8 5), .lit (.int .u8 10), .lit (.int .u8 9)]
def laid_math_bits_deBruijn64tab {H : Type} : DataW H := .agg [.lit (.int .u8 0), .lit (.int .u8 1), .lit (.int .u8 56), .lit (.int .u8 2), .lit (.int .u8 57), .lit (.int .u8 49), .lit (.int .u8 28), .lit (.int .u8 3), .lit (.int .u8 61), .lit (.int .u8 58), .lit (.int .u8 42), .lit (.int .u8 50), .lit (.int .u8 38), .lit (.int .u8 29), .lit (.int .u8 17), .lit (.int .u8 4), .lit (.int .u8 62), .lit (.int .u8 47), .lit (.int .u8 59), .lit (.int .u8 36), .lit (.int .u8 45), .lit (.int .u8 43), .lit (.int .u8 51), .lit (.int .u8 22), .lit (.int .u8 53), .lit (.int .u8 39), .lit (.int .u8 33), .lit (.int .u8 30), .lit (.int .u8 24), .lit (.int .u8 18), .lit (.int .u8 12), .lit (.int .u8 5), .lit (.int .u8 63), .lit (.int .u8 55), .lit (.int .u8 48), .lit (.int .u8 27), .lit (.int .u8 60), .lit (.int .u8 41), .lit (.int .u8 37), .lit (.int .u8 16), .lit (.int .u8 46), .lit (.int .u8 35), .lit (.int .u8 44), .lit (.int .u8 21), .lit (.int .u8 52), .lit (.int .u8 32), .lit (.int .u8 23), .lit (.int .u8 11), .lit (.int .u8 54), .lit (.int .u8 26), .lit (.int .u8 40), .lit (.int .u8 15), .lit (.int .u8 34), .lit (.int .u8 20), .lit (.int .u8 31), .lit (.int .u8 10), .lit (.int .u8 25), .lit (.int .u8 14), .lit (.int .u8 19), .lit (.int .u8 9), .lit (.int .u8 13), .lit (.int .u8 8), .lit (.int .u8 7), .lit (.int .u8 6)]
def laid_seisin_check_needs {H : Type} : DataW H := .agg [.lit (.int .u8 0), .lit (.int .u8 35), .lit (.int .u8 38), .lit (.int .u8 29), .lit (.int .u8 7), .lit (.int .u8 7), .lit (.int .u8 15), .lit (.int .u8 32), .lit (.int .u8 92)]

/-- 'seisinlaw09.CandMany': WHATEVER THE INPUT: true; the input reads as it did. -/
def candManySpec : ChangeSpec := { name := "candMany", fn := fun _ => fun
  | [d] => { results := [.lit (.bool true)], args := [d] }
  | _ => none }
def candManyRow : OpenClaim := { program := "ytpalcnbhkigagaagreatdoor", sum := "acda8bdd220b19198d7d1a5999992ac7d6a321c8ac4652d73e4990f99bc27de7", func := "seisin/seisinlaw09.CandMany", spec := "candMany", unfollowed := true, recurses := true, named := ["seisin/check.needs", "math/bits.deBruijn32tab", "math/bits.deBruijn64tab"], loops := true, apart := false, laid := [("math/bits.deBruijn32tab", laid_math_bits_deBruijn32tab), ("math/bits.deBruijn64tab", laid_math_bits_deBruijn64tab), ("seisin/check.needs", laid_seisin_check_needs)] }
def CandManySaid : Prop := candManyRow.holds Tryz.pinned (OpenSpec.ofChange candManySpec)

/-- ITS FALSE NEIGHBOUR: 'it returns false'. Refute it at one input. -/
def candManyWrong : ChangeSpec := { name := "candMany", fn := fun _ => fun
  | [d] => { results := [.lit (.bool false)], args := [d] }
  | _ => none }
def CandManyWrongFalsely : Prop := candManyRow.holds Tryz.pinned (OpenSpec.ofChange candManyWrong)

/-- 'seisinlaw09.CandSpoilt': WHATEVER THE INPUT: true; the input reads as it did. -/
def candSpoiltSpec : ChangeSpec := { name := "candSpoilt", fn := fun _ => fun
  | [d1, d2, d3, d4] => { results := [.lit (.bool true)], args := [d1, d2, d3, d4] }
  | _ => none }
def candSpoiltRow : OpenClaim := { program := "ytpalcnbhkigagaagreatdoor", sum := "acda8bdd220b19198d7d1a5999992ac7d6a321c8ac4652d73e4990f99bc27de7", func := "seisin/seisinlaw09.CandSpoilt", spec := "candSpoilt", unfollowed := true, recurses := true, named := ["seisin/check.needs", "math/bits.deBruijn32tab", "math/bits.deBruijn64tab"], loops := true, apart := false, laid := [("math/bits.deBruijn32tab", laid_math_bits_deBruijn32tab), ("math/bits.deBruijn64tab", laid_math_bits_deBruijn64tab), ("seisin/check.needs", laid_seisin_check_needs)] }
def CandSpoiltSaid : Prop := candSpoiltRow.holds Tryz.pinned (OpenSpec.ofChange candSpoiltSpec)

/-- ITS FALSE NEIGHBOUR: 'it returns false'. Refute it at one input. -/
def candSpoiltWrong : ChangeSpec := { name := "candSpoilt", fn := fun _ => fun
  | [d1, d2, d3, d4] => { results := [.lit (.bool false)], args := [d1, d2, d3, d4] }
  | _ => none }
def CandSpoiltWrongFalsely : Prop := candSpoiltRow.holds Tryz.pinned (OpenSpec.ofChange candSpoiltWrong)

/-- 'seisinlaw09.CandWrong': WHATEVER THE INPUT: true; the input reads as it did. -/
def candWrongSpec : ChangeSpec := { name := "candWrong", fn := fun _ => fun
  | [d1, d2, d3] => { results := [.lit (.bool true)], args := [d1, d2, d3] }
  | _ => none }
def candWrongRow : OpenClaim := { program := "ytpalcnbhkigagaagreatdoor", sum := "acda8bdd220b19198d7d1a5999992ac7d6a321c8ac4652d73e4990f99bc27de7", func := "seisin/seisinlaw09.CandWrong", spec := "candWrong", unfollowed := true, recurses := true, named := ["seisin/check.needs", "math/bits.deBruijn32tab", "math/bits.deBruijn64tab"], loops := true, apart := false, laid := [("math/bits.deBruijn32tab", laid_math_bits_deBruijn32tab), ("math/bits.deBruijn64tab", laid_math_bits_deBruijn64tab), ("seisin/check.needs", laid_seisin_check_needs)] }
def CandWrongSaid : Prop := candWrongRow.holds Tryz.pinned (OpenSpec.ofChange candWrongSpec)

/-- ITS FALSE NEIGHBOUR: 'it returns false'. Refute it at one input. -/
def candWrongWrong : ChangeSpec := { name := "candWrong", fn := fun _ => fun
  | [d1, d2, d3] => { results := [.lit (.bool false)], args := [d1, d2, d3] }
  | _ => none }
def CandWrongWrongFalsely : Prop := candWrongRow.holds Tryz.pinned (OpenSpec.ofChange candWrongWrong)

/-- 'seisinlaw09.CandChoice': WHATEVER THE INPUT: true; the input reads as it did. -/
def candChoiceSpec : ChangeSpec := { name := "candChoice", fn := fun _ => fun
  | [d1, d2, d3, d4] => { results := [.lit (.bool true)], args := [d1, d2, d3, d4] }
  | _ => none }
def candChoiceRow : OpenClaim := { program := "ytpalcnbhkigagaagreatdoor", sum := "acda8bdd220b19198d7d1a5999992ac7d6a321c8ac4652d73e4990f99bc27de7", func := "seisin/seisinlaw09.CandChoice", spec := "candChoice", unfollowed := true, recurses := true, named := ["seisin/check.needs", "math/bits.deBruijn32tab", "math/bits.deBruijn64tab"], loops := true, apart := false, laid := [("math/bits.deBruijn32tab", laid_math_bits_deBruijn32tab), ("math/bits.deBruijn64tab", laid_math_bits_deBruijn64tab), ("seisin/check.needs", laid_seisin_check_needs)] }
def CandChoiceSaid : Prop := candChoiceRow.holds Tryz.pinned (OpenSpec.ofChange candChoiceSpec)

/-- ITS FALSE NEIGHBOUR: 'it returns false'. Refute it at one input. -/
def candChoiceWrong : ChangeSpec := { name := "candChoice", fn := fun _ => fun
  | [d1, d2, d3, d4] => { results := [.lit (.bool false)], args := [d1, d2, d3, d4] }
  | _ => none }
def CandChoiceWrongFalsely : Prop := candChoiceRow.holds Tryz.pinned (OpenSpec.ofChange candChoiceWrong)

/-- 'seisinlaw09.CandEach': WHATEVER THE INPUT: true; the input reads as it did. -/
def candEachSpec : ChangeSpec := { name := "candEach", fn := fun _ => fun
  | [d] => { results := [.lit (.bool true)], args := [d] }
  | _ => none }
def candEachRow : OpenClaim := { program := "ytpalcnbhkigagaagreatdoor", sum := "acda8bdd220b19198d7d1a5999992ac7d6a321c8ac4652d73e4990f99bc27de7", func := "seisin/seisinlaw09.CandEach", spec := "candEach", unfollowed := true, recurses := true, named := ["seisin/check.needs", "math/bits.deBruijn32tab", "math/bits.deBruijn64tab"], loops := true, apart := false, laid := [("math/bits.deBruijn32tab", laid_math_bits_deBruijn32tab), ("math/bits.deBruijn64tab", laid_math_bits_deBruijn64tab), ("seisin/check.needs", laid_seisin_check_needs)] }
def CandEachSaid : Prop := candEachRow.holds Tryz.pinned (OpenSpec.ofChange candEachSpec)

/-- ITS FALSE NEIGHBOUR: 'it returns false'. Refute it at one input. -/
def candEachWrong : ChangeSpec := { name := "candEach", fn := fun _ => fun
  | [d] => { results := [.lit (.bool false)], args := [d] }
  | _ => none }
def CandEachWrongFalsely : Prop := candEachRow.holds Tryz.pinned (OpenSpec.ofChange candEachWrong)

/-- 'seisinlaw09.CandPaths': WHATEVER THE INPUT: true; the input reads as it did. -/
def candPathsSpec : ChangeSpec := { name := "candPaths", fn := fun _ => fun
  | [d1, d2] => { results := [.lit (.bool true)], args := [d1, d2] }
  | _ => none }
def candPathsRow : OpenClaim := { program := "ytpalcnbhkigagaagreatdoor", sum := "acda8bdd220b19198d7d1a5999992ac7d6a321c8ac4652d73e4990f99bc27de7", func := "seisin/seisinlaw09.CandPaths", spec := "candPaths", unfollowed := true, recurses := true, named := ["seisin/check.needs", "math/bits.deBruijn32tab", "math/bits.deBruijn64tab"], loops := true, apart := false, laid := [("math/bits.deBruijn32tab", laid_math_bits_deBruijn32tab), ("math/bits.deBruijn64tab", laid_math_bits_deBruijn64tab), ("seisin/check.needs", laid_seisin_check_needs)] }
def CandPathsSaid : Prop := candPathsRow.holds Tryz.pinned (OpenSpec.ofChange candPathsSpec)

/-- ITS FALSE NEIGHBOUR: 'it returns false'. Refute it at one input. -/
def candPathsWrong : ChangeSpec := { name := "candPaths", fn := fun _ => fun
  | [d1, d2] => { results := [.lit (.bool false)], args := [d1, d2] }
  | _ => none }
def CandPathsWrongFalsely : Prop := candPathsRow.holds Tryz.pinned (OpenSpec.ofChange candPathsWrong)

/- THE SECOND FORM. 'bulk': how many values and letters a reading holds, each counted each time it is reached (what is shared counts as often as it is met; a slice's spare places count too). A statement '..UptoSaid' is the law's where the arguments, and the package variables that the reading takes, are together of bulk at most 1048576: NARROWER than '..Said'. Prove '..Said' where nothing that the law and all that it calls make is longer than what came in: it says more and counts as full. Else prove '..UptoSaid'. A law counts once. -/
mutual
def uptoBulk {H : Type} : DataW H → Nat
  | .lit (.string bytes) => bytes.length + 1
  | .lit _ => 1
  | .nil => 1
  | .ptr d => uptoBulk d + 1
  | .slice elems spare => uptoBulkAll elems + uptoBulkAll spare + 1
  | .agg parts => uptoBulkAll parts + 1
  | .iface _ d => uptoBulk d + 1
  | .map entries => uptoBulkEntries entries + 1
  | .held _ => 1
def uptoBulkAll {H : Type} : List (DataW H) → Nat
  | [] => 0
  | d :: r => uptoBulk d + uptoBulkAll r
def uptoBulkEntries {H : Type} : List (Lit × DataW H) → Nat
  | [] => 0
  | x :: r => uptoBulkEntry x + uptoBulkEntries r
def uptoBulkEntry {H : Type} : Lit × DataW H → Nat
  | (.string bytes, d) => bytes.length + uptoBulk d + 1
  | (_, d) => uptoBulk d + 1
 end
def uptoSmall : (H : Type) → List (DataW H) → Bool := fun _ ds => decide (uptoBulkAll ds ≤ 1048576)
def OpenSpec.upto (s : _root_.Go.ChangeSpec) : _root_.Go.OpenSpec := { _root_.Go.OpenSpec.ofChange s with cond := some uptoSmall }

/-- 'seisinlaw09.CandMany', WHERE WHAT IT READS IS OF BULK AT MOST 1048576: true; the input reads as it did. -/
def candManyUptoRow : OpenClaim := { program := "ytpalcnbhkigagaagreatdoor", sum := "acda8bdd220b19198d7d1a5999992ac7d6a321c8ac4652d73e4990f99bc27de7", func := "seisin/seisinlaw09.CandMany", spec := "candMany", unfollowed := true, recurses := true, named := ["seisin/check.needs", "math/bits.deBruijn32tab", "math/bits.deBruijn64tab"], loops := true, apart := false, laid := [("math/bits.deBruijn32tab", laid_math_bits_deBruijn32tab), ("math/bits.deBruijn64tab", laid_math_bits_deBruijn64tab), ("seisin/check.needs", laid_seisin_check_needs)], narrowed := true }
def CandManyUptoSaid : Prop := candManyUptoRow.holds Tryz.pinned (OpenSpec.upto candManySpec)

/-- 'seisinlaw09.CandSpoilt', WHERE WHAT IT READS IS OF BULK AT MOST 1048576: true; the input reads as it did. -/
def candSpoiltUptoRow : OpenClaim := { program := "ytpalcnbhkigagaagreatdoor", sum := "acda8bdd220b19198d7d1a5999992ac7d6a321c8ac4652d73e4990f99bc27de7", func := "seisin/seisinlaw09.CandSpoilt", spec := "candSpoilt", unfollowed := true, recurses := true, named := ["seisin/check.needs", "math/bits.deBruijn32tab", "math/bits.deBruijn64tab"], loops := true, apart := false, laid := [("math/bits.deBruijn32tab", laid_math_bits_deBruijn32tab), ("math/bits.deBruijn64tab", laid_math_bits_deBruijn64tab), ("seisin/check.needs", laid_seisin_check_needs)], narrowed := true }
def CandSpoiltUptoSaid : Prop := candSpoiltUptoRow.holds Tryz.pinned (OpenSpec.upto candSpoiltSpec)

/-- 'seisinlaw09.CandWrong', WHERE WHAT IT READS IS OF BULK AT MOST 1048576: true; the input reads as it did. -/
def candWrongUptoRow : OpenClaim := { program := "ytpalcnbhkigagaagreatdoor", sum := "acda8bdd220b19198d7d1a5999992ac7d6a321c8ac4652d73e4990f99bc27de7", func := "seisin/seisinlaw09.CandWrong", spec := "candWrong", unfollowed := true, recurses := true, named := ["seisin/check.needs", "math/bits.deBruijn32tab", "math/bits.deBruijn64tab"], loops := true, apart := false, laid := [("math/bits.deBruijn32tab", laid_math_bits_deBruijn32tab), ("math/bits.deBruijn64tab", laid_math_bits_deBruijn64tab), ("seisin/check.needs", laid_seisin_check_needs)], narrowed := true }
def CandWrongUptoSaid : Prop := candWrongUptoRow.holds Tryz.pinned (OpenSpec.upto candWrongSpec)

/-- 'seisinlaw09.CandChoice', WHERE WHAT IT READS IS OF BULK AT MOST 1048576: true; the input reads as it did. -/
def candChoiceUptoRow : OpenClaim := { program := "ytpalcnbhkigagaagreatdoor", sum := "acda8bdd220b19198d7d1a5999992ac7d6a321c8ac4652d73e4990f99bc27de7", func := "seisin/seisinlaw09.CandChoice", spec := "candChoice", unfollowed := true, recurses := true, named := ["seisin/check.needs", "math/bits.deBruijn32tab", "math/bits.deBruijn64tab"], loops := true, apart := false, laid := [("math/bits.deBruijn32tab", laid_math_bits_deBruijn32tab), ("math/bits.deBruijn64tab", laid_math_bits_deBruijn64tab), ("seisin/check.needs", laid_seisin_check_needs)], narrowed := true }
def CandChoiceUptoSaid : Prop := candChoiceUptoRow.holds Tryz.pinned (OpenSpec.upto candChoiceSpec)

/-- 'seisinlaw09.CandEach', WHERE WHAT IT READS IS OF BULK AT MOST 1048576: true; the input reads as it did. -/
def candEachUptoRow : OpenClaim := { program := "ytpalcnbhkigagaagreatdoor", sum := "acda8bdd220b19198d7d1a5999992ac7d6a321c8ac4652d73e4990f99bc27de7", func := "seisin/seisinlaw09.CandEach", spec := "candEach", unfollowed := true, recurses := true, named := ["seisin/check.needs", "math/bits.deBruijn32tab", "math/bits.deBruijn64tab"], loops := true, apart := false, laid := [("math/bits.deBruijn32tab", laid_math_bits_deBruijn32tab), ("math/bits.deBruijn64tab", laid_math_bits_deBruijn64tab), ("seisin/check.needs", laid_seisin_check_needs)], narrowed := true }
def CandEachUptoSaid : Prop := candEachUptoRow.holds Tryz.pinned (OpenSpec.upto candEachSpec)

/-- 'seisinlaw09.CandPaths', WHERE WHAT IT READS IS OF BULK AT MOST 1048576: true; the input reads as it did. -/
def candPathsUptoRow : OpenClaim := { program := "ytpalcnbhkigagaagreatdoor", sum := "acda8bdd220b19198d7d1a5999992ac7d6a321c8ac4652d73e4990f99bc27de7", func := "seisin/seisinlaw09.CandPaths", spec := "candPaths", unfollowed := true, recurses := true, named := ["seisin/check.needs", "math/bits.deBruijn32tab", "math/bits.deBruijn64tab"], loops := true, apart := false, laid := [("math/bits.deBruijn32tab", laid_math_bits_deBruijn32tab), ("math/bits.deBruijn64tab", laid_math_bits_deBruijn64tab), ("seisin/check.needs", laid_seisin_check_needs)], narrowed := true }
def CandPathsUptoSaid : Prop := candPathsUptoRow.holds Tryz.pinned (OpenSpec.upto candPathsSpec)

end Rows
end Go.Proofs.YtpalcnbhkigagaaGreatDoor
