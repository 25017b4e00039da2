/-
  NARROWER THAN 'FOR EVERY INPUT', by the rows' own cells (each row's printed sentence says how): CatLet: loops, laid · CatRules: loops, laid · CatBooks: laid · CatMore: loops, laid · CatBack: loops, laid.
  DERIVED. THE GIVEN ROWS OF THIS SEAT. 5 by the template 'for every input the law returns true; each argument reads behind the call as it read before'; 0 by the template 'total and deterministic' (their statements: YtnadlhpkpnfmbaaGreatDoorTotals.lean).
  GIVEN WITH THE SEED: the statements are not yours to turn. If you find one false, say at which input.
  Laid BY PROGRAM, IN A SANDBOX (cutbox-rows.mjs): the forced cells as the released guide's own fill.sh prints them over the translation e6709b91bee28e3a… (all of the seat's roots in one cut). By AI agents, Wed Nov 11 2026. No macro, syntax, notation, axiom, sorry.
-/
import Derived.Test.YtnadlhpkpnfmbaaGreatDoorChecked
import GoSem.PinnedTables
import GoSem.Claim
import GoSem.ClaimJoined
import GoSem.ClaimMapViews
import Derived.JoinedTies
import Derived.KernelRfl
namespace Go.Proofs.YtnadlhpkpnfmbaaGreatDoor
/- THE CELL 'sum', in the pinned program and in every row, IS THE sha256 OF THE DUMP (.gsa) THAT YtnadlhpkpnfmbaaGreatDoorProg.lean LOADS. Nothing in Lean hashes anything: it is a label: what it is worth is what the hold of that sum in a sandbox is worth. -/
noncomputable def Tryz.pinned : Pinned := { name := "ytnadlhpkpnfmbaagreatdoor", sum := "e6709b91bee28e3a5c90c84ba48afa47ba50c32ead9e1a9631704b8075de7819", checked := Tryz.checked }
namespace Rows
def none {H : Type} : Left H := { results := [], args := [] }

/- WHAT THE LISTED PACKAGE-LEVEL VARIABLES READ AS WHEN THE CALL BEGINS. Each datum BY PROGRAM (the guide's laid-datum.mjs) off the statement by which the dump's own 'gosem.cut.vars' lays the variable. In a bare row this is a premise. The card (YtnadlhpkpnfmbaaGreatDoorCards.lean) ties it to the program's text. -/
def laid_math_bits_deBruijn32tab {H : Type} : DataW H := .agg [.lit (.int .u8 0), .lit (.int .u8 1), .lit (.int .u8 28), .lit (.int .u8 2), .lit (.int .u8 29), .lit (.int .u8 14), .lit (.int .u8 24), .lit (.int .u8 3), .lit (.int .u8 30), .lit (.int .u8 22), .lit (.int .u8 20), .lit (.int .u8 15), .lit (.int .u8 25), .lit (.int .u8 17), .lit (.int .u8 4), .lit (.int .u8 8), .lit (.int .u8 31), .lit (.int .u8 27), .lit (.int .u8 13), .lit (.int .u8 23), .lit (.int .u8 21), .lit (.int .u8 19), .lit (.int .u8 16), .lit (.int .u8 7), .lit (.int .u8 26), .lit (.int .u8 12), .lit (.int .u8 18), .lit (.int .u8 6), .lit (.int .u8 11), .lit (.int .u8 5), .lit (.int .u8 10), .lit (.int .u8 9)]
def laid_math_bits_deBruijn64tab {H : Type} : DataW H := .agg [.lit (.int .u8 0), .lit (.int .u8 1), .lit (.int .u8 56), .lit (.int .u8 2), .lit (.int .u8 57), .lit (.int .u8 49), .lit (.int .u8 28), .lit (.int .u8 3), .lit (.int .u8 61), .lit (.int .u8 58), .lit (.int .u8 42), .lit (.int .u8 50), .lit (.int .u8 38), .lit (.int .u8 29), .lit (.int .u8 17), .lit (.int .u8 4), .lit (.int .u8 62), .lit (.int .u8 47), .lit (.int .u8 59), .lit (.int .u8 36), .lit (.int .u8 45), .lit (.int .u8 43), .lit (.int .u8 51), .lit (.int .u8 22), .lit (.int .u8 53), .lit (.int .u8 39), .lit (.int .u8 33), .lit (.int .u8 30), .lit (.int .u8 24), .lit (.int .u8 18), .lit (.int .u8 12), .lit (.int .u8 5), .lit (.int .u8 63), .lit (.int .u8 55), .lit (.int .u8 48), .lit (.int .u8 27), .lit (.int .u8 60), .lit (.int .u8 41), .lit (.int .u8 37), .lit (.int .u8 16), .lit (.int .u8 46), .lit (.int .u8 35), .lit (.int .u8 44), .lit (.int .u8 21), .lit (.int .u8 52), .lit (.int .u8 32), .lit (.int .u8 23), .lit (.int .u8 11), .lit (.int .u8 54), .lit (.int .u8 26), .lit (.int .u8 40), .lit (.int .u8 15), .lit (.int .u8 34), .lit (.int .u8 20), .lit (.int .u8 31), .lit (.int .u8 10), .lit (.int .u8 25), .lit (.int .u8 14), .lit (.int .u8 19), .lit (.int .u8 9), .lit (.int .u8 13), .lit (.int .u8 8), .lit (.int .u8 7), .lit (.int .u8 6)]
def laid_seisin_check_needs {H : Type} : DataW H := .agg [.lit (.int .u8 0), .lit (.int .u8 35), .lit (.int .u8 38), .lit (.int .u8 29), .lit (.int .u8 7), .lit (.int .u8 7), .lit (.int .u8 15), .lit (.int .u8 32), .lit (.int .u8 92)]
def laid_seisin_cat_needs {H : Type} : DataW H := .agg [.lit (.int .i64 (-1)), .lit (.int .i64 0), .lit (.int .i64 2), .lit (.int .i64 2), .lit (.int .i64 2), .lit (.int .i64 2), .lit (.int .i64 1), .lit (.int .i64 1), .lit (.int .i64 1), .lit (.int .i64 0)]
def laid_seisin_cat_strength {H : Type} : DataW H := .agg [.lit (.int .i64 0), .lit (.int .i64 0), .lit (.int .i64 1), .lit (.int .i64 2), .lit (.int .i64 3), .lit (.int .i64 4), .lit (.int .i64 0), .lit (.int .i64 0), .lit (.int .i64 0), .lit (.int .i64 0)]
def laid_seisin_cat_signs {H : Type} : DataW H := .agg [.lit (.string []), .lit (.string []), .lit (.string [124]), .lit (.string [38]), .lit (.string [92]), .lit (.string [59]), .lit (.string [94, 45, 49]), .lit (.string [43]), .lit (.string [42]), .lit (.string [])]
def laid_seisin_cat_openers {H : Type} : DataW H := .agg [.lit (.string [108, 101, 116]), .lit (.string [97, 99, 121, 99, 108, 105, 99]), .lit (.string [105, 114, 114, 101, 102, 108, 101, 120, 105, 118, 101]), .lit (.string [101, 109, 112, 116, 121])]
def laid_unicode_utf8_acceptRanges {H : Type} : DataW H := .agg [.agg [.lit (.int .u8 128), .lit (.int .u8 191)], .agg [.lit (.int .u8 160), .lit (.int .u8 191)], .agg [.lit (.int .u8 128), .lit (.int .u8 159)], .agg [.lit (.int .u8 144), .lit (.int .u8 191)], .agg [.lit (.int .u8 128), .lit (.int .u8 143)], .agg [.lit (.int .u8 0), .lit (.int .u8 0)], .agg [.lit (.int .u8 0), .lit (.int .u8 0)], .agg [.lit (.int .u8 0), .lit (.int .u8 0)], .agg [.lit (.int .u8 0), .lit (.int .u8 0)], .agg [.lit (.int .u8 0), .lit (.int .u8 0)], .agg [.lit (.int .u8 0), .lit (.int .u8 0)], .agg [.lit (.int .u8 0), .lit (.int .u8 0)], .agg [.lit (.int .u8 0), .lit (.int .u8 0)], .agg [.lit (.int .u8 0), .lit (.int .u8 0)], .agg [.lit (.int .u8 0), .lit (.int .u8 0)], .agg [.lit (.int .u8 0), .lit (.int .u8 0)]]
/-- One of Go's own tables, pinned by name: the form's constant. -/
def laid_unicode_utf8_first : DataW Unit := Go.Pinned.utf8First

/-- 'seisinlaw11.CatLet': WHATEVER THE INPUT: true; the input reads as it did. -/
def catLetSpec : ChangeSpec := { name := "catLet", fn := fun _ => fun
  | [d1, d2, d3] => { results := [.lit (.bool true)], args := [d1, d2, d3] }
  | _ => none }
def catLetRow : OpenClaim := { program := "ytnadlhpkpnfmbaagreatdoor", sum := "e6709b91bee28e3a5c90c84ba48afa47ba50c32ead9e1a9631704b8075de7819", func := "seisin/seisinlaw11.CatLet", spec := "catLet", inPlace := ["internal/bytealg.IndexByteString"], unfollowed := true, recurses := true, named := ["math/bits.deBruijn64tab", "seisin/cat.openers", "seisin/cat.strength", "seisin/cat.signs", "seisin/cat.needs", "seisin/check.needs", "math/bits.deBruijn32tab"], loops := true, apart := false, laid := [("math/bits.deBruijn32tab", laid_math_bits_deBruijn32tab), ("math/bits.deBruijn64tab", laid_math_bits_deBruijn64tab), ("seisin/check.needs", laid_seisin_check_needs), ("seisin/cat.needs", laid_seisin_cat_needs), ("seisin/cat.strength", laid_seisin_cat_strength), ("seisin/cat.signs", laid_seisin_cat_signs), ("seisin/cat.openers", laid_seisin_cat_openers)] }
def CatLetSaid : Prop := catLetRow.holds Tryz.pinned (OpenSpec.ofChange catLetSpec)

/-- ITS FALSE NEIGHBOUR: 'it returns false'. Refute it at one input. -/
def catLetWrong : ChangeSpec := { name := "catLet", fn := fun _ => fun
  | [d1, d2, d3] => { results := [.lit (.bool false)], args := [d1, d2, d3] }
  | _ => none }
def CatLetWrongFalsely : Prop := catLetRow.holds Tryz.pinned (OpenSpec.ofChange catLetWrong)

/-- 'seisinlaw11.CatRules': WHATEVER THE INPUT: true; the input reads as it did. -/
def catRulesSpec : ChangeSpec := { name := "catRules", fn := fun _ => fun
  | [d1, d2, d3] => { results := [.lit (.bool true)], args := [d1, d2, d3] }
  | _ => none }
def catRulesRow : OpenClaim := { program := "ytnadlhpkpnfmbaagreatdoor", sum := "e6709b91bee28e3a5c90c84ba48afa47ba50c32ead9e1a9631704b8075de7819", func := "seisin/seisinlaw11.CatRules", spec := "catRules", inPlace := ["internal/bytealg.IndexByteString"], unfollowed := true, recurses := true, named := ["seisin/cat.openers", "seisin/cat.strength", "seisin/cat.signs", "seisin/cat.needs", "seisin/check.needs", "math/bits.deBruijn32tab", "math/bits.deBruijn64tab"], loops := true, apart := false, laid := [("math/bits.deBruijn32tab", laid_math_bits_deBruijn32tab), ("math/bits.deBruijn64tab", laid_math_bits_deBruijn64tab), ("seisin/check.needs", laid_seisin_check_needs), ("seisin/cat.needs", laid_seisin_cat_needs), ("seisin/cat.strength", laid_seisin_cat_strength), ("seisin/cat.signs", laid_seisin_cat_signs), ("seisin/cat.openers", laid_seisin_cat_openers)] }
def CatRulesSaid : Prop := catRulesRow.holds Tryz.pinned (OpenSpec.ofChange catRulesSpec)

/-- ITS FALSE NEIGHBOUR: 'it returns false'. Refute it at one input. -/
def catRulesWrong : ChangeSpec := { name := "catRules", fn := fun _ => fun
  | [d1, d2, d3] => { results := [.lit (.bool false)], args := [d1, d2, d3] }
  | _ => none }
def CatRulesWrongFalsely : Prop := catRulesRow.holds Tryz.pinned (OpenSpec.ofChange catRulesWrong)

/-- 'seisinlaw11.CatBooks': WHATEVER THE INPUT: true; the input reads as it did. -/
def catBooksSpec : ChangeSpec := { name := "catBooks", fn := fun _ => fun
  | [d1, d2] => { results := [.lit (.bool true)], args := [d1, d2] }
  | _ => none }
def catBooksRow : OpenClaim := { program := "ytnadlhpkpnfmbaagreatdoor", sum := "e6709b91bee28e3a5c90c84ba48afa47ba50c32ead9e1a9631704b8075de7819", func := "seisin/seisinlaw11.CatBooks", spec := "catBooks", inPlace := ["internal/bytealg.IndexByteString"], unfollowed := true, recurses := true, named := ["seisin/cat.openers", "seisin/cat.strength", "seisin/cat.signs", "seisin/cat.needs", "seisin/check.needs", "math/bits.deBruijn32tab", "math/bits.deBruijn64tab"], apart := false, laid := [("math/bits.deBruijn32tab", laid_math_bits_deBruijn32tab), ("math/bits.deBruijn64tab", laid_math_bits_deBruijn64tab), ("seisin/check.needs", laid_seisin_check_needs), ("seisin/cat.needs", laid_seisin_cat_needs), ("seisin/cat.strength", laid_seisin_cat_strength), ("seisin/cat.signs", laid_seisin_cat_signs), ("seisin/cat.openers", laid_seisin_cat_openers)] }
def CatBooksSaid : Prop := catBooksRow.holds Tryz.pinned (OpenSpec.ofChange catBooksSpec)

/-- ITS FALSE NEIGHBOUR: 'it returns false'. Refute it at one input. -/
def catBooksWrong : ChangeSpec := { name := "catBooks", fn := fun _ => fun
  | [d1, d2] => { results := [.lit (.bool false)], args := [d1, d2] }
  | _ => none }
def CatBooksWrongFalsely : Prop := catBooksRow.holds Tryz.pinned (OpenSpec.ofChange catBooksWrong)

/-- 'seisinlaw11.CatMore': WHATEVER THE INPUT: true; the input reads as it did. -/
def catMoreSpec : ChangeSpec := { name := "catMore", fn := fun _ => fun
  | [d1, d2, d3, d4] => { results := [.lit (.bool true)], args := [d1, d2, d3, d4] }
  | _ => none }
def catMoreRow : OpenClaim := { program := "ytnadlhpkpnfmbaagreatdoor", sum := "e6709b91bee28e3a5c90c84ba48afa47ba50c32ead9e1a9631704b8075de7819", func := "seisin/seisinlaw11.CatMore", spec := "catMore", inPlace := ["internal/bytealg.IndexByteString", "internal/abi.NoEscape", "internal/bytealg.MakeNoZero"], unfollowed := true, recurses := true, named := ["math/bits.deBruijn64tab", "seisin/cat.openers", "seisin/cat.strength", "seisin/cat.signs", "seisin/cat.needs", "seisin/check.needs", "math/bits.deBruijn32tab"], loops := true, apart := false, laid := [("math/bits.deBruijn32tab", laid_math_bits_deBruijn32tab), ("math/bits.deBruijn64tab", laid_math_bits_deBruijn64tab), ("seisin/check.needs", laid_seisin_check_needs), ("seisin/cat.needs", laid_seisin_cat_needs), ("seisin/cat.strength", laid_seisin_cat_strength), ("seisin/cat.signs", laid_seisin_cat_signs), ("seisin/cat.openers", laid_seisin_cat_openers)] }
def CatMoreSaid : Prop := catMoreRow.holds Tryz.pinned (OpenSpec.ofChange catMoreSpec)

/-- ITS FALSE NEIGHBOUR: 'it returns false'. Refute it at one input. -/
def catMoreWrong : ChangeSpec := { name := "catMore", fn := fun _ => fun
  | [d1, d2, d3, d4] => { results := [.lit (.bool false)], args := [d1, d2, d3, d4] }
  | _ => none }
def CatMoreWrongFalsely : Prop := catMoreRow.holds Tryz.pinned (OpenSpec.ofChange catMoreWrong)

/-- 'seisinlaw11.CatBack': WHATEVER THE INPUT: true; the input reads as it did. -/
def catBackSpec : ChangeSpec := { name := "catBack", fn := fun _ => fun
  | [d1, d2] => { results := [.lit (.bool true)], args := [d1, d2] }
  | _ => none }
def catBackRow : OpenClaim := { program := "ytnadlhpkpnfmbaagreatdoor", sum := "e6709b91bee28e3a5c90c84ba48afa47ba50c32ead9e1a9631704b8075de7819", func := "seisin/seisinlaw11.CatBack", spec := "catBack", inPlace := ["internal/bytealg.IndexByteString", "internal/bytealg.CountString", "internal/bytealg.IndexString", "internal/abi.NoEscape", "internal/bytealg.MakeNoZero"], unfollowed := true, recurses := true, named := ["seisin/cat.openers", "seisin/cat.needs", "seisin/cat.strength", "seisin/cat.signs", "seisin/check.needs", "math/bits.deBruijn32tab", "math/bits.deBruijn64tab", "internal/bytealg.MaxLen", "unicode/utf8.first", "unicode/utf8.acceptRanges"], loops := true, apart := false, laid := [("math/bits.deBruijn32tab", laid_math_bits_deBruijn32tab), ("math/bits.deBruijn64tab", laid_math_bits_deBruijn64tab), ("unicode/utf8.acceptRanges", laid_unicode_utf8_acceptRanges), ("seisin/check.needs", laid_seisin_check_needs), ("seisin/cat.needs", laid_seisin_cat_needs), ("seisin/cat.strength", laid_seisin_cat_strength), ("seisin/cat.signs", laid_seisin_cat_signs), ("seisin/cat.openers", laid_seisin_cat_openers), ("unicode/utf8.first", laid_unicode_utf8_first)] }
def CatBackSaid : Prop := catBackRow.holds Tryz.pinned (OpenSpec.ofChange catBackSpec)

/-- ITS FALSE NEIGHBOUR: 'it returns false'. Refute it at one input. -/
def catBackWrong : ChangeSpec := { name := "catBack", fn := fun _ => fun
  | [d1, d2] => { results := [.lit (.bool false)], args := [d1, d2] }
  | _ => none }
def CatBackWrongFalsely : Prop := catBackRow.holds Tryz.pinned (OpenSpec.ofChange catBackWrong)

/- THE SECOND FORM. 'bulk': how many values and letters a reading holds, each counted each time it is reached (what is shared counts as often as it is met; a slice's spare places count too). A statement '..UptoSaid' is the law's where the arguments, and the package variables that the reading takes, are together of bulk at most 1048576: NARROWER than '..Said'. Prove '..Said' where nothing that the law and all that it calls make is longer than what came in: it says more and counts as full. Else prove '..UptoSaid'. A law counts once. -/
mutual
def uptoBulk {H : Type} : DataW H → Nat
  | .lit (.string bytes) => bytes.length + 1
  | .lit _ => 1
  | .nil => 1
  | .ptr d => uptoBulk d + 1
  | .slice elems spare => uptoBulkAll elems + uptoBulkAll spare + 1
  | .agg parts => uptoBulkAll parts + 1
  | .iface _ d => uptoBulk d + 1
  | .map entries => uptoBulkEntries entries + 1
  | .held _ => 1
def uptoBulkAll {H : Type} : List (DataW H) → Nat
  | [] => 0
  | d :: r => uptoBulk d + uptoBulkAll r
def uptoBulkEntries {H : Type} : List (Lit × DataW H) → Nat
  | [] => 0
  | x :: r => uptoBulkEntry x + uptoBulkEntries r
def uptoBulkEntry {H : Type} : Lit × DataW H → Nat
  | (.string bytes, d) => bytes.length + uptoBulk d + 1
  | (_, d) => uptoBulk d + 1
 end
def uptoSmall : (H : Type) → List (DataW H) → Bool := fun _ ds => decide (uptoBulkAll ds ≤ 1048576)
def OpenSpec.upto (s : _root_.Go.ChangeSpec) : _root_.Go.OpenSpec := { _root_.Go.OpenSpec.ofChange s with cond := some uptoSmall }

/-- 'seisinlaw11.CatLet', WHERE WHAT IT READS IS OF BULK AT MOST 1048576: true; the input reads as it did. -/
def catLetUptoRow : OpenClaim := { program := "ytnadlhpkpnfmbaagreatdoor", sum := "e6709b91bee28e3a5c90c84ba48afa47ba50c32ead9e1a9631704b8075de7819", func := "seisin/seisinlaw11.CatLet", spec := "catLet", inPlace := ["internal/bytealg.IndexByteString"], unfollowed := true, recurses := true, named := ["math/bits.deBruijn64tab", "seisin/cat.openers", "seisin/cat.strength", "seisin/cat.signs", "seisin/cat.needs", "seisin/check.needs", "math/bits.deBruijn32tab"], loops := true, apart := false, laid := [("math/bits.deBruijn32tab", laid_math_bits_deBruijn32tab), ("math/bits.deBruijn64tab", laid_math_bits_deBruijn64tab), ("seisin/check.needs", laid_seisin_check_needs), ("seisin/cat.needs", laid_seisin_cat_needs), ("seisin/cat.strength", laid_seisin_cat_strength), ("seisin/cat.signs", laid_seisin_cat_signs), ("seisin/cat.openers", laid_seisin_cat_openers)], narrowed := true }
def CatLetUptoSaid : Prop := catLetUptoRow.holds Tryz.pinned (OpenSpec.upto catLetSpec)

/-- 'seisinlaw11.CatRules', WHERE WHAT IT READS IS OF BULK AT MOST 1048576: true; the input reads as it did. -/
def catRulesUptoRow : OpenClaim := { program := "ytnadlhpkpnfmbaagreatdoor", sum := "e6709b91bee28e3a5c90c84ba48afa47ba50c32ead9e1a9631704b8075de7819", func := "seisin/seisinlaw11.CatRules", spec := "catRules", inPlace := ["internal/bytealg.IndexByteString"], unfollowed := true, recurses := true, named := ["seisin/cat.openers", "seisin/cat.strength", "seisin/cat.signs", "seisin/cat.needs", "seisin/check.needs", "math/bits.deBruijn32tab", "math/bits.deBruijn64tab"], loops := true, apart := false, laid := [("math/bits.deBruijn32tab", laid_math_bits_deBruijn32tab), ("math/bits.deBruijn64tab", laid_math_bits_deBruijn64tab), ("seisin/check.needs", laid_seisin_check_needs), ("seisin/cat.needs", laid_seisin_cat_needs), ("seisin/cat.strength", laid_seisin_cat_strength), ("seisin/cat.signs", laid_seisin_cat_signs), ("seisin/cat.openers", laid_seisin_cat_openers)], narrowed := true }
def CatRulesUptoSaid : Prop := catRulesUptoRow.holds Tryz.pinned (OpenSpec.upto catRulesSpec)

/-- 'seisinlaw11.CatBooks', WHERE WHAT IT READS IS OF BULK AT MOST 1048576: true; the input reads as it did. -/
def catBooksUptoRow : OpenClaim := { program := "ytnadlhpkpnfmbaagreatdoor", sum := "e6709b91bee28e3a5c90c84ba48afa47ba50c32ead9e1a9631704b8075de7819", func := "seisin/seisinlaw11.CatBooks", spec := "catBooks", inPlace := ["internal/bytealg.IndexByteString"], unfollowed := true, recurses := true, named := ["seisin/cat.openers", "seisin/cat.strength", "seisin/cat.signs", "seisin/cat.needs", "seisin/check.needs", "math/bits.deBruijn32tab", "math/bits.deBruijn64tab"], apart := false, laid := [("math/bits.deBruijn32tab", laid_math_bits_deBruijn32tab), ("math/bits.deBruijn64tab", laid_math_bits_deBruijn64tab), ("seisin/check.needs", laid_seisin_check_needs), ("seisin/cat.needs", laid_seisin_cat_needs), ("seisin/cat.strength", laid_seisin_cat_strength), ("seisin/cat.signs", laid_seisin_cat_signs), ("seisin/cat.openers", laid_seisin_cat_openers)], narrowed := true }
def CatBooksUptoSaid : Prop := catBooksUptoRow.holds Tryz.pinned (OpenSpec.upto catBooksSpec)

/-- 'seisinlaw11.CatMore', WHERE WHAT IT READS IS OF BULK AT MOST 1048576: true; the input reads as it did. -/
def catMoreUptoRow : OpenClaim := { program := "ytnadlhpkpnfmbaagreatdoor", sum := "e6709b91bee28e3a5c90c84ba48afa47ba50c32ead9e1a9631704b8075de7819", func := "seisin/seisinlaw11.CatMore", spec := "catMore", inPlace := ["internal/bytealg.IndexByteString", "internal/abi.NoEscape", "internal/bytealg.MakeNoZero"], unfollowed := true, recurses := true, named := ["math/bits.deBruijn64tab", "seisin/cat.openers", "seisin/cat.strength", "seisin/cat.signs", "seisin/cat.needs", "seisin/check.needs", "math/bits.deBruijn32tab"], loops := true, apart := false, laid := [("math/bits.deBruijn32tab", laid_math_bits_deBruijn32tab), ("math/bits.deBruijn64tab", laid_math_bits_deBruijn64tab), ("seisin/check.needs", laid_seisin_check_needs), ("seisin/cat.needs", laid_seisin_cat_needs), ("seisin/cat.strength", laid_seisin_cat_strength), ("seisin/cat.signs", laid_seisin_cat_signs), ("seisin/cat.openers", laid_seisin_cat_openers)], narrowed := true }
def CatMoreUptoSaid : Prop := catMoreUptoRow.holds Tryz.pinned (OpenSpec.upto catMoreSpec)

/-- 'seisinlaw11.CatBack', WHERE WHAT IT READS IS OF BULK AT MOST 1048576: true; the input reads as it did. -/
def catBackUptoRow : OpenClaim := { program := "ytnadlhpkpnfmbaagreatdoor", sum := "e6709b91bee28e3a5c90c84ba48afa47ba50c32ead9e1a9631704b8075de7819", func := "seisin/seisinlaw11.CatBack", spec := "catBack", inPlace := ["internal/bytealg.IndexByteString", "internal/bytealg.CountString", "internal/bytealg.IndexString", "internal/abi.NoEscape", "internal/bytealg.MakeNoZero"], unfollowed := true, recurses := true, named := ["seisin/cat.openers", "seisin/cat.needs", "seisin/cat.strength", "seisin/cat.signs", "seisin/check.needs", "math/bits.deBruijn32tab", "math/bits.deBruijn64tab", "internal/bytealg.MaxLen", "unicode/utf8.first", "unicode/utf8.acceptRanges"], loops := true, apart := false, laid := [("math/bits.deBruijn32tab", laid_math_bits_deBruijn32tab), ("math/bits.deBruijn64tab", laid_math_bits_deBruijn64tab), ("unicode/utf8.acceptRanges", laid_unicode_utf8_acceptRanges), ("seisin/check.needs", laid_seisin_check_needs), ("seisin/cat.needs", laid_seisin_cat_needs), ("seisin/cat.strength", laid_seisin_cat_strength), ("seisin/cat.signs", laid_seisin_cat_signs), ("seisin/cat.openers", laid_seisin_cat_openers), ("unicode/utf8.first", laid_unicode_utf8_first)], narrowed := true }
def CatBackUptoSaid : Prop := catBackUptoRow.holds Tryz.pinned (OpenSpec.upto catBackSpec)

end Rows
end Go.Proofs.YtnadlhpkpnfmbaaGreatDoor
