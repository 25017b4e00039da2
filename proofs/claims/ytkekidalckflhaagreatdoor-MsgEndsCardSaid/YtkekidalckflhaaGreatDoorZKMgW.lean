/- Law17: a world that meets the condition of the rows. -/
import Derived.Test.YtkekidalckflhaaGreatDoorZ4
import Derived.KernelRfl
import Derived.WalkKit
import Derived.ChangeOld
import Derived.SevenTiedAt
namespace Go.Proofs.YtkekidalckflhaaGreatDoor
open Go.Vc Go.RowKit Go.Sei

def lit1 : DataW Unit → List Value
  | .lit (.int k n) => [.int k n]
  | .lit (.string s) => [.string ⟨s.toArray⟩]
  | _ => []
def lit2 : DataW Unit → List Value
  | .agg ps => ps.flatMap lit1
  | x => lit1 x
def lit3 : DataW Unit → List Value
  | .agg ps => ps.flatMap lit2
  | x => lit1 x
def setG (h : Array Obj) (g : Nat) (cs : List Value) : Array Obj := h.modify g fun
  | .cells _ t frozen => .cells cs.toArray t frozen
  | o => o
def errText : DataW Unit → List Value
  | .iface _ (.ptr (.agg ps)) => ps.flatMap lit1
  | _ => []
def layH (h : Array Obj) : Array Obj :=
  let h1 := setG h 2 (lit3 Rows.laid_seisin_msg_names)
  let h2 := setG h1 1 (lit3 Rows.laid_seisin_msg_classes)
  let h3 := setG h2 4 (lit3 Rows.laid_internal_strconv_uint64pow10)
  let h4 := setG h3 8 (lit3 Rows.laid_unicode_utf8_first)
  let h5 := setG h4 9 (lit3 Rows.laid_unicode_utf8_acceptRanges)
  let h6 := setG h5 10 (lit3 Rows.laid_math_bits_deBruijn32tab)
  let h7 := setG h6 11 (lit3 Rows.laid_math_bits_deBruijn64tab)
  let h8 := setG h7 6 [.iface 120 (.pointer (some ⟨h.size, 0, none⟩))]
  let h9 := setG h8 7 [.iface 120 (.pointer (some ⟨h.size + 1, 0, none⟩))]
  (h9.push (.cells (errText Rows.laid_strconv_ErrSyntax).toArray 122)).push (.cells (errText Rows.laid_strconv_ErrRange).toArray 122)
noncomputable def laidWorld (os : Os) : World :=
  { World.holding Tryz.prog os ⟨#[], #[], []⟩ with heap := layH (World.holding Tryz.prog os ⟨#[], #[], []⟩).heap }
theorem laidWorld_met (os : Os) (args : Array Value) : laidMetH Tryz.prog seatLaid ((laidWorld os).forCall (fun _ _ => 0) ⟨#[], args, []⟩).memory := by
  show laidMet Tryz.prog seatLaid _
  exact laidMet_of_run' 8 (by kernel_rfl) (by kernel_rfl)
end Go.Proofs.YtkekidalckflhaaGreatDoor
