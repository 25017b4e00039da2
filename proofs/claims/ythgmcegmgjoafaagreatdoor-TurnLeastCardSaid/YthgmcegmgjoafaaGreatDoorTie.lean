/-
  DERIVED. GIVEN WITH THE SEED: THE PROGRAM's TIES (one call each: nine closed facts by the kernel) AND EACH ROW's TIE, after the 31st guide's Derived/Test/Toyas{Tie, Card}.lean. No idea stands in it: it is a product of the set-up. Laid BY PROGRAM, IN A SANDBOX (cutbox-door.mjs). By AI agents, Wed Nov 11 2026. No macro, syntax, notation, axiom, sorry.
-/
import Derived.Test.YthgmcegmgjoafaaGreatDoorRows
import Derived.LaidByTextLater
import Derived.SevenTiedAt
import Derived.LaidSub
import Derived.LaidOnce
namespace Go.Proofs.YthgmcegmgjoafaaGreatDoor
open Go
set_option maxRecDepth 100000
theorem seatTie1 : Tryz.prog.laidByTextLater [("seisin/geo.bounds", Rows.laid_seisin_geo_bounds), ("seisin/check.needs", Rows.laid_seisin_check_needs), ("seisin/msg.uses", Rows.laid_seisin_msg_uses), ("seisin/msg.classes", Rows.laid_seisin_msg_classes)] [.data, .data, .data, .data] true :=
  Program.laidByTextLater_by_one 29 8 14 (by kernel_rfl) (by kernel_rfl) (by kernel_rfl) (by kernel_rfl) (by kernel_rfl) (by kernel_rfl) (fun _ _ => by kernel_rfl)
theorem noOwnUnsafe : Tryz.pinned.checked.prog.headLifts.contains "ownunsafe" = false := by kernel_rfl
theorem tie : Tryz.prog.laidByTextLater [("seisin/geo.bounds", Rows.laid_seisin_geo_bounds), ("seisin/check.needs", Rows.laid_seisin_check_needs), ("seisin/msg.uses", Rows.laid_seisin_msg_uses), ("seisin/msg.classes", Rows.laid_seisin_msg_classes)] [.data, .data, .data, .data] true :=
  Program.laidByTextLater.sub seatTie1 ["seisin/geo.bounds", "seisin/check.needs", "seisin/msg.uses", "seisin/msg.classes"] (by kernel_rfl) (by kernel_rfl)
theorem turnNet_row_tie : Rows.turnNetRow.laidByTextAt .later Tryz.pinned [.data, .data, .data, .data] true :=
  OpenClaim.laidByTextAt_later rfl rfl tie noOwnUnsafe
theorem tie2 : Tryz.prog.laidByTextLater [("seisin/geo.bounds", Rows.laid_seisin_geo_bounds), ("seisin/check.needs", Rows.laid_seisin_check_needs), ("seisin/msg.classes", Rows.laid_seisin_msg_classes)] [.data, .data, .data] true :=
  Program.laidByTextLater.sub seatTie1 ["seisin/geo.bounds", "seisin/check.needs", "seisin/msg.classes"] (by kernel_rfl) (by kernel_rfl)
theorem turnLeast_row_tie : Rows.turnLeastRow.laidByTextAt .later Tryz.pinned [.data, .data, .data] true :=
  OpenClaim.laidByTextAt_later rfl rfl tie2 noOwnUnsafe
theorem turnTells_row_tie : Rows.turnTellsRow.laidByTextAt .later Tryz.pinned [.data, .data, .data] true :=
  OpenClaim.laidByTextAt_later rfl rfl tie2 noOwnUnsafe
theorem turnNetUpto_row_tie : Rows.turnNetUptoRow.laidByTextAt .later Tryz.pinned [.data, .data, .data, .data] true :=
  OpenClaim.laidByTextAt_later rfl rfl tie noOwnUnsafe
theorem turnLeastUpto_row_tie : Rows.turnLeastUptoRow.laidByTextAt .later Tryz.pinned [.data, .data, .data] true :=
  OpenClaim.laidByTextAt_later rfl rfl tie2 noOwnUnsafe
theorem turnTellsUpto_row_tie : Rows.turnTellsUptoRow.laidByTextAt .later Tryz.pinned [.data, .data, .data] true :=
  OpenClaim.laidByTextAt_later rfl rfl tie2 noOwnUnsafe
end Go.Proofs.YthgmcegmgjoafaaGreatDoor
