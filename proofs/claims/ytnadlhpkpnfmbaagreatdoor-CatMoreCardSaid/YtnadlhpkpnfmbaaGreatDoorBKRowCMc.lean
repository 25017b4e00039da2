/- Contracts of functions, and plain facts, for the law that the last text of this claim proves. -/
import Derived.Test.YtnadlhpkpnfmbaaGreatDoorTie
import Derived.Test.YtnadlhpkpnfmbaaGreatDoorCards
import Derived.JoinedOf
import Derived.KernelRfl
set_option linter.unusedSimpArgs false
set_option linter.unusedVariables false
namespace Go.Proofs.YtnadlhpkpnfmbaaGreatDoor
open Go.ChangeShapes Go.WideShapes
theorem zlL:(Rows.catMoreRow.inPlace == Tryz.prog.inPlace 6)=true:=by kernel_rfl
theorem zlK:(Rows.catMoreRow.unfollowed == Tryz.prog.unfollowed 6)=true:=by kernel_rfl
theorem zlJ:(Rows.catMoreRow.recurses == Tryz.prog.recurses 6)=true:=by kernel_rfl
theorem zlI:(Rows.catMoreRow.named == Tryz.prog.varsNamed 6)=true:=by kernel_rfl
theorem zlH:joinedFacts Tryz.prog 6 Tryz.f6 Rows.catMoreSpec Rows.catMoreRow=true:=by
 unfold joinedFacts;rw [zlL,zlK,zlJ,zlI]
 kernel_rfl
end Go.Proofs.YtnadlhpkpnfmbaaGreatDoor
