/- Contracts of functions, and plain facts, for the law that the last text of this claim proves. -/
import Derived.Test.YtnadlhpkpnfmbaaGreatDoorTie
import Derived.Test.YtnadlhpkpnfmbaaGreatDoorCards
import Derived.JoinedOf
import Derived.KernelRfl
set_option linter.unusedSimpArgs false
set_option linter.unusedVariables false
namespace Go.Proofs.YtnadlhpkpnfmbaaGreatDoor
open Go.ChangeShapes Go.WideShapes
theorem znA:(Rows.catLetRow.inPlace == Tryz.prog.inPlace 3)=true:=by kernel_rfl
theorem znz:(Rows.catLetRow.unfollowed == Tryz.prog.unfollowed 3)=true:=by kernel_rfl
theorem zny:(Rows.catLetRow.recurses == Tryz.prog.recurses 3)=true:=by kernel_rfl
theorem znx:(Rows.catLetRow.named == Tryz.prog.varsNamed 3)=true:=by kernel_rfl
theorem znw:joinedFacts Tryz.prog 3 Tryz.f3 Rows.catLetSpec Rows.catLetRow=true:=by
 unfold joinedFacts;rw [znA,znz,zny,znx]
 kernel_rfl
end Go.Proofs.YtnadlhpkpnfmbaaGreatDoor
