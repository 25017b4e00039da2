/- Contracts of functions, and plain facts, for the law that the last text of this claim proves. -/
import Derived.Test.YtnadlhpkpnfmbaaGreatDoorTie
import Derived.Test.YtnadlhpkpnfmbaaGreatDoorCards
import Derived.JoinedOf
import Derived.KernelRfl
set_option linter.unusedSimpArgs false
set_option linter.unusedVariables false
namespace Go.Proofs.YtnadlhpkpnfmbaaGreatDoor
open Go.ChangeShapes Go.WideShapes
theorem zl6:(Rows.catBackRow.inPlace == Tryz.prog.inPlace 7)=true:=by kernel_rfl
theorem zl5:(Rows.catBackRow.unfollowed == Tryz.prog.unfollowed 7)=true:=by kernel_rfl
theorem zl4:(Rows.catBackRow.recurses == Tryz.prog.recurses 7)=true:=by kernel_rfl
theorem zl3:(Rows.catBackRow.named == Tryz.prog.varsNamed 7)=true:=by kernel_rfl
theorem zl2:joinedFacts Tryz.prog 7 Tryz.f7 Rows.catBackSpec Rows.catBackRow=true:=by
 unfold joinedFacts;rw [zl6,zl5,zl4,zl3]
 kernel_rfl
end Go.Proofs.YtnadlhpkpnfmbaaGreatDoor
