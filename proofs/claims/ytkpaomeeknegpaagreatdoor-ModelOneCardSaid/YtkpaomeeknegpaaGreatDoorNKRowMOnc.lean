/- Contracts of functions, and plain facts, for the law that the last text of this claim proves. -/
import Derived.Test.YtkpaomeeknegpaaGreatDoorTie
import Derived.Test.YtkpaomeeknegpaaGreatDoorCards
import Derived.JoinedOf
import Derived.KernelRfl
set_option linter.unusedSimpArgs false
set_option linter.unusedVariables false
namespace Go.Proofs.YtkpaomeeknegpaaGreatDoor
open Go.ChangeShapes Go.WideShapes
theorem zlz:(Rows.modelOneRow.inPlace == Tryz.prog.inPlace 3)=true:=by kernel_rfl
theorem zly:(Rows.modelOneRow.unfollowed == Tryz.prog.unfollowed 3)=true:=by kernel_rfl
theorem zlx:(Rows.modelOneRow.recurses == Tryz.prog.recurses 3)=true:=by kernel_rfl
theorem zlw:(Rows.modelOneRow.named == Tryz.prog.varsNamed 3)=true:=by kernel_rfl
theorem zlv:joinedFacts Tryz.prog 3 Tryz.f3 Rows.modelOneSpec Rows.modelOneRow=true:=by
 unfold joinedFacts;rw [zlz,zly,zlx,zlw]
 kernel_rfl
end Go.Proofs.YtkpaomeeknegpaaGreatDoor
