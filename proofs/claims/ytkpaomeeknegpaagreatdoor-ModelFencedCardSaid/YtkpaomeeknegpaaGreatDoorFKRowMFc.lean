/- Contracts of functions, and plain facts, for the law that the last text of this claim proves. -/
import Derived.Test.YtkpaomeeknegpaaGreatDoorTie
import Derived.Test.YtkpaomeeknegpaaGreatDoorCards
import Derived.JoinedOf
import Derived.KernelRfl
set_option linter.unusedSimpArgs false
set_option linter.unusedVariables false
namespace Go.Proofs.YtkpaomeeknegpaaGreatDoor
open Go.ChangeShapes Go.WideShapes
theorem zg4:(Rows.modelFencedRow.inPlace == Tryz.prog.inPlace 4)=true:=by kernel_rfl
theorem zg3:(Rows.modelFencedRow.unfollowed == Tryz.prog.unfollowed 4)=true:=by kernel_rfl
theorem zg2:(Rows.modelFencedRow.recurses == Tryz.prog.recurses 4)=true:=by kernel_rfl
theorem zg1:(Rows.modelFencedRow.named == Tryz.prog.varsNamed 4)=true:=by kernel_rfl
theorem zg0:joinedFacts Tryz.prog 4 Tryz.f4 Rows.modelFencedSpec Rows.modelFencedRow=true:=by
 unfold joinedFacts;rw [zg4,zg3,zg2,zg1]
 kernel_rfl
end Go.Proofs.YtkpaomeeknegpaaGreatDoor
