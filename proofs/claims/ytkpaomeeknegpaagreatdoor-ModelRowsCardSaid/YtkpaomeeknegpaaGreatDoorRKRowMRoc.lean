/- Contracts of functions, and plain facts, for the law that the last text of this claim proves. -/
import Derived.Test.YtkpaomeeknegpaaGreatDoorTie
import Derived.Test.YtkpaomeeknegpaaGreatDoorCards
import Derived.JoinedOf
import Derived.KernelRfl
set_option linter.unusedSimpArgs false
set_option linter.unusedVariables false
namespace Go.Proofs.YtkpaomeeknegpaaGreatDoor
open Go.ChangeShapes Go.WideShapes
theorem zjD:(Rows.modelRowsRow.inPlace == Tryz.prog.inPlace 6)=true:=by kernel_rfl
theorem zjC:(Rows.modelRowsRow.unfollowed == Tryz.prog.unfollowed 6)=true:=by kernel_rfl
theorem zjB:(Rows.modelRowsRow.recurses == Tryz.prog.recurses 6)=true:=by kernel_rfl
theorem zjA:(Rows.modelRowsRow.named == Tryz.prog.varsNamed 6)=true:=by kernel_rfl
theorem zjz:joinedFacts Tryz.prog 6 Tryz.f6 Rows.modelRowsSpec Rows.modelRowsRow=true:=by
 unfold joinedFacts;rw [zjD,zjC,zjB,zjA]
 kernel_rfl
end Go.Proofs.YtkpaomeeknegpaaGreatDoor
