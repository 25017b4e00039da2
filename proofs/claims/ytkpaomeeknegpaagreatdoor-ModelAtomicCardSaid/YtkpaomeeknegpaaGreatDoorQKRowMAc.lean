/- Contracts of functions, and plain facts, for the law that the last text of this claim proves. -/
import Derived.Test.YtkpaomeeknegpaaGreatDoorTie
import Derived.Test.YtkpaomeeknegpaaGreatDoorCards
import Derived.JoinedOf
import Derived.KernelRfl
set_option linter.unusedSimpArgs false
set_option linter.unusedVariables false
namespace Go.Proofs.YtkpaomeeknegpaaGreatDoor
open Go.ChangeShapes Go.WideShapes
theorem zhw:(Rows.modelAtomicRow.inPlace == Tryz.prog.inPlace 5)=true:=by kernel_rfl
theorem zhv:(Rows.modelAtomicRow.unfollowed == Tryz.prog.unfollowed 5)=true:=by kernel_rfl
theorem zhu:(Rows.modelAtomicRow.recurses == Tryz.prog.recurses 5)=true:=by kernel_rfl
theorem zht:(Rows.modelAtomicRow.named == Tryz.prog.varsNamed 5)=true:=by kernel_rfl
theorem zhs:joinedFacts Tryz.prog 5 Tryz.f5 Rows.modelAtomicSpec Rows.modelAtomicRow=true:=by
 unfold joinedFacts;rw [zhw,zhv,zhu,zht]
 kernel_rfl
end Go.Proofs.YtkpaomeeknegpaaGreatDoor
