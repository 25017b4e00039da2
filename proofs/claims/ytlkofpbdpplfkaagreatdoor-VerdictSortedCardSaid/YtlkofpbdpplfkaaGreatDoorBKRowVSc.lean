/- Contracts of functions, and plain facts, for the law that the last text of this claim proves. -/
import Derived.Test.YtlkofpbdpplfkaaGreatDoorTie
import Derived.Test.YtlkofpbdpplfkaaGreatDoorCards
import Derived.JoinedOf
import Derived.KernelRfl
set_option linter.unusedSimpArgs false
set_option linter.unusedVariables false
namespace Go.Proofs.YtlkofpbdpplfkaaGreatDoor
open Go.ChangeShapes Go.WideShapes
theorem zeY:(Rows.verdictSortedRow.inPlace == Tryz.prog.inPlace 7)=true:=by kernel_rfl
theorem zeX:(Rows.verdictSortedRow.unfollowed == Tryz.prog.unfollowed 7)=true:=by kernel_rfl
theorem zeW:(Rows.verdictSortedRow.recurses == Tryz.prog.recurses 7)=true:=by kernel_rfl
theorem zeV:(Rows.verdictSortedRow.named == Tryz.prog.varsNamed 7)=true:=by kernel_rfl
theorem zeU:joinedFacts Tryz.prog 7 Tryz.f7 Rows.verdictSortedSpec Rows.verdictSortedRow=true:=by
 unfold joinedFacts;rw [zeY,zeX,zeW,zeV]
 kernel_rfl
end Go.Proofs.YtlkofpbdpplfkaaGreatDoor
