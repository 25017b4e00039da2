/- Contracts of functions, and plain facts, for the law that the last text of this claim proves. -/
import Derived.Test.YtakcdebpklffiaaGreatDoorTie
import Derived.Test.YtakcdebpklffiaaGreatDoorCards
import Derived.JoinedOf
import Derived.KernelRfl
set_option linter.unusedSimpArgs false
set_option linter.unusedVariables false
namespace Go.Proofs.YtakcdebpklffiaaGreatDoor
open Go.ChangeShapes Go.WideShapes
theorem zfG:(Rows.verdictShowRow.inPlace == Tryz.prog.inPlace 5)=true:=by kernel_rfl
theorem zfF:(Rows.verdictShowRow.unfollowed == Tryz.prog.unfollowed 5)=true:=by kernel_rfl
theorem zfE:(Rows.verdictShowRow.recurses == Tryz.prog.recurses 5)=true:=by kernel_rfl
theorem zfD:(Rows.verdictShowRow.named == Tryz.prog.varsNamed 5)=true:=by kernel_rfl
theorem zfC:joinedFacts Tryz.prog 5 Tryz.f5 Rows.verdictShowSpec Rows.verdictShowRow=true:=by
 unfold joinedFacts;rw[zfG,zfF,zfE,zfD]
 kernel_rfl
end Go.Proofs.YtakcdebpklffiaaGreatDoor
