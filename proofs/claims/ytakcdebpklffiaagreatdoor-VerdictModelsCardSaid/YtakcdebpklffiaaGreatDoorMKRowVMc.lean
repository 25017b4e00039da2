/- Contracts of functions, and plain facts, for the law that the last text of this claim proves. -/
import Derived.Test.YtakcdebpklffiaaGreatDoorTie
import Derived.Test.YtakcdebpklffiaaGreatDoorCards
import Derived.JoinedOf
import Derived.KernelRfl
set_option linter.unusedSimpArgs false
set_option linter.unusedVariables false
namespace Go.Proofs.YtakcdebpklffiaaGreatDoor
open Go.ChangeShapes Go.WideShapes
theorem zgh:(Rows.verdictModelsRow.inPlace == Tryz.prog.inPlace 4)=true:=by kernel_rfl
theorem zgg:(Rows.verdictModelsRow.unfollowed == Tryz.prog.unfollowed 4)=true:=by kernel_rfl
theorem zgf:(Rows.verdictModelsRow.recurses == Tryz.prog.recurses 4)=true:=by kernel_rfl
theorem zge:(Rows.verdictModelsRow.named == Tryz.prog.varsNamed 4)=true:=by kernel_rfl
theorem zgd:joinedFacts Tryz.prog 4 Tryz.f4 Rows.verdictModelsSpec Rows.verdictModelsRow=true:=by
 unfold joinedFacts;rw[zgh,zgg,zgf,zge]
 kernel_rfl
end Go.Proofs.YtakcdebpklffiaaGreatDoor
