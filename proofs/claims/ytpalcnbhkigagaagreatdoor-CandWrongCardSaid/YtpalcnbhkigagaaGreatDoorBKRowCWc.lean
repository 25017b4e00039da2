/- Contracts of functions, and plain facts, for the law that the last text of this claim proves. -/
import Derived.Test.YtpalcnbhkigagaaGreatDoorTie
import Derived.Test.YtpalcnbhkigagaaGreatDoorCards
import Derived.JoinedOf
import Derived.KernelRfl
set_option linter.unusedSimpArgs false
set_option linter.unusedVariables false
namespace Go.Proofs.YtpalcnbhkigagaaGreatDoor
open Go.ChangeShapes Go.WideShapes
theorem zhT:(Rows.candWrongRow.inPlace == Tryz.prog.inPlace 5)=true:=by kernel_rfl
theorem zhS:(Rows.candWrongRow.unfollowed == Tryz.prog.unfollowed 5)=true:=by kernel_rfl
theorem zhR:(Rows.candWrongRow.recurses == Tryz.prog.recurses 5)=true:=by kernel_rfl
theorem zhQ:(Rows.candWrongRow.named == Tryz.prog.varsNamed 5)=true:=by kernel_rfl
theorem zhP:joinedFacts Tryz.prog 5 Tryz.f5 Rows.candWrongSpec Rows.candWrongRow=true:=by
 unfold joinedFacts;rw [zhT,zhS,zhR,zhQ]
 kernel_rfl
end Go.Proofs.YtpalcnbhkigagaaGreatDoor
