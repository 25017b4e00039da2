/- Contracts of functions, and plain facts, for the law that the last text of this claim proves. -/
import Derived.Test.YtpalcnbhkigagaaGreatDoorTie
import Derived.Test.YtpalcnbhkigagaaGreatDoorCards
import Derived.JoinedOf
import Derived.KernelRfl
set_option linter.unusedSimpArgs false
set_option linter.unusedVariables false
namespace Go.Proofs.YtpalcnbhkigagaaGreatDoor
open Go.ChangeShapes Go.WideShapes
theorem zg1:(Rows.candChoiceRow.inPlace == Tryz.prog.inPlace 6)=true:=by kernel_rfl
theorem zg0:(Rows.candChoiceRow.unfollowed == Tryz.prog.unfollowed 6)=true:=by kernel_rfl
theorem zgZ:(Rows.candChoiceRow.recurses == Tryz.prog.recurses 6)=true:=by kernel_rfl
theorem zgY:(Rows.candChoiceRow.named == Tryz.prog.varsNamed 6)=true:=by kernel_rfl
theorem zgX:joinedFacts Tryz.prog 6 Tryz.f6 Rows.candChoiceSpec Rows.candChoiceRow=true:=by
 unfold joinedFacts;rw [zg1,zg0,zgZ,zgY]
 kernel_rfl
end Go.Proofs.YtpalcnbhkigagaaGreatDoor
