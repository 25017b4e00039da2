/- Contracts of functions, and plain facts, for the law that the last text of this claim proves. -/
import Derived.Test.YtpalcnbhkigagaaGreatDoorTie
import Derived.Test.YtpalcnbhkigagaaGreatDoorCards
import Derived.JoinedOf
import Derived.KernelRfl
set_option linter.unusedSimpArgs false
set_option linter.unusedVariables false
namespace Go.Proofs.YtpalcnbhkigagaaGreatDoor
open Go.ChangeShapes Go.WideShapes
theorem ziW:(Rows.candPathsRow.inPlace == Tryz.prog.inPlace 8)=true:=by kernel_rfl
theorem ziV:(Rows.candPathsRow.unfollowed == Tryz.prog.unfollowed 8)=true:=by kernel_rfl
theorem ziU:(Rows.candPathsRow.recurses == Tryz.prog.recurses 8)=true:=by kernel_rfl
theorem ziT:(Rows.candPathsRow.named == Tryz.prog.varsNamed 8)=true:=by kernel_rfl
theorem ziS:joinedFacts Tryz.prog 8 Tryz.f8 Rows.candPathsSpec Rows.candPathsRow=true:=by
 unfold joinedFacts;rw [ziW,ziV,ziU,ziT]
 kernel_rfl
end Go.Proofs.YtpalcnbhkigagaaGreatDoor
