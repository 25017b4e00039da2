/- Contracts of functions, and plain facts, for the law that the last text of this claim proves. -/
import Derived.Test.YtpalcnbhkigagaaGreatDoorTie
import Derived.Test.YtpalcnbhkigagaaGreatDoorCards
import Derived.JoinedOf
import Derived.KernelRfl
set_option linter.unusedSimpArgs false
set_option linter.unusedVariables false
namespace Go.Proofs.YtpalcnbhkigagaaGreatDoor
open Go.ChangeShapes Go.WideShapes
theorem zkc:(Rows.candManyRow.inPlace == Tryz.prog.inPlace 3)=true:=by kernel_rfl
theorem zkb:(Rows.candManyRow.unfollowed == Tryz.prog.unfollowed 3)=true:=by kernel_rfl
theorem zka:(Rows.candManyRow.recurses == Tryz.prog.recurses 3)=true:=by kernel_rfl
theorem zj9:(Rows.candManyRow.named == Tryz.prog.varsNamed 3)=true:=by kernel_rfl
theorem zj8:joinedFacts Tryz.prog 3 Tryz.f3 Rows.candManySpec Rows.candManyRow=true:=by
 unfold joinedFacts;rw [zkc,zkb,zka,zj9]
 kernel_rfl
end Go.Proofs.YtpalcnbhkigagaaGreatDoor
