/- Contracts of functions, and plain facts, for the law that the last text of this claim proves. -/
import Derived.Test.YtpalcnbhkigagaaGreatDoorTie
import Derived.Test.YtpalcnbhkigagaaGreatDoorCards
import Derived.JoinedOf
import Derived.KernelRfl
set_option linter.unusedSimpArgs false
set_option linter.unusedVariables false
namespace Go.Proofs.YtpalcnbhkigagaaGreatDoor
open Go.ChangeShapes Go.WideShapes
theorem zj2:(Rows.candEachRow.inPlace == Tryz.prog.inPlace 7)=true:=by kernel_rfl
theorem zj1:(Rows.candEachRow.unfollowed == Tryz.prog.unfollowed 7)=true:=by kernel_rfl
theorem zj0:(Rows.candEachRow.recurses == Tryz.prog.recurses 7)=true:=by kernel_rfl
theorem zjZ:(Rows.candEachRow.named == Tryz.prog.varsNamed 7)=true:=by kernel_rfl
theorem zjY:joinedFacts Tryz.prog 7 Tryz.f7 Rows.candEachSpec Rows.candEachRow=true:=by
 unfold joinedFacts;rw [zj2,zj1,zj0,zjZ]
 kernel_rfl
end Go.Proofs.YtpalcnbhkigagaaGreatDoor
