/- Contracts of functions, and plain facts, for the law that the last text of this claim proves. -/
import Derived.Test.YtkpkdmipjinoaaaGreatDoorTie
import Derived.Test.YtkpkdmipjinoaaaGreatDoorCards
import Derived.JoinedOf
import Derived.KernelRfl
set_option linter.unusedSimpArgs false
set_option linter.unusedVariables false
namespace Go.Proofs.YtkpkdmipjinoaaaGreatDoor
open Go.ChangeShapes Go.WideShapes
theorem zjH:(Rows.catPlaceRow.inPlace == Tryz.prog.inPlace 3)=true:=by kernel_rfl
theorem zjG:(Rows.catPlaceRow.unfollowed == Tryz.prog.unfollowed 3)=true:=by kernel_rfl
theorem zjF:(Rows.catPlaceRow.recurses == Tryz.prog.recurses 3)=true:=by kernel_rfl
theorem zjE:(Rows.catPlaceRow.named == Tryz.prog.varsNamed 3)=true:=by kernel_rfl
theorem zjD:joinedFacts Tryz.prog 3 Tryz.f3 Rows.catPlaceSpec Rows.catPlaceRow=true:=by
 unfold joinedFacts;rw [zjH,zjG,zjF,zjE]
 kernel_rfl
end Go.Proofs.YtkpkdmipjinoaaaGreatDoor
