/- Contracts of functions, and plain facts, for the law that the last text of this claim proves. -/
import Derived.Test.YtnadlhpkpnfmbaaGreatDoorTie
import Derived.Test.YtnadlhpkpnfmbaaGreatDoorCards
import Derived.JoinedOf
import Derived.KernelRfl
set_option linter.unusedSimpArgs false
set_option linter.unusedVariables false
namespace Go.Proofs.YtnadlhpkpnfmbaaGreatDoor
open Go.ChangeShapes Go.WideShapes
theorem zlj:(Rows.catBooksRow.inPlace == Tryz.prog.inPlace 5)=true:=by kernel_rfl
theorem zli:(Rows.catBooksRow.unfollowed == Tryz.prog.unfollowed 5)=true:=by kernel_rfl
theorem zlh:(Rows.catBooksRow.recurses == Tryz.prog.recurses 5)=true:=by kernel_rfl
theorem zlg:(Rows.catBooksRow.named == Tryz.prog.varsNamed 5)=true:=by kernel_rfl
theorem zlf:joinedFacts Tryz.prog 5 Tryz.f5 Rows.catBooksSpec Rows.catBooksRow=true:=by
 unfold joinedFacts;rw [zlj,zli,zlh,zlg]
 kernel_rfl
end Go.Proofs.YtnadlhpkpnfmbaaGreatDoor
