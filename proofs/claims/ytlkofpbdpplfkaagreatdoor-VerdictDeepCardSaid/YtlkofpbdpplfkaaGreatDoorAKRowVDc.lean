/- Contracts of functions, and plain facts, for the law that the last text of this claim proves. -/
import Derived.Test.YtlkofpbdpplfkaaGreatDoorTie
import Derived.Test.YtlkofpbdpplfkaaGreatDoorCards
import Derived.JoinedOf
import Derived.KernelRfl
set_option linter.unusedSimpArgs false
set_option linter.unusedVariables false
namespace Go.Proofs.YtlkofpbdpplfkaaGreatDoor
open Go.ChangeShapes Go.WideShapes
theorem zf0:(Rows.verdictDeepRow.inPlace == Tryz.prog.inPlace 5)=true:=by kernel_rfl
theorem zfZ:(Rows.verdictDeepRow.unfollowed == Tryz.prog.unfollowed 5)=true:=by kernel_rfl
theorem zfY:(Rows.verdictDeepRow.recurses == Tryz.prog.recurses 5)=true:=by kernel_rfl
theorem zfX:(Rows.verdictDeepRow.named == Tryz.prog.varsNamed 5)=true:=by kernel_rfl
theorem zfW:joinedFacts Tryz.prog 5 Tryz.f5 Rows.verdictDeepSpec Rows.verdictDeepRow=true:=by
 unfold joinedFacts;rw [zf0,zfZ,zfY,zfX]
 kernel_rfl
end Go.Proofs.YtlkofpbdpplfkaaGreatDoor
