/- Contracts of functions, and plain facts, for the law that the last text of this claim proves. -/
import Derived.Test.YtpalcnbhkigagaaGreatDoorTie
import Derived.Test.YtpalcnbhkigagaaGreatDoorCards
import Derived.JoinedOf
import Derived.KernelRfl
set_option linter.unusedSimpArgs false
set_option linter.unusedVariables false
namespace Go.Proofs.YtpalcnbhkigagaaGreatDoor
open Go.ChangeShapes Go.WideShapes
theorem zgR:(Rows.candSpoiltRow.inPlace == Tryz.prog.inPlace 4)=true:=by kernel_rfl
theorem zgQ:(Rows.candSpoiltRow.unfollowed == Tryz.prog.unfollowed 4)=true:=by kernel_rfl
theorem zgP:(Rows.candSpoiltRow.recurses == Tryz.prog.recurses 4)=true:=by kernel_rfl
theorem zgO:(Rows.candSpoiltRow.named == Tryz.prog.varsNamed 4)=true:=by kernel_rfl
theorem zgN:joinedFacts Tryz.prog 4 Tryz.f4 Rows.candSpoiltSpec Rows.candSpoiltRow=true:=by
 unfold joinedFacts;rw [zgR,zgQ,zgP,zgO]
 kernel_rfl
end Go.Proofs.YtpalcnbhkigagaaGreatDoor
