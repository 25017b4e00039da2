/- Contracts of functions, and plain facts, for the law that the last text of this claim proves. -/
import Derived.Test.YtnadlhpkpnfmbaaGreatDoorTie
import Derived.Test.YtnadlhpkpnfmbaaGreatDoorCards
import Derived.JoinedOf
import Derived.KernelRfl
set_option linter.unusedSimpArgs false
set_option linter.unusedVariables false
namespace Go.Proofs.YtnadlhpkpnfmbaaGreatDoor
open Go.ChangeShapes Go.WideShapes
theorem zkM:(Rows.catRulesRow.inPlace == Tryz.prog.inPlace 4)=true:=by kernel_rfl
theorem zkL:(Rows.catRulesRow.unfollowed == Tryz.prog.unfollowed 4)=true:=by kernel_rfl
theorem zkK:(Rows.catRulesRow.recurses == Tryz.prog.recurses 4)=true:=by kernel_rfl
theorem zkJ:(Rows.catRulesRow.named == Tryz.prog.varsNamed 4)=true:=by kernel_rfl
theorem zkI:joinedFacts Tryz.prog 4 Tryz.f4 Rows.catRulesSpec Rows.catRulesRow=true:=by
 unfold joinedFacts;rw [zkM,zkL,zkK,zkJ]
 kernel_rfl
end Go.Proofs.YtnadlhpkpnfmbaaGreatDoor
