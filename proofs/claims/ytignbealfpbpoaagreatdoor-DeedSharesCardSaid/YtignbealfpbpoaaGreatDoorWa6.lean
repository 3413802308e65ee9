/- What the cards of chapter 05 ask of the program. -/
import Derived.Test.YtignbealfpbpoaaGreatDoorCards
import Derived.KernelRfl
set_option linter.all false
set_option maxRecDepth 100000
namespace Go.Proofs.YtignbealfpbpoaaGreatDoor
open Go
theorem d_main : Tryz.pinned.checked.prog.mainIs = some (Rows.deedSharesCard.stood.harness.1, Rows.deedSharesCard.stood.harness.2.toList) := by kernel_rfl
theorem d_looks : true = Tryz.pinned.checked.prog.looks [] := by kernel_rfl
end Go.Proofs.YtignbealfpbpoaaGreatDoor
