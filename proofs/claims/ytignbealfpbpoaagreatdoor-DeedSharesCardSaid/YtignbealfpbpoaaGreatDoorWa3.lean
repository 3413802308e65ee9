/- What the rows of chapter 05 ask of the program: where it may be entered, and what is lifted. -/
import Derived.Test.YtignbealfpbpoaaGreatDoorRows
import Derived.KernelRfl
set_option linter.all false
set_option maxRecDepth 100000
set_option maxHeartbeats 4000000
namespace Go.DL
open Go.Proofs Go
open Go.Proofs.YtignbealfpbpoaaGreatDoor
theorem d_may : Tryz.prog.mayEnter = true := by kernel_rfl
theorem d_lift : (Rows.deedSharesRow.lifted == Tryz.prog.liftsFinal) = true := by kernel_rfl
end Go.DL
