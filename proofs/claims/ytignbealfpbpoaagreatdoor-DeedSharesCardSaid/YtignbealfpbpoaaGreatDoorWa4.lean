/- What the rows of chapter 05 ask of the program, the rest. -/
import Derived.Test.YtignbealfpbpoaaGreatDoorRows
import Derived.KernelRfl
import Derived.JoinedOf
set_option linter.all false
set_option maxRecDepth 100000
set_option maxHeartbeats 4000000
namespace Go.DL
open Go.Proofs Go
open Go.Proofs.YtignbealfpbpoaaGreatDoor
theorem d_make : (Tryz.prog.make == some Rows.deedSharesRow.make) = true := by kernel_rfl
theorem d_laid : laidOutB Tryz.prog = true := by kernel_rfl
theorem d_maps : mapsRowed Tryz.prog = true := by kernel_rfl
theorem d_heard : Tryz.prog.stopsHeard = true := by kernel_rfl
theorem d_keys : (Rows.deedSharesRow.plainKeys == Tryz.prog.plainKeys) = true := by kernel_rfl
end Go.DL
