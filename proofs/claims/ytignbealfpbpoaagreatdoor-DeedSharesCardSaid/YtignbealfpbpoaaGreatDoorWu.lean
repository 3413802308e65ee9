/- Told without the third, and the fourth. -/
import Derived.Test.YtignbealfpbpoaaGreatDoorWo
set_option linter.all false
set_option maxRecDepth 100000
set_option maxHeartbeats 16000000
namespace Go.DL
open Go.Proofs Go
theorem m_told2 : Maps Tryz.prog 100 [.sl c5_2, n_upper, .agg [wI 3, wI 4], wI 9, wI 12] (.tup [.agg [wI 0, wI 1, wI 1, wI 1, n_ben, n_ben, .v (.bool false)], .v (.bool true)]) := (run_ok (Bg_ok tabC_ok) 400).own (by kernel_rfl)
theorem m_told3 : Maps Tryz.prog 100 [.sl c5_3, n_upper, .agg [wI 3, wI 4], wI 9, wI 12] (.tup [.agg [wI 0, wI 1, wI 1, wI 1, n_carl, n_carl, .v (.bool false)], .v (.bool true)]) := (run_ok (Bg_ok tabC_ok) 400).own (by kernel_rfl)
end Go.DL
