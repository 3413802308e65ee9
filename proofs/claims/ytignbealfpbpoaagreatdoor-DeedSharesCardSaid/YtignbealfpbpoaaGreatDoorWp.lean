/- Parts as known. -/
import Derived.Test.YtignbealfpbpoaaGreatDoorWo
set_option linter.all false
set_option maxRecDepth 100000
set_option maxHeartbeats 16000000
namespace Go.DL
open Go.Proofs Go
theorem m_parts2 : Maps Tryz.prog 38 [.sl c6, n_upper, wI 10, wI 11] (.tup [.fl [[wI 0, wI 1, wI 2, wI 3, n_ben, n_common, .v (.bool true)], [wI 2, wI 3, wI 1, wI 1, n_carl, n_carl, .v (.bool false)]], wI 0]) := (run_ok (Bg_ok tabC_ok) 400).own (by kernel_rfl)
theorem m_parts3 : Maps Tryz.prog 38 [.sl c6, n_upper, wI 30, wI 30] (.tup [.fl [[wI 0, wI 1, wI 1, wI 1, n_ben, n_ben, .v (.bool false)]], wI 0]) := (run_ok (Bg_ok tabC_ok) 400).own (by kernel_rfl)
end Go.DL
