/- Holdings. -/
import Derived.Test.YtignbealfpbpoaaGreatDoorWo
set_option linter.all false
set_option maxRecDepth 100000
set_option maxHeartbeats 16000000
namespace Go.DL
open Go.Proofs Go
theorem m_hold : Maps Tryz.prog 48 [.sl c6, n_ben, wI 9, wI 12] (.tup [.fl [[n_upper, wI 1, wI 1, wI 1, wI 3]], wI 0]) := (run_ok (Bg_ok tabC_ok) 400).own (by kernel_rfl)
end Go.DL
