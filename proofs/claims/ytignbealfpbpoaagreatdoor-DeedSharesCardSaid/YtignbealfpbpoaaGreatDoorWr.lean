/- Chains. -/
import Derived.Test.YtignbealfpbpoaaGreatDoorWo
set_option linter.all false
set_option maxRecDepth 100000
set_option maxHeartbeats 16000000
namespace Go.DL
open Go.Proofs Go
theorem m_chain : Maps Tryz.prog 28 [.sl c6, n_upper, .agg [wI 3, wI 4], wI 9, wI 12] (.tup [.fl [[wI 0], [wI 1], [wI 3]], wI 0]) := (run_ok (Bg_ok tabC_ok) 400).own (by kernel_rfl)
theorem m_cchain : Maps Tryz.prog 30 [.sl c6, n_upper, .agg [wI 3, wI 4], .sl [[wI 0], [wI 1], [wI 3]]] (.tup [n_ben, wI 0]) := (run_ok (Bg_ok tabC_ok) 400).own (by kernel_rfl)
end Go.DL
