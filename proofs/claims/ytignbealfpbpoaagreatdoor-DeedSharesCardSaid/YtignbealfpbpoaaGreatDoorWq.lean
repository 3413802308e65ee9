/- Users. -/
import Derived.Test.YtignbealfpbpoaaGreatDoorWo
set_option linter.all false
set_option maxRecDepth 100000
set_option maxHeartbeats 16000000
namespace Go.DL
open Go.Proofs Go
theorem m_user1 : Maps Tryz.prog 54 [.sl c6, n_upper, wI 199, wI 300, wI 8, wI 30] (.tup [n_dan, wI 0]) := (run_ok (Bg_ok tabC_ok) 400).own (by kernel_rfl)
theorem m_user2 : Maps Tryz.prog 54 [.sl c6, n_upper, wI 200, wI 300, wI 8, wI 30] (.tup [n_carl, wI 0]) := (run_ok (Bg_ok tabC_ok) 400).own (by kernel_rfl)
end Go.DL
