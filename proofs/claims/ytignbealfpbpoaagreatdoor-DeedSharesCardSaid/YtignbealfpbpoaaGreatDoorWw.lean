/- Rests. -/
import Derived.Test.YtignbealfpbpoaaGreatDoorWt
import Derived.Test.YtignbealfpbpoaaGreatDoorWu
import Derived.Test.YtignbealfpbpoaaGreatDoorWv
set_option linter.all false
set_option maxRecDepth 100000
set_option maxHeartbeats 16000000
namespace Go.DL
open Go.Proofs Go
def tabR : List (FuncId × List D × D) := [(100, [.sl c6, n_upper, .agg [wI 3, wI 4], wI 9, wI 12], .tup [.agg [wI 0, wI 1, wI 1, wI 1, n_ben, n_ben, .v (.bool false)], .v (.bool true)]),
  (100, [.sl c5_0, n_upper, .agg [wI 3, wI 4], wI 9, wI 12], .tup [.agg [wI 0, wI 0, wI 0, wI 0, n_0, n_0, .v (.bool false)], .v (.bool false)]),
  (100, [.sl c5_1, n_upper, .agg [wI 3, wI 4], wI 9, wI 12], .tup [.agg [wI 0, wI 1, wI 1, wI 1, n_ann, n_ann, .v (.bool false)], .v (.bool true)]),
  (100, [.sl c5_2, n_upper, .agg [wI 3, wI 4], wI 9, wI 12], .tup [.agg [wI 0, wI 1, wI 1, wI 1, n_ben, n_ben, .v (.bool false)], .v (.bool true)]),
  (100, [.sl c5_3, n_upper, .agg [wI 3, wI 4], wI 9, wI 12], .tup [.agg [wI 0, wI 1, wI 1, wI 1, n_carl, n_carl, .v (.bool false)], .v (.bool true)]),
  (100, [.sl c5_4, n_upper, .agg [wI 3, wI 4], wI 9, wI 12], .tup [.agg [wI 0, wI 1, wI 1, wI 1, n_ben, n_ben, .v (.bool false)], .v (.bool true)]),
  (100, [.sl c5_5, n_upper, .agg [wI 3, wI 4], wI 9, wI 12], .tup [.agg [wI 0, wI 1, wI 1, wI 1, n_ben, n_ben, .v (.bool false)], .v (.bool true)])] ++ tabC
theorem tabR_ok : ∀ e, e ∈ tabR → Maps Tryz.prog e.1 e.2.1 e.2.2 := by
  intro e he
  rcases List.mem_append.1 he with he | he
  · simp only [List.mem_cons, List.not_mem_nil, or_false] at he
    rcases he with rfl | rfl | rfl | rfl | rfl | rfl | rfl
    · exact m_told6
    · exact m_told0
    · exact m_told1
    · exact m_told2
    · exact m_told3
    · exact m_told4
    · exact m_told5
  · exact tabC_ok e he
theorem m_rests : Maps Tryz.prog 33 [.sl c6, n_upper, .agg [wI 3, wI 4], wI 9, wI 12] (.tup [.fl [[wI 0], [wI 1], [wI 3]], wI 0]) := (run_ok (Bg_ok tabR_ok) 400).own (by kernel_rfl)
end Go.DL
