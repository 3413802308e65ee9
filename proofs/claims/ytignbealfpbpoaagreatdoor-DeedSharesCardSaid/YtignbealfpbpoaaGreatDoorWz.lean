/- The chapter's examples hold. -/
import Derived.Test.YtignbealfpbpoaaGreatDoorWh
import Derived.Test.YtignbealfpbpoaaGreatDoorWi
import Derived.Test.YtignbealfpbpoaaGreatDoorWp
import Derived.Test.YtignbealfpbpoaaGreatDoorWq
import Derived.Test.YtignbealfpbpoaaGreatDoorWr
import Derived.Test.YtignbealfpbpoaaGreatDoorWs
import Derived.Test.YtignbealfpbpoaaGreatDoorWw
import Derived.Test.YtignbealfpbpoaaGreatDoorWx
set_option linter.all false
set_option maxRecDepth 100000
set_option maxHeartbeats 16000000
namespace Go.DL
open Go.Proofs Go
def tabS : List (FuncId × List D × D) := [(22, [src], .tup [.fl c6, wI 0, wI 0]),
  (21, [.sl c6], .tup [src, wI 0]),
  (38, [.sl c6, n_upper, wI 9, wI 12], .tup [.fl [[wI 0, wI 1, wI 2, wI 3, n_ben, n_dan, .v (.bool false)], [wI 2, wI 3, wI 1, wI 1, n_ben, n_ben, .v (.bool false)]], wI 0]),
  (38, [.sl c6, n_upper, wI 10, wI 11], .tup [.fl [[wI 0, wI 1, wI 2, wI 3, n_ben, n_common, .v (.bool true)], [wI 2, wI 3, wI 1, wI 1, n_carl, n_carl, .v (.bool false)]], wI 0]),
  (38, [.sl c6, n_upper, wI 30, wI 30], .tup [.fl [[wI 0, wI 1, wI 1, wI 1, n_ben, n_ben, .v (.bool false)]], wI 0]),
  (54, [.sl c6, n_upper, wI 199, wI 300, wI 8, wI 30], .tup [n_dan, wI 0]),
  (54, [.sl c6, n_upper, wI 200, wI 300, wI 8, wI 30], .tup [n_carl, wI 0]),
  (48, [.sl c6, n_ben, wI 9, wI 12], .tup [.fl [[n_upper, wI 1, wI 1, wI 1, wI 3]], wI 0]),
  (28, [.sl c6, n_upper, .agg [wI 3, wI 4], wI 9, wI 12], .tup [.fl [[wI 0], [wI 1], [wI 3]], wI 0]),
  (30, [.sl c6, n_upper, .agg [wI 3, wI 4], .sl [[wI 0], [wI 1], [wI 3]]], .tup [n_ben, wI 0]),
  (33, [.sl c6, n_upper, .agg [wI 3, wI 4], wI 9, wI 12], .tup [.fl [[wI 0], [wI 1], [wI 3]], wI 0]),
  (35, [.sl c6, n_upper, wI 10, wI 11, wI 12], .tup [.fl [[wI 2, wI 3, wI 1, wI 1, n_ben, n_common, .v (.bool true)]], wI 0])] ++ tabF
theorem tabS_ok : ∀ e, e ∈ tabS → Maps Tryz.prog e.1 e.2.1 e.2.2 := by
  intro e he
  rcases List.mem_append.1 he with he | he
  · simp only [List.mem_cons, List.not_mem_nil, or_false] at he
    rcases he with rfl | rfl | rfl | rfl | rfl | rfl | rfl | rfl | rfl | rfl | rfl | rfl
    · exact m_parse
    · exact m_print6
    · exact m_parts1
    · exact m_parts2
    · exact m_parts3
    · exact m_user1
    · exact m_user2
    · exact m_hold
    · exact m_chain
    · exact m_cchain
    · exact m_rests
    · exact m_moved
  · exact tabF_ok e he
theorem m_sanity : Maps Tryz.prog 20 [] (.v (.bool true)) := (run_ok (Bg_ok tabS_ok) 400).own (by kernel_rfl)
end Go.DL
