/- Checked deeds; a join; the first parts. -/
import Derived.Test.YtignbealfpbpoaaGreatDoorWm
import Derived.Test.YtignbealfpbpoaaGreatDoorWj
set_option linter.all false
set_option maxRecDepth 100000
set_option maxHeartbeats 16000000
namespace Go.DL
open Go.Proofs Go
theorem m_joinD : Maps Tryz.prog 137 [.sl [[bl [98, 101, 110, 32, 50]], [bl [99, 97, 114, 108, 32, 49]]], bl [44, 32]] (bl [98, 101, 110, 32, 50, 44, 32, 99, 97, 114, 108, 32, 49]) :=
  m_Join [⟨#[98, 101, 110, 32, 50]⟩, ⟨#[99, 97, 114, 108, 32, 49]⟩] ⟨#[44, 32]⟩ (by decide) (by decide)
def tabC : List (FuncId × List D × D) := [(137, [.sl [[bl [98, 101, 110, 32, 50]], [bl [99, 97, 114, 108, 32, 49]]], bl [44, 32]], bl [98, 101, 110, 32, 50, 44, 32, 99, 97, 114, 108, 32, 49]), (26, [.sl c6], wI 0)] ++ tabF
theorem tabC_ok : ∀ e, e ∈ tabC → Maps Tryz.prog e.1 e.2.1 e.2.2 := by
  intro e he
  rcases List.mem_append.1 he with he | he
  · simp only [List.mem_cons, List.not_mem_nil, or_false] at he
    rcases he with rfl | rfl
    · exact m_joinD
    · exact m_chk
  · exact tabF_ok e he
theorem m_parts1 : Maps Tryz.prog 38 [.sl c6, n_upper, wI 9, wI 12] (.tup [.fl [[wI 0, wI 1, wI 2, wI 3, n_ben, n_dan, .v (.bool false)], [wI 2, wI 3, wI 1, wI 1, n_ben, n_ben, .v (.bool false)]], wI 0]) := (run_ok (Bg_ok tabC_ok) 400).own (by kernel_rfl)
end Go.DL
