/- Forks of both programs. -/
import Derived.Test.YtmbbepdbjeciaaaGreatYa7
set_option maxRecDepth 100000
set_option maxHeartbeats 16000000
namespace Go.DL
open Go.Proofs Go
theorem lined_ok {a b : List Line} (h : lined a b = 0) : LinesOk a ∧ LinesOk b := by
  unfold lined at h
  by_cases ha : CheckLinesS a = 0
  · rw [if_pos ha] at h; exact ⟨(checkLines_iff a).1 ha, (checkLines_iff b).1 h⟩
  · rw [if_neg ha] at h; exact absurd h ha
/-! ### what the document finds -/
end Go.DL
