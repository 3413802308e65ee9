/- LeavesJudges: whatever the shape, the leaves, the answer and the change: the law returns true, and its arguments read as before. No condition. -/
import Derived.Test.YtmbbepdbjeciaaaGreatYs
set_option linter.all false
namespace Go.Proofs.YtmbbepdbjeciaaaGreat

theorem leavesJudges_holds : Rows.LeavesJudgesSaid := Go.DL.judges_holds Go.DL.m_head
end Go.Proofs.YtmbbepdbjeciaaaGreat
