/- LeavesDigests: whatever the lines, the turn and the What: the law returns true, and its arguments read as before. No condition. -/
import Derived.Test.YtmbbepdbjeciaaaGreatYu7
import Derived.Test.YtmbbepdbjeciaaaGreatZh
namespace Go.Proofs.YtmbbepdbjeciaaaGreat

theorem leavesDigests_holds : Rows.LeavesDigestsSaid := Go.DL.RowLeavesDigests.holds Go.DL.m_head
end Go.Proofs.YtmbbepdbjeciaaaGreat
