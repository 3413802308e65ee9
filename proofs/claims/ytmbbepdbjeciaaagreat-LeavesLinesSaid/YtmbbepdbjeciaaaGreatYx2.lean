/- LeavesLines: whatever the shape, the lines and the data: the law returns true, and its arguments read as before. No condition. -/
import Derived.Test.YtmbbepdbjeciaaaGreatYx1
import Derived.Test.YtmbbepdbjeciaaaGreatZh
namespace Go.Proofs.YtmbbepdbjeciaaaGreat

theorem leavesLines_holds : Rows.LeavesLinesSaid := Go.DL.RowLeavesLines.holds Go.DL.m_head
end Go.Proofs.YtmbbepdbjeciaaaGreat
