/- LeavesRecover: whatever the shape, the data and the harms: the law returns true, and its arguments read as before. No condition. -/
import Derived.Test.YtmbbepdbjeciaaaLi2
import Derived.Test.YtmbbepdbjeciaaaLh
namespace Go.Proofs.Ytmbbepdbjeciaaa

theorem leavesRecover_holds : Rows.LeavesRecoverSaid := Go.DL.RowLeavesRecover.holds Go.DL.m_head
end Go.Proofs.Ytmbbepdbjeciaaa
