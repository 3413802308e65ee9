/- LeavesOne: whatever the shape, the leaves, the answer and the leaves that are torn: the law returns true, and its arguments read as before. No condition. -/
import Derived.Test.YtmbbepdbjeciaaaLi5
import Derived.Test.YtmbbepdbjeciaaaLh
namespace Go.Proofs.Ytmbbepdbjeciaaa

theorem leavesOne_holds : Rows.LeavesOneSaid := Go.DL.RowLeavesOne.holds Go.DL.m_head
end Go.Proofs.Ytmbbepdbjeciaaa
