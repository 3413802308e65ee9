/- LeavesBooks: whatever the shape, the lists of lines and the days: the law returns true, and its arguments read as before. No condition. -/
import Derived.Test.YtmbbepdbjeciaaaGreatYb8
import Derived.Test.YtmbbepdbjeciaaaGreatZh
namespace Go.Proofs.YtmbbepdbjeciaaaGreat

theorem leavesBooks_holds : Rows.LeavesBooksSaid := Go.DL.RowLeavesBooks.holds Go.DL.m_head
end Go.Proofs.YtmbbepdbjeciaaaGreat
