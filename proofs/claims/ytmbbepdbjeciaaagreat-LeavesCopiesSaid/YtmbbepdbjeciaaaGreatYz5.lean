/- LeavesCopies: whatever the shape, the data, the harms and the turn: the law returns true, and its arguments read as before. No condition. -/
import Derived.Test.YtmbbepdbjeciaaaGreatYz4
import Derived.Test.YtmbbepdbjeciaaaGreatZh
namespace Go.Proofs.YtmbbepdbjeciaaaGreat

theorem leavesCopies_holds : Rows.LeavesCopiesSaid := Go.DL.RowLeavesCopies.holds Go.DL.m_head
end Go.Proofs.YtmbbepdbjeciaaaGreat
