/- LeavesShelves: whatever the shape, the number of copies and the steps: the law returns true, and its arguments read as before. No condition. -/
import Derived.Test.YtmbbepdbjeciaaaGreatYd4
import Derived.Test.YtmbbepdbjeciaaaGreatYk
namespace Go.Proofs.YtmbbepdbjeciaaaGreat
theorem leavesShelves_holds:Rows.LeavesShelvesSaid:=Go.DL.RowLeavesShelves.holds Go.DL.m_head
end Go.Proofs.YtmbbepdbjeciaaaGreat
