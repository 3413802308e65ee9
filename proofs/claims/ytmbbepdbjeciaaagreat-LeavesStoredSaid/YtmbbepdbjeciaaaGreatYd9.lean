/- LeavesStored: whatever the shape, the number of copies, the lines and the steps: the law returns true, and its arguments read as before. No condition. -/
import Derived.Test.YtmbbepdbjeciaaaGreatYd8
import Derived.Test.YtmbbepdbjeciaaaGreatZf
namespace Go.Proofs.YtmbbepdbjeciaaaGreat
theorem leavesStored_holds:Rows.LeavesStoredSaid:=Go.DL.RowLeavesStored.holds Go.DL.m_head
end Go.Proofs.YtmbbepdbjeciaaaGreat
