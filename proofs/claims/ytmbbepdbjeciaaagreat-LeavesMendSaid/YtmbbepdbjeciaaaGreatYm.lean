/- LeavesMend: whatever the shape and the leaves: the law returns true, and its arguments read as before. No condition. -/
import Derived.Test.YtmbbepdbjeciaaaGreatYn
namespace Go.Proofs.YtmbbepdbjeciaaaGreat

theorem leavesMend_holds : Rows.LeavesMendSaid := Go.DL.mend_holds Go.DL.m_head
end Go.Proofs.YtmbbepdbjeciaaaGreat
