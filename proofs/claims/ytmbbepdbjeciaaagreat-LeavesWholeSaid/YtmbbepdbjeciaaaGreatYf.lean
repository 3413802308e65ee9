/- LeavesWhole: whatever the shape, the leaves and the data: the law returns true, and its arguments read as before. No condition. -/
import Derived.Test.YtmbbepdbjeciaaaGreatYe
set_option linter.all false
namespace Go.Proofs.YtmbbepdbjeciaaaGreat

theorem leavesWhole_holds : Rows.LeavesWholeSaid := Go.DL.whole_holds Go.DL.m_head
end Go.Proofs.YtmbbepdbjeciaaaGreat
