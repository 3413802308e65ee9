/- LeavesKnown: whatever the lists of lines and the day: the law returns true, and its arguments read as before. No condition. -/
import Derived.Test.YtmbbepdbjeciaaaGreatYb4
import Derived.Test.YtmbbepdbjeciaaaGreatZh
namespace Go.Proofs.YtmbbepdbjeciaaaGreat

theorem leavesKnown_holds : Rows.LeavesKnownSaid := Go.DL.RowLeavesKnown.holds Go.DL.m_head
end Go.Proofs.YtmbbepdbjeciaaaGreat
