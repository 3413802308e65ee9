/- LeavesJoin: whatever the shape and the copies: the law returns true, and its arguments read as before. No condition. -/
import Derived.Test.YtmbbepdbjeciaaaGreatYz1
import Derived.Test.YtmbbepdbjeciaaaGreatZh
namespace Go.Proofs.YtmbbepdbjeciaaaGreat

theorem leavesJoin_holds : Rows.LeavesJoinSaid := Go.DL.RowLeavesJoin.holds Go.DL.m_head
end Go.Proofs.YtmbbepdbjeciaaaGreat
