/- LeavesInterpolate: whatever the coefficients, the word, the points and the number: the law returns true, and its arguments read as before. No condition. -/
import Derived.Test.YtmbbepdbjeciaaaLt
import Derived.Test.YtmbbepdbjeciaaaLh
namespace Go.Proofs.Ytmbbepdbjeciaaa

theorem leavesInterpolate_holds : Rows.LeavesInterpolateSaid := Go.DL.interpolate_holds Go.DL.m_head
end Go.Proofs.Ytmbbepdbjeciaaa
