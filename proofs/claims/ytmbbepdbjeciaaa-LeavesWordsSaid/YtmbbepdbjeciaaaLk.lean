/- LeavesWords: whatever the number, the coefficients, the word and the points: the law returns true, and its arguments read as before. No condition. -/
import Derived.Test.YtmbbepdbjeciaaaLr
import Derived.Test.YtmbbepdbjeciaaaLh
namespace Go.Proofs.Ytmbbepdbjeciaaa

theorem leavesWords_holds : Rows.LeavesWordsSaid := Go.DL.words_holds Go.DL.m_head
end Go.Proofs.Ytmbbepdbjeciaaa
