/- CheckLines of both programs; lines compared. -/
import Derived.Test.YtmbbepdbjeciaaaGreatZs
import Derived.Test.YtmbbepdbjeciaaaGreatZx
import Derived.Test.YtmbbepdbjeciaaaGreatE14
set_option maxRecDepth 100000
set_option maxHeartbeats 16000000
namespace Go.DL
open Go.Proofs Go

def lineV (x : Line) : Bool := decide (1 ≤ x.ID ∧ x.ID ≤ 1099511627776) && (decide (0 ≤ x.Day ∧ x.Day ≤ 728) && (decide (0 ≤ x.What ∧ x.What ≤ 1000) && decide (0 ≤ x.Worth ∧ x.Worth ≤ 2147483647)))
end Go.DL
