/- Sorting a few lines. -/
import Derived.Test.YtmbbepdbjeciaaaGreatYu1
import Derived.Test.YtmbbepdbjeciaaaGreatZs
import Derived.Test.YtmbbepdbjeciaaaGreatE14
set_option maxRecDepth 100000
set_option maxHeartbeats 16000000
namespace Go.DL
open Go.Proofs Go
def LLe (x y : Line) : Prop := x.Day < y.Day ∨ x.Day = y.Day ∧ x.ID ≤ y.ID
theorem LLe.trans {x y z : Line} (h1 : LLe x y) (h2 : LLe y z) : LLe x z := by unfold LLe at *; omega
def LSrt (l : List Line) : Prop := l.Pairwise LLe
end Go.DL
