/- What leaves tell: the columns, the rows, and who is wrong. -/
import Derived.Test.YtmbbepdbjeciaaaGreatZp1
import Derived.Test.YtmbbepdbjeciaaaGreatZo1
import Derived.Test.YtmbbepdbjeciaaaGreatZx
import Derived.Test.YtmbbepdbjeciaaaGreatE12
import Derived.Test.YtmbbepdbjeciaaaGreatZs
import Derived.Test.YtmbbepdbjeciaaaGreatZy
set_option maxRecDepth 100000
namespace Go.DL
open Go.Proofs Go

/-- A leaf that is not that of the data. -/
def badM (R : List Leaf) (x : Leaf) : Bool := !decide ((R.getD (x.Number - 1).toNat ⟨0, []⟩).Words = x.Words)
end Go.DL
