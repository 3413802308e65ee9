/- A polynomial divided by another. -/
import Derived.Test.YtmbbepdbjeciaaaGreatZe
import Derived.Test.YtmbbepdbjeciaaaGreatP1
set_option maxRecDepth 100000
set_option maxHeartbeats 16000000
namespace Go.DL
open Go.Proofs Go

section
variable {P : Program} {n s : Nat} {al : AL} {H : List Blk} {x : Operand} {tx : TypeId}
end
theorem getD_some {l : List Int} {i : Nat} (h : i < l.length) : l[i]? = some (l.getD i 0) := by
  simp [List.getD_eq_getElem?_getD, h]
end Go.DL
