/- A polynomial divided by another. -/
import Derived.Test.YtmbbepdbjeciaaaGreatZe
import Derived.Test.YtmbbepdbjeciaaaGreatP1
set_option maxRecDepth 100000
set_option maxHeartbeats 16000000
namespace Go.DL
open Go.Proofs Go

section
variable {P : Program} {n s : Nat} {al : AL} {H : List Blk} {x : Operand} {tx : TypeId}
theorem f_ldWE {bk k : Nat} {o : List Int} {v : Int} (hx : evA n al x = .mp bk k 0) (hb : H[bk]? = some (.live 1 (o.map eI))) (ht : isAggD P tx = some false) (hv : o[k]? = some v) : Val P H s n al (.load tx x) (wI v) := by
  obtain ⟨hk, rfl⟩ := List.getElem?_eq_some_iff.1 hv
  exact f_ldW hx hb hk ht
end
theorem getD_some {l : List Int} {i : Nat} (h : i < l.length) : l[i]? = some (l.getD i 0) := by
  simp [List.getD_eq_getElem?_getD, h]
end Go.DL
