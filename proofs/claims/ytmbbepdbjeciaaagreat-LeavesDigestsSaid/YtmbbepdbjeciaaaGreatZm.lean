/- The data of leaves, and which leaves are wrong. -/
import Derived.Test.YtmbbepdbjeciaaaGreatZp1
import Derived.Test.YtmbbepdbjeciaaaGreatZo1
import Derived.Test.YtmbbepdbjeciaaaGreatZb
import Derived.Test.YtmbbepdbjeciaaaGreatP1
import Derived.Test.YtmbbepdbjeciaaaGreatE11
import Derived.Test.YtmbbepdbjeciaaaGreatZs
import Derived.Test.YtmbbepdbjeciaaaGreatZj
set_option maxRecDepth 100000
set_option maxHeartbeats 16000000
namespace Go.DL
open Go.Proofs Go

/-- The blocks that stay: the shape, the result, the answer. -/
structure MB (H : List Blk) (k c w : Nat) (x : D) : Prop where
  sh : H[0]? = some (.live 3 [[wI k, wI c, wI w]])
  res : H[1]? = some (.live 2 [[.nil, .nil]])
  m : H[3]? = some (.live 2 [[.ms 2 0 k k, x]])
section
variable {H : List Blk} {k c w q : Nat} {x : D}
theorem MB.app (h : MB H k c w x) (T : List Blk) : MB (H ++ T) k c w x := ⟨blk_app T h.sh, blk_app T h.res, blk_app T h.m⟩
theorem MB.other (h : MB H k c w x) (h0 : q = 2 ∨ 4 ≤ q) (y : Blk) : MB (H.set q y) k c w x := ⟨blk_ne h.sh (by omega), blk_ne h.res (by omega), blk_ne h.m (by omega)⟩
theorem MB.lt (h : MB H k c w x) : 4 ≤ H.length := blk_lt h.m
end
end Go.DL
