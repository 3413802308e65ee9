/- The reference's Mend and Spare. -/
import Derived.Test.YtmbbepdbjeciaaaGreatYi
import Derived.Test.YtmbbepdbjeciaaaGreatYj
import Derived.Test.YtmbbepdbjeciaaaGreatYa
set_option linter.all false
set_option maxRecDepth 100000
set_option maxHeartbeats 16000000
namespace Go.DL
open Go.Proofs Go

/-- The blocks that stay: the shape, the result. -/
structure RB (H : List Blk) (k c w : Nat) : Prop where
  sh : H[0]? = some (.live 3 [[wI k, wI c, wI w]])
  res : H[1]? = some (.live 3 [[.nil, .nil, wI 0]])
section
variable {H : List Blk} {k c w q : Nat}
theorem RB.app (h : RB H k c w) (T : List Blk) : RB (H ++ T) k c w := ⟨blk_app T h.sh, blk_app T h.res⟩
theorem RB.other (h : RB H k c w) (h0 : 2 ≤ q) (y : Blk) : RB (H.set q y) k c w := ⟨blk_ne h.sh (by omega), blk_ne h.res (by omega)⟩
theorem RB.lt (h : RB H k c w) : 2 ≤ H.length := blk_lt h.res
end
end Go.DL
