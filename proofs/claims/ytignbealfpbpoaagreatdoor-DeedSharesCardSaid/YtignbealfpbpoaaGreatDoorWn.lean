/- The tokens of the chapter's source. -/
import Derived.Test.YtignbealfpbpoaaGreatDoorWm
set_option linter.all false
set_option maxRecDepth 100000
set_option maxHeartbeats 16000000
namespace Go.DL
open Go.Proofs Go
theorem it_toks : Iter Tryz.prog 138 [] [.rp [src]] toks := (run_ok (Bg_ok tabF_ok) 400).it (by kernel_rfl)
end Go.DL
