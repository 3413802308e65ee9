/- The chapter's examples: head returns true. -/
import Derived.Test.YtmbbepdbjeciaaaGreatZg2
set_option linter.all false
set_option maxRecDepth 100000
namespace Go.DL
open Go.Proofs Go

def tab2 : List (FuncId × List D × D) :=
  [(25, [dShape 2 2 1, dLvs [(3, [11]), (4, [14])]], .tup [.agg [.fl [[.sl [[wI 5]]], [.sl [[wI 8]]]], .fl []], wI 0]),
   (25, [dShape 2 2 1, dLvs [(1, [5]), (2, [9]), (3, [11])]], .tup [.agg [.fl [], .fl []], wI 9]),
   (25, [dShape 2 2 1, dLvs [(1, [5]), (2, [9]), (3, [11]), (4, [14])]], .tup [.agg [.fl [[.sl [[wI 5]]], [.sl [[wI 8]]]], .fl [[wI 2]]], wI 0])]
theorem tab2_ok : ∀ e, e ∈ tab2 → Maps Tryz.prog e.1 e.2.1 e.2.2 := by
  intro e he
  simp only [tab2, List.mem_cons, List.not_mem_nil, or_false] at he
  rcases he with rfl | rfl | rfl
  · exact m_mend1
  · exact m_mend3
  · exact m_mend2
theorem m_head : Maps Tryz.prog 14 [] (wB true) :=
  (run_ok (C1_ok (own := [25]) tab2_ok) 300).own (isTrueD_ok (by kernel_rfl))
end Go.DL
