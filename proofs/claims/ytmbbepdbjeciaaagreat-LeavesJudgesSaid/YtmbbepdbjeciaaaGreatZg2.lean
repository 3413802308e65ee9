/- The chapter's examples: Mend of four leaves, one of which is wrong. -/
import Derived.Test.YtmbbepdbjeciaaaGreatZg1
set_option linter.all false
set_option maxRecDepth 100000
namespace Go.DL
open Go.Proofs Go

def tab1 : List (FuncId × List D × D) :=
  [(132, [.sl [eDot ⟨1, 5⟩, eDot ⟨2, 9⟩, eDot ⟨3, 11⟩, eDot ⟨4, 14⟩], wI 2, wI 1], .tup [.fl [[wI 2], [wI 3]], wB true]),
   (71, [dShape 2 2 1, dRows [[5], [8]]], .fl [[wI 1, .sl [[wI 5]]], [wI 2, .sl [[wI 8]]], [wI 3, .sl [[wI 11]]], [wI 4, .sl [[wI 14]]]])]
theorem tab1_ok : ∀ e, e ∈ tab1 → Maps Tryz.prog e.1 e.2.1 e.2.2 := by
  intro e he
  simp only [tab1, List.mem_cons, List.not_mem_nil, or_false] at he
  rcases he with rfl | rfl
  · exact m_dec2
  · exact m_whole1
theorem m_mend2 : Maps Tryz.prog 25 [dShape 2 2 1, dLvs [(1, [5]), (2, [9]), (3, [11]), (4, [14])]] (.tup [.agg [.fl [[.sl [[wI 5]]], [.sl [[wI 8]]]], .fl [[wI 2]]], wI 0]) :=
  (run_ok (C1_ok (own := [132]) tab1_ok) 300).own (by kernel_rfl)
end Go.DL
