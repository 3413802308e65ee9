/- The chapter's examples: Mend of two leaves; of three, one of which is wrong; and what Mend of all four, one of which is wrong, calls. -/
import Derived.Test.YtmbbepdbjeciaaaGreatZf
set_option linter.all false
set_option maxRecDepth 100000
namespace Go.DL
open Go.Proofs Go

theorem m_mend1 : Maps Tryz.prog 25 [dShape 2 2 1, dLvs [(3, [11]), (4, [14])]] (.tup [.agg [.fl [[.sl [[wI 5]]], [.sl [[wI 8]]]], .fl []], wI 0]) :=
  (run_ok C0_ok 300).own (by kernel_rfl)
theorem m_mend3 : Maps Tryz.prog 25 [dShape 2 2 1, dLvs [(1, [5]), (2, [9]), (3, [11])]] (.tup [.agg [.fl [], .fl []], wI 9]) :=
  (run_ok C0_ok 300).own (by kernel_rfl)
theorem C1_ok0 (own : List FuncId) : (C1 [] own).Ok := C1_ok fun _ h => by cases h
theorem m_dec2 : Maps Tryz.prog 132 [.sl [eDot ⟨1, 5⟩, eDot ⟨2, 9⟩, eDot ⟨3, 11⟩, eDot ⟨4, 14⟩], wI 2, wI 1] (.tup [.fl [[wI 2], [wI 3]], wB true]) :=
  (run_ok (C1_ok0 [132]) 300).own (by kernel_rfl)
theorem m_whole1 : Maps Tryz.prog 71 [dShape 2 2 1, dRows [[5], [8]]] (.fl [[wI 1, .sl [[wI 5]]], [wI 2, .sl [[wI 8]]], [wI 3, .sl [[wI 11]]], [wI 4, .sl [[wI 14]]]]) :=
  (run_ok C0_ok 300).own (by kernel_rfl)
end Go.DL
