/- The law LeavesInterpolate. -/
import Derived.Test.YtmbbepdbjeciaaaGreatZb
import Derived.Test.YtmbbepdbjeciaaaGreatP1
import Derived.Test.YtmbbepdbjeciaaaGreatE5
set_option maxRecDepth 100000
set_option maxHeartbeats 16000000
namespace Go.DL
open Go.Proofs Go


theorem eDot_low (o : List Dot) (K : Nat) : BlkBelow K (.live 2 (o.map eDot)) := by
  intro e he d hd
  obtain ⟨x, _, rfl⟩ := List.mem_map.1 he
  simp only [List.mem_cons, List.not_mem_nil, or_false] at hd
  rcases hd with rfl | rfl <;> rfl
theorem eDot_no (o : List Dot) (k s : Nat) : BlkNo k s (.live 2 (o.map eDot)) := by
  intro e he d hd
  obtain ⟨x, _, rfl⟩ := List.mem_map.1 he
  simp only [List.mem_cons, List.not_mem_nil, or_false] at hd
  rcases hd with rfl | rfl <;> rfl
end Go.DL
