/- The law LeavesInterpolate. -/
import Derived.Test.YtmbbepdbjeciaaaGreatZc
import Derived.Test.YtmbbepdbjeciaaaGreatP1
import Derived.Test.YtmbbepdbjeciaaaGreatE11
set_option linter.all false
set_option maxRecDepth 100000
set_option maxHeartbeats 16000000
namespace Go.DL
open Go.Proofs Go


theorem eDot_low (o : List Dot) (K : Nat) : BlkBelow K (.live 2 (o.map eDot)) := by
  intro e he d hd
  obtain ⟨x, _, rfl⟩ := List.mem_map.1 he
  simp only [List.mem_cons, List.not_mem_nil, or_false] at hd
  rcases hd with rfl | rfl <;> rfl
theorem eDot_no (o : List Dot) (k s : Nat) : BlkNo k s (.live 2 (o.map eDot)) := by
  intro e he d hd
  obtain ⟨x, _, rfl⟩ := List.mem_map.1 he
  simp only [List.mem_cons, List.not_mem_nil, or_false] at hd
  rcases hd with rfl | rfl <;> rfl
theorem snapDot {lk : Nat → Option Blk} {b cap : Nat} {o : List Dot} (h : lk b = some (.live 2 (o.map eDot))) : snap lk 5 (.ms b 0 o.length cap) = .sl (o.map eDot) := by
  have e : (o.map eDot).map (List.map (snap lk 4)) = o.map eDot := by
    rw [List.map_map]; exact List.map_congr_left fun x _ => rfl
  simp only [snap, h, Nat.zero_add, List.length_map, Nat.le_refl, if_true, List.drop_zero]
  rw [List.take_of_length_le (by simp), e]
theorem horner_cg (c : List Int) (x : Int) : DM.Cg (horner c x) (DM.evP c x) := DM.horner_ev x c
end Go.DL
