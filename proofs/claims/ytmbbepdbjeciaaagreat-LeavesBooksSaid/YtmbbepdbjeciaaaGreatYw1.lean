/- Rows of words, each in a block of its own; the words of lines; data that are written. -/
import Derived.Test.YtmbbepdbjeciaaaGreatYu4
import Derived.Test.YtmbbepdbjeciaaaGreatZp1
import Derived.Test.YtmbbepdbjeciaaaGreatZx
import Derived.Test.YtmbbepdbjeciaaaGreatE6
set_option maxRecDepth 100000
set_option maxHeartbeats 16000000
namespace Go.DL
open Go.Proofs Go
/-- A row in a block of its own. -/
abbrev eQ (q : Nat × List Int) : List D := [.ms q.1 0 q.2.length q.2.length]
structure RQ (H : List Blk) (b : Nat) (qs : List (Nat × List Int)) : Prop where
  rows : H[b]? = some (.live 1 (qs.map eQ))
  row : ∀ q, q ∈ qs → H[q.1]? = some (.live 1 (q.2.map eI)) ∧ q.1 ≠ b
theorem RQ.push {H T : List Blk} {b p : Nat} {qs : List (Nat × List Int)} {row : List Int} (h : RQ H b qs) (hp : (H ++ T)[p]? = some (.live 1 (row.map eI))) (hpb : p ≠ b) :
    RQ ((H ++ T).set b .dead ++ [.live 1 ((qs ++ [(p, row)]).map eQ)]) (H ++ T).length (qs ++ [(p, row)]) := by
  have hl : ((H ++ T).set b Blk.dead).length = (H ++ T).length := by simp
  refine ⟨by rw [List.getElem?_append_right (by rw [hl]; exact Nat.le_refl _), hl, Nat.sub_self]; rfl, fun q hq => ?_⟩
  have key : (H ++ T)[q.1]? = some (.live 1 (q.2.map eI)) ∧ q.1 ≠ b := by
    rcases List.mem_append.1 hq with h1 | h1
    · exact ⟨blk_app T (h.row q h1).1, (h.row q h1).2⟩
    · rw [List.mem_singleton.1 h1]; exact ⟨hp, hpb⟩
  have hlt := blk_lt key.1
  exact ⟨blk_app _ (blk_ne key.1 (Ne.symm key.2)), by omega⟩
theorem RQ.get {H : List Blk} {b : Nat} {qs : List (Nat × List Int)} (h : RQ H b qs) {q : Nat × List Int} (hq : q ∈ qs) (lv : Nat) : snap (fun b => H[b]?) (lv + 1) (.ms q.1 0 q.2.length q.2.length) = .sl (q.2.map eI) :=
  snapW (k := lv) (h.row q hq).1 rfl
theorem RQ.snap {H : List Blk} {b m c : Nat} {qs : List (Nat × List Int)} (h : RQ H b qs) (hm : m = qs.length) (lv : Nat) : snap (fun b => H[b]?) (lv + 2) (.ms b 0 m c) = .sl ((qs.map (·.2)).map eRow) := by
  subst hm
  simp only [DL.snap, h.rows, Nat.zero_add, List.length_map, Nat.le_refl, if_true, List.drop_zero]
  rw [List.take_of_length_le (by simp), List.map_map, List.map_map]
  refine congrArg D.sl (List.map_congr_left fun q hq => ?_)
  simp only [Function.comp, List.map_cons, List.map_nil, eRow]
  rw [h.get hq]
theorem RQ.snapR {H : List Blk} {b m c : Nat} {qs : List (Nat × List Int)} (h : RQ H b qs) (hm : m = qs.length) (lv : Nat) : snapR (fun b => H[b]?) (lv + 3) (.ms b 0 m c) = .fl ((qs.map (·.2)).map eRow) := by
  subst hm
  simp only [DL.snapR, h.rows, Nat.zero_add, List.length_map, Nat.le_refl, if_true, List.drop_zero]
  rw [if_pos, List.take_of_length_le (by simp), List.map_map, List.map_map]
  · refine congrArg D.fl (List.map_congr_left fun q hq => ?_)
    simp only [Function.comp, List.map_cons, List.map_nil, eRow]
    rw [h.get hq]
  · refine List.all_eq_true.2 fun e he => ?_
    obtain ⟨q, hq, rfl⟩ := List.mem_map.1 he
    rw [List.all_cons, List.all_nil, Bool.and_true]
    simp only [frK, (h.row q hq).1]
    exact eI_all _ _ fun x => rfl
end Go.DL
