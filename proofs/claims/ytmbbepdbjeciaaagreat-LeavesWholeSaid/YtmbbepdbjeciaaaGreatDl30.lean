/- Elements of several cells: appended to a slice of one's own. -/
import Derived.Test.YtmbbepdbjeciaaaGreatDl24
set_option linter.all false
namespace Go.DL
open Go.RowKit Go.Proofs

section
variable {P : Program} {H : List Blk} {s n : Nat} {al : AL} {tx : TypeId} {x y : Operand}
theorem f_appG {α : Type} {f : α → List D} {te : TypeId} {m c m' c' b1 b2 sz by' : Nat} {o v : List α} (hx : evA n al x = .ms b1 0 m c) (hy : evA n al y = .ms b2 0 m' c') (hb1 : H[b1]? = some (.live sz (o.map f))) (hb2 : H[b2]? = some (.live sz (v.map f))) (hm : m = o.length) (hm' : m' = v.length)
    (he : elemT P tx = some (te, sz)) (h0 : 0 < sz) (hz : (zeroD P te).map List.length = some sz) (hby : P.bytesOf te = by') (hf : ∀ a, (f a).length = sz ∧ (f a).all isCell = true) (hl : (o.length + v.length) * by' ≤ 140737488355328) (hl2 : o.length + v.length ≤ 9223372036854775807) :
    Ap P H s n al (.call { callee := .builtin .append, args := #[x, y], argTypes := #[tx, tx] }) (o ++ v).length (some b1) (.live sz ((o ++ v).map f)) := by
  subst hm; subst hm'
  have hu : P.underlying tx = some (.slice te) := by
    unfold elemT at he
    split at he
    · rename_i e hu; simp only [Option.map_eq_some_iff] at he; obtain ⟨_, _, h⟩ := he; cases h; exact hu
    · cases he
  refine f_app hx hy ?_ (by simp)
  have e1 : elemsD H (.ms b1 0 o.length c) = some (o.map f) := by
    simp only [elemsD, hb1, Nat.zero_add, List.length_map, Nat.le_refl, if_true, List.drop_zero]
    rw [List.take_of_length_le (by simp)]
  have e2 : elemsD H (.ms b2 0 v.length c') = some (v.map f) := by
    simp only [elemsD, hb2, Nat.zero_add, List.length_map, Nat.le_refl, if_true, List.drop_zero]
    rw [List.take_of_length_le (by simp)]
  have e3 : ∀ l : List α, (l.map f).all (fun e => e.length == sz) = true := fun l => List.all_eq_true.2 fun e he => by
    obtain ⟨a, _, rfl⟩ := List.mem_map.1 he
    simpa using (hf a).1
  have e4 : (v.map f).all (fun e => e.all isCell) = true := List.all_eq_true.2 fun e he => by
    obtain ⟨a, _, rfl⟩ := List.mem_map.1 he
    exact (hf a).2
  simp only [appendD, addedD, he, hu, e1, e2]
  rw [if_pos]
  · simp only [hb1, Blk.hasSz]; simp
  · refine ⟨h0, hz, e3 o, e3 v, e4, ?_, ?_⟩
    · rw [hby, List.length_map, List.length_map]; exact hl
    · rw [List.length_map, List.length_map]; exact hl2
end
end Go.DL
