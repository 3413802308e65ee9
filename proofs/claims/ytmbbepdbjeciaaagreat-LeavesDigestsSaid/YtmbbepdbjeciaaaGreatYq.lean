/- A copy of an answer, with a change: its rows in blocks of their own. -/
import Derived.Test.YtmbbepdbjeciaaaGreatYk
import Derived.Test.YtmbbepdbjeciaaaGreatZh
set_option maxRecDepth 100000
set_option maxHeartbeats 16000000
namespace Go.DL
open Go.Proofs Go

section
variable {P : Program} {H : List Blk} {s n : Nat} {al : AL} {tx ty' : TypeId} {x y : Operand} {a b : Int}
end
/-- Rows in blocks of their own. -/
structure YC (H : List Blk) (b : Nat) (ql : List (Nat × Nat)) (M : List (List Int)) : Prop where
  rows : H[b]? = some (.live 1 (ql.map fun q => [.ms q.1 0 q.2 q.2]))
  len : M.length = ql.length
  row : ∀ i, i < ql.length → H[(ql.getD i (0, 0)).1]? = some (.live 1 ((M.getD i []).map eI)) ∧ (ql.getD i (0, 0)).2 = (M.getD i []).length
  lo : ∀ i, i < ql.length → 6 ≤ (ql.getD i (0, 0)).1 ∧ (ql.getD i (0, 0)).1 ≠ b
  nd : ∀ i j, i < ql.length → j < ql.length → (ql.getD i (0, 0)).1 = (ql.getD j (0, 0)).1 → i = j
section
variable {H T : List Blk} {b q i : Nat} {ql : List (Nat × Nat)} {M : List (List Int)}
theorem YC.app (h : YC H b ql M) (T : List Blk) : YC (H ++ T) b ql M := ⟨blk_app T h.rows, h.len, fun i hi => ⟨blk_app T (h.row i hi).1, (h.row i hi).2⟩, h.lo, h.nd⟩
theorem YC.other (h : YC H b ql M) (hb : q ≠ b) (hq : q < 6 ∨ ∀ i, i < ql.length → (ql.getD i (0, 0)).1 ≠ q) (x : Blk) : YC (H.set q x) b ql M :=
  ⟨blk_ne h.rows hb, h.len, fun i hi => ⟨blk_ne (h.row i hi).1 (by
    rcases hq with hq | hq
    · have := (h.lo i hi).1; omega
    · exact fun e => hq i hi e.symm), (h.row i hi).2⟩, h.lo, h.nd⟩
theorem YC.lt (h : YC H b ql M) : b < H.length ∧ ∀ i, i < ql.length → (ql.getD i (0, 0)).1 < H.length := ⟨blk_lt h.rows, fun i hi => blk_lt (h.row i hi).1⟩
theorem YC.one {H : List Blk} {p b : Nat} {r : List Int} (hp : H[p]? = some (.live 1 (r.map eI))) (hb : H[b]? = some (.live 1 [[.ms p 0 r.length r.length]])) (h6 : 6 ≤ p) (hn : p ≠ b) : YC H b [(p, r.length)] [r] :=
  ⟨hb, rfl, fun i hi => by
    obtain rfl : i = 0 := by simp at hi; exact hi
    exact ⟨hp, rfl⟩, fun i hi => by
    obtain rfl : i = 0 := by simp at hi; exact hi
    exact ⟨h6, hn⟩, fun i j hi hj _ => by simp at hi hj; omega⟩
theorem YC.push (h : YC H b ql M) {r : List Int} {t t' : Nat} (hl6 : 6 ≤ H.length) (htt : t ≠ t') (ht : T[t]? = some (.live 1 (r.map eI))) (ht' : T[t']? = some (.live 1 ((ql ++ [(H.length + t, r.length)]).map fun q => [.ms q.1 0 q.2 q.2]))) : YC (H.set b .dead ++ T) (H.length + t') (ql ++ [(H.length + t, r.length)]) (M ++ [r]) := by
  obtain ⟨h1, h2⟩ := h.lt
  have hl : (H.set b Blk.dead).length = H.length := by simp
  have hL := h.len
  have hp : (ql ++ [(H.length + t, r.length)]).length = ql.length + 1 := by simp
  refine ⟨blk_at hl ht', by simp [hL], fun i hi => ?_, fun i hi => ?_, fun i j hi hj he => ?_⟩
  · rw [hp] at hi
    rw [getD_snocL _ _ _ _ hi, getD_snocL _ _ _ _ (by omega), hL]
    split
    · rename_i hlt
      exact ⟨blk_app _ (blk_ne (h.row i hlt).1 fun e => (h.lo i hlt).2 e.symm), (h.row i hlt).2⟩
    · exact ⟨blk_at hl ht, rfl⟩
  · rw [hp] at hi
    rw [getD_snocL _ _ _ _ hi]
    split
    · rename_i hlt
      have := h2 i hlt
      exact ⟨(h.lo i hlt).1, by omega⟩
    · exact ⟨by show 6 ≤ H.length + t; omega, by show H.length + t ≠ H.length + t'; omega⟩
  · rw [hp] at hi hj
    rw [getD_snocL _ _ _ _ hi, getD_snocL _ _ _ _ hj] at he
    split at he <;> split at he
    · rename_i a1 a2; exact h.nd i j a1 a2 he
    · rename_i a1 a2
      have := h2 i a1
      have he' : (ql.getD i (0, 0)).1 = H.length + t := he
      omega
    · rename_i a1 a2
      have := h2 j a2
      have he' : H.length + t = (ql.getD j (0, 0)).1 := he
      omega
    · omega
theorem YC.snap (h : YC H b ql M) (lv : Nat) : snap (fun b => H[b]?) (lv + 2) (.ms b 0 ql.length ql.length) = .sl (M.map eRow) := by
  have hL := h.len
  simp only [DL.snap, h.rows, Nat.zero_add, List.length_map, Nat.le_refl, if_true, List.drop_zero]
  rw [List.take_of_length_le (by simp), List.map_map]
  refine congrArg D.sl (List.ext_getElem (by simp [hL]) fun i h1 h2 => ?_)
  have hi : i < ql.length := by simpa using h1
  obtain ⟨e1, e2⟩ := h.row i hi
  have ec : ql[i] = ql.getD i (0, 0) := by rw [List.getD_eq_getElem?_getD, List.getElem?_eq_getElem hi]; rfl
  have em : M[i]'(by omega) = M.getD i [] := by rw [List.getD_eq_getElem?_getD, List.getElem?_eq_getElem (by omega)]; rfl
  simp only [List.getElem_map, Function.comp, List.map_cons, List.map_nil, ec, em, eRow]
  rw [snapW (k := lv) e1 e2]
end
end Go.DL
