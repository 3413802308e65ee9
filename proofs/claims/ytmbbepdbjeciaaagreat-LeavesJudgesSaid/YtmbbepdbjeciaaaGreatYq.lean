/- A copy of an answer, with a change: its rows in blocks of their own. -/
import Derived.Test.YtmbbepdbjeciaaaGreatYp
set_option linter.all false
set_option maxRecDepth 100000
set_option maxHeartbeats 16000000
namespace Go.DL
open Go.Proofs Go

section
variable {P : Program} {H : List Blk} {s n : Nat} {al : AL} {tx ty' : TypeId} {x y : Operand} {a b : Int}
theorem f_remU (hx : evA n al x = .v (.int .u8 a)) (hy : evA n al y = .v (.int .u8 b)) (h0 : 0 ≤ a) (hb : b ≠ 0) : Val P H s n al (.binOp .rem tx x y ty') (.v (.int .u8 (a % b))) := by
  have e : a.tmod b = a % b := Int.tmod_eq_emod_of_nonneg h0
  refine ⟨?_⟩; simp only [stepD, ev_T, hx, hy, binD, intBin, if_true, hb, if_false, Option.map_some, keepD, e]
theorem f_quoU (hx : evA n al x = .v (.int .u8 a)) (hy : evA n al y = .v (.int .u8 b)) (h0 : 0 ≤ a) (h1 : a ≤ 255) (hb : 0 < b) : Val P H s n al (.binOp .quo tx x y ty') (.v (.int .u8 (a / b))) := by
  have e : a.tdiv b = a / b := Int.tdiv_eq_ediv_of_nonneg h0
  have h3 : 0 ≤ a / b := Int.ediv_nonneg h0 (Int.le_of_lt hb)
  have h4 : a / b ≤ a := Int.ediv_le_self b h0
  have hw : IntKind.wrap .u8 (a / b) = a / b := by
    show a / b % 256 = a / b
    omega
  refine ⟨?_⟩; simp only [stepD, ev_T, hx, hy, binD, intBin, if_true, show b ≠ 0 by omega, if_false, Option.map_some, keepD, e, hw]
theorem f_eqlU (hx : evA n al x = .v (.int .u8 a)) (hy : evA n al y = .v (.int .u8 b)) : Val P H s n al (.binOp .eql tx x y ty') (wB (decide (a = b))) := by
  refine ⟨?_⟩; simp only [stepD, ev_T, hx, hy, binD, intBin, if_true, Option.map_some, keepD]; rfl
theorem f_addW (hx : evA n al x = wI a) (hy : evA n al y = wI b) : Val P H s n al (.binOp .add tx x y ty') (wI (IntKind.wrap .i64 (a + b))) := by
  refine ⟨?_⟩; simp only [stepD, ev_T, hx, hy, binD, intBin, if_true, Option.map_some, keepD]
end
/-- Rows in blocks of their own. -/
structure YC (H : List Blk) (b : Nat) (ql : List (Nat × Nat)) (M : List (List Int)) : Prop where
  rows : H[b]? = some (.live 1 (ql.map fun q => [.ms q.1 0 q.2 q.2]))
  len : M.length = ql.length
  row : ∀ i, i < ql.length → H[(ql.getD i (0, 0)).1]? = some (.live 1 ((M.getD i []).map eI)) ∧ (ql.getD i (0, 0)).2 = (M.getD i []).length
  lo : ∀ i, i < ql.length → 6 ≤ (ql.getD i (0, 0)).1 ∧ (ql.getD i (0, 0)).1 ≠ b
  nd : ∀ i j, i < ql.length → j < ql.length → (ql.getD i (0, 0)).1 = (ql.getD j (0, 0)).1 → i = j
section
variable {H T : List Blk} {b q i : Nat} {ql : List (Nat × Nat)} {M : List (List Int)}
theorem YC.app (h : YC H b ql M) (T : List Blk) : YC (H ++ T) b ql M := ⟨blk_app T h.rows, h.len, fun i hi => ⟨blk_app T (h.row i hi).1, (h.row i hi).2⟩, h.lo, h.nd⟩
theorem YC.other (h : YC H b ql M) (hb : q ≠ b) (hq : q < 6 ∨ ∀ i, i < ql.length → (ql.getD i (0, 0)).1 ≠ q) (x : Blk) : YC (H.set q x) b ql M :=
  ⟨blk_ne h.rows hb, h.len, fun i hi => ⟨blk_ne (h.row i hi).1 (by
    rcases hq with hq | hq
    · have := (h.lo i hi).1; omega
    · exact fun e => hq i hi e.symm), (h.row i hi).2⟩, h.lo, h.nd⟩
theorem YC.lt (h : YC H b ql M) : b < H.length ∧ ∀ i, i < ql.length → (ql.getD i (0, 0)).1 < H.length := ⟨blk_lt h.rows, fun i hi => blk_lt (h.row i hi).1⟩
theorem YC.one {H : List Blk} {p b : Nat} {r : List Int} (hp : H[p]? = some (.live 1 (r.map eI))) (hb : H[b]? = some (.live 1 [[.ms p 0 r.length r.length]])) (h6 : 6 ≤ p) (hn : p ≠ b) : YC H b [(p, r.length)] [r] :=
  ⟨hb, rfl, fun i hi => by
    obtain rfl : i = 0 := by simp at hi; exact hi
    exact ⟨hp, rfl⟩, fun i hi => by
    obtain rfl : i = 0 := by simp at hi; exact hi
    exact ⟨h6, hn⟩, fun i j hi hj _ => by simp at hi hj; omega⟩
theorem YC.push (h : YC H b ql M) {r : List Int} {t t' : Nat} (hl6 : 6 ≤ H.length) (htt : t ≠ t') (ht : T[t]? = some (.live 1 (r.map eI))) (ht' : T[t']? = some (.live 1 ((ql ++ [(H.length + t, r.length)]).map fun q => [.ms q.1 0 q.2 q.2]))) : YC (H.set b .dead ++ T) (H.length + t') (ql ++ [(H.length + t, r.length)]) (M ++ [r]) := by
  obtain ⟨h1, h2⟩ := h.lt
  have hl : (H.set b Blk.dead).length = H.length := by simp
  have hL := h.len
  have hp : (ql ++ [(H.length + t, r.length)]).length = ql.length + 1 := by simp
  refine ⟨blk_at hl ht', by simp [hL], fun i hi => ?_, fun i hi => ?_, fun i j hi hj he => ?_⟩
  · rw [hp] at hi
    rw [getD_snocL _ _ _ _ hi, getD_snocL _ _ _ _ (by omega), hL]
    split
    · rename_i hlt
      exact ⟨blk_app _ (blk_ne (h.row i hlt).1 fun e => (h.lo i hlt).2 e.symm), (h.row i hlt).2⟩
    · exact ⟨blk_at hl ht, rfl⟩
  · rw [hp] at hi
    rw [getD_snocL _ _ _ _ hi]
    split
    · rename_i hlt
      have := h2 i hlt
      exact ⟨(h.lo i hlt).1, by omega⟩
    · exact ⟨by show 6 ≤ H.length + t; omega, by show H.length + t ≠ H.length + t'; omega⟩
  · rw [hp] at hi hj
    rw [getD_snocL _ _ _ _ hi, getD_snocL _ _ _ _ hj] at he
    split at he <;> split at he
    · rename_i a1 a2; exact h.nd i j a1 a2 he
    · rename_i a1 a2
      have := h2 i a1
      have he' : (ql.getD i (0, 0)).1 = H.length + t := he
      omega
    · rename_i a1 a2
      have := h2 j a2
      have he' : H.length + t = (ql.getD j (0, 0)).1 := he
      omega
    · omega
theorem YC.setRow (h : YC H b ql M) (hi : i < ql.length) {r : List Int} (hr : r.length = (M.getD i []).length) : YC (H.set (ql.getD i (0, 0)).1 (.live 1 (r.map eI))) b ql (M.set i r) := by
  have hL := h.len
  refine ⟨blk_ne h.rows (h.lo i hi).2, by simp [hL], fun j hj => ?_, h.lo, h.nd⟩
  rw [getD_setX _ _ _ _ _ (by omega)]
  by_cases e : i = j
  · subst e
    rw [if_pos rfl]
    exact ⟨List.getElem?_set_self (h.lt.2 i hi), by rw [hr]; exact (h.row i hi).2⟩
  · rw [if_neg e]
    exact ⟨blk_ne (h.row j hj).1 fun q => e (h.nd i j hi hj q), (h.row j hj).2⟩
theorem YC.snap (h : YC H b ql M) (lv : Nat) : snap (fun b => H[b]?) (lv + 2) (.ms b 0 ql.length ql.length) = .sl (M.map eRow) := by
  have hL := h.len
  simp only [DL.snap, h.rows, Nat.zero_add, List.length_map, Nat.le_refl, if_true, List.drop_zero]
  rw [List.take_of_length_le (by simp), List.map_map]
  refine congrArg D.sl (List.ext_getElem (by simp [hL]) fun i h1 h2 => ?_)
  have hi : i < ql.length := by simpa using h1
  obtain ⟨e1, e2⟩ := h.row i hi
  have ec : ql[i] = ql.getD i (0, 0) := by rw [List.getD_eq_getElem?_getD, List.getElem?_eq_getElem hi]; rfl
  have em : M[i]'(by omega) = M.getD i [] := by rw [List.getD_eq_getElem?_getD, List.getElem?_eq_getElem (by omega)]; rfl
  simp only [List.getElem_map, Function.comp, List.map_cons, List.map_nil, ec, em, eRow]
  rw [snapW (k := lv) e1 e2]
theorem YC.ptr (_ : YC H b ql M) (hi : i < ql.length) : (ql.map fun q => [D.ms q.1 0 q.2 q.2])[i]? = some [.ms (ql.getD i (0, 0)).1 0 (ql.getD i (0, 0)).2 (ql.getD i (0, 0)).2] := by
  simp [List.getD_eq_getElem?_getD, hi]
end
/-- What is left of a slice, as a called function sees it. -/
theorem snapDrop {lk : Nat → Option Blk} {b m cap k t : Nat} {o : List Int} (h : lk b = some (.live 1 (o.map eI))) (hm : t + m = o.length) : snap lk (k + 1) (.ms b t m cap) = .sl ((o.drop t).map eI) := by
  simp only [snap, h, hm, List.length_map, Nat.le_refl, if_true]
  rw [List.take_of_length_le (by simp), ← List.map_drop, eI_map _ _ fun x => by cases k <;> rfl]
end Go.DL
