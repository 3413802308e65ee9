/- Reading: what both programs answer. -/
import Derived.Test.YtmbbepdbjeciaaaGreatYw6
import Derived.Test.YtmbbepdbjeciaaaGreatYp1
import Derived.Test.YtmbbepdbjeciaaaGreatZy
set_option maxRecDepth 100000
set_option maxHeartbeats 16000000
namespace Go.DL
open Go.Proofs Go
/-- The lines that some words tell, behind the first word. -/
def linesOf (w : List Int) (n : Nat) : List Line := (List.range n).map fun i => lineOfS ((w.drop (1 + i * 7)).take 7)
theorem linesOf_succ (w : List Int) (n : Nat) : linesOf w (n + 1) = linesOf w n ++ [lineOfS ((w.drop (1 + n * 7)).take 7)] := by simp [linesOf, List.range_succ]
theorem linesOf_len (w : List Int) (n : Nat) : (linesOf w n).length = n := by simp [linesOf]
def ReadS (s : Shape) (d : List (List Int)) : List Line × Int :=
  if CheckS s = 0 then (if DataS s d = true then
    (if 60 < d.flatten.getD 0 0 ∨ (d.flatten.length : Int) < 1 + 7 * d.flatten.getD 0 0 then ([], 7)
     else if (WriteS s (linesOf d.flatten (d.flatten.getD 0 0).toNat)) = (d, 0) then (linesOf d.flatten (d.flatten.getD 0 0).toNat, 0) else ([], 7)) else ([], 1)) else ([], 1)
theorem getD_dt (w : List Int) (o j : Nat) (hj : j < 7) : ((w.drop o).take 7).getD j 0 = w.getD (o + j) 0 := by
  simp only [List.getD_eq_getElem?_getD, List.getElem?_take, if_pos hj, List.getElem?_drop]
theorem lineOf_dt (w : List Int) (o : Nat) : lineOfS ((w.drop o).take 7) = ⟨(w.getD (o + 0) 0 * 65521 + w.getD (o + 1) 0) * 65521 + w.getD (o + 2) 0, w.getD (o + 3) 0, w.getD (o + 4) 0, w.getD (o + 5) 0 * 65521 + w.getD (o + 6) 0⟩ := by
  unfold lineOfS
  rw [getD_dt w o 0 (by decide), getD_dt w o 1 (by decide), getD_dt w o 2 (by decide), getD_dt w o 3 (by decide), getD_dt w o 4 (by decide), getD_dt w o 5 (by decide), getD_dt w o 6 (by decide)]
theorem WriteS_small (s : Shape) (l : List Line) : (WriteS s l).1.length ≤ 1000 ∧ ∀ x, x ∈ (WriteS s l).1 → x.length ≤ 1000 := by
  have h0 : ((([] : List (List Int)), (1 : Int)).1.length ≤ 1000 ∧ ∀ x, x ∈ (([] : List (List Int)), (1 : Int)).1 → x.length ≤ 1000) := ⟨by decide, fun x h => by cases h⟩
  unfold WriteS
  rcases CheckS_cases s with ⟨e, h⟩ | ⟨e, h⟩
  · rw [if_pos e]
    split
    · unfold writeS
      by_cases hf : (wordsS l).length ≤ s.Data.toNat * s.Width.toNat
      · rw [if_pos hf]
        obtain ⟨⟨h1, h2⟩, _, h4, h5⟩ := h
        refine ⟨by simp [rowsOf]; omega, fun x hx => ?_⟩
        obtain ⟨k, _, rfl⟩ := List.mem_map.1 hx
        rw [List.length_drop, List.length_take, Nat.succ_mul]; omega
      · rw [if_neg hf]; exact h0
    · exact h0
  · rw [if_neg (by omega)]; exact h0
theorem snapRLn {lk : Nat → Option Blk} {b m cap k : Nat} {o : List Line} (h : lk b = some (.live 4 (o.map eLine))) (hm : m = o.length) : snapR lk (k + 1) (.ms b 0 m cap) = .fl (o.map eLine) := by
  subst hm
  simp only [snapR, h, Nat.zero_add, List.length_map, Nat.le_refl, if_true, List.drop_zero]
  rw [List.take_of_length_le (by simp), if_pos (List.all_eq_true.2 fun e he => by obtain ⟨x, _, rfl⟩ := List.mem_map.1 he; cases k <;> rfl), List.map_map]
  exact congrArg D.fl (List.map_congr_left fun x _ => by cases k <;> rfl)
end Go.DL
