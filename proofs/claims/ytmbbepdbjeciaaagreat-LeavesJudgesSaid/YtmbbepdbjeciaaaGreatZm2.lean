/- What leaves tell: the columns, the rows, and who is wrong. -/
import Derived.Test.YtmbbepdbjeciaaaGreatZp
import Derived.Test.YtmbbepdbjeciaaaGreatZs
import Derived.Test.YtmbbepdbjeciaaaGreatZy
set_option linter.all false
set_option maxRecDepth 100000
namespace Go.DL
open Go.Proofs Go

def dotsL (l : List Leaf) (j : Nat) : List Dot := l.map fun x => ⟨x.Number, x.Words.getD j 0⟩
theorem dotsL_len (l : List Leaf) (j : Nat) : (dotsL l j).length = l.length := by simp [dotsL]
theorem dotsL_num (l : List Leaf) (j : Nat) : ((dotsL l j).map dotP2).map Prod.fst = l.map Leaf.Number := by simp [dotsL, dotP2, Function.comp_def]
theorem dotsL_snoc (l : List Leaf) (j i : Nat) (h : i < l.length) : dotsL (l.take (i + 1)) j = dotsL (l.take i) j ++ [⟨l[i].Number, l[i].Words.getD j 0⟩] := by
  have e : l.take (i + 1) = l.take i ++ [l[i]] := by rw [List.take_add_one, List.getElem?_eq_getElem h]; rfl
  rw [e]; exact List.map_append
noncomputable def colM (k e : Nat) (l : List Leaf) (j : Nat) : Option (List Int) := DM.decS k e ((dotsL l j).map dotP2)
noncomputable def colsM (k e : Nat) (l : List Leaf) : Nat → Option (List (List Int))
  | 0 => some []
  | j + 1 => match colsM k e l j with
    | none => none
    | some cs => match colM k e l j with
      | none => none
      | some c => some (cs ++ [c])
theorem colsM_none {k e : Nat} {l : List Leaf} {j : Nat} (h : colsM k e l j = none) : ∀ w, j ≤ w → colsM k e l w = none
  | 0, hw => by rw [show j = 0 by omega] at h; exact h
  | w + 1, hw => by
    by_cases hj : j = w + 1
    · rw [← hj]; exact h
    · rw [colsM, colsM_none h w (by omega)]
theorem colsM_len {k e : Nat} {l : List Leaf} : ∀ {j : Nat} {cs : List (List Int)}, colsM k e l j = some cs → cs.length = j
  | 0, cs, h => by cases h; rfl
  | j + 1, cs, h => by
    rw [colsM] at h
    split at h
    · cases h
    · rename_i cs' hc
      split at h
      · cases h
      · cases h
        rw [List.length_append, colsM_len hc]; rfl
theorem colsM_next {k e : Nat} {l : List Leaf} {j : Nat} {cs : List (List Int)} {c : List Int} (h : colsM k e l j = some cs) (hc : colM k e l j = some c) : colsM k e l (j + 1) = some (cs ++ [c]) := by
  rw [colsM, h]; simp only; rw [hc]
theorem colsM_stop {k e : Nat} {l : List Leaf} {j : Nat} {cs : List (List Int)} (h : colsM k e l j = some cs) (hc : colM k e l j = none) : colsM k e l (j + 1) = none := by
  rw [colsM, h]; simp only; rw [hc]
def rowsP (cs : List (List Int)) (c : List Int) (k i : Nat) : List (List Int) := (List.range k).map fun r : Nat => (if r < i then cs ++ [c] else cs).map fun c => horner c ((r : Int) + 1)
def rowsM (cs : List (List Int)) (k : Nat) : List (List Int) := (List.range k).map fun r : Nat => cs.map fun c => horner c ((r : Int) + 1)
theorem rowsP_zero (cs : List (List Int)) (c : List Int) (k : Nat) : rowsP cs c k 0 = rowsM cs k := by simp [rowsP, rowsM]
theorem rowsP_all (cs : List (List Int)) (c : List Int) (k : Nat) : rowsP cs c k k = rowsM (cs ++ [c]) k :=
  List.map_congr_left fun r hr => by rw [List.mem_range] at hr; rw [if_pos hr]
theorem rowsM_get (cs : List (List Int)) {k i : Nat} (h : i < k) : (rowsM cs k).getD i [] = cs.map fun c => horner c ((i : Int) + 1) := by simp [rowsM, h]
theorem rowsP_get (cs : List (List Int)) (c : List Int) {k i j : Nat} (h : i < k) : (rowsP cs c k j).getD i [] = (if i < j then cs ++ [c] else cs).map fun c => horner c ((i : Int) + 1) := by simp [rowsP, h]
theorem rowsP_set (cs : List (List Int)) (c : List Int) {k i : Nat} (h : i < k) : (rowsP cs c k i).set i ((rowsP cs c k i).getD i [] ++ [horner c ((i : Int) + 1)]) = rowsP cs c k (i + 1) := by
  rw [rowsP_get cs c h, if_neg (Nat.lt_irrefl _)]
  refine List.ext_getElem (by simp [rowsP]) fun r h1 h2 => ?_
  rw [List.getElem_set]
  simp only [rowsP, List.getElem_map, List.getElem_range]
  split
  · rename_i e; subst e
    rw [if_pos (by omega)]; simp
  · rename_i e
    by_cases hr : r < i
    · rw [if_pos hr, if_pos (by omega)]
    · rw [if_neg hr, if_neg (by omega)]
theorem rowsM_zero (k : Nat) : rowsM [] k = List.replicate k [] := by simp [rowsM, List.map_const']
theorem rowsM_len (cs : List (List Int)) (k : Nat) : (rowsM cs k).length = k := by simp [rowsM]
theorem rowsM_dataW {cs : List (List Int)} {k w : Nat} (hk : k ≤ 20) (hl : cs.length = w) : dataW w (rowsM cs k) := by
  refine ⟨by rw [rowsM_len]; exact hk, fun r hr => ?_⟩
  obtain ⟨i, _, rfl⟩ := List.mem_map.1 hr
  refine ⟨by rw [List.length_map, hl], fun x hx => ?_⟩
  obtain ⟨c, _, rfl⟩ := List.mem_map.1 hx
  exact horner_W c _
/-- A leaf that is not that of the data. -/
def badM (R : List Leaf) (x : Leaf) : Bool := !decide ((R.getD (x.Number - 1).toNat ⟨0, []⟩).Words = x.Words)
def wrongM (R : List Leaf) (l : List Leaf) (N : Nat) : List Int := DM.wrongS Leaf.Number (badM R) l N
/-- Leaves that are valid for a shape. -/
structure LvOk (k c w : Nat) (l : List Leaf) : Prop where
  k1 : 1 ≤ k
  k2 : k ≤ 20
  c2 : c ≤ 20
  w1 : 1 ≤ w
  w2 : w ≤ 32
  len : l.length ≤ 12
  num : ∀ x, x ∈ l → 1 ≤ x.Number ∧ x.Number ≤ ((k + c : Nat) : Int)
  wl : ∀ x, x ∈ l → x.Words.length = w ∧ allW x.Words
  ap : DM.Apart (l.map Leaf.Number)
theorem LvOk.dots {k c w : Nat} {l : List Leaf} (h : LvOk k c w l) {j : Nat} (hj : j < w) : ∀ d, d ∈ dotsL l j → W d.X ∧ W d.Y := fun d hd => by
  obtain ⟨x, hx, rfl⟩ := List.mem_map.1 hd
  obtain ⟨h1, h2⟩ := h.wl x hx
  have h3 := h.num x hx
  have h4 := h.k2
  have h5 := h.c2
  refine ⟨⟨by simp only; omega, by simp only; omega⟩, ?_⟩
  simp only
  have e : x.Words.getD j 0 = x.Words[j]'(by omega) := by rw [List.getD_eq_getElem?_getD, List.getElem?_eq_getElem (by omega)]; rfl
  rw [e]; exact h2 _ (List.getElem_mem _)
end Go.DL
