/- Rows of words that grow: each is nil, or lies in a block of its own. -/
import Derived.Test.YtmbbepdbjeciaaaGreatZp1
import Derived.Test.YtmbbepdbjeciaaaGreatE12
import Derived.Test.YtmbbepdbjeciaaaGreatP2
set_option linter.all false
set_option maxRecDepth 100000
namespace Go.DL
open Go.Proofs Go

structure CS (H : List Blk) (L N b k : Nat) (cs : List D) (M : List (List Int)) : Prop where
  rows : H[b]? = some (.live 1 (cs.map fun c => [c]))
  cl : cs.length = k
  ml : M.length = k
  row : ∀ i, i < k → (cs.getD i .nil = .nil ∧ M.getD i [] = []) ∨ ∃ p m, cs.getD i .nil = .ms p 0 m m ∧ m = (M.getD i []).length ∧ H[p]? = some (.live 1 ((M.getD i []).map eI))
  lt : ∀ i p m, i < k → cs.getD i .nil = .ms p 0 m m → L ≤ p ∧ p < N
  nd : ∀ i j p m m', i < k → j < k → cs.getD i .nil = .ms p 0 m m → cs.getD j .nil = .ms p 0 m' m' → i = j
section
variable {H T : List Blk} {L N b k q i m : Nat} {cs : List D} {M : List (List Int)}
theorem CS.app (h : CS H L N b k cs M) (T : List Blk) : CS (H ++ T) L N b k cs M :=
  ⟨blk_app T h.rows, h.cl, h.ml, fun i hi => (h.row i hi).imp id fun ⟨p, m, h1, h2, h3⟩ => ⟨p, m, h1, h2, blk_app T h3⟩, h.lt, h.nd⟩
theorem CS.other (h : CS H L N b k cs M) (hb : q ≠ b) (hq : q < L ∨ N ≤ q) (x : Blk) : CS (H.set q x) L N b k cs M :=
  ⟨blk_ne h.rows hb, h.cl, h.ml, fun i hi => (h.row i hi).imp id fun ⟨p, m, h1, h2, h3⟩ => ⟨p, m, h1, h2, blk_ne h3 (by have := h.lt i p m hi h1; omega)⟩, h.lt, h.nd⟩
theorem CS.mono (h : CS H L N b k cs M) {N' : Nat} (hN : N ≤ N') : CS H L N' b k cs M :=
  ⟨h.rows, h.cl, h.ml, h.row, fun i p m hi e => by have := h.lt i p m hi e; omega, h.nd⟩
theorem CS.cell (h : CS H L N b k cs M) (hi : i < k) : (cs.map fun c => [c])[i]? = some [cs.getD i .nil] := by
  have := h.cl
  rw [List.getElem?_map, List.getElem?_eq_getElem (by omega), List.getD_eq_getElem?_getD, List.getElem?_eq_getElem (by omega)]; rfl
theorem getD_setX {α : Type} (l : List α) (i j : Nat) (x d : α) (hi : i < l.length) : (l.set i x).getD j d = if i = j then x else l.getD j d := by
  simp only [List.getD_eq_getElem?_getD, List.getElem?_set]
  split
  · simp [hi]
  · rfl
theorem CS.upd {H1 : List Blk} (h : CS H L N b k cs M) (hN : N ≤ H.length) (hbL : b < L) (hL : L ≤ H.length) (hi : i < k) (hl : H1.length = H.length) (hH : ∀ j p m, j < k → j ≠ i → cs.getD j .nil = .ms p 0 m m → H1[p]? = H[p]?) {v : Int} {t : Nat} (hm : m = (M.getD i []).length + 1) (ht : T[t]? = some (.live 1 ((M.getD i [] ++ [v]).map eI))) :
    CS (H1.set b (.live 1 ((cs.map fun c => [c]).set i [.ms (H.length + t) 0 m m])) ++ T) L (H.length + T.length) b k (cs.set i (.ms (H.length + t) 0 m m)) (M.set i (M.getD i [] ++ [v])) := by
  have htl := (List.getElem?_eq_some_iff.1 ht).1
  have hcl := h.cl
  have hml := h.ml
  have hbl : b < H1.length := by omega
  have hl1 : (H1.set b (.live 1 ((cs.map fun c => [c]).set i [.ms (H.length + t) 0 m m]))).length = H.length := by simp [hl]
  refine ⟨?_, by simp [hcl], by simp [hml], fun j hj => ?_, fun j p m' hj e => ?_, fun j j' p m1 m2 hj hj' e1 e2 => ?_⟩
  · refine blk_app _ ?_
    rw [List.getElem?_set_self hbl, List.map_set]
  · rw [getD_setX _ _ _ _ _ (by omega), getD_setX _ _ _ _ _ (by omega)]
    by_cases hij : i = j
    · rw [if_pos hij, if_pos hij]
      exact .inr ⟨_, _, rfl, by simp [hm], blk_at (t := t) hl1 ht⟩
    · rw [if_neg hij, if_neg hij]
      rcases h.row j hj with h1 | ⟨p, m', h1, h2, h3⟩
      · exact .inl h1
      · have h4 := h.lt j p m' hj h1
        refine .inr ⟨p, m', h1, h2, blk_app _ (blk_ne ?_ (by omega))⟩
        rw [hH j p m' hj (fun e => hij e.symm) h1]; exact h3
  · rw [getD_setX _ _ _ _ _ (by omega)] at e
    split at e
    · cases e; omega
    · have := h.lt j p m' hj e; omega
  · rw [getD_setX _ _ _ _ _ (by omega)] at e1 e2
    split at e1 <;> split at e2
    · omega
    · cases e1
      have := h.lt j' _ _ hj' e2; omega
    · cases e2
      have := h.lt j _ _ hj e1; omega
    · exact h.nd j j' p m1 m2 hj hj' e1 e2
end
/-- An append to nil. -/
theorem f_appT0 {P : Program} {H : List Blk} {s n : Nat} {al : AL} {tx : TypeId} {x y : Operand} {α : Type} {f : α → List D} {te : TypeId} {mm m' c' b2 sz by' : Nat} {v : List α} (hx : evA n al x = .nil) (hy : evA n al y = .ms b2 0 m' c') (hb2 : H[b2]? = some (.live sz (v.map f))) (hm' : m' = v.length)
    (hmm : v.length = mm) (he : elemT P tx = some (te, sz)) (h0 : 0 < sz) (hz : (zeroD P te).map List.length = some sz) (hby : P.bytesOf te = by') (hf : ∀ a, (f a).length = sz ∧ (f a).all isCell = true) (hl : v.length * by' ≤ 140737488355328) (hl2 : v.length ≤ 9223372036854775807) :
    Ap P H s n al (.call { callee := .builtin .append, args := #[x, y], argTypes := #[tx, tx] }) mm none (.live sz (v.map f)) := by
  subst hm'; subst hmm
  have hu : P.underlying tx = some (.slice te) := by
    unfold elemT at he
    split at he
    · rename_i e hu; simp only [Option.map_eq_some_iff] at he; obtain ⟨_, _, h⟩ := he; cases h; exact hu
    · cases he
  refine f_app hx hy ?_ (by simp)
  have e2 : elemsD H (.ms b2 0 v.length c') = some (v.map f) := by
    simp only [elemsD, hb2, Nat.zero_add, List.length_map, Nat.le_refl, if_true, List.drop_zero]
    rw [List.take_of_length_le (by simp)]
  have e3 : ∀ l : List α, (l.map f).all (fun e => e.length == sz) = true := fun l => List.all_eq_true.2 fun e he => by
    obtain ⟨a, _, rfl⟩ := List.mem_map.1 he
    simpa using (hf a).1
  have e4 : (v.map f).all (fun e => e.all isCell) = true := List.all_eq_true.2 fun e he => by
    obtain ⟨a, _, rfl⟩ := List.mem_map.1 he
    exact (hf a).2
  have e1 : elemsD H .nil = some [] := rfl
  simp only [appendD, addedD, he, hu, e1, e2]
  rw [if_pos]
  · refine ⟨h0, hz, rfl, e3 v, e4, ?_, ?_⟩
    · rw [hby, List.length_map]; simpa using hl
    · rw [List.length_map]; simpa using hl2
/-- A result out of an own block, and one beside it. -/
theorem resA_cell {P : Program} {n j b x sz m : Nat} {t : TypeId} {a : AL} {H : List Blk} {e : List D} (h1 : lkN n a b = .mp x 0 0) (h2 : H[x]? = some (.live sz [e])) (ht : isAggD P t = some true) (hs : tsz P t = some m) (hn : e.length = m) : resA P [.cell b t, .tmp j] n a H = some (.tup [.agg e, lkN n a j]) := by
  subst hn
  have h3 : loadD P H t (.mp x 0 0) = some (.agg e) := by
    simp [loadD, peek, takeD, ht, hs, h2]
  simp [resA, resAL, resA1, h1, h3]
/-- The rows as a function's end sees them. -/
theorem CS.snapR {H : List Blk} {L N b k : Nat} {cs : List D} {M : List (List Int)} (h : CS H L N b k cs M) (hw : ∀ i, i < k → M.getD i [] ≠ []) (lv : Nat) : snapR (fun b => H[b]?) (lv + 3) (.ms b 0 k k) = .fl (M.map eRow) := by
  have hcl := h.cl
  have hml := h.ml
  have hl : (cs.map fun c => [c]).length = k := by rw [List.length_map, hcl]
  have key : ∀ i, i < k → ∃ p m, cs.getD i .nil = .ms p 0 m m ∧ m = (M.getD i []).length ∧ H[p]? = some (.live 1 ((M.getD i []).map eI)) := fun i hi =>
    (h.row i hi).resolve_left fun ⟨_, e⟩ => hw i hi e
  simp only [DL.snapR, h.rows, Nat.zero_add, hl, Nat.le_refl, if_true, List.drop_zero]
  rw [if_pos, List.take_of_length_le (by rw [hl]; exact Nat.le_refl _), List.map_map]
  · refine congrArg D.fl (List.ext_getElem (by simp [hcl, hml]) fun i h1 h2 => ?_)
    have hi : i < k := by simpa [hcl] using h1
    obtain ⟨p, m, e1, e2, e3⟩ := key i hi
    have ec : cs[i]'(by omega) = .ms p 0 m m := by rw [← e1, List.getD_eq_getElem?_getD, List.getElem?_eq_getElem (by omega)]; rfl
    have em : M[i]'(by omega) = M.getD i [] := by rw [List.getD_eq_getElem?_getD, List.getElem?_eq_getElem (by omega)]; rfl
    simp only [List.getElem_map, Function.comp, List.map_cons, List.map_nil, ec, em, eRow]
    rw [snapW (k := lv + 1) e3 e2]
  · refine List.all_eq_true.2 fun e he => ?_
    obtain ⟨c, hc, rfl⟩ := List.mem_map.1 he
    obtain ⟨i, hi, rfl⟩ := List.getElem_of_mem hc
    obtain ⟨p, m, e1, e2, e3⟩ := key i (by omega)
    have ec : cs[i] = .ms p 0 m m := by rw [← e1, List.getD_eq_getElem?_getD, List.getElem?_eq_getElem (by omega)]; rfl
    rw [List.all_cons, List.all_nil, Bool.and_true, ec]
    simp only [frK, e3]
    exact eI_all _ _ fun x => rfl
/-- The rows as a called function sees them. -/
theorem CS.snap {H : List Blk} {L N b k : Nat} {cs : List D} {M : List (List Int)} (h : CS H L N b k cs M) (hw : ∀ i, i < k → M.getD i [] ≠ []) (lv : Nat) : snap (fun b => H[b]?) (lv + 2) (.ms b 0 k k) = .sl (M.map eRow) := by
  have hcl := h.cl
  have hml := h.ml
  have hl : (cs.map fun c => [c]).length = k := by rw [List.length_map, hcl]
  have key : ∀ i, i < k → ∃ p m, cs.getD i .nil = .ms p 0 m m ∧ m = (M.getD i []).length ∧ H[p]? = some (.live 1 ((M.getD i []).map eI)) := fun i hi =>
    (h.row i hi).resolve_left fun ⟨_, e⟩ => hw i hi e
  simp only [DL.snap, h.rows, Nat.zero_add, hl, Nat.le_refl, if_true, List.drop_zero]
  rw [List.take_of_length_le (by rw [hl]; exact Nat.le_refl _), List.map_map]
  refine congrArg D.sl (List.ext_getElem (by simp [hcl, hml]) fun i h1 h2 => ?_)
  have hi : i < k := by simpa [hcl] using h1
  obtain ⟨p, m, e1, e2, e3⟩ := key i hi
  have ec : cs[i]'(by omega) = .ms p 0 m m := by rw [← e1, List.getD_eq_getElem?_getD, List.getElem?_eq_getElem (by omega)]; rfl
  have em : M[i]'(by omega) = M.getD i [] := by rw [List.getD_eq_getElem?_getD, List.getElem?_eq_getElem (by omega)]; rfl
  simp only [List.getElem_map, Function.comp, List.map_cons, List.map_nil, ec, em, eRow]
  rw [snapW (k := lv) e3 e2]
end Go.DL
