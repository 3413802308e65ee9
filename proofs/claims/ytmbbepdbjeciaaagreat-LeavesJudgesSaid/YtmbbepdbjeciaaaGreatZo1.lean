/- Linear equations, solved in place. -/
import Derived.Test.YtmbbepdbjeciaaaGreatZz
import Derived.Test.YtmbbepdbjeciaaaGreatE11
set_option linter.all false
set_option maxRecDepth 100000
set_option maxHeartbeats 16000000
namespace Go.DL
open Go.Proofs Go

/-- The blocks of a run of solve: the number of unknowns, the pivots' rows, the rows' slices, the rows. -/
structure SH (H : List Blk) (bx bt b n : Nat) (ps : List Nat) (M : List (List Int)) (at' : List Int) : Prop where
  box : H[bx]? = some (.live 1 [[wI n]])
  att : H[bt]? = some (.live 1 (at'.map eI))
  rows : H[b]? = some (.live 1 (ps.map fun p => [.ms p 0 (n + 1) (n + 1)]))
  row : ∀ i, i < ps.length → H[ps.getD i 0]? = some (.live 1 ((M.getD i []).map eI))
  d1 : bx ≠ bt ∧ bx ≠ b ∧ bt ≠ b
  d2 : ∀ i, i < ps.length → ps.getD i 0 ≠ bx ∧ ps.getD i 0 ≠ bt ∧ ps.getD i 0 ≠ b
  nd : ∀ i j, i < ps.length → j < ps.length → ps.getD i 0 = ps.getD j 0 → i = j
  len : M.length = ps.length

theorem SH.lt {H : List Blk} {bx bt b n : Nat} {ps : List Nat} {M : List (List Int)} {at' : List Int} (h : SH H bx bt b n ps M at') : bx < H.length ∧ bt < H.length ∧ b < H.length ∧ ∀ i, i < ps.length → ps.getD i 0 < H.length :=
  ⟨(List.getElem?_eq_some_iff.1 h.box).1, (List.getElem?_eq_some_iff.1 h.att).1, (List.getElem?_eq_some_iff.1 h.rows).1, fun i hi => (List.getElem?_eq_some_iff.1 (h.row i hi)).1⟩
theorem SH.app {H : List Blk} {bx bt b n : Nat} {ps : List Nat} {M : List (List Int)} {at' : List Int} (h : SH H bx bt b n ps M at') (T : List Blk) : SH (H ++ T) bx bt b n ps M at' := by
  obtain ⟨h1, h2, h3, h4⟩ := h.lt
  exact ⟨by rw [List.getElem?_append_left h1]; exact h.box, by rw [List.getElem?_append_left h2]; exact h.att, by rw [List.getElem?_append_left h3]; exact h.rows, fun i hi => by rw [List.getElem?_append_left (h4 i hi)]; exact h.row i hi, h.d1, h.d2, h.nd, h.len⟩
theorem SH.setRow {H : List Blk} {bx bt b n : Nat} {ps : List Nat} {M : List (List Int)} {at' : List Int} (h : SH H bx bt b n ps M at') {i : Nat} (hi : i < ps.length) (r : List Int) : SH (H.set (ps.getD i 0) (.live 1 (r.map eI))) bx bt b n ps (M.set i r) at' := by
  obtain ⟨g1, g2, g3⟩ := h.d2 i hi
  obtain ⟨h1, h2, h3, h4⟩ := h.lt
  refine ⟨by rw [List.getElem?_set_ne g1]; exact h.box, by rw [List.getElem?_set_ne g2]; exact h.att, by rw [List.getElem?_set_ne g3]; exact h.rows, fun j hj => ?_, h.d1, h.d2, h.nd, by rw [List.length_set]; exact h.len⟩
  by_cases e : i = j
  · subst e
    rw [List.getElem?_set_self (h4 i hi)]
    simp [List.getD_eq_getElem?_getD, h.len, hi]
  · rw [List.getElem?_set_ne (fun q => e (h.nd i j hi hj q)), h.row j hj]
    simp [List.getD_eq_getElem?_getD, List.getElem?_set_ne e]
theorem SH.setAt {H : List Blk} {bx bt b n : Nat} {ps : List Nat} {M : List (List Int)} {at' : List Int} (h : SH H bx bt b n ps M at') (t : List Int) : SH (H.set bt (.live 1 (t.map eI))) bx bt b n ps M t := by
  obtain ⟨h1, h2, h3, h4⟩ := h.lt
  obtain ⟨e1, e2, e3⟩ := h.d1
  exact ⟨by rw [List.getElem?_set_ne (Ne.symm e1)]; exact h.box, by rw [List.getElem?_set_self h2], by rw [List.getElem?_set_ne e3]; exact h.rows, fun i hi => by rw [List.getElem?_set_ne (Ne.symm (h.d2 i hi).2.1)]; exact h.row i hi, h.d1, h.d2, h.nd, h.len⟩
theorem SH.ptr {H : List Blk} {bx bt b n : Nat} {ps : List Nat} {M : List (List Int)} {at' : List Int} (_ : SH H bx bt b n ps M at') {i : Nat} (hi : i < ps.length) : (ps.map fun p => [D.ms p 0 (n + 1) (n + 1)])[i]? = some [.ms (ps.getD i 0) 0 (n + 1) (n + 1)] := by
  simp [List.getD_eq_getElem?_getD, hi]
theorem SH.other {H : List Blk} {bx bt b n q : Nat} {ps : List Nat} {M : List (List Int)} {at' : List Int} (h : SH H bx bt b n ps M at') (hq : q ≠ bx ∧ q ≠ bt ∧ q ≠ b ∧ ∀ i, i < ps.length → q ≠ ps.getD i 0) (z : Blk) : SH (H.set q z) bx bt b n ps M at' :=
  ⟨by rw [List.getElem?_set_ne hq.1]; exact h.box, by rw [List.getElem?_set_ne hq.2.1]; exact h.att, by rw [List.getElem?_set_ne hq.2.2.1]; exact h.rows, fun i hi => by rw [List.getElem?_set_ne (hq.2.2.2 i hi)]; exact h.row i hi, h.d1, h.d2, h.nd, h.len⟩
theorem SH.get {H : List Blk} {bx bt b n L c used : Nat} {ps : List Nat} {M0 M : List (List Int)} {at' : List Int} (h : SH H bx bt b n ps M at') (hE : DM.Elim L n M0 c used at' M) (hL : ps.length = L) {i j : Nat} (hi : i < L) (hj : j < n + 1) : (M.getD i [])[j]? = some (DM.ent M i j) := by
  have hr := (hE.row hi).1
  rw [getD_some (by omega)]; rfl

theorem swapM_get {α : Type} {l : List α} {u p : Nat} (hu : u < l.length) (hp : p < l.length) (dft : α) (i : Nat) : ((l.set u (l.getD p dft)).set p (l.getD u dft)).getD i dft = if i = p then l.getD u dft else if i = u then l.getD p dft else l.getD i dft := by
  simp only [List.getD_eq_getElem?_getD, List.getElem?_set, List.length_set]
  by_cases h1 : i = p
  · subst h1; simp [hp]
  · rw [if_neg (show ¬ p = i from fun e => h1 e.symm), if_neg h1]
    by_cases h2 : i = u
    · subst h2; simp [hu]
    · rw [if_neg (show ¬ u = i from fun e => h2 e.symm), if_neg h2]
theorem SH.swap {H : List Blk} {bx bt b n : Nat} {ps : List Nat} {M : List (List Int)} {at' : List Int} (h : SH H bx bt b n ps M at') {u p : Nat} (hu : u < ps.length) (hp : p < ps.length) :
    SH (H.set b (.live 1 (((ps.map fun p => [D.ms p 0 (n + 1) (n + 1)]).set u [.ms (ps.getD p 0) 0 (n + 1) (n + 1)]).set p [.ms (ps.getD u 0) 0 (n + 1) (n + 1)]))) bx bt b n ((ps.set u (ps.getD p 0)).set p (ps.getD u 0)) ((M.set u (M.getD p [])).set p (M.getD u [])) at' := by
  obtain ⟨h1, h2, h3, h4⟩ := h.lt
  obtain ⟨e1, e2, e3⟩ := h.d1
  have hl : ((ps.set u (ps.getD p 0)).set p (ps.getD u 0)).length = ps.length := by simp
  have hg : ∀ i, ((ps.set u (ps.getD p 0)).set p (ps.getD u 0)).getD i 0 = ps.getD (if i = p then u else if i = u then p else i) 0 := fun i => by
    rw [swapM_get hu hp]; split <;> (try split) <;> rfl
  have hgM : ∀ i, ((M.set u (M.getD p [])).set p (M.getD u [])).getD i [] = M.getD (if i = p then u else if i = u then p else i) [] := fun i => by
    rw [swapM_get (by rw [h.len]; exact hu) (by rw [h.len]; exact hp)]; split <;> (try split) <;> rfl
  have hi : ∀ i, i < ps.length → (if i = p then u else if i = u then p else i) < ps.length := fun i hi => by split <;> (try split) <;> omega
  refine ⟨by rw [List.getElem?_set_ne (Ne.symm e2)]; exact h.box, by rw [List.getElem?_set_ne (Ne.symm e3)]; exact h.att, ?_, fun i hil => ?_, h.d1, fun i hil => ?_, fun i j hil hjl he => ?_, by simp [h.len]⟩
  · rw [List.getElem?_set_self h3, List.map_set, List.map_set]
  · rw [hl] at hil
    rw [hg, hgM, List.getElem?_set_ne (Ne.symm (h.d2 _ (hi i hil)).2.2)]
    exact h.row _ (hi i hil)
  · rw [hl] at hil
    rw [hg]; exact h.d2 _ (hi i hil)
  · rw [hl] at hil hjl
    rw [hg, hg] at he
    have := h.nd _ _ (hi i hil) (hi j hjl) he
    revert this
    repeat' split
    all_goals omega
/-- The first k of one list, the rest of another. -/
def mixL (x y : List Int) (k : Nat) : List Int := x.take k ++ y.drop k
theorem mixL_len {x y : List Int} {k : Nat} (h : x.length = y.length) (hk : k ≤ y.length) : (mixL x y k).length = y.length := by
  simp [mixL]; omega
theorem mixL_get {x y : List Int} {k : Nat} (h : x.length = y.length) (hk : k < y.length) : (mixL x y k)[k]? = some (y.getD k 0) := by
  rw [mixL, List.getElem?_append_right (by simp; omega), List.length_take, show k - min k x.length = 0 by omega, List.getElem?_drop, Nat.add_zero]
  exact getD_some hk
theorem mixL_set {x y : List Int} {k : Nat} (h : x.length = y.length) (hk : k < y.length) : (mixL x y k).set k (x.getD k 0) = mixL x y (k + 1) := by
  refine List.ext_getElem? fun i => ?_
  simp only [mixL, List.getElem?_set, List.getElem?_append, List.length_append, List.length_take, List.length_drop, List.getElem?_take, List.getElem?_drop]
  have hx := getD_some (l := x) (i := k) (by omega)
  by_cases e : k = i
  · subst e
    rw [if_pos rfl, if_pos (by omega), if_pos (by omega), if_pos (by omega), hx]
  · rw [if_neg e]
    by_cases h1 : i < k
    · rw [if_pos (by omega), if_pos h1, if_pos (by omega), if_pos (by omega)]
    · by_cases h2 : i < y.length
      · rw [if_neg (by omega), if_neg (by omega)]; congr 1; omega
      · rw [if_neg (by omega), if_neg (by omega), List.getElem?_eq_none (by omega), List.getElem?_eq_none (by omega)]
theorem mixL_zero (x y : List Int) : mixL x y 0 = y := by simp [mixL]
theorem mixL_all {x y : List Int} (h : x.length = y.length) : mixL x y y.length = x := by simp [mixL, ← h]
theorem mixL_all' {x y : List Int} {m : Nat} (h : x.length = y.length) (hy : y.length = m) : mixL x y m = x := by rw [← hy]; exact mixL_all h
theorem elim_zero {f : Int} (hf : f = 0) : ∀ {u r : List Int}, u.length = r.length → (∀ j, 0 ≤ r.getD j 0 ∧ r.getD j 0 ≤ 65520) → DM.elimR f u r = r
  | [], [], _, _ => rfl
  | b :: u, a :: r, h, hr => by
    have h0 := hr 0
    have ih := elim_zero hf (u := u) (r := r) (by simpa using h) fun j => by have := hr (j + 1); simpa using this
    subst hf
    simp only [List.getD_cons_zero] at h0
    simp only [DM.elimR, List.zipWith_cons_cons] at ih ⊢
    rw [ih]; congr 1; omega
  | [], _ :: _, h, _ => by simp at h
  | _ :: _, [], h, _ => by simp at h
theorem setD_self (M : List (List Int)) (u : Nat) : M.set u (M.getD u []) = M := by
  refine List.ext_getElem? fun i => ?_
  rw [List.getElem?_set]
  split
  · rename_i h; subst h
    split
    · rename_i h; simp [List.getD_eq_getElem?_getD, h]
    · rename_i h; rw [List.getElem?_eq_none (by omega)]
  · rfl
theorem setD_get {M : List (List Int)} {u : Nat} (h : u < M.length) {r : List Int} : (M.set u r).getD u [] = r := by
  simp [List.getD_eq_getElem?_getD, h]
theorem setD_ne {M : List (List Int)} {u i : Nat} (h : u ≠ i) {r : List Int} : (M.set u r).getD i [] = M.getD i [] := by
  simp [List.getD_eq_getElem?_getD, List.getElem?_set_ne h]
theorem dropL2 (H : List Blk) (x y : Blk) : (H ++ [x, y]).dropLast = H ++ [x] := by
  rw [List.dropLast_append_of_ne_nil (by simp)]; rfl
theorem step_eq {L c u p i : Nat} {M M2 : List (List Int)} (hl : M2.length = L) (h : ∀ q, q < L → M2.getD q [] = if q < i ∨ q = u then DM.rowA M c u p q else DM.origR M u p q) (hi : i = L) : M2 = DM.stepM L M c u p := by
  refine List.ext_getElem (by simp [DM.stepM, hl]) fun q h1 h2 => ?_
  have h3 := h q (by omega)
  rw [if_pos (by omega)] at h3
  simp only [DM.stepM, List.getElem_map, List.getElem_range]
  rw [← h3]; simp [List.getD_eq_getElem?_getD, h1]
theorem mixL_skip {x y : List Int} {k : Nat} (h : x.length = y.length) (hk : k < y.length) (he : x.getD k 0 = y.getD k 0) : mixL x y (k + 1) = mixL x y k := by
  rw [← mixL_set h hk, he]
  refine List.ext_getElem? fun i => ?_
  rw [List.getElem?_set]
  split
  · rename_i e; subst e
    rw [mixL_get h hk, if_pos (by rw [mixL_len h (by omega)]; exact hk)]
  · rfl
theorem readX_get {n k : Nat} {at' : List Int} {M : List (List Int)} (h : k < n) : (DM.readX n at' M).getD k 0 = if 0 < at'.getD k 0 then DM.ent M (at'.getD k 0 - 1).toNat n else 0 := by
  simp [DM.readX, List.getD_eq_getElem?_getD, h]
theorem snapRows {H : List Blk} {bx bt b n u : Nat} {ps : List Nat} {M : List (List Int)} {at' : List Int} (h : SH H bx bt b n ps M at') (hr : ∀ i, i < ps.length → (M.getD i []).length = n + 1) (hu : u ≤ ps.length) :
    snap (fun b => H[b]?) 5 (.ms b u (ps.length - u) (ps.length - u)) = .sl ((M.drop u).map eRow) := by
  have e1 : u + (ps.length - u) = ps.length := by omega
  simp only [snap, h.rows, e1, List.length_map, Nat.le_refl, if_true]
  rw [List.take_of_length_le (by simp), ← List.map_drop, List.map_map]
  congr 1
  have hl := h.len
  refine List.ext_getElem (by simp; omega) fun i h1 h2 => ?_
  simp only [List.length_map, List.length_drop] at h1 h2
  have h3 := h.row (u + i) (by omega)
  have e2 : ps.getD (u + i) 0 = ps[u + i] := by simp [List.getD_eq_getElem?_getD, show u + i < ps.length by omega]
  have e3 : M.getD (u + i) [] = M[u + i] := by simp [List.getD_eq_getElem?_getD, show u + i < M.length by omega]
  have h4 := hr (u + i) (by omega)
  rw [e2] at h3
  rw [e3] at h3 h4
  simp only [List.getElem_map, List.getElem_drop, Function.comp, List.map_cons, List.map_nil]
  rw [snapW (lk := fun b => H[b]?) h3 h4.symm]
end Go.DL
