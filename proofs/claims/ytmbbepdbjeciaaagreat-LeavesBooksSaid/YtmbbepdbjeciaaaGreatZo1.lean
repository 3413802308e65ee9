/- Linear equations, solved in place. -/
import Derived.Test.YtmbbepdbjeciaaaGreatZz
import Derived.Test.YtmbbepdbjeciaaaGreatE5
set_option maxRecDepth 100000
set_option maxHeartbeats 16000000
namespace Go.DL
open Go.Proofs Go

/-- The blocks of a run of solve: the number of unknowns, the pivots' rows, the rows' slices, the rows. -/
structure SH (H : List Blk) (bx bt b n : Nat) (ps : List Nat) (M : List (List Int)) (at' : List Int) : Prop where
  box : H[bx]? = some (.live 1 [[wI n]])
  att : H[bt]? = some (.live 1 (at'.map eI))
  rows : H[b]? = some (.live 1 (ps.map fun p => [.ms p 0 (n + 1) (n + 1)]))
  row : ∀ i, i < ps.length → H[ps.getD i 0]? = some (.live 1 ((M.getD i []).map eI))
  d1 : bx ≠ bt ∧ bx ≠ b ∧ bt ≠ b
  d2 : ∀ i, i < ps.length → ps.getD i 0 ≠ bx ∧ ps.getD i 0 ≠ bt ∧ ps.getD i 0 ≠ b
  nd : ∀ i j, i < ps.length → j < ps.length → ps.getD i 0 = ps.getD j 0 → i = j
  len : M.length = ps.length

theorem SH.lt {H : List Blk} {bx bt b n : Nat} {ps : List Nat} {M : List (List Int)} {at' : List Int} (h : SH H bx bt b n ps M at') : bx < H.length ∧ bt < H.length ∧ b < H.length ∧ ∀ i, i < ps.length → ps.getD i 0 < H.length :=
  ⟨(List.getElem?_eq_some_iff.1 h.box).1, (List.getElem?_eq_some_iff.1 h.att).1, (List.getElem?_eq_some_iff.1 h.rows).1, fun i hi => (List.getElem?_eq_some_iff.1 (h.row i hi)).1⟩
theorem SH.app {H : List Blk} {bx bt b n : Nat} {ps : List Nat} {M : List (List Int)} {at' : List Int} (h : SH H bx bt b n ps M at') (T : List Blk) : SH (H ++ T) bx bt b n ps M at' := by
  obtain ⟨h1, h2, h3, h4⟩ := h.lt
  exact ⟨by rw [List.getElem?_append_left h1]; exact h.box, by rw [List.getElem?_append_left h2]; exact h.att, by rw [List.getElem?_append_left h3]; exact h.rows, fun i hi => by rw [List.getElem?_append_left (h4 i hi)]; exact h.row i hi, h.d1, h.d2, h.nd, h.len⟩
theorem SH.other {H : List Blk} {bx bt b n q : Nat} {ps : List Nat} {M : List (List Int)} {at' : List Int} (h : SH H bx bt b n ps M at') (hq : q ≠ bx ∧ q ≠ bt ∧ q ≠ b ∧ ∀ i, i < ps.length → q ≠ ps.getD i 0) (z : Blk) : SH (H.set q z) bx bt b n ps M at' :=
  ⟨by rw [List.getElem?_set_ne hq.1]; exact h.box, by rw [List.getElem?_set_ne hq.2.1]; exact h.att, by rw [List.getElem?_set_ne hq.2.2.1]; exact h.rows, fun i hi => by rw [List.getElem?_set_ne (hq.2.2.2 i hi)]; exact h.row i hi, h.d1, h.d2, h.nd, h.len⟩
theorem SH.get {H : List Blk} {bx bt b n L c used : Nat} {ps : List Nat} {M0 M : List (List Int)} {at' : List Int} (h : SH H bx bt b n ps M at') (hE : DM.Elim L n M0 c used at' M) (hL : ps.length = L) {i j : Nat} (hi : i < L) (hj : j < n + 1) : (M.getD i [])[j]? = some (DM.ent M i j) := by
  have hr := (hE.row hi).1
  rw [getD_some (by omega)]; rfl

theorem swapM_get {α : Type} {l : List α} {u p : Nat} (hu : u < l.length) (hp : p < l.length) (dft : α) (i : Nat) : ((l.set u (l.getD p dft)).set p (l.getD u dft)).getD i dft = if i = p then l.getD u dft else if i = u then l.getD p dft else l.getD i dft := by
  simp only [List.getD_eq_getElem?_getD, List.getElem?_set, List.length_set]
  by_cases h1 : i = p
  · subst h1; simp [hp]
  · rw [if_neg (show ¬ p = i from fun e => h1 e.symm), if_neg h1]
    by_cases h2 : i = u
    · subst h2; simp [hu]
    · rw [if_neg (show ¬ u = i from fun e => h2 e.symm), if_neg h2]
theorem SH.swap {H : List Blk} {bx bt b n : Nat} {ps : List Nat} {M : List (List Int)} {at' : List Int} (h : SH H bx bt b n ps M at') {u p : Nat} (hu : u < ps.length) (hp : p < ps.length) :
    SH (H.set b (.live 1 (((ps.map fun p => [D.ms p 0 (n + 1) (n + 1)]).set u [.ms (ps.getD p 0) 0 (n + 1) (n + 1)]).set p [.ms (ps.getD u 0) 0 (n + 1) (n + 1)]))) bx bt b n ((ps.set u (ps.getD p 0)).set p (ps.getD u 0)) ((M.set u (M.getD p [])).set p (M.getD u [])) at' := by
  obtain ⟨h1, h2, h3, h4⟩ := h.lt
  obtain ⟨e1, e2, e3⟩ := h.d1
  have hl : ((ps.set u (ps.getD p 0)).set p (ps.getD u 0)).length = ps.length := by simp
  have hg : ∀ i, ((ps.set u (ps.getD p 0)).set p (ps.getD u 0)).getD i 0 = ps.getD (if i = p then u else if i = u then p else i) 0 := fun i => by
    rw [swapM_get hu hp]; split <;> (try split) <;> rfl
  have hgM : ∀ i, ((M.set u (M.getD p [])).set p (M.getD u [])).getD i [] = M.getD (if i = p then u else if i = u then p else i) [] := fun i => by
    rw [swapM_get (by rw [h.len]; exact hu) (by rw [h.len]; exact hp)]; split <;> (try split) <;> rfl
  have hi : ∀ i, i < ps.length → (if i = p then u else if i = u then p else i) < ps.length := fun i hi => by split <;> (try split) <;> omega
  refine ⟨by rw [List.getElem?_set_ne (Ne.symm e2)]; exact h.box, by rw [List.getElem?_set_ne (Ne.symm e3)]; exact h.att, ?_, fun i hil => ?_, h.d1, fun i hil => ?_, fun i j hil hjl he => ?_, by simp [h.len]⟩
  · rw [List.getElem?_set_self h3, List.map_set, List.map_set]
  · rw [hl] at hil
    rw [hg, hgM, List.getElem?_set_ne (Ne.symm (h.d2 _ (hi i hil)).2.2)]
    exact h.row _ (hi i hil)
  · rw [hl] at hil
    rw [hg]; exact h.d2 _ (hi i hil)
  · rw [hl] at hil hjl
    rw [hg, hg] at he
    have := h.nd _ _ (hi i hil) (hi j hjl) he
    revert this
    repeat' split
    all_goals omega
end Go.DL
