/- The reference's linear equations, solved in place. -/
import Derived.Test.YtmbbepdbjeciaaaGreatZz
import Derived.Test.YtmbbepdbjeciaaaGreatZp1
import Derived.Test.YtmbbepdbjeciaaaGreatZo
import Derived.Test.YtmbbepdbjeciaaaGreatZm1
set_option linter.all false
set_option maxRecDepth 100000
set_option maxHeartbeats 16000000
namespace Go.DL
open Go.Proofs Go

section
variable {P : Program} {H : List Blk} {s n : Nat} {al : AL} {tx ty' : TypeId} {x y : Operand} {a b : Int}
end
/-- The blocks of a run of solved: the rows, and the columns that are done. -/
structure KH (H : List Blk) (bt b n : Nat) (ps : List Nat) (M : List (List Int)) (cl : List Int) : Prop where
  rw : RW H b n ps M
  att : H[bt]? = some (.live 1 (cl.map eI))
  dt : bt ≠ b
  dr : ∀ i, i < ps.length → ps.getD i 0 ≠ bt
section
variable {H T : List Blk} {bt b n q i u p : Nat} {ps : List Nat} {M : List (List Int)} {cl : List Int}
theorem RW.setRow (h : RW H b n ps M) (hi : i < ps.length) (r : List Int) : RW (H.set (ps.getD i 0) (.live 1 (r.map eI))) b n ps (M.set i r) := by
  refine ⟨blk_ne h.rows (h.ne i hi), fun j hj => ?_, h.ne, h.nd, by rw [List.length_set]; exact h.len⟩
  have hl := h.len
  by_cases e : i = j
  · subst e
    rw [List.getElem?_set_self (h.lt.2 i hi), setD_get (by omega)]
  · rw [List.getElem?_set_ne (fun q => e (h.nd i j hi hj q)), setD_ne e]; exact h.row j hj
theorem RW.swap (h : RW H b n ps M) (hu : u < ps.length) (hp : p < ps.length) :
    RW (H.set b (.live 1 (((ps.map fun p => [D.ms p 0 (n + 1) (n + 1)]).set p [.ms (ps.getD u 0) 0 (n + 1) (n + 1)]).set u [.ms (ps.getD p 0) 0 (n + 1) (n + 1)]))) b n ((ps.set p (ps.getD u 0)).set u (ps.getD p 0)) ((M.set p (M.getD u [])).set u (M.getD p [])) := by
  have hl : ((ps.set p (ps.getD u 0)).set u (ps.getD p 0)).length = ps.length := by simp
  have hlM := h.len
  have hg : ∀ i, ((ps.set p (ps.getD u 0)).set u (ps.getD p 0)).getD i 0 = ps.getD (if i = u then p else if i = p then u else i) 0 := fun i => by
    rw [swapM_get hp hu]; split <;> (try split) <;> rfl
  have hgM : ∀ i, ((M.set p (M.getD u [])).set u (M.getD p [])).getD i [] = M.getD (if i = u then p else if i = p then u else i) [] := fun i => by
    rw [swapM_get (by omega) (by omega)]; split <;> (try split) <;> rfl
  have hi : ∀ i, i < ps.length → (if i = u then p else if i = p then u else i) < ps.length := fun i hi => by split <;> (try split) <;> omega
  refine ⟨?_, fun i hil => ?_, fun i hil => ?_, fun i j hil hjl he => ?_, by simp [h.len]⟩
  · rw [List.getElem?_set_self h.lt.1, List.map_set, List.map_set]
  · rw [hl] at hil
    rw [hg, hgM, List.getElem?_set_ne (Ne.symm (h.ne _ (hi i hil)))]
    exact h.row _ (hi i hil)
  · rw [hl] at hil
    rw [hg]; exact h.ne _ (hi i hil)
  · rw [hl] at hil hjl
    rw [hg, hg] at he
    have := h.nd _ _ (hi i hil) (hi j hjl) he
    revert this
    repeat' split
    all_goals omega
theorem RW.ptr (h : RW H b n ps M) (hi : i < ps.length) : (ps.map fun p => [D.ms p 0 (n + 1) (n + 1)])[i]? = some [.ms (ps.getD i 0) 0 (n + 1) (n + 1)] := by
  simp [List.getD_eq_getElem?_getD, hi]
theorem RW.get {L c used j : Nat} {M0 : List (List Int)} {at' : List Int} (_ : RW H b n ps M) (hE : DM.Elim L n M0 c used at' M) (hi : i < L) (hj : j < n + 1) : (M.getD i [])[j]? = some (DM.ent M i j) := by
  have hr := (hE.row hi).1
  rw [getD_some (by omega)]; rfl
theorem KH.app (h : KH H bt b n ps M cl) (T : List Blk) : KH (H ++ T) bt b n ps M cl := ⟨h.rw.app T, blk_app T h.att, h.dt, h.dr⟩
theorem KH.setRow (h : KH H bt b n ps M cl) (hi : i < ps.length) (r : List Int) : KH (H.set (ps.getD i 0) (.live 1 (r.map eI))) bt b n ps (M.set i r) cl :=
  ⟨h.rw.setRow hi r, blk_ne h.att (h.dr i hi), h.dt, h.dr⟩
theorem KH.swap (h : KH H bt b n ps M cl) (hu : u < ps.length) (hp : p < ps.length) :
    KH (H.set b (.live 1 (((ps.map fun p => [D.ms p 0 (n + 1) (n + 1)]).set p [.ms (ps.getD u 0) 0 (n + 1) (n + 1)]).set u [.ms (ps.getD p 0) 0 (n + 1) (n + 1)]))) bt b n ((ps.set p (ps.getD u 0)).set u (ps.getD p 0)) ((M.set p (M.getD u [])).set u (M.getD p [])) cl := by
  refine ⟨h.rw.swap hu hp, blk_ne h.att (Ne.symm h.dt), h.dt, fun i hi => ?_⟩
  rw [swapM_get hp hu]
  simp only [List.length_set] at hi
  split
  · exact h.dr p hp
  · split
    · exact h.dr u hu
    · exact h.dr i hi
theorem KH.start (h : RW H b n ps M) : KH (H ++ [.live 1 []]) H.length b n ps M [] := by
  obtain ⟨l1, l2⟩ := h.lt
  exact ⟨h.app _, blk_at (t := 0) rfl rfl, by omega, fun i hi => by have := l2 i hi; omega⟩
end
/-- The columns that are done, one for each row that is done. -/
def ALs (n used : Nat) (cl at' : List Int) : Prop := cl.length = used ∧ ∀ r, r < used → ∃ j : Nat, cl.getD r 0 = j ∧ j < n ∧ at'.getD j 0 = (r : Int) + 1
theorem ALs.next {n used c : Nat} {cl at' : List Int} (h : ALs n used cl at') (hc : c < n) (h0 : at'.getD c 0 = 0) (hl : at'.length = n) : ALs n (used + 1) (cl ++ [(c : Int)]) (at'.set c ((used : Int) + 1)) := by
  refine ⟨by simp [h.1], fun r hr => ?_⟩
  have h1 := h.1
  rw [getD_snocL _ _ _ _ (by omega)]
  by_cases hu : r < used
  · obtain ⟨j, e1, e2, e3⟩ := h.2 r hu
    refine ⟨j, by rw [if_pos (by omega)]; exact e1, e2, ?_⟩
    rw [getD_setX _ _ _ _ _ (by omega), if_neg]
    · exact e3
    · intro e; subst e; omega
  · refine ⟨c, by rw [if_neg (by omega)], hc, ?_⟩
    rw [getD_setX _ _ _ _ _ (by omega), if_pos rfl]; omega
end Go.DL
