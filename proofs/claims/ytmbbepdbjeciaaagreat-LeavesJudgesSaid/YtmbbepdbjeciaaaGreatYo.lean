/- When an answer is right: both programs' judges, and what they ask. -/
import Derived.Test.YtmbbepdbjeciaaaGreatYl
set_option linter.all false
set_option maxRecDepth 100000
set_option maxHeartbeats 16000000
namespace Go.DL
open Go.Proofs Go

theorem dotsC_get {d : List (List Int)} {j n i : Nat} (h : i < n) : (dotsC d j n)[i]'(by rw [dotsC_len]; exact h) = ⟨(i : Int) + 1, (d.getD i []).getD j 0⟩ := by simp [dotsC]
theorem dotsC_apart {d : List (List Int)} {j n : Nat} (hn : n ≤ 20) : DM.Apart (dX (dotsC d j n)) := by
  have hl : (dX (dotsC d j n)).length = n := by rw [dX_len, dotsC_len]
  have hg : ∀ i, i < n → (dX (dotsC d j n)).getD i 0 = (i : Int) + 1 := fun i hi => by
    rw [dX_get _ (by rw [dotsC_len]; exact hi), dotsC_get hi]
  refine ⟨fun x hx => ?_, fun a b hab hb => ?_⟩
  · obtain ⟨i, hi, rfl⟩ := List.getElem_of_mem hx
    have h1 := hg i (by omega)
    rw [List.getD_eq_getElem?_getD, List.getElem?_eq_getElem hi] at h1
    have h2 : (dX (dotsC d j n))[i] = (i : Int) + 1 := h1
    rw [h2]; omega
  · rw [hl] at hb
    rw [hg a (by omega), hg b hb]; omega
theorem col_at {w : Nat} {d : List (List Int)} (hd : dataW w d) {j i : Nat} (hj : j < w) (hi : i < d.length) : horner (colS d j) ((i : Int) + 1) = (d.getD i []).getD j 0 := by
  have h5 := DM.through_at (ys := dY (dotsC d j d.length)) (dotsC_apart (d := d) (j := j) hd.1) (m := i) (by rw [dX_len, dotsC_len]; exact hi)
  rw [dX_get _ (by rw [dotsC_len]; exact hi), dY_get _ (by rw [dotsC_len]; exact hi), dotsC_get hi] at h5
  have hw := dotsC_W hd hj _ (List.getElem_mem (l := dotsC d j d.length) (n := i) (by rw [dotsC_len]; exact hi))
  rw [dotsC_get hi] at hw
  exact DM.Cg.word ((horner_cg _ _).trans h5) (horner_W _ _) hw.2
theorem wrong_len_eq {k c w : Nat} {l : List Leaf} (hv : LvOk k c w l) (R : List Leaf) : (wrongM R l (k + c)).length = (l.filter (badM R)).length := by
  have h2 := DM.wrong_perm Leaf.Number (badM R) l (k + c)
  have e : (l.filter fun x => decide (1 ≤ x.Number ∧ x.Number ≤ ((k + c : Nat) : Int)) && badM R x) = l.filter (badM R) := List.filter_congr fun x hx => by
    rw [decide_eq_true (hv.num x hx)]; rfl
  rw [e] at h2
  rw [wrongM, h2.length_eq, List.length_map]
theorem good_col {k c w e : Nat} {l : List Leaf} {d : List (List Int)} (hv : LvOk k c w l) (he : ((l.length : Int) - k) / 2 = (e : Int)) (hd : dataW w d) (hdl : d.length = k) (hfew : 2 * (wrongM (wholeL (k + c) w d) l (k + c)).length + k ≤ l.length) {j : Nat} (hj : j < w) : DM.Good k e ((dotsL l j).map dotP2) (colS d j) := by
  refine ⟨by rw [colS, DM.through_len, dX_len, dotsC_len, hdl], DM.through_W _ _, ?_⟩
  have hle : (wrongM (wholeL (k + c) w d) l (k + c)).length ≤ e := by omega
  refine Nat.le_trans ?_ hle
  rw [wrong_len_eq hv, DM.faults, dotsL, List.map_map, List.filter_map, List.length_map, ← List.countP_eq_length_filter, ← List.countP_eq_length_filter]
  refine List.countP_mono_left fun x hx hh => ?_
  obtain ⟨hwl, hwW⟩ := hv.wl x hx
  obtain ⟨n1, n2⟩ := hv.num x hx
  cases hb : badM (wholeL (k + c) w d) x with
  | true => rfl
  | false =>
    exfalso
    unfold badM at hb
    have hr : (x.Number - 1).toNat < k + c := by omega
    have hb2 : ((wholeL (k + c) w d).getD (x.Number - 1).toNat ⟨0, []⟩).Words = x.Words := by
      cases q : decide (((wholeL (k + c) w d).getD (x.Number - 1).toNat ⟨0, []⟩).Words = x.Words) with
      | true => exact of_decide_eq_true q
      | false => rw [q] at hb; cases hb
    obtain ⟨r, hrr⟩ : ∃ r, r = (x.Number - 1).toNat := ⟨_, rfl⟩
    rw [← hrr] at hr hb2
    have hnum : x.Number = (r : Int) + 1 := by omega
    have hg : (wholeL (k + c) w d).getD r ⟨0, []⟩ = ⟨(r : Int) + 1, (List.range w).map fun q : Nat => horner (colS d q) ((r : Int) + 1)⟩ := by
      simp [wholeL, hr]
    rw [hg] at hb2
    have hxj : x.Words.getD j 0 = horner (colS d j) x.Number := by
      rw [← hb2, hnum]
      simp only [List.getD_eq_getElem?_getD, List.getElem?_map, List.getElem?_range hj, Option.map_some, Option.getD_some]
    have hhit : DM.hits (colS d j) (dotP2 ⟨x.Number, x.Words.getD j 0⟩) = true := by
      refine decide_eq_true ?_
      show DM.Cg (DM.evP (colS d j) x.Number) (x.Words.getD j 0)
      rw [hxj]
      exact (horner_cg _ _).symm
    simp only [Function.comp] at hh
    rw [hhit] at hh
    cases hh
/-- Data that few leaves contradict are what Mend finds. -/
theorem cols_of {k c w e : Nat} {l : List Leaf} {d : List (List Int)} (hv : LvOk k c w l) (hke : k + 2 * e ≤ l.length) (he : ((l.length : Int) - k) / 2 = (e : Int)) (hd : dataW w d) (hdl : d.length = k) (hfew : 2 * (wrongM (wholeL (k + c) w d) l (k + c)).length + k ≤ l.length) : ∃ cs, colsM k e l w = some cs ∧ rowsM cs k = d := by
  have hcol : ∀ j, j < w → colM k e l j = some (colS d j) := fun j hj =>
    DM.decS_some (by rw [dotsL_num]; exact hv.ap) (by rw [List.length_map, dotsL_len]; exact hke) (good_col hv he hd hdl hfew hj)
  have hall : ∀ j, j ≤ w → colsM k e l j = some ((List.range j).map (colS d)) := fun j => by
    induction j with
    | zero => intro _; rfl
    | succ j ih =>
      intro hj
      rw [colsM_next (ih (by omega)) (hcol j (by omega)), List.range_succ, List.map_append]; rfl
  refine ⟨_, hall w (Nat.le_refl _), ?_⟩
  refine List.ext_getElem (by rw [rowsM_len, hdl]) fun i h1 h2 => ?_
  have hdi := (hd.2 d[i] (List.getElem_mem h2)).1
  simp only [rowsM, List.getElem_map, List.getElem_range]
  refine List.ext_getElem (by simp [hdi]) fun j h3 h4 => ?_
  simp only [List.getElem_map, List.getElem_range]
  rw [col_at hd (by omega) h2]
  simp [List.getD_eq_getElem?_getD, h2, h4]
/-- What a judge answers. -/
noncomputable def JudgeS (s : Shape) (l : List Leaf) (d : List (List Int)) (wr : List Int) : Int :=
  if CheckLeavesS s l = 0 then
    if DataS s d = true ∧ wr = wrongM (wholeL (s.Data.toNat + s.Checks.toNat) s.Width.toNat d) l (s.Data.toNat + s.Checks.toNat) ∧ 2 * (wr.length : Int) + s.Data ≤ l.length then 0 else 8
  else CheckLeavesS s l
theorem judge_iff {s : Shape} {l : List Leaf} {d : List (List Int)} {wr : List Int} (h0 : CheckLeavesS s l = 0) (hl : l.length ≤ 12) : ((MendS s l).2 = 0 ∧ (MendS s l).1.1 = d ∧ (MendS s l).1.2 = wr) ↔ (DataS s d = true ∧ wr = wrongM (wholeL (s.Data.toNat + s.Checks.toNat) s.Width.toNat d) l (s.Data.toNat + s.Checks.toNat) ∧ 2 * (wr.length : Int) + s.Data ≤ l.length) := by
  obtain ⟨hck, hv⟩ := lv_of h0 hl
  constructor
  · rintro ⟨h1, h2, h3⟩
    unfold MendS at h1 h2 h3
    rw [if_pos h0] at h1 h2 h3
    by_cases hlt : (l.length : Int) < s.Data
    · rw [if_pos hlt] at h1; cases h1
    · rw [if_neg hlt] at h1 h2 h3
      cases hc : colsM s.Data.toNat ((l.length - s.Data.toNat) / 2) l s.Width.toNat with
      | none => rw [hc] at h1; cases h1
      | some cs =>
        rw [hc] at h1 h2 h3
        dsimp only at h1 h2 h3
        split at h1
        · rename_i hf
          rw [if_pos hf] at h2 h3
          dsimp only at h2 h3
          subst h2; subst h3
          have hdw := rowsM_dataW (k := s.Data.toNat) (by omega) (colsM_len hc)
          refine ⟨?_, rfl, by omega⟩
          simp only [DataS, Bool.and_eq_true, decide_eq_true_eq]
          refine ⟨by rw [rowsM_len]; omega, List.all_eq_true.2 fun r hr => ?_⟩
          obtain ⟨q1, q2⟩ := hdw.2 r hr
          simp only [rowOk, Bool.and_eq_true, decide_eq_true_eq]
          exact ⟨by omega, List.all_eq_true.2 fun x hx => decide_eq_true (q2 x hx)⟩
        · cases h1
  · rintro ⟨h1, h2, h3⟩
    have hdw := dataW_of hck h1
    have hdl : d.length = s.Data.toNat := by
      simp only [DataS, Bool.and_eq_true, decide_eq_true_eq] at h1
      omega
    have hlt : ¬ (l.length : Int) < s.Data := by omega
    obtain ⟨cs, c1, c2⟩ := cols_of (e := (l.length - s.Data.toNat) / 2) hv (by omega) (by omega) hdw hdl (by rw [← h2]; omega)
    unfold MendS
    rw [if_pos h0, if_neg hlt, c1]
    dsimp only
    rw [c2, ← h2, if_pos (by omega)]
    exact ⟨rfl, rfl, rfl⟩
end Go.DL
