/- The law LeavesOne, plain. -/
import Derived.Test.YtmbbepdbjeciaaaLq3
set_option maxRecDepth 100000
set_option maxHeartbeats 16000000
namespace Go.DL
open Go.Proofs Go

/-- Which leaves are torn. -/
def tornF (n : Nat) (T : List Nat) (t : Int) : List Nat := if t.toNat % n ∈ T then T else (t.toNat % n) :: T
def tornS (n : Nat) (ts : List Int) : List Nat := ts.foldl (tornF n) []
theorem tornS_snoc {n : Nat} {ts : List Int} {i : Nat} {t : Int} (h : ts[i]? = some t) : tornS n (ts.take (i + 1)) = tornF n (tornS n (ts.take i)) t := by
  have e : ts.take (i + 1) = ts.take i ++ [t] := by rw [List.take_add_one, h]; rfl
  rw [tornS, e, List.foldl_append]; rfl
theorem tornS_ok {n : Nat} (hn : 0 < n) (ts : List Int) : (tornS n ts).Nodup ∧ ∀ k, k ∈ tornS n ts → k < n := by
  have : ∀ (ts : List Int) (T : List Nat), (T.Nodup ∧ ∀ k, k ∈ T → k < n) → (ts.foldl (tornF n) T).Nodup ∧ ∀ k, k ∈ ts.foldl (tornF n) T → k < n := by
    intro ts
    induction ts with
    | nil => intro T h; exact h
    | cons t r ih =>
      intro T h
      refine ih _ ?_
      unfold tornF
      split
      · exact h
      · rename_i hm
        exact ⟨List.nodup_cons.2 ⟨hm, h.1⟩, fun k hk => by
          rcases List.mem_cons.1 hk with e | e
          · rw [e]; exact Nat.mod_lt _ hn
          · exact h.2 k e⟩
  exact this ts [] ⟨List.nodup_nil, fun k h => by cases h⟩
/-- What is left. -/
def keepL (l : List Leaf) (T : List Nat) (n : Nat) : List Leaf := ((List.range n).filter fun i => !T.contains i).map fun i => l.getD i ⟨0, []⟩
theorem keepL_succ (l : List Leaf) (T : List Nat) (n : Nat) : keepL l T (n + 1) = if T.contains n = true then keepL l T n else keepL l T n ++ [l.getD n ⟨0, []⟩] := by
  simp only [keepL, List.range_succ, List.filter_append, List.map_append]
  cases h : T.contains n <;> simp only [List.filter_cons, List.filter_nil, h] <;> simp
theorem keepL_le (l : List Leaf) (T : List Nat) (n : Nat) : (keepL l T n).length ≤ n := by
  rw [keepL, List.length_map]; exact Nat.le_trans (List.length_filter_le _ _) (by simp)
theorem range_getD (l : List Leaf) : (List.range l.length).map (fun i => l.getD i ⟨0, []⟩) = l := by
  refine List.ext_getElem (by simp) fun i h1 h2 => ?_
  simp [h2]
theorem keepL_sub (l : List Leaf) (T : List Nat) : (keepL l T l.length).Sublist l := by
  have h := (List.filter_sublist (l := List.range l.length) (p := fun i => !T.contains i)).map fun i => l.getD i ⟨0, []⟩
  rw [range_getD] at h
  exact h
theorem keepL_len {T : List Nat} {n : Nat} (l : List Leaf) (h1 : T.Nodup) (h2 : ∀ k, k ∈ T → k < n) : (keepL l T n).length + T.length = n := by
  have hp : ((List.range n).filter fun i => T.contains i).Perm T := by
    refine (List.perm_ext_iff_of_nodup (List.nodup_range.filter _) h1).2 fun k => ?_
    simp only [List.mem_filter, List.mem_range, List.contains_iff_mem]
    exact ⟨fun h => h.2, fun h => ⟨h2 k h, h⟩⟩
  rw [keepL, List.length_map, ← hp.length_eq]
  have h3 : ∀ m : List Nat, (m.filter fun i => !T.contains i).length + (m.filter fun i => T.contains i).length = m.length := by
    intro m
    induction m with
    | nil => rfl
    | cons x r ih =>
      simp only [List.filter_cons, List.length_cons]
      cases hc : T.contains x <;> simp only [Bool.not_false, Bool.not_true, if_true, Bool.false_eq_true, if_false, List.length_cons] <;> omega
  rw [h3]; simp
/-- Leaves that are torn do no harm while there are spare ones. -/
theorem one_law {s : Shape} {l : List Leaf} {D : List (List Int)} {W : List Int} (h : MendS s l = ((D, W), 0)) (hl : l.length ≤ 12) {r : List Leaf} (hs : r.Sublist l) (hr : s.Data + 2 * (W.length : Int) ≤ (r.length : Int)) :
    ∃ W' : List Int, MendS s r = ((D, W'), 0) ∧ CheckLeavesS s r = 0 := by
  have h0 : CheckLeavesS s l = 0 := (MendS_data s l (by rw [h])).2
  obtain ⟨j1, j2, j3⟩ := (judge_iff (d := D) (wr := W) h0 hl).1 ⟨by rw [h], by rw [h], by rw [h]⟩
  obtain ⟨hc, hv⟩ := lv_of h0 hl
  have hrl : r.length ≤ 12 := Nat.le_trans hs.length_le hl
  have hcs : CheckS s = 0 := by unfold CheckS; rw [if_pos hc]
  have h1 : CheckLeavesS s r = 0 := by
    unfold CheckLeavesS at h0 ⊢
    rw [if_pos hcs, if_neg (by omega)] at h0
    rw [if_pos hcs, if_neg (by omega)]
    obtain ⟨k1, k2⟩ := ckl_ok h0
    exact ckl_of (fun x hx => k1 x (hs.subset hx)) (k2.sublist hs)
  obtain ⟨_, hv2⟩ := lv_of h1 hrl
  have hw : (wrongM (wholeL (s.Data.toNat + s.Checks.toNat) s.Width.toNat D) r (s.Data.toNat + s.Checks.toNat)).length ≤ W.length := by
    rw [j2, wrong_len_eq hv2, wrong_len_eq hv]
    exact (hs.filter _).length_le
  obtain ⟨m1, m2, m3⟩ := (judge_iff (d := D) (wr := wrongM (wholeL (s.Data.toNat + s.Checks.toNat) s.Width.toNat D) r (s.Data.toNat + s.Checks.toNat)) h1 hrl).2 ⟨j1, rfl, by omega⟩
  refine ⟨wrongM (wholeL (s.Data.toNat + s.Checks.toNat) s.Width.toNat D) r (s.Data.toNat + s.Checks.toNat), ?_, h1⟩
  exact Prod.ext (Prod.ext m2 m3) m1
theorem m_sameRowsG (a b : List (List Int)) (hl : a.length ≤ 4611686018427387904) (hl' : b.length ≤ 4611686018427387904) (ha : ∀ x, x ∈ a → x.length ≤ 4611686018427387904) (hb : ∀ x, x ∈ b → x.length ≤ 4611686018427387904) : Maps Try.prog 21 [.sl (a.map eRow), .sl (b.map eRow)] (wB (decide (a = b))) := by
  refine Maps.vt pok Try.f21 (n := 27) (rs := [.tmp 4]) rfl rfl rfl rfl rfl rfl fun g => ?_
  by_cases he : a.length = b.length
  · repeat (any_goals (first | (apply w_any; (first | refine RT.nil ?_ | refine RT.mvA ?_ | refine RT.asA ?_ | refine RT.v (f_neqF rfl rfl (by omega)) ?_ | refine RT.clA ?_)) | (apply v_any; (first | refine VT.seq rfl ?_ | refine VT.reg rfl ?_ | refine VT.condF rfl rfl ?_ | refine VT.block rfl ?_ | refine VT.skip rfl ?_))))
    refine VT.loop (fun j al H g' => ∃ k : Nat, j = a.length - k ∧ k ≤ a.length ∧ a.take k = b.take k ∧ al = [(0, .sl (a.map eRow)), (1, .sl (b.map eRow)), (5, wI k)] ∧ H = [] ∧ g' = g) rfl
      ⟨_, _, _, ⟨0, rfl, Nat.zero_le _, rfl, rfl, rfl, rfl⟩, fgA⟩ ?_
    rintro j al H g' ⟨k, rfl, hk, hn, rfl, rfl, rfl⟩
    by_cases hlt : k < a.length
    · have hlt2 : k < b.length := by omega
      have hs := m_same a[k] b[k] (ha _ (List.getElem_mem hlt)) (hb _ (List.getElem_mem hlt2))
      by_cases hc : a[k] = b[k]
      · rw [decide_eq_true hc] at hs
        repeat (any_goals (first | (apply w_any; (first | refine RT.nil ?_ | refine RT.mvA ?_ | refine RT.asA ?_ | refine RT.bnA ?_ | refine RT.clA ?_)) | (apply v_any; (first | refine VT.seq rfl ?_ | refine VT.reg rfl ?_ | refine VT.condF rfl rfl ?_ | refine VT.block rfl ?_ | refine VT.skip rfl ?_ | refine VT.draw [(0, []), (0, []), (0, []), (0, []), (0, []), (0, []), (0, []), (0, []), (0, []), (0, [])] 1 mixedOk rfl (by decide +kernel) (by decide +kernel) (by decide +kernel) (by first | (simp only [nrm]; rfl) | (simp only [nrm, Nat.reduceAdd, Nat.zero_add]; rfl) | rfl) (by first | (simp only [nrm]; rfl) | (simp only [nrm, Nat.reduceAdd, Nat.zero_add]; rfl) | rfl) ?_ | refine VT.condY rfl rfl (by first | assumption | omega) ?_)) | (apply q_any; (first | refine PT.done (by first | (simp only [nrm]; rfl) | (simp only [nrm, Nat.reduceAdd, Nat.zero_add]; rfl) | rfl) ?_ | refine PT.mvA ?_ | refine PT.ldA ?_ | refine PT.callG rfl (hs) rfl rfl ?_ | refine PT.ixA ?_ | refine PT.unA ?_)) | with_reducible (refine kLn ?_)))
        exact ⟨a.length - (k + 1), by omega, _, _, ⟨k + 1, rfl, hlt, by rw [List.take_succ_eq_append_getElem hlt, List.take_succ_eq_append_getElem hlt2, hn, hc], rfl, rfl, rfl⟩, fgA⟩
      · rw [decide_eq_false hc] at hs
        repeat (any_goals (first | (apply w_any; (first | refine RT.nil ?_ | refine RT.mvA ?_ | refine RT.asA ?_ | refine RT.bnA ?_ | refine RT.clA ?_)) | (apply v_any; (first | refine VT.seq rfl ?_ | refine VT.reg rfl ?_ | refine VT.condT rfl rfl ?_ | refine VT.block rfl ?_ | refine VT.skip rfl ?_ | refine VT.ret rfl ?_ | refine VT.draw [(0, []), (0, []), (0, []), (0, []), (0, []), (0, []), (0, []), (0, []), (0, []), (0, [])] 1 mixedOk rfl (by decide +kernel) (by decide +kernel) (by decide +kernel) (by first | (simp only [nrm]; rfl) | (simp only [nrm, Nat.reduceAdd, Nat.zero_add]; rfl) | rfl) (by first | (simp only [nrm]; rfl) | (simp only [nrm, Nat.reduceAdd, Nat.zero_add]; rfl) | rfl) ?_ | refine VT.condY rfl rfl (by first | assumption | omega) ?_)) | (apply q_any; (first | refine PT.done (by first | (simp only [nrm]; rfl) | (simp only [nrm, Nat.reduceAdd, Nat.zero_add]; rfl) | rfl) ?_ | refine PT.mvA ?_ | refine PT.ldA ?_ | refine PT.callG rfl (hs) rfl rfl ?_ | refine PT.ixA ?_ | refine PT.unA ?_)) | (with_reducible first | refine kSr ?_ | refine kBr ?_ | refine kLr ?_) | (with_reducible refine d_kEr ?_; refine kEr rfl ?_)))
        have : a ≠ b := fun h => hc (by subst h; rfl)
        rw [decide_eq_false this]; rfl
    · repeat (any_goals (first | (apply w_any; (first | refine RT.nil ?_ | refine RT.mvA ?_ | refine RT.asA ?_ | refine RT.bnA ?_ | refine RT.clA ?_)) | (apply v_any; (first | refine VT.seq rfl ?_ | refine VT.reg rfl ?_ | refine VT.exit rfl ?_ | refine VT.ret rfl ?_ | refine VT.condN rfl rfl (by first | assumption | omega) ?_)) | (with_reducible refine d_kEr ?_; refine kEr rfl ?_)))
      rw [List.take_of_length_le (by omega), List.take_of_length_le (by omega)] at hn
      rw [decide_eq_true hn]; rfl
  · repeat (any_goals (first | (apply w_any; (first | refine RT.nil ?_ | refine RT.mvA ?_ | refine RT.asA ?_ | refine RT.v (f_neqT rfl rfl (by omega)) ?_ | refine RT.clA ?_)) | (apply v_any; (first | refine VT.seq rfl ?_ | refine VT.reg rfl ?_ | refine VT.condT rfl rfl ?_ | refine VT.ret rfl ?_)) | with_reducible (refine kSr ?_) | (with_reducible refine d_kEr ?_; refine kEr rfl ?_)))
    have : a ≠ b := fun h => he (by rw [h])
    rw [decide_eq_false this]; rfl
end Go.DL
