/- slices.Compact and slices.Concat of lines. -/
import Derived.Test.YtmbbepdbjeciaaaGreatYa5
set_option maxRecDepth 100000
set_option maxHeartbeats 16000000
namespace Go.DL
open Go.Proofs Go
/-- Runs of the same line, once each. -/
def dd : List Line → List Line
  | [] => []
  | [x] => [x]
  | x :: y :: r => if x = y then dd (y :: r) else x :: dd (y :: r)
theorem dd_sub : ∀ l : List Line, (dd l).Sublist l
  | [] => .slnil
  | [x] => .refl _
  | x :: y :: r => by
    rw [dd]
    split
    · exact (dd_sub (y :: r)).cons _
    · exact (dd_sub (y :: r)).cons_cons _
theorem dd_mem {z : Line} : ∀ l : List Line, z ∈ l → z ∈ dd l
  | [x], h => h
  | x :: y :: r, h => by
    rw [dd]
    split
    · rename_i e
      rcases List.mem_cons.1 h with rfl | h
      · exact dd_mem (y :: r) (by rw [e]; exact List.mem_cons_self ..)
      · exact dd_mem (y :: r) h
    · rcases List.mem_cons.1 h with rfl | h
      · exact List.mem_cons_self ..
      · exact List.mem_cons_of_mem _ (dd_mem (y :: r) h)
theorem dd_nodup : ∀ l : List Line, LSrt l → NoFk l → (dd l).Nodup
  | [], _, _ => List.nodup_nil
  | [x], _, _ => List.nodup_cons.2 ⟨by simp, List.nodup_nil⟩
  | x :: y :: r, hs, hn => by
    obtain ⟨h1, h2⟩ := List.pairwise_cons.1 hs
    have ih := dd_nodup (y :: r) h2 fun a ha b hb => hn a (List.mem_cons_of_mem _ ha) b (List.mem_cons_of_mem _ hb)
    rw [dd]
    split
    · exact ih
    · rename_i e
      refine List.nodup_cons.2 ⟨fun hx => e ?_, ih⟩
      have hx2 := (dd_sub (y :: r)).subset hx
      have h3 := h1 y (List.mem_cons_self ..)
      have h4 : LLe y x := by
        rcases List.mem_cons.1 hx2 with rfl | h
        · exact h3
        · exact (List.pairwise_cons.1 h2).1 x h
      exact hn x (List.mem_cons_self ..) y (List.mem_cons_of_mem _ (List.mem_cons_self ..)) (by unfold LLe at h3 h4; omega)
theorem dd_snoc (u v : Line) : ∀ a : List Line, dd (a ++ [u, v]) = dd (a ++ [u]) ++ (if u = v then [] else [v])
  | [] => by
    show dd [u, v] = [u] ++ _
    rw [dd]
    split
    · rename_i e; rw [e]; rfl
    · rfl
  | [x] => by
    show dd (x :: u :: [v]) = dd (x :: u :: []) ++ _
    have ih := dd_snoc u v []
    simp only [List.nil_append] at ih
    have e1 : dd (x :: u :: [v]) = if x = u then dd (u :: [v]) else x :: dd (u :: [v]) := rfl
    have e2 : dd (x :: u :: []) = if x = u then dd [u] else x :: dd [u] := rfl
    rw [e1, e2, ih]
    split <;> simp
  | x :: y :: a => by
    have ih := dd_snoc u v (y :: a)
    simp only [List.cons_append] at ih ⊢
    rw [dd, dd, ih]
    split <;> simp
theorem dd_step {l : List Line} {k : Nat} {u v : Line} (hu : l[k]? = some u) (hv : l[k + 1]? = some v) : dd (l.take (k + 2)) = dd (l.take (k + 1)) ++ (if u = v then [] else [v]) := by
  have e1 : l.take (k + 1) = l.take k ++ [u] := by rw [List.take_add_one, hu]; rfl
  have e2 : l.take (k + 2) = l.take k ++ [u, v] := by rw [List.take_add_one (i := k + 1), hv, e1]; simp
  rw [e1, e2, dd_snoc]
theorem c_compactL {H : List Blk} {b c : Nat} {l : List Line} (hb : H[b]? = some (.live 4 (l.map eLine))) (hl : l.length ≤ 1000) (hc : l.length ≤ c) :
    CallSp Tryz.prog 108 [.ms b 0 l.length c] H fun d H' => ∃ (z F : List Line), z = dd l ∧ d = .ms b 0 z.length c ∧ H'[b]? = some (.live 4 (F.map eLine)) ∧ F.take z.length = z ∧ z.length ≤ F.length := by
  refine CallSp.vt pok Tryz.f108 (n := 61) (rs := [.tmp 2]) rfl rfl rfl rfl rfl rfl rfl fun g => ?_
  by_cases h2 : l.length < 2
  · repeat (any_goals (first | (apply w_any; (first | refine RT.nil ?_ | refine RT.mvA ?_ | refine RT.asA ?_ | refine RT.bnA ?_ | refine RT.clA ?_)) | (apply v_any; (first | refine VT.seq rfl ?_ | refine VT.reg rfl ?_ | refine VT.ret rfl ?_ | refine VT.condY rfl rfl (by first | assumption | omega) ?_)) | with_reducible (refine kSr ?_) | (with_reducible refine d_kEr ?_; refine kEr rfl ?_)))
    refine ⟨l, l, ?_, rfl, hb, List.take_length, Nat.le_refl _⟩
    match l, h2 with
    | [], _ => rfl
    | [x], _ => rfl
    | _ :: _ :: _, h => simp at h; omega
  · repeat (any_goals (first | (apply w_any; (first | refine RT.nil ?_ | refine RT.mvA ?_ | refine RT.asA ?_ | refine RT.bnA ?_ | refine RT.clA ?_)) | (apply v_any; (first | refine VT.seq rfl ?_ | refine VT.reg rfl ?_ | refine VT.block rfl ?_ | refine VT.skip rfl ?_ | refine VT.condN rfl rfl (by first | assumption | omega) ?_))))
    refine VT.loop (fun j al H2 g' => ∃ k : Nat, j = l.length - (k + 1) ∧ k + 1 ≤ l.length ∧ dd (l.take (k + 1)) = l.take (k + 1) ∧ al = [(0, .ms b 0 l.length c), (3, wI ((k + 1 : Nat) : Int))] ∧ H2 = H ∧ g' = g) rfl
      ⟨_, _, _, ⟨0, rfl, by omega, (by
        match l, h2 with
        | [], h => simp at h
        | x :: r, _ => rfl), rfl, rfl, rfl⟩, Wk.keep (by (repeat first | exact True.intro | refine And.intro ?_ ?_ | exact Or.inr (Or.inl rfl) | exact Or.inl rfl | (refine DLe.i rfl ?_; omega) | (refine DLe.i rfl ?_; simp; done)))⟩ ?_
    rintro j al H2 g' ⟨k, rfl, hk, hdk, rfl, rfl, rfl⟩
    have hb2 := hb
    by_cases hlt : k + 1 < l.length
    · obtain ⟨v, hv⟩ : ∃ v, l[k + 1]? = some v := ⟨_, List.getElem?_eq_getElem hlt⟩
      obtain ⟨u, hu⟩ : ∃ u, l[k]? = some u := ⟨_, List.getElem?_eq_getElem (by omega)⟩
      have hst := dd_step hu hv
      have hag := agg_line v u
      by_cases huv : v = u
      · rw [decide_eq_true huv] at hag
        rw [if_pos huv.symm, List.append_nil] at hst
        repeat (any_goals (first | (apply w_any; (first | refine RT.nil ?_ | refine RT.mvA ?_ | refine RT.asA ?_ | refine RT.bnA ?_ | refine RT.clA ?_ | refine RT.v (f_slLo0 (k := k + 1) rfl rfl rfl (by omega) (by omega) rfl hb2) ?_)) | (apply v_any; (first | refine VT.seq rfl ?_ | refine VT.reg rfl ?_ | refine VT.condT rfl rfl ?_ | refine VT.block rfl ?_ | refine VT.skip rfl ?_ | refine VT.draw [(0, []), (0, []), (0, []), (0, []), (0, []), (0, []), (0, []), (0, []), (0, []), (0, [])] 1 mixedOk rfl (by decide +kernel) (by decide +kernel) (by decide +kernel) (by first | (simp only [nrm]; rfl) | (simp only [nrm, Nat.reduceAdd, Nat.zero_add]; rfl) | rfl) (by first | (simp only [nrm]; rfl) | (simp only [nrm, Nat.reduceAdd, Nat.zero_add]; rfl) | rfl) ?_ | refine VT.condY rfl rfl (by first | assumption | omega) ?_)) | (apply q_any; (first | refine PT.done ((dropLn H2 [] .free).trans (List.append_nil _)) ?_ | refine PT.mvI ((mask_app (H0 := H2) (T := [_]) rfl)) ?_ | (apply q_ld; (first | refine PT.vI ((mask_app (H0 := H2) (T := [_]) rfl)) (f_ldOW rfl (hg_app _ hb2) (map_get hv) rfl rfl rfl) ?_ | refine PT.vI ((mask_app (H0 := H2) (T := [_]) rfl)) (f_ldOW rfl (hg_app _ hb2) (map_get hu) rfl rfl rfl) ?_)) | refine PT.bnI ((mask_app (H0 := H2) (T := [_]) rfl)) ?_ | (apply q_ix; (first | refine PT.vI ((mask_app (H0 := H2) (T := [_]) rfl)) (f_ixO0 (k := k + 1) rfl rfl (by omega) (hg_app _ hb2) rfl (by omega)) ?_ | refine PT.vI ((mask_app (H0 := H2) (T := [_]) rfl)) (f_ixO0 (k := k) rfl rfl (by omega) (hg_app _ hb2) rfl (by omega)) ?_)) | refine PT.vI ((mask_app (H0 := H2) (T := [_]) rfl)) (f_eqlAgg rfl rfl hag) ?_))))
        refine VT.loop (fun jj al H3 g2 => ∃ (i q : Nat) (E : List Line), jj = (l.length - (k + 1)) - (q + 1) ∧ q + 1 ≤ l.length - (k + 1) ∧ i ≤ k + 1 + q ∧ E.length = l.length ∧ E.take i = dd (l.take (k + 1 + q + 1)) ∧ E.drop (k + 1 + q) = l.drop (k + 1 + q) ∧ H3[b]? = some (.live 4 (E.map eLine)) ∧ al = [(0, .ms b 0 l.length c), (3, wI i), (4, .ms b (k + 1) (l.length - (k + 1)) (c - (k + 1))), (5, wI ((q + 1 : Nat) : Int))] ∧ g2 = g') rfl
          ⟨_, _, _, ⟨k + 1, 0, l, rfl, by omega, by omega, rfl, by rw [Nat.add_zero, hst, hdk], rfl, hb, rfl, rfl⟩, Wk.keep (by (repeat first | exact True.intro | refine And.intro ?_ ?_ | exact Or.inr (Or.inl rfl) | exact Or.inl rfl | (refine DLe.i rfl ?_; omega) | (refine DLe.i rfl ?_; simp; done)))⟩ ?_
        rintro jj al H3 g2 ⟨i, q, E, rfl, hq, hiq, hEl, hEt, hEd, hb3, rfl, rfl⟩
        have hbl := hg_lt hb3
        by_cases hlt2 : q + 1 < l.length - (k + 1)
        · obtain ⟨v, hvl⟩ : ∃ v, l[k + 1 + q + 1]? = some v := ⟨_, List.getElem?_eq_getElem (by omega)⟩
          obtain ⟨u, hul⟩ : ∃ u, l[k + 1 + q]? = some u := ⟨_, List.getElem?_eq_getElem (by omega)⟩
          have hst2 := dd_step hul hvl
          have hu : E[k + 1 + q]? = some u := by
            have := congrArg (·[0]?) hEd
            simpa [List.getElem?_drop, hul] using this
          have hv : E[k + 1 + (q + 1)]? = some v := by
            have := congrArg (·[1]?) hEd
            simp only [List.getElem?_drop] at this
            exact this.trans hvl
          have hEd2 : E.drop (k + 1 + (q + 1)) = l.drop (k + 1 + (q + 1)) := by
            have := congrArg (List.drop 1) hEd
            simpa [List.drop_drop, Nat.add_assoc] using this
          have hag := agg_line v u
          by_cases huv2 : v = u
          · rw [decide_eq_true huv2] at hag
            rw [if_pos huv2.symm, List.append_nil] at hst2
            repeat (any_goals (first | (apply w_any; (first | refine RT.nil ?_ | refine RT.mvA ?_ | refine RT.asA ?_ | refine RT.bnA ?_ | refine RT.clA ?_)) | (apply v_any; (first | refine VT.seq rfl ?_ | refine VT.reg rfl ?_ | refine VT.condF rfl rfl ?_ | refine VT.block rfl ?_ | refine VT.skip rfl ?_ | refine VT.draw [(0, []), (0, []), (0, []), (0, []), (0, []), (0, []), (0, []), (0, []), (0, []), (0, [])] 1 mixedOk rfl (by decide +kernel) (by decide +kernel) (by decide +kernel) (by first | (simp only [nrm]; rfl) | (simp only [nrm, Nat.reduceAdd, Nat.zero_add]; rfl) | rfl) (by first | (simp only [nrm]; rfl) | (simp only [nrm, Nat.reduceAdd, Nat.zero_add]; rfl) | rfl) ?_ | refine VT.condY rfl rfl (by first | assumption | omega) ?_)) | (apply q_any; (first | refine PT.done ((dropLn H3 [] .free).trans (List.append_nil _)) ?_ | refine PT.mvI ((mask_app (H0 := H3) (T := [_]) rfl)) ?_ | (apply q_ld; (first | refine PT.vI ((mask_app (H0 := H3) (T := [_]) rfl)) (f_ldOW rfl (hg_app _ hb3) (map_get hv) rfl rfl rfl) ?_ | refine PT.vI ((mask_app (H0 := H3) (T := [_]) rfl)) (f_ldOW rfl (hg_app _ hb3) (map_get hu) rfl rfl rfl) ?_)) | refine PT.bnI ((mask_app (H0 := H3) (T := [_]) rfl)) ?_ | (apply q_ix; (first | refine PT.vI ((mask_app (H0 := H3) (T := [_]) rfl)) (f_ixO (k := q + 1) rfl rfl (by omega) (hg_app _ hb3) rfl (by omega)) ?_ | refine PT.vI ((mask_app (H0 := H3) (T := [_]) rfl)) (f_ixO (k := q) rfl rfl (by omega) (hg_app _ hb3) rfl (by omega)) ?_)) | refine PT.vI ((mask_app (H0 := H3) (T := [_]) rfl)) (f_neqAgg rfl rfl hag) ?_)) | with_reducible (refine kLn ?_)))
            exact ⟨(l.length - (k + 1)) - (q + 2), by omega, _, _, ⟨i, q + 1, E, rfl, hlt2, by omega, hEl, hEt.trans hst2.symm, hEd2, hb3, rfl, rfl⟩, Wk.keep (by (repeat first | exact True.intro | refine And.intro ?_ ?_ | exact Or.inr (Or.inl rfl) | exact Or.inl rfl | (refine DLe.i rfl ?_; omega) | (refine DLe.i rfl ?_; simp; done)))⟩
          · rw [decide_eq_false huv2] at hag
            rw [if_neg (fun e => huv2 e.symm)] at hst2
            have hset : (E.set i v).take (i + 1) = E.take i ++ [v] := by
              rw [List.take_add_one, List.take_set_of_le (Nat.le_refl _), List.getElem?_set_self (by omega)]; rfl
            repeat (any_goals (first | (apply w_any; (first | refine RT.nil ?_ | refine RT.mvA ?_ | refine RT.asA ?_ | refine RT.v (f_ldOW rfl hb3 (map_get hv) rfl rfl rfl) ?_ | refine RT.bnA ?_ | refine RT.clA ?_ | (apply w_ix; (first | refine RT.v (f_ixO (k := q + 1) rfl rfl rfl hb3 rfl (by omega)) ?_ | refine RT.v (f_ixO0 (k := i) rfl rfl rfl hb3 rfl (by omega)) ?_)) | refine RT.wr (f_stMA (k := i) (v := v) rfl hb3 (by omega) rfl rfl rfl rfl rfl) rfl ?_)) | (apply v_any; (first | refine VT.seq rfl ?_ | refine VT.reg rfl ?_ | refine VT.condT rfl rfl ?_ | refine VT.block rfl ?_ | refine VT.skip rfl ?_ | refine VT.draw [(0, []), (0, []), (0, []), (0, []), (0, []), (0, []), (0, []), (0, []), (0, []), (0, [])] 1 mixedOk rfl (by decide +kernel) (by decide +kernel) (by decide +kernel) (by first | (simp only [nrm]; rfl) | (simp only [nrm, Nat.reduceAdd, Nat.zero_add]; rfl) | rfl) (by first | (simp only [nrm]; rfl) | (simp only [nrm, Nat.reduceAdd, Nat.zero_add]; rfl) | rfl) ?_ | refine VT.condY rfl rfl (by first | assumption | omega) ?_)) | (apply q_any; (first | refine PT.done ((dropLn H3 [] .free).trans (List.append_nil _)) ?_ | refine PT.mvI ((mask_app (H0 := H3) (T := [_]) rfl)) ?_ | (apply q_ld; (first | refine PT.vI ((mask_app (H0 := H3) (T := [_]) rfl)) (f_ldOW rfl (hg_app _ hb3) (map_get hv) rfl rfl rfl) ?_ | refine PT.vI ((mask_app (H0 := H3) (T := [_]) rfl)) (f_ldOW rfl (hg_app _ hb3) (map_get hu) rfl rfl rfl) ?_)) | refine PT.bnI ((mask_app (H0 := H3) (T := [_]) rfl)) ?_ | (apply q_ix; (first | refine PT.vI ((mask_app (H0 := H3) (T := [_]) rfl)) (f_ixO (k := q + 1) rfl rfl (by omega) (hg_app _ hb3) rfl (by omega)) ?_ | refine PT.vI ((mask_app (H0 := H3) (T := [_]) rfl)) (f_ixO (k := q) rfl rfl (by omega) (hg_app _ hb3) rfl (by omega)) ?_)) | refine PT.vI ((mask_app (H0 := H3) (T := [_]) rfl)) (f_neqAgg rfl rfl hag) ?_)) | with_reducible (refine kLn ?_)))
            exact ⟨(l.length - (k + 1)) - (q + 2), by omega, _, _, ⟨i + 1, q + 1, E.set i v, rfl, hlt2, by omega, by simp [hEl], by rw [hset, hEt, ← hst2]; rfl, by rw [List.drop_set_of_lt (by omega)]; exact hEd2, hg_self hbl, rfl, rfl⟩, Wk.keep (by (repeat first | exact True.intro | refine And.intro ?_ ?_ | exact Or.inr (Or.inl rfl) | exact Or.inl rfl | (refine DLe.i rfl ?_; omega) | (refine DLe.i rfl ?_; simp; done)))⟩
        · have hti : (E.take i).length = i := by rw [List.length_take]; omega
          rw [List.take_of_length_le (l := l) (by omega)] at hEt
          repeat (any_goals (first | (apply w_any; (first | refine RT.nil ?_ | refine RT.mvA ?_ | refine RT.asA ?_ | refine RT.bnA ?_ | refine RT.clA ?_ | (apply w_sl; (first | refine RT.v (f_slLo0 (k := i) rfl rfl rfl (by omega) hc rfl hb3) ?_ | refine RT.v (f_slHiO (hi := i) rfl rfl rfl (by omega) rfl (by repeat (first | assumption | exact hg_new | exact hg_at (by first | rfl | simp) rfl | exact hg_self (by first | assumption | omega | (simp only [List.length_set, List.length_append, List.length_cons, List.length_nil, List.length_map, List.length_replicate]; omega)) | refine hg_app _ ?_ | refine hg_ne ?_ (by first | assumption | omega) | refine mskR ?_ (by first | (simp [rho, -List.length_eq_zero_iff]; done) | (simp [rho, -List.length_eq_zero_iff]; omega))))) ?_)) | refine RT.clearS (z := [wI 0, wI 0, wI 0, wI 0]) rfl rfl rfl rfl rfl hb3 (by rw [List.length_map]; omega) rfl ?_)) | (apply v_any; (first | refine VT.seq rfl ?_ | refine VT.reg rfl ?_ | refine VT.exit rfl ?_ | refine VT.ret rfl ?_ | refine VT.condN rfl rfl (by first | assumption | omega) ?_)) | (with_reducible first | refine kSr ?_ | refine kBr ?_ | refine kLr ?_) | (with_reducible refine d_kEr ?_; refine kEr rfl ?_)))
          refine ⟨E.take i, E.take i ++ List.replicate (l.length - i) ⟨0, 0, 0, 0⟩ ++ E.drop (i + (l.length - i)), hEt, by rw [hti]; rfl, ?_, ?_, ?_⟩
          · refine (hg_self hbl).trans (congrArg some (congrArg (Blk.live 4) ?_))
            rw [List.map_append, List.map_append, List.map_replicate, List.map_take, List.map_drop]
          · rw [hti, List.append_assoc, List.take_append_of_le_length (by rw [hti]; exact Nat.le_refl _), List.take_take, Nat.min_self]
          · rw [hti]; simp; omega
      · rw [decide_eq_false huv] at hag
        rw [if_neg (fun e => huv e.symm)] at hst
        repeat (any_goals (first | (apply w_any; (first | refine RT.nil ?_ | refine RT.mvA ?_ | refine RT.asA ?_ | refine RT.bnA ?_ | refine RT.clA ?_)) | (apply v_any; (first | refine VT.seq rfl ?_ | refine VT.reg rfl ?_ | refine VT.condF rfl rfl ?_ | refine VT.block rfl ?_ | refine VT.skip rfl ?_ | refine VT.draw [(0, []), (0, []), (0, []), (0, []), (0, []), (0, []), (0, []), (0, []), (0, []), (0, [])] 1 mixedOk rfl (by decide +kernel) (by decide +kernel) (by decide +kernel) (by first | (simp only [nrm]; rfl) | (simp only [nrm, Nat.reduceAdd, Nat.zero_add]; rfl) | rfl) (by first | (simp only [nrm]; rfl) | (simp only [nrm, Nat.reduceAdd, Nat.zero_add]; rfl) | rfl) ?_ | refine VT.condY rfl rfl (by first | assumption | omega) ?_)) | (apply q_any; (first | refine PT.done ((dropLn H2 [] .free).trans (List.append_nil _)) ?_ | refine PT.mvI ((mask_app (H0 := H2) (T := [_]) rfl)) ?_ | (apply q_ld; (first | refine PT.vI ((mask_app (H0 := H2) (T := [_]) rfl)) (f_ldOW rfl (hg_app _ hb2) (map_get hv) rfl rfl rfl) ?_ | refine PT.vI ((mask_app (H0 := H2) (T := [_]) rfl)) (f_ldOW rfl (hg_app _ hb2) (map_get hu) rfl rfl rfl) ?_)) | refine PT.bnI ((mask_app (H0 := H2) (T := [_]) rfl)) ?_ | (apply q_ix; (first | refine PT.vI ((mask_app (H0 := H2) (T := [_]) rfl)) (f_ixO0 (k := k + 1) rfl rfl (by omega) (hg_app _ hb2) rfl (by omega)) ?_ | refine PT.vI ((mask_app (H0 := H2) (T := [_]) rfl)) (f_ixO0 (k := k) rfl rfl (by omega) (hg_app _ hb2) rfl (by omega)) ?_)) | refine PT.vI ((mask_app (H0 := H2) (T := [_]) rfl)) (f_eqlAgg rfl rfl hag) ?_)) | with_reducible (refine kLn ?_)))
        exact ⟨l.length - (k + 2), by omega, _, _, ⟨k + 1, rfl, hlt, by rw [hst, hdk, List.take_add_one (i := k + 1), hv]; rfl, rfl, rfl, rfl⟩, Wk.keep (by (repeat first | exact True.intro | refine And.intro ?_ ?_ | exact Or.inr (Or.inl rfl) | exact Or.inl rfl | (refine DLe.i rfl ?_; omega) | (refine DLe.i rfl ?_; simp; done)))⟩
    · have hkl : k + 1 = l.length := by omega
      rw [hkl, List.take_length] at hdk
      repeat (any_goals (first | (apply w_any; (first | refine RT.nil ?_ | refine RT.mvA ?_ | refine RT.asA ?_ | refine RT.bnA ?_ | refine RT.clA ?_)) | (apply v_any; (first | refine VT.seq rfl ?_ | refine VT.reg rfl ?_ | refine VT.exit rfl ?_ | refine VT.ret rfl ?_ | refine VT.condN rfl rfl (by first | assumption | omega) ?_)) | (with_reducible refine d_kEr ?_; refine kEr rfl ?_)))
      exact ⟨l, l, hdk.symm, rfl, hb, List.take_length, Nat.le_refl _⟩
end Go.DL
