/- Merge of the document. -/
import Derived.Test.YtmbbepdbjeciaaaGreatYb1
set_option maxRecDepth 100000
set_option maxHeartbeats 16000000
namespace Go.DL
open Go.Proofs Go
theorem m_RMerge (a b : List Line) (hl : a.length ≤ 4611686018427387904) (hl' : b.length ≤ 4611686018427387904) : Maps Tryz.prog 50 [.sl (a.map eLine), .sl (b.map eLine)] (.agg [.fl ((MergeS a b).1.map eLine), wI (MergeS a b).2]) := by
  refine Maps.vt pok Tryz.f50 (n := 67) (rs := [.cell 4 65]) rfl rfl rfl rfl rfl rfl fun g => ?_
  have hf := m_RForks a b hl hl'
  unfold MergeS
  unfold ForksS at hf
  by_cases h : lined a b = 0
  · obtain ⟨ha, hbk⟩ := lined_ok h
    have hal := ha.1
    have hbl := hbk.1
    rw [if_pos h] at hf
    rw [if_pos h]
    by_cases hk : forkW a b = []
    · have hms : sortI (forkW a b) = [] := by rw [hk]; simp
      rw [hms] at hf
      rw [if_pos hk]
      have hmp := merge_perm ha hbk hk
      repeat (any_goals (first | (apply w_any; (first | refine RT.nil ?_ | refine RT.mvA ?_ | refine RT.asA ?_ | refine RT.ldA ?_ | refine RT.faA ?_ | (apply w_bn; (first | refine RT.v (f_gtrF rfl rfl (by simp)) ?_ | refine RT.bnA ?_)) | (apply w_cl; (first | (refine d_call ?_; refine RT.v (f_lenF (f := eI) (l := []) rfl rfl) ?_) | refine RT.ap (s := 3) rfl (f_appL (f := eLine) (o := []) (v := a) (mm := a.length) (by' := 32) rfl rfl (hg_at (t := 2) (H := []) rfl rfl) rfl (Nat.zero_le _) (helmL _ _) rfl (Nat.zero_add _) rfl (by decide) rfl rfl (fun _ => ⟨rfl, rfl⟩) (by simp; omega) (by simp; omega)) rfl ?_ | refine RT.callM rfl (hf) rfl rfl ?_)) | refine RT.stA ?_ | refine RT.new (s := 2) rfl (f_bsl0 (te := 72) (z := [wI 0, wI 0, wI 0, wI 0]) (m := 4) rfl rfl rfl) rfl ?_ | (apply w_al; (first | refine RT.new (s := 1) rfl (f_allocL (z := [.nil, wI 0]) (m := 2) rfl rfl) rfl ?_ | refine RT.nwA ?_)))) | (apply v_any; (first | refine VT.seq rfl ?_ | refine VT.reg rfl ?_ | refine VT.condF rfl rfl ?_ | refine VT.block rfl ?_ | refine VT.skip rfl ?_))))
      refine VT.loop (fun j al H g' => ∃ (k bb m : Nat) (o : List Line), j = b.length - k ∧ k ≤ b.length ∧ H[0]? = some (.live 2 [[.nil, wI 0]]) ∧ H[bb]? = some (.live 4 (o.map eLine)) ∧ 0 < bb ∧ m = o.length ∧ m ≤ a.length + k ∧ o = a ++ (b.take k).filter (fun y => !inB a y) ∧ al = [(0, .sl (a.map eLine)), (1, .sl (b.map eLine)), (4, .mp 0 0 0), (6, .ms bb 0 m m), (7, wI k)] ∧ g' = g) rfl
        ⟨_, _, [.live 2 [[.nil, wI 0]], .live 2 [[.fl [], wI 0]], .dead, .live 4 (a.map eLine)], ⟨0, 3, a.length, a, rfl, Nat.zero_le _, rfl, rfl, by omega, rfl, by omega, by simp, rfl, rfl⟩, Wk.keep (by (repeat first | exact True.intro | refine And.intro ?_ ?_ | exact Or.inr (Or.inl rfl) | exact Or.inl rfl | (refine DLe.i rfl ?_; omega) | (refine DLe.i rfl ?_; simp; done)))⟩ ?_
      rintro j al H g' ⟨k, bb, m, o, rfl, hkb, h0, hb, hb0, hm, hmk, ho, rfl, rfl⟩
      have h0l := hg_lt h0
      have hbbl := hg_lt hb
      by_cases hlt : k < b.length
      · obtain ⟨y, hy⟩ : ∃ y, b[k]? = some y := ⟨_, List.getElem?_eq_getElem hlt⟩
        have hst : a ++ (b.take (k + 1)).filter (fun y => !inB a y) = o ++ (if inB a y then [] else [y]) := by
          rw [List.take_add_one, hy, List.filter_append, ← List.append_assoc, ← ho]
          cases hiy : inB a y <;> simp [hiy]
        repeat (any_goals (first | (apply w_any; (first | refine RT.nil ?_ | refine RT.mvA ?_ | refine RT.asA ?_ | refine RT.bnA ?_ | refine RT.clA ?_)) | (apply v_any; (first | refine VT.seq rfl ?_ | refine VT.reg rfl ?_ | refine VT.block rfl ?_ | refine VT.skip rfl ?_ | refine VT.condY rfl rfl (by first | assumption | omega) ?_))))
        refine VT.loop (fun j al H2 g2 => ∃ (i : Nat) (v : Bool), j = a.length - i ∧ i ≤ a.length ∧ v = inB (a.take i) y ∧ al = [(0, .sl (a.map eLine)), (1, .sl (b.map eLine)), (4, .mp 0 0 0), (6, .ms bb 0 m m), (7, wI k), (8, wB v), (9, wI i)] ∧ H2 = H ∧ g2 = g') rfl
          ⟨_, _, _, ⟨0, false, rfl, Nat.zero_le _, rfl, rfl, rfl, rfl⟩, Wk.keep (by (repeat first | exact True.intro | refine And.intro ?_ ?_ | exact Or.inr (Or.inl rfl) | exact Or.inl rfl | (refine DLe.i rfl ?_; omega) | (refine DLe.i rfl ?_; simp; done)))⟩ ?_
        rintro j al H2 g2 ⟨i, v, rfl, hi, hv, rfl, rfl, rfl⟩
        by_cases hlt2 : i < a.length
        · obtain ⟨x, hx⟩ : ∃ x, a[i]? = some x := ⟨_, List.getElem?_eq_getElem hlt2⟩
          have hag := agg_line x y
          have hvs : inB (a.take (i + 1)) y = (v || decide (x = y)) := by
            unfold inB at hv ⊢
            rw [List.take_add_one, hx, List.any_append, ← hv]; simp
          cases v with
          | true =>
            repeat (any_goals (first | (apply w_any; (first | refine RT.nil ?_ | refine RT.mvA ?_ | refine RT.asA ?_ | refine RT.bnA ?_ | refine RT.clA ?_)) | (apply v_any; (first | refine VT.seq rfl ?_ | refine VT.reg rfl ?_ | refine VT.block rfl ?_ | refine VT.skip rfl ?_ | refine VT.draw [(0, []), (0, []), (0, []), (0, []), (0, []), (0, []), (0, []), (0, []), (0, []), (0, []), (0, []), (0, []), (0, [])] 1 mixedOk rfl (by decide +kernel) (by decide +kernel) (by decide +kernel) (by first | (simp only [nrm]; rfl) | (simp only [nrm, Nat.reduceAdd, Nat.zero_add]; rfl) | rfl) (by first | (simp only [nrm]; rfl) | (simp only [nrm, Nat.reduceAdd, Nat.zero_add]; rfl) | rfl) ?_ | refine VT.condY rfl rfl (by first | assumption | omega) ?_)) | (apply q_any; (first | refine PT.done ((dropLn H2 [] .free).trans (List.append_nil _)) ?_ | refine PT.gn rfl rfl ?_ | refine PT.mvI ((mask_app (H0 := H2) (T := [_]) rfl)) ?_ | refine PT.asI ((mask_app (H0 := H2) (T := [_]) rfl)) ?_ | refine PT.pkI ((mask_app (H0 := H2) (T := [_]) rfl)) ?_)) | with_reducible (refine kLn ?_)))
            exact ⟨a.length - (i + 1), by omega, _, _, ⟨i + 1, true, rfl, hlt2, by rw [hvs]; rfl, rfl, rfl, rfl⟩, Wk.keep (by (repeat first | exact True.intro | refine And.intro ?_ ?_ | exact Or.inr (Or.inl rfl) | exact Or.inl rfl | (refine DLe.i rfl ?_; omega) | (refine DLe.i rfl ?_; simp; done)))⟩
          | false =>
            repeat (any_goals (first | (apply w_any; (first | refine RT.nil ?_ | refine RT.mvA ?_ | refine RT.asA ?_ | refine RT.bnA ?_ | refine RT.clA ?_)) | (apply v_any; (first | refine VT.seq rfl ?_ | refine VT.reg rfl ?_ | refine VT.block rfl ?_ | refine VT.skip rfl ?_ | refine VT.draw [(0, []), (0, []), (0, []), (0, []), (0, []), (0, []), (0, []), (0, []), (0, []), (0, []), (0, []), (0, []), (0, [])] 1 mixedOk rfl (by decide +kernel) (by decide +kernel) (by decide +kernel) (by first | (simp only [nrm]; rfl) | (simp only [nrm, Nat.reduceAdd, Nat.zero_add]; rfl) | rfl) (by first | (simp only [nrm]; rfl) | (simp only [nrm, Nat.reduceAdd, Nat.zero_add]; rfl) | rfl) ?_ | refine VT.condY rfl rfl (by first | assumption | omega) ?_)) | (apply q_any; (first | refine PT.done ((dropLn H2 [] .free).trans (List.append_nil _)) ?_ | refine PT.gy rfl ?_ | refine PT.mvI ((mask_app (H0 := H2) (T := [_]) rfl)) ?_ | refine PT.asI ((mask_app (H0 := H2) (T := [_]) rfl)) ?_ | refine PT.ldI ((mask_app (H0 := H2) (T := [_]) rfl)) ?_ | refine PT.pkI ((mask_app (H0 := H2) (T := [_]) rfl)) ?_ | (apply q_ix; (first | refine PT.vI ((mask_app (H0 := H2) (T := [_]) rfl)) (f_ixQ rfl rfl rfl hx rfl rfl) ?_ | refine PT.vI ((mask_app (H0 := H2) (T := [_]) rfl)) (f_ixQ rfl rfl rfl hy rfl rfl) ?_)) | refine PT.vI ((mask_app (H0 := H2) (T := [_]) rfl)) (f_eqlAgg rfl rfl hag) ?_)) | with_reducible (refine kLn ?_)))
            exact ⟨a.length - (i + 1), by omega, _, _, ⟨i + 1, decide (x = y), rfl, hlt2, by rw [hvs]; rfl, rfl, rfl, rfl⟩, Wk.keep (by (repeat first | exact True.intro | refine And.intro ?_ ?_ | exact Or.inr (Or.inl rfl) | exact Or.inl rfl | (refine DLe.i rfl ?_; omega) | (refine DLe.i rfl ?_; simp; done)))⟩
        · obtain rfl : i = a.length := by omega
          rw [List.take_length] at hv
          cases v with
          | true =>
            rw [← hv, if_pos rfl, List.append_nil] at hst
            repeat (any_goals (first | (apply w_any; (first | refine RT.nil ?_ | refine RT.mvA ?_ | refine RT.asA ?_ | refine RT.bnA ?_ | refine RT.clA ?_ | refine RT.unA ?_)) | (apply v_any; (first | refine VT.seq rfl ?_ | refine VT.reg rfl ?_ | refine VT.condF rfl rfl ?_ | refine VT.skip rfl ?_ | refine VT.exit rfl ?_ | refine VT.condN rfl rfl (by first | assumption | omega) ?_)) | with_reducible (refine kLn ?_)))
            exact ⟨b.length - (k + 1), by omega, _, _, ⟨k + 1, bb, m, o, rfl, hlt, h0, hb, hb0, hm, by omega, hst.symm, rfl, rfl⟩, Wk.keep (by (repeat first | exact True.intro | refine And.intro ?_ ?_ | exact Or.inr (Or.inl rfl) | exact Or.inl rfl | (refine DLe.i rfl ?_; omega) | (refine DLe.i rfl ?_; simp; done)))⟩
          | false =>
            rw [← hv, if_neg (by simp)] at hst
            repeat (any_goals (first | (apply w_any; (first | refine RT.nil ?_ | refine RT.mvA ?_ | refine RT.asA ?_ | refine RT.ldA ?_ | refine RT.bnA ?_ | (apply w_cl; (first | refine RT.ap (s := H2.length + 1) (by simp) (f_appL (f := eLine) (o := o) (v := [y]) (mm := m + 1) (by' := 32) rfl rfl (hg_app _ hb) (List.take_of_length_le (by rw [List.length_map]; omega)) (by rw [List.length_map]; omega) (elems_take (k := 1) (l := [y]) (hg_at (t := 0) rfl rfl) (Nat.le_refl _)) hm (by rw [← hm]; rfl) rfl (by decide) rfl rfl (fun _ => ⟨rfl, rfl⟩) (by rw [← hm]; simp; omega) (by rw [← hm]; simp; omega)) (ap2 hbbl _ _) ?_ | refine RT.clA ?_)) | refine RT.v (f_ixQ rfl rfl rfl hy rfl rfl) ?_ | refine RT.unA ?_ | refine RT.new (s := H2.length) rfl (f_bslA1 (m := 4) rfl rfl rfl rfl rfl rfl) (H' := H2 ++ [.live 4 ([y].map eLine)]) rfl ?_)) | (apply v_any; (first | refine VT.seq rfl ?_ | refine VT.reg rfl ?_ | refine VT.condT rfl rfl ?_ | refine VT.exit rfl ?_ | refine VT.condN rfl rfl (by first | assumption | omega) ?_)) | with_reducible (refine kLn ?_)))
            exact ⟨b.length - (k + 1), by omega, _, _, ⟨k + 1, H2.length + 1, m + 1, o ++ [y], rfl, hlt, hg_app _ (hg_ne h0 (by omega)), hg_at (t := 1) (by simp) rfl, by omega, by simp [hm], by omega, hst.symm, rfl, rfl⟩, Wk.keep (by (repeat first | exact True.intro | refine And.intro ?_ ?_ | exact Or.inr (Or.inl rfl) | exact Or.inl rfl | (refine DLe.i rfl ?_; omega) | (refine DLe.i rfl ?_; simp; done)))⟩
      · obtain rfl : k = b.length := by omega
        rw [List.take_length] at ho
        have hzl : (dd (sortL (a ++ b))).length = m := by rw [hm, ho]; exact hmp.length_eq.symm
        by_cases h60 : 60 < (dd (sortL (a ++ b))).length
        · rw [if_pos h60]
          repeat (any_goals (first | (apply w_any; (first | refine RT.nil ?_ | refine RT.mvA ?_ | (apply w_bn; (first | refine RT.v (f_gtrT rfl rfl (by omega)) ?_ | refine RT.bnA ?_)) | refine RT.clA ?_ | refine RT.wr (f_stA rfl h0 rfl rfl rfl rfl rfl (by decide) rfl) rfl ?_ | refine RT.v (f_build (d := .agg [.nil, wI 2]) rfl) ?_)) | (apply v_any; (first | refine VT.seq rfl ?_ | refine VT.reg rfl ?_ | refine VT.condT rfl rfl ?_ | refine VT.exit rfl ?_ | refine VT.ret rfl ?_ | refine VT.condN rfl rfl (by first | assumption | omega) ?_)) | with_reducible (refine kSr ?_)))
          exact kEr (resA_cell1 (sz := 2) (e := [.nil, wI 2]) rfl (List.getElem?_set_self (hg_lt h0)) rfl rfl rfl) rfl
        · rw [if_neg h60]
          have hs := m_RSorted o (dd (sortL (a ++ b))) (by omega) fun z hz hp => merge_one ha hbk hk ho hz hp
          have hsn : ([.ms bb 0 m m] : List D).map (snap (fun b => H[b]?) 5) = [.sl (o.map eLine)] := by
            rw [List.map_cons, List.map_nil]; exact congrArg (fun x => [x]) (snapLn (k := 4) hb hm)
          generalize dd (sortL (a ++ b)) = z at hs hzl h60 ⊢
          repeat (any_goals (first | (apply w_any; (first | refine RT.nil ?_ | refine RT.mvA ?_ | (apply w_bn; (first | refine RT.v (f_gtrF rfl rfl (by omega)) ?_ | refine RT.bnA ?_)) | (apply w_cl; (first | (refine d_call ?_; refine RT.callM rfl hs hsn rfl ?_) | refine RT.clA ?_)) | refine RT.wr (f_stA rfl h0 rfl rfl rfl rfl rfl (Nat.le_refl _) rfl) rfl ?_ | refine RT.v (f_build (d := .agg [.fl (z.map eLine), wI 0]) rfl) ?_)) | (apply v_any; (first | refine VT.seq rfl ?_ | refine VT.reg rfl ?_ | refine VT.condF rfl rfl ?_ | refine VT.skip rfl ?_ | refine VT.exit rfl ?_ | refine VT.ret rfl ?_ | refine VT.condN rfl rfl (by first | assumption | omega) ?_))))
          exact kEr (resA_cell1 (sz := 2) (e := [.fl (z.map eLine), wI 0]) rfl (List.getElem?_set_self (hg_lt h0)) rfl rfl rfl) rfl
    · rw [if_neg hk]
      have hpos : 0 < (sortI (forkW a b)).length := by
        rw [List.length_mergeSort]
        exact List.length_pos_iff.2 hk
      repeat (any_goals (first | (apply w_any; (first | refine RT.nil ?_ | refine RT.mvA ?_ | refine RT.ldA ?_ | refine RT.faA ?_ | (apply w_bn; (first | refine RT.v (f_gtrT rfl rfl (by omega)) ?_ | refine RT.bnA ?_)) | (apply w_cl; (first | (refine d_call ?_; refine RT.v (f_lenF (f := eI) (l := sortI (forkW a b)) rfl rfl) ?_) | refine RT.callM rfl (hf) rfl rfl ?_)) | refine RT.stA ?_ | (apply w_al; (first | refine RT.new (s := 1) rfl (f_allocL (z := [.nil, wI 0]) (m := 2) rfl rfl) rfl ?_ | refine RT.nwA ?_)) | refine RT.msA ?_)) | (apply v_any; (first | refine VT.seq rfl ?_ | refine VT.reg rfl ?_ | refine VT.condT rfl rfl ?_ | refine VT.condF rfl rfl ?_ | refine VT.skip rfl ?_ | refine VT.ret rfl ?_)) | with_reducible (refine kSr ?_) | (with_reducible refine d_kEr ?_; refine kEr rfl ?_)))
      rfl
  · rw [if_neg h] at hf
    rw [if_neg h]
    repeat (any_goals (first | (apply w_any; (first | refine RT.nil ?_ | refine RT.mvA ?_ | refine RT.ldA ?_ | refine RT.faA ?_ | refine RT.bnA ?_ | refine RT.callM rfl (hf) rfl rfl ?_ | refine RT.stA ?_ | (apply w_al; (first | refine RT.new (s := 1) rfl (f_allocL (z := [.nil, wI 0]) (m := 2) rfl rfl) rfl ?_ | refine RT.nwA ?_)) | refine RT.msA ?_)) | (apply v_any; (first | refine VT.seq rfl ?_ | refine VT.reg rfl ?_ | refine VT.ret rfl ?_ | refine VT.condY rfl rfl (by first | assumption | omega) ?_)) | with_reducible (refine kSr ?_) | (with_reducible refine d_kEr ?_; refine kEr rfl ?_)))
    rfl
end Go.DL
