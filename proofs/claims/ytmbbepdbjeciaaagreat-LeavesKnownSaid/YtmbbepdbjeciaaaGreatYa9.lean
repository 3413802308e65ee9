/- Forks of the document. -/
import Derived.Test.YtmbbepdbjeciaaaGreatYa8
set_option maxRecDepth 100000
set_option maxHeartbeats 16000000
namespace Go.DL
open Go.Proofs Go
theorem forkQ_step {x y : Line} {b : List Line} {q : Nat} (hy : b[q]? = some y) : forkQ x (b.take (q + 1)) = forkQ x (b.take q) ++ (if x.ID = y.ID ∧ ¬ x = y then [x.ID] else []) := by
  unfold forkQ
  rw [List.take_add_one, hy, List.filter_append, List.map_append]
  congr 1
  by_cases h1 : x.ID = y.ID
  · by_cases h2 : x = y
    · subst h2; simp
    · simp [h1, h2]
  · simp [h1]
theorem forkR_step {x : Line} {a b : List Line} {k : Nat} (hx : a[k]? = some x) : forkR (a.take (k + 1)) b = forkR (a.take k) b ++ forkQ x b := by
  unfold forkR
  rw [List.take_add_one, hx, List.flatMap_append]
  simp
theorem forkR_len (b : List Line) : ∀ a : List Line, (forkR a b).length ≤ a.length * b.length
  | [] => by simp [forkR]
  | x :: a => by
    have := forkR_len b a
    have h2 : (forkQ x b).length ≤ b.length := by unfold forkQ; rw [List.length_map]; exact List.length_filter_le _ _
    rw [forkR, List.flatMap_cons, List.length_append, List.length_cons, Nat.succ_mul]
    unfold forkR at this
    omega
theorem m_RForks (a b : List Line) (hl : a.length ≤ 4611686018427387904) (hl' : b.length ≤ 4611686018427387904) : Maps Tryz.prog 52 [.sl (a.map eLine), .sl (b.map eLine)] (.agg [.fl ((ForksS a b).1.map eI), wI (ForksS a b).2]) := by
  refine Maps.vt pok Tryz.f52 (n := 94) (rs := [.cell 4 96]) rfl rfl rfl rfl rfl rfl fun g => ?_
  have hca := m_RCheckLines a hl
  have hcb := m_RCheckLines b hl'
  unfold ForksS lined
  by_cases h1 : CheckLinesS a = 0
  · rw [h1] at hca
    rw [if_pos h1]
    by_cases h2 : CheckLinesS b = 0
    · rw [h2] at hcb
      rw [if_pos h2]
      have ha := (checkLines_iff a).1 h1
      have hbk := (checkLines_iff b).1 h2
      have hal := ha.1
      have hbl := hbk.1
      repeat (any_goals (first | (apply w_any; (first | refine RT.nil ?_ | refine RT.mvA ?_ | refine RT.asA ?_ | refine RT.bnA ?_ | (apply w_cl; (first | refine RT.callM rfl (hca) rfl rfl ?_ | refine RT.callM rfl (hcb) rfl rfl ?_)) | refine RT.nwA ?_)) | (apply v_any; (first | refine VT.seq rfl ?_ | refine VT.reg rfl ?_ | refine VT.condT rfl rfl ?_ | refine VT.condF rfl rfl ?_ | refine VT.block rfl ?_ | refine VT.skip rfl ?_ | (refine VT.phantom (i := 6) (s := 1) 1 rfl rfl rfl ?_)))))
      refine VT.loop (fun j al H g' => ∃ (k bb m : Nat) (o : List Int), j = a.length - k ∧ k ≤ a.length ∧ H[0]? = some (.live 2 [[.nil, wI 0]]) ∧ H[bb]? = some (.live 1 (o.map eI)) ∧ 0 < bb ∧ m = o.length ∧ o.Pairwise (· ≤ ·) ∧ o.Perm (forkR (a.take k) b) ∧ al = [(0, .sl (a.map eLine)), (1, .sl (b.map eLine)), (4, .mp 0 0 0), (6, .ms bb 0 m m), (7, wI k)] ∧ g' = g) rfl
        ⟨_, _, _, ⟨0, 1, 0, [], rfl, Nat.zero_le _, rfl, rfl, by omega, rfl, List.Pairwise.nil, List.Perm.refl _, rfl, rfl⟩, Wk.keep (by (repeat first | exact True.intro | refine And.intro ?_ ?_ | exact Or.inr (Or.inl rfl) | exact Or.inl rfl | (refine DLe.i rfl ?_; omega) | (refine DLe.i rfl ?_; simp; done)))⟩ ?_
      rintro j al H g' ⟨k, bb, m, o, rfl, hk, h0, hb, hb0, hm, ho, hop, rfl, rfl⟩
      by_cases hlt : k < a.length
      · obtain ⟨x, hx⟩ : ∃ x, a[k]? = some x := ⟨_, List.getElem?_eq_getElem hlt⟩
        repeat (any_goals (first | (apply w_any; (first | refine RT.nil ?_ | refine RT.mvA ?_ | refine RT.asA ?_ | refine RT.bnA ?_ | refine RT.clA ?_)) | (apply v_any; (first | refine VT.seq rfl ?_ | refine VT.reg rfl ?_ | refine VT.block rfl ?_ | refine VT.skip rfl ?_ | refine VT.condY rfl rfl (by first | assumption | omega) ?_))))
        refine VT.loop (fun j al H1 g2 => ∃ (q bb m : Nat) (o : List Int), j = b.length - q ∧ q ≤ b.length ∧ H1[0]? = some (.live 2 [[.nil, wI 0]]) ∧ H1[bb]? = some (.live 1 (o.map eI)) ∧ 0 < bb ∧ m = o.length ∧ o.Pairwise (· ≤ ·) ∧ o.Perm (forkR (a.take k) b ++ forkQ x (b.take q)) ∧ al = [(0, .sl (a.map eLine)), (1, .sl (b.map eLine)), (4, .mp 0 0 0), (6, .ms bb 0 m m), (7, wI k), (8, wI q)] ∧ g2 = g') rfl
          ⟨_, _, _, ⟨0, bb, m, o, rfl, Nat.zero_le _, h0, hb, hb0, hm, ho, by rw [List.take_zero]; simpa [forkQ] using hop, rfl, rfl⟩, Wk.keep (by (repeat first | exact True.intro | refine And.intro ?_ ?_ | exact Or.inr (Or.inl rfl) | exact Or.inl rfl | (refine DLe.i rfl ?_; omega) | (refine DLe.i rfl ?_; simp; done)))⟩ ?_
        clear h0 hb hb0 hm ho hop
        rintro j al H1 g2 ⟨q, bb, m, o, rfl, hq, h0, hb, hb0, hm, ho, hop, rfl, rfl⟩
        have h0l := hg_lt h0
        have hbbl := hg_lt hb
        have hom : o.length ≤ 3600 + 60 := by
          rw [hop.length_eq, List.length_append]
          have e1 := forkR_len b (a.take k)
          have e2 : (forkQ x (b.take q)).length ≤ 60 := by
            unfold forkQ; rw [List.length_map]; exact Nat.le_trans (List.length_filter_le _ _) (by rw [List.length_take]; omega)
          have e3 : (a.take k).length * b.length ≤ 60 * 60 := Nat.mul_le_mul (by rw [List.length_take]; omega) hbl
          omega
        by_cases hlt2 : q < b.length
        · obtain ⟨y, hy⟩ : ∃ y, b[q]? = some y := ⟨_, List.getElem?_eq_getElem hlt2⟩
          have hst := forkQ_step (x := x) hy
          have hag := agg_line x y
          by_cases hid : x.ID = y.ID
          · by_cases hxy : x = y
            · rw [if_neg (fun h => h.2 hxy), List.append_nil] at hst
              rw [decide_eq_true hxy] at hag
              repeat (any_goals (first | (apply w_any; (first | refine RT.nil ?_ | refine RT.mvA ?_ | refine RT.asA ?_ | refine RT.bnA ?_ | refine RT.clA ?_)) | (apply v_any; (first | refine VT.seq rfl ?_ | refine VT.reg rfl ?_ | refine VT.condT rfl rfl ?_ | refine VT.block rfl ?_ | refine VT.skip rfl ?_ | refine VT.exit rfl ?_ | refine VT.draw [(0, []), (0, []), (0, []), (0, []), (0, []), (0, []), (0, []), (0, []), (0, []), (0, []), (0, []), (0, []), (0, []), (0, []), (0, []), (0, []), (0, []), (0, []), (0, []), (0, []), (0, []), (0, [])] 1 mixedOk rfl (by decide +kernel) (by decide +kernel) (by decide +kernel) (by first | (simp only [nrm]; rfl) | (simp only [nrm, Nat.reduceAdd, Nat.zero_add]; rfl) | rfl) (by first | (simp only [nrm]; rfl) | (simp only [nrm, Nat.reduceAdd, Nat.zero_add]; rfl) | rfl) ?_ | refine VT.condY rfl rfl (by first | assumption | omega) ?_)) | (apply q_any; (first | refine PT.done ((dropLn H1 [] .free).trans (List.append_nil _)) ?_ | refine PT.gy rfl ?_ | refine PT.mvI ((mask_app (H0 := H1) (T := [_]) rfl)) ?_ | refine PT.ldI ((mask_app (H0 := H1) (T := [_]) rfl)) ?_ | refine PT.faI ((mask_app (H0 := H1) (T := [_]) rfl)) ?_ | refine PT.vI ((mask_app (H0 := H1) (T := [_]) rfl)) (f_neqF rfl rfl hid) ?_ | refine PT.pkI ((mask_app (H0 := H1) (T := [_]) rfl)) ?_ | (apply q_ix; (first | refine PT.vI ((mask_app (H0 := H1) (T := [_]) rfl)) (f_ixQ rfl rfl rfl hx rfl rfl) ?_ | refine PT.vI ((mask_app (H0 := H1) (T := [_]) rfl)) (f_ixQ rfl rfl rfl hy rfl rfl) ?_)) | refine PT.vI ((mask_app (H0 := H1) (T := [_]) rfl)) (f_eqlAgg rfl rfl hag) ?_)) | with_reducible (refine kLn ?_)))
              exact ⟨b.length - (q + 1), by omega, _, _, ⟨q + 1, bb, m, o, rfl, hlt2, h0, hb, hb0, hm, ho, by rw [hst]; exact hop, rfl, rfl⟩, Wk.keep (by (repeat first | exact True.intro | refine And.intro ?_ ?_ | exact Or.inr (Or.inl rfl) | exact Or.inl rfl | (refine DLe.i rfl ?_; omega) | (refine DLe.i rfl ?_; simp; done)))⟩
            · rw [if_pos ⟨hid, hxy⟩] at hst
              rw [decide_eq_false hxy] at hag
              repeat (any_goals (first | (apply w_any; (first | refine RT.nil ?_ | refine RT.mvA ?_ | refine RT.asA ?_ | refine RT.bnA ?_ | refine RT.clA ?_)) | (apply v_any; (first | refine VT.seq rfl ?_ | refine VT.reg rfl ?_ | refine VT.condF rfl rfl ?_ | refine VT.block rfl ?_ | refine VT.skip rfl ?_ | refine VT.draw [(0, []), (0, []), (0, []), (0, []), (0, []), (0, []), (0, []), (0, []), (0, []), (0, []), (0, []), (0, []), (0, []), (0, []), (0, []), (0, []), (0, []), (0, []), (0, []), (0, []), (0, []), (0, [])] 1 mixedOk rfl (by decide +kernel) (by decide +kernel) (by decide +kernel) (by first | (simp only [nrm]; rfl) | (simp only [nrm, Nat.reduceAdd, Nat.zero_add]; rfl) | rfl) (by first | (simp only [nrm]; rfl) | (simp only [nrm, Nat.reduceAdd, Nat.zero_add]; rfl) | rfl) ?_ | refine VT.condY rfl rfl (by first | assumption | omega) ?_)) | (apply q_any; (first | refine PT.done ((dropLn H1 [] .free).trans (List.append_nil _)) ?_ | refine PT.gy rfl ?_ | refine PT.mvI ((mask_app (H0 := H1) (T := [_]) rfl)) ?_ | refine PT.ldI ((mask_app (H0 := H1) (T := [_]) rfl)) ?_ | refine PT.faI ((mask_app (H0 := H1) (T := [_]) rfl)) ?_ | refine PT.vI ((mask_app (H0 := H1) (T := [_]) rfl)) (f_neqF rfl rfl hid) ?_ | refine PT.pkI ((mask_app (H0 := H1) (T := [_]) rfl)) ?_ | (apply q_ix; (first | refine PT.vI ((mask_app (H0 := H1) (T := [_]) rfl)) (f_ixQ rfl rfl rfl hx rfl rfl) ?_ | refine PT.vI ((mask_app (H0 := H1) (T := [_]) rfl)) (f_ixQ rfl rfl rfl hy rfl rfl) ?_)) | refine PT.vI ((mask_app (H0 := H1) (T := [_]) rfl)) (f_eqlAgg rfl rfl hag) ?_))))
              refine VT.loop (fun j al H2 g3 => ∃ i : Nat, j = i ∧ i ≤ m ∧ (∀ u, u ∈ o.drop i → x.ID ≤ u) ∧ al = [(0, .sl (a.map eLine)), (1, .sl (b.map eLine)), (4, .mp 0 0 0), (6, .ms bb 0 m m), (7, wI k), (8, wI q), (9, wI i)] ∧ H2 = H1 ∧ g3 = g2) rfl
                ⟨_, _, _, ⟨m, rfl, Nat.le_refl _, fun u h => (by rw [List.drop_of_length_le (by omega)] at h; cases h), rfl, rfl, rfl⟩, Wk.keep (by (repeat first | exact True.intro | refine And.intro ?_ ?_ | exact Or.inr (Or.inl rfl) | exact Or.inl rfl | (refine DLe.i rfl ?_; omega) | (refine DLe.i rfl ?_; simp; done)))⟩ ?_
              rintro i al H2 g3 ⟨_, rfl, hi, hd, rfl, rfl, rfl⟩
              by_cases hfin : (∃ u, o[i - 1]? = some u ∧ 0 < i ∧ ¬ u ≤ x.ID)
              · obtain ⟨u, hu, hi0, hn⟩ := hfin
                obtain ⟨i', rfl⟩ : ∃ i', i = i' + 1 := ⟨i - 1, by omega⟩
                rw [Nat.add_sub_cancel] at hu
                have hstep : ∀ w, w ∈ o.drop i' → x.ID ≤ w := fun w hw => by
                  obtain ⟨hu1, hu2⟩ := List.getElem?_eq_some_iff.1 hu
                  rw [List.drop_eq_getElem_cons hu1, hu2] at hw
                  rcases List.mem_cons.1 hw with rfl | hw
                  · omega
                  · exact hd w hw
                repeat (any_goals (first | (apply w_any; (first | refine RT.nil ?_ | refine RT.mvA ?_ | refine RT.asA ?_ | refine RT.bnA ?_)) | (apply v_any; (first | refine VT.seq rfl ?_ | refine VT.reg rfl ?_ | refine VT.condT rfl rfl ?_ | refine VT.block rfl ?_ | refine VT.skip rfl ?_ | refine VT.draw [(0, []), (0, []), (0, []), (0, []), (0, []), (0, []), (0, []), (0, []), (0, []), (0, []), (0, []), (0, []), (0, []), (0, []), (0, [])] 1 mixedOk rfl (by decide +kernel) (by decide +kernel) (by decide +kernel) (by first | (simp only [nrm]; rfl) | (simp only [nrm, Nat.reduceAdd, Nat.zero_add]; rfl) | rfl) (by first | (simp only [nrm]; rfl) | (simp only [nrm, Nat.reduceAdd, Nat.zero_add]; rfl) | rfl) ?_)) | (apply q_any; (first | refine PT.done ((dropLn H2 [] .free).trans (List.append_nil _)) ?_ | refine PT.gy rfl ?_ | refine PT.mvI ((mask_app (H0 := H2) (T := [_]) rfl)) ?_ | (apply q_ld; (first | refine PT.vI ((mask_app (H0 := H2) (T := [_]) rfl)) (f_ldO rfl (hg_app _ hb) (map_get hu) rfl rfl) ?_ | refine PT.ldI ((mask_app (H0 := H2) (T := [_]) rfl)) ?_)) | refine PT.faI ((mask_app (H0 := H2) (T := [_]) rfl)) ?_ | (apply q_bn; (first | refine PT.vI ((mask_app (H0 := H2) (T := [_]) rfl)) (f_gtrT rfl rfl (by omega)) ?_ | refine PT.bnI ((mask_app (H0 := H2) (T := [_]) rfl)) ?_)) | refine PT.pkI ((mask_app (H0 := H2) (T := [_]) rfl)) ?_ | (apply q_ix; (first | refine PT.vI ((mask_app (H0 := H2) (T := [_]) rfl)) (f_ixQ rfl rfl rfl hx rfl rfl) ?_ | refine PT.vI ((mask_app (H0 := H2) (T := [_]) rfl)) (f_ixO0 (k := i') rfl rfl (by omega) (hg_app _ hb) rfl (by omega)) ?_)))) | (with_reducible first | refine kBn ?_ | refine kLn ?_)))
                exact ⟨i', by omega, _, _, ⟨i', rfl, by omega, hstep, rfl, rfl, rfl⟩, Wk.keep (by (repeat first | exact True.intro | refine And.intro ?_ ?_ | exact Or.inr (Or.inl rfl) | exact Or.inl rfl | (refine DLe.i rfl ?_; omega) | (refine DLe.i rfl ?_; simp; done)))⟩
              · have hlow : ∀ w, w ∈ o.take i → w ≤ x.ID := fun w hw => by
                  by_cases hi0 : i = 0
                  · subst hi0; rw [List.take_zero] at hw; cases hw
                  · have hiu : o[i - 1]? = some (o[i - 1]'(by omega)) := List.getElem?_eq_getElem (by omega)
                    have hle : (o[i - 1]'(by omega)) ≤ x.ID := Classical.not_not.1 fun h => hfin ⟨_, hiu, by omega, h⟩
                    have e : o.take i = o.take (i - 1) ++ [o[i - 1]'(by omega)] := by
                      have := List.take_succ_eq_append_getElem (l := o) (i := i - 1) (by omega)
                      rwa [show i - 1 + 1 = i by omega] at this
                    have h2 : (o.take i).Pairwise (· ≤ ·) := List.Pairwise.sublist (List.take_sublist _ _) ho
                    rw [e] at hw h2
                    rcases List.mem_append.1 hw with h | h
                    · have := (List.pairwise_append.1 h2).2.2 w h _ (List.mem_singleton.2 rfl); omega
                    · rw [List.mem_singleton.1 h]; exact hle
                have hnew := insI ho hlow hd
                have hnl : (o.take i ++ x.ID :: o.drop i).length = m + 1 := by simp; omega
                have hnp : (o.take i ++ x.ID :: o.drop i).Perm (forkR (a.take k) b ++ forkQ x (b.take (q + 1))) := by
                  refine List.perm_middle.trans ?_
                  rw [List.take_append_drop, hst, ← List.append_assoc]
                  exact (hop.cons x.ID).trans (List.perm_append_comm (l₁ := [x.ID]))
                have e3 : (o.take i ++ [x.ID]) ++ o.drop i = o.take i ++ x.ID :: o.drop i := by simp
                have hti : (o.take i).length = i := by rw [List.length_take]; omega
                have hdi : (o.drop i).length = m - i := by rw [List.length_drop]; omega
                by_cases hi0 : i = 0
                · repeat (any_goals (first | (apply w_any; (first | refine RT.nil ?_ | refine RT.mvA ?_ | refine RT.asA ?_ | refine RT.ldA ?_ | refine RT.faA ?_ | refine RT.bnA ?_ | (apply w_cl; (first | refine RT.ap (s := H2.length + 1) (by simp) (f_appL (f := eI) (o := []) (v := o.take i) (mm := i) (by' := 8) rfl rfl (hg_at (t := 0) rfl rfl) rfl (Nat.zero_le _) (elems_take (hg_app _ hb) (by omega)) rfl (by rw [hti]; exact Nat.zero_add _) rfl (by decide) rfl rfl (fun _ => ⟨rfl, rfl⟩) (by rw [hti]; simp; omega) (by rw [hti]; simp; omega)) (H' := H2 ++ [.dead, .live 1 ((o.take i).map eI)]) (by simp [killO]) ?_ | refine RT.ap (s := H2.length + 3) (by simp) (f_appL (f := eI) (o := o.take i) (v := [x.ID]) (mm := i + 1) (by' := 8) rfl rfl (hg_at (t := 1) rfl rfl) (List.take_of_length_le (by rw [List.length_map, hti]; exact Nat.le_refl _)) (by rw [List.length_map, hti]; exact Nat.le_refl _) (elems_take (k := 1) (l := [x.ID]) (hg_at (t := 2) rfl rfl) (Nat.le_refl _)) hti.symm (by rw [hti]; rfl) rfl (by decide) rfl rfl (fun _ => ⟨rfl, rfl⟩) (by rw [hti]; simp; omega) (by rw [hti]; simp; omega)) (H' := H2 ++ [.dead, .dead, .live 1 ([x.ID].map eI), .live 1 ((o.take i ++ [x.ID]).map eI)]) (by simp [killO]) ?_ | refine RT.ap (s := H2.length + 4) (by simp) (f_appL (f := eI) (o := o.take i ++ [x.ID]) (v := o.drop i) (mm := m + 1) (by' := 8) rfl rfl (hg_at (t := 3) rfl rfl) (List.take_of_length_le (by rw [List.length_map, List.length_append, hti]; exact Nat.le_refl _)) (by rw [List.length_map, List.length_append, hti]; exact Nat.le_refl _) (elems_drop (hg_app _ hb) (by omega)) (by rw [List.length_append, hti]; rfl) (by rw [List.length_append, hti, hdi]; simp; omega) rfl (by decide) rfl rfl (fun _ => ⟨rfl, rfl⟩) (by rw [List.length_append, hti, hdi]; simp; omega) (by rw [List.length_append, hti, hdi]; simp; omega)) (H' := H2 ++ [.dead, .dead, .live 1 ([x.ID].map eI), .dead, .live 1 (((o.take i ++ [x.ID]) ++ o.drop i).map eI)]) (by simp [killO]) ?_)) | refine RT.v (f_ixQ rfl rfl rfl hx rfl rfl) ?_ | (apply w_bs; (first | refine RT.new (s := H2.length) rfl (f_bsl0 (te := 3) (z := [wI 0]) (m := 1) rfl rfl rfl) (H' := H2 ++ [.live 1 []]) rfl ?_ | refine RT.new (s := H2.length + 2) (by simp) (f_bslW1 rfl rfl rfl) (H' := H2 ++ [.dead, .live 1 ((o.take i).map eI), .live 1 ([x.ID].map eI)]) (by simp) ?_)) | (apply w_sl; (first | refine RT.v (f_slLo0 (k := i) rfl rfl rfl (by omega) (Nat.le_refl _) rfl (hg_app _ hb)) ?_ | refine RT.v (f_slHiO (hi := i) rfl rfl rfl (by omega) rfl (hg_app _ hb)) ?_)))) | (apply v_any; (first | refine VT.seq rfl ?_ | refine VT.reg rfl ?_ | refine VT.condF rfl rfl ?_ | refine VT.exit rfl ?_ | refine VT.draw [(0, []), (0, []), (0, []), (0, []), (0, []), (0, []), (0, []), (0, []), (0, []), (0, []), (0, []), (0, []), (0, []), (0, []), (0, [])] 1 mixedOk rfl (by decide +kernel) (by decide +kernel) (by decide +kernel) (by first | (simp only [nrm]; rfl) | (simp only [nrm, Nat.reduceAdd, Nat.zero_add]; rfl) | rfl) (by first | (simp only [nrm]; rfl) | (simp only [nrm, Nat.reduceAdd, Nat.zero_add]; rfl) | rfl) ?_)) | (apply q_any; (first | refine PT.done ((dropLn H2 [] .free).trans (List.append_nil _)) ?_ | refine PT.gn rfl rfl ?_ | refine PT.mvI ((mask_app (H0 := H2) (T := [_]) rfl)) ?_ | refine PT.vI ((mask_app (H0 := H2) (T := [_]) rfl)) (f_gtrF rfl rfl (by omega)) ?_ | refine PT.pkI ((mask_app (H0 := H2) (T := [_]) rfl)) ?_)) | with_reducible (refine kLn ?_)))
                  exact ⟨b.length - (q + 1), by omega, _, _, ⟨q + 1, H2.length + 4, m + 1, o.take i ++ x.ID :: o.drop i, rfl, hlt2, hg_app _ h0, by rw [← e3]; exact hg_at (t := 4) rfl rfl, by omega, hnl.symm, hnew, hnp, rfl, rfl⟩, Wk.keep (by (repeat first | exact True.intro | refine And.intro ?_ ?_ | exact Or.inr (Or.inl rfl) | exact Or.inl rfl | (refine DLe.i rfl ?_; omega) | (refine DLe.i rfl ?_; simp; done)))⟩
                · obtain ⟨i', hi'⟩ : ∃ i', i = i' + 1 := ⟨i - 1, by omega⟩
                  obtain ⟨u, hu⟩ : ∃ u, o[i']? = some u := ⟨_, List.getElem?_eq_getElem (by omega)⟩
                  have hle : u ≤ x.ID := hlow _ (by
                    obtain ⟨hu1, rfl⟩ := List.getElem?_eq_some_iff.1 hu
                    exact List.mem_take_iff_getElem.2 ⟨i', by omega, rfl⟩)
                  repeat (any_goals (first | (apply w_any; (first | refine RT.nil ?_ | refine RT.mvA ?_ | refine RT.asA ?_ | refine RT.ldA ?_ | refine RT.faA ?_ | refine RT.bnA ?_ | (apply w_cl; (first | refine RT.ap (s := H2.length + 1) (by simp) (f_appL (f := eI) (o := []) (v := o.take i) (mm := i) (by' := 8) rfl rfl (hg_at (t := 0) rfl rfl) rfl (Nat.zero_le _) (elems_take (hg_app _ hb) (by omega)) rfl (by rw [hti]; exact Nat.zero_add _) rfl (by decide) rfl rfl (fun _ => ⟨rfl, rfl⟩) (by rw [hti]; simp; omega) (by rw [hti]; simp; omega)) (H' := H2 ++ [.dead, .live 1 ((o.take i).map eI)]) (by simp [killO]) ?_ | refine RT.ap (s := H2.length + 3) (by simp) (f_appL (f := eI) (o := o.take i) (v := [x.ID]) (mm := i + 1) (by' := 8) rfl rfl (hg_at (t := 1) rfl rfl) (List.take_of_length_le (by rw [List.length_map, hti]; exact Nat.le_refl _)) (by rw [List.length_map, hti]; exact Nat.le_refl _) (elems_take (k := 1) (l := [x.ID]) (hg_at (t := 2) rfl rfl) (Nat.le_refl _)) hti.symm (by rw [hti]; rfl) rfl (by decide) rfl rfl (fun _ => ⟨rfl, rfl⟩) (by rw [hti]; simp; omega) (by rw [hti]; simp; omega)) (H' := H2 ++ [.dead, .dead, .live 1 ([x.ID].map eI), .live 1 ((o.take i ++ [x.ID]).map eI)]) (by simp [killO]) ?_ | refine RT.ap (s := H2.length + 4) (by simp) (f_appL (f := eI) (o := o.take i ++ [x.ID]) (v := o.drop i) (mm := m + 1) (by' := 8) rfl rfl (hg_at (t := 3) rfl rfl) (List.take_of_length_le (by rw [List.length_map, List.length_append, hti]; exact Nat.le_refl _)) (by rw [List.length_map, List.length_append, hti]; exact Nat.le_refl _) (elems_drop (hg_app _ hb) (by omega)) (by rw [List.length_append, hti]; rfl) (by rw [List.length_append, hti, hdi]; simp; omega) rfl (by decide) rfl rfl (fun _ => ⟨rfl, rfl⟩) (by rw [List.length_append, hti, hdi]; simp; omega) (by rw [List.length_append, hti, hdi]; simp; omega)) (H' := H2 ++ [.dead, .dead, .live 1 ([x.ID].map eI), .dead, .live 1 (((o.take i ++ [x.ID]) ++ o.drop i).map eI)]) (by simp [killO]) ?_)) | refine RT.v (f_ixQ rfl rfl rfl hx rfl rfl) ?_ | (apply w_bs; (first | refine RT.new (s := H2.length) rfl (f_bsl0 (te := 3) (z := [wI 0]) (m := 1) rfl rfl rfl) (H' := H2 ++ [.live 1 []]) rfl ?_ | refine RT.new (s := H2.length + 2) (by simp) (f_bslW1 rfl rfl rfl) (H' := H2 ++ [.dead, .live 1 ((o.take i).map eI), .live 1 ([x.ID].map eI)]) (by simp) ?_)) | (apply w_sl; (first | refine RT.v (f_slLo0 (k := i) rfl rfl rfl (by omega) (Nat.le_refl _) rfl (hg_app _ hb)) ?_ | refine RT.v (f_slHiO (hi := i) rfl rfl rfl (by omega) rfl (hg_app _ hb)) ?_)))) | (apply v_any; (first | refine VT.seq rfl ?_ | refine VT.reg rfl ?_ | refine VT.condF rfl rfl ?_ | refine VT.exit rfl ?_ | refine VT.draw [(0, []), (0, []), (0, []), (0, []), (0, []), (0, []), (0, []), (0, []), (0, []), (0, []), (0, []), (0, []), (0, []), (0, []), (0, [])] 1 mixedOk rfl (by decide +kernel) (by decide +kernel) (by decide +kernel) (by first | (simp only [nrm]; rfl) | (simp only [nrm, Nat.reduceAdd, Nat.zero_add]; rfl) | rfl) (by first | (simp only [nrm]; rfl) | (simp only [nrm, Nat.reduceAdd, Nat.zero_add]; rfl) | rfl) ?_)) | (apply q_any; (first | refine PT.done ((dropLn H2 [] .free).trans (List.append_nil _)) ?_ | refine PT.gy rfl ?_ | refine PT.mvI ((mask_app (H0 := H2) (T := [_]) rfl)) ?_ | (apply q_ld; (first | refine PT.vI ((mask_app (H0 := H2) (T := [_]) rfl)) (f_ldO rfl (hg_app _ hb) (map_get hu) rfl rfl) ?_ | refine PT.ldI ((mask_app (H0 := H2) (T := [_]) rfl)) ?_)) | refine PT.faI ((mask_app (H0 := H2) (T := [_]) rfl)) ?_ | (apply q_bn; (first | refine PT.vI ((mask_app (H0 := H2) (T := [_]) rfl)) (f_gtrT rfl rfl (by omega)) ?_ | refine PT.vI ((mask_app (H0 := H2) (T := [_]) rfl)) (f_gtrF rfl rfl (by omega)) ?_ | refine PT.bnI ((mask_app (H0 := H2) (T := [_]) rfl)) ?_)) | refine PT.pkI ((mask_app (H0 := H2) (T := [_]) rfl)) ?_ | (apply q_ix; (first | refine PT.vI ((mask_app (H0 := H2) (T := [_]) rfl)) (f_ixQ rfl rfl rfl hx rfl rfl) ?_ | refine PT.vI ((mask_app (H0 := H2) (T := [_]) rfl)) (f_ixO0 (k := i') rfl rfl (by omega) (hg_app _ hb) rfl (by omega)) ?_)))) | with_reducible (refine kLn ?_)))
                  exact ⟨b.length - (q + 1), by omega, _, _, ⟨q + 1, H2.length + 4, m + 1, o.take i ++ x.ID :: o.drop i, rfl, hlt2, hg_app _ h0, by rw [← e3]; exact hg_at (t := 4) rfl rfl, by omega, hnl.symm, hnew, hnp, rfl, rfl⟩, Wk.keep (by (repeat first | exact True.intro | refine And.intro ?_ ?_ | exact Or.inr (Or.inl rfl) | exact Or.inl rfl | (refine DLe.i rfl ?_; omega) | (refine DLe.i rfl ?_; simp; done)))⟩
          · rw [if_neg (fun h => hid h.1), List.append_nil] at hst
            repeat (any_goals (first | (apply w_any; (first | refine RT.nil ?_ | refine RT.mvA ?_ | refine RT.asA ?_ | refine RT.bnA ?_ | refine RT.clA ?_)) | (apply v_any; (first | refine VT.seq rfl ?_ | refine VT.reg rfl ?_ | refine VT.condT rfl rfl ?_ | refine VT.block rfl ?_ | refine VT.skip rfl ?_ | refine VT.exit rfl ?_ | refine VT.draw [(0, []), (0, []), (0, []), (0, []), (0, []), (0, []), (0, []), (0, []), (0, []), (0, []), (0, []), (0, []), (0, []), (0, []), (0, []), (0, []), (0, []), (0, []), (0, []), (0, []), (0, []), (0, [])] 1 mixedOk rfl (by decide +kernel) (by decide +kernel) (by decide +kernel) (by first | (simp only [nrm]; rfl) | (simp only [nrm, Nat.reduceAdd, Nat.zero_add]; rfl) | rfl) (by first | (simp only [nrm]; rfl) | (simp only [nrm, Nat.reduceAdd, Nat.zero_add]; rfl) | rfl) ?_ | refine VT.condY rfl rfl (by first | assumption | omega) ?_)) | (apply q_any; (first | refine PT.done ((dropLn H1 [] .free).trans (List.append_nil _)) ?_ | refine PT.gn rfl rfl ?_ | refine PT.mvI ((mask_app (H0 := H1) (T := [_]) rfl)) ?_ | refine PT.ldI ((mask_app (H0 := H1) (T := [_]) rfl)) ?_ | refine PT.faI ((mask_app (H0 := H1) (T := [_]) rfl)) ?_ | refine PT.vI ((mask_app (H0 := H1) (T := [_]) rfl)) (f_neqT rfl rfl hid) ?_ | refine PT.pkI ((mask_app (H0 := H1) (T := [_]) rfl)) ?_ | (apply q_ix; (first | refine PT.vI ((mask_app (H0 := H1) (T := [_]) rfl)) (f_ixQ rfl rfl rfl hx rfl rfl) ?_ | refine PT.vI ((mask_app (H0 := H1) (T := [_]) rfl)) (f_ixQ rfl rfl rfl hy rfl rfl) ?_)))) | with_reducible (refine kLn ?_)))
            exact ⟨b.length - (q + 1), by omega, _, _, ⟨q + 1, bb, m, o, rfl, hlt2, h0, hb, hb0, hm, ho, by rw [hst]; exact hop, rfl, rfl⟩, Wk.keep (by (repeat first | exact True.intro | refine And.intro ?_ ?_ | exact Or.inr (Or.inl rfl) | exact Or.inl rfl | (refine DLe.i rfl ?_; omega) | (refine DLe.i rfl ?_; simp; done)))⟩
        · obtain rfl : q = b.length := by omega
          rw [List.take_length, ← forkR_step hx] at hop
          repeat (any_goals (first | (apply w_any; (first | refine RT.nil ?_ | refine RT.mvA ?_ | refine RT.asA ?_ | refine RT.bnA ?_ | refine RT.clA ?_)) | (apply v_any; (first | refine VT.seq rfl ?_ | refine VT.reg rfl ?_ | refine VT.exit rfl ?_ | refine VT.condN rfl rfl (by first | assumption | omega) ?_)) | with_reducible (refine kLn ?_)))
          exact ⟨a.length - (k + 1), by omega, _, _, ⟨k + 1, bb, m, o, rfl, hlt, h0, hb, hb0, hm, ho, hop, rfl, rfl⟩, Wk.keep (by (repeat first | exact True.intro | refine And.intro ?_ ?_ | exact Or.inr (Or.inl rfl) | exact Or.inl rfl | (refine DLe.i rfl ?_; omega) | (refine DLe.i rfl ?_; simp; done)))⟩
      · obtain rfl : k = a.length := by omega
        rw [List.take_length] at hop
        have hfin := sortI_one ho (hop.trans (fork_perm ha hbk))
        repeat (any_goals (first | (apply w_any; (first | refine RT.nil ?_ | refine RT.mvA ?_ | refine RT.bnA ?_ | refine RT.clA ?_ | refine RT.wr (f_stA rfl h0 rfl rfl rfl rfl rfl (by decide) rfl) rfl ?_ | refine RT.v (f_build (d := .agg [.ms bb 0 m m, wI 0]) rfl) ?_)) | (apply v_any; (first | refine VT.seq rfl ?_ | refine VT.reg rfl ?_ | refine VT.exit rfl ?_ | refine VT.ret rfl ?_ | refine VT.condN rfl rfl (by first | assumption | omega) ?_))))
        refine kEr (resA_cell1 (sz := 2) (e := [.ms bb 0 m m, wI 0]) rfl (List.getElem?_set_self (hg_lt h0)) rfl rfl rfl) ?_
        exact congrArg (fun x => DL.D.agg [x, wI 0]) ((snapRW (k := 3) (hg_ne hb (by omega)) hm).trans (by rw [hfin]))
    · rw [if_neg h2]
      repeat (any_goals (first | (apply w_any; (first | refine RT.nil ?_ | refine RT.mvA ?_ | refine RT.asA ?_ | refine RT.bnA ?_ | (apply w_cl; (first | refine RT.callM rfl (hca) rfl rfl ?_ | refine RT.callM rfl (hcb) rfl rfl ?_)) | refine RT.stA ?_ | refine RT.nwA ?_ | refine RT.msA ?_)) | (apply v_any; (first | refine VT.seq rfl ?_ | refine VT.reg rfl ?_ | refine VT.condT rfl rfl ?_ | refine VT.ret rfl ?_ | refine VT.condY rfl rfl (by first | assumption | omega) ?_)) | with_reducible (refine kSr ?_) | (with_reducible refine d_kEr ?_; refine kEr rfl ?_)))
      rfl
  · rw [if_neg h1, if_neg h1]
    repeat (any_goals (first | (apply w_any; (first | refine RT.nil ?_ | refine RT.mvA ?_ | refine RT.asA ?_ | refine RT.bnA ?_ | refine RT.callM rfl (hca) rfl rfl ?_ | refine RT.stA ?_ | refine RT.nwA ?_ | refine RT.msA ?_)) | (apply v_any; (first | refine VT.seq rfl ?_ | refine VT.reg rfl ?_ | refine VT.skip rfl ?_ | refine VT.ret rfl ?_ | refine VT.condY rfl rfl (by first | assumption | omega) ?_ | refine VT.condN rfl rfl (by first | assumption | omega) ?_)) | with_reducible (refine kSr ?_) | (with_reducible refine d_kEr ?_; refine kEr rfl ?_)))
    rfl
end Go.DL
