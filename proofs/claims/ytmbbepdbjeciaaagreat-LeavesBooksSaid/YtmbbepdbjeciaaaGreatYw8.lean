/- Read of the program. -/
import Derived.Test.YtmbbepdbjeciaaaGreatYw7
set_option maxRecDepth 100000
set_option maxHeartbeats 16000000
namespace Go.DL
open Go.Proofs Go
theorem m_Read (s : Shape) (d : List (List Int)) (hl : d.length ≤ 4611686018427387904) (hd : ∀ x, x ∈ d → x.length ≤ 4611686018427387904) : Maps Tryz.prog 36 [dSh s, .sl (d.map eRow)] (.tup [.fl ((ReadS s d).1.map eLine), wI (ReadS s d).2]) := by
  refine Maps.vt pok Tryz.f36 (n := 71) (rs := [.tmp 4, .tmp 5]) rfl rfl rfl rfl rfl rfl fun g => ?_
  have hk := m_Check s
  have ha := m_dataOf s d hl hd
  unfold ReadS
  rcases CheckS_cases s with ⟨e, h⟩ | ⟨e, h⟩
  · rw [e] at hk ⊢
    rw [if_pos rfl]
    cases qd : DataS s d with
    | true =>
      rw [qd] at ha
      rw [if_pos rfl]
      have hdw := dataW_of h qd
      have hdl : (d.length : Int) = s.Data := by
        unfold DataS at qd
        rw [Bool.and_eq_true, decide_eq_true_eq] at qd
        exact qd.1
      have hD1 : 1 ≤ d.length := by have := h.1.1; omega
      obtain ⟨W, hW⟩ : ∃ W : Nat, s.Width.toNat = W := ⟨_, rfl⟩
      rw [hW] at hdw
      have hW1 : 1 ≤ W := by have := h.2.2.1; omega
      have hW2 : W ≤ 32 := by have := h.2.2.2; omega
      have hlen : d.flatten.length = d.length * W := by
        rw [List.length_flatten, show d.map List.length = List.replicate d.length W from by
          refine List.eq_replicate_iff.2 ⟨by simp, fun x hx => ?_⟩
          obtain ⟨r, hr, rfl⟩ := List.mem_map.1 hx
          exact (hdw.2 r hr).1]
        simp
      have hkw : d.length * W ≤ 640 := Nat.mul_le_mul hdw.1 hW2
      have hk1 : 1 ≤ d.length * W := Nat.mul_le_mul hD1 hW1
      have hcc := c_concat (H := [.live 3 [eShape s]]) d W hdw.1 (fun r hr => (hdw.2 r hr).1) hD1 hW1 hW2
      have hwW : ∀ j, 0 ≤ d.flatten.getD j 0 ∧ d.flatten.getD j 0 ≤ 65520 := fun j => by
        rw [List.getD_eq_getElem?_getD]
        cases hj : d.flatten[j]? with
        | none => exact ⟨Int.le_refl _, by decide⟩
        | some x =>
          obtain ⟨r, hr, hx⟩ := List.mem_flatten.1 (List.mem_of_getElem? hj)
          exact (hdw.2 r hr).2 x hx
      generalize hw : d.flatten = w at hcc hlen hwW ⊢
      obtain ⟨n, hn⟩ : ∃ n : Nat, w.getD 0 0 = n := Int.eq_ofNat_of_zero_le (hwW 0).1
      rw [hn, Int.toNat_natCast]
      have hn2 := (hwW 0).2
      rw [hn] at hn2
      have hw0 : w[0]? = some (n : Int) := by
        rw [List.getElem?_eq_getElem (by omega)]
        rw [← hn, List.getD_eq_getElem?_getD, List.getElem?_eq_getElem (by omega)]; rfl
      by_cases h60 : 60 < (n : Int)
      · rw [if_pos (.inl h60)]
        repeat (any_goals (first | (apply w_any; (first | refine RT.nil ?_ | refine RT.gn rfl rfl ?_ | refine RT.mvA ?_ | refine RT.asA ?_ | (apply w_ld; (first | refine RT.v (f_ldWE rfl rfl rfl hw0) ?_ | refine RT.ldA ?_)) | (apply w_bn; (first | refine RT.v (f_gtrT rfl rfl (by omega)) ?_ | refine RT.bnA ?_)) | (apply w_cl; (first | (refine d_call ?_; refine RT.callS rfl hcc rfl (d2 := .ms 2 0 w.length w.length) rfl (H2 := [.live 3 [eShape s], .dead, .live 1 (w.map eI)]) rfl ?_) | refine RT.callM rfl (hk) rfl rfl ?_ | refine RT.callM rfl (ha) rfl rfl ?_)) | refine RT.pkA ?_ | refine RT.v (f_ixO0 (k := 0) rfl rfl rfl rfl rfl (by omega)) ?_ | refine RT.unA ?_ | refine RT.nwA ?_)) | (apply v_any; (first | refine VT.seq rfl ?_ | refine VT.reg rfl ?_ | refine VT.condT rfl rfl ?_ | refine VT.condF rfl rfl ?_ | refine VT.skip rfl ?_ | refine VT.ret rfl ?_)) | with_reducible (refine kSr ?_) | (with_reducible refine d_kEr ?_; refine kEr rfl ?_)))
        rfl
      · by_cases hbig : (w.length : Int) < 1 + 7 * (n : Int)
        · rw [if_pos (.inr hbig)]
          repeat (any_goals (first | (apply w_any; (first | refine RT.nil ?_ | refine RT.gy rfl ?_ | refine RT.mvA ?_ | refine RT.asA ?_ | (apply w_ld; (first | refine RT.v (f_ldWE rfl rfl rfl hw0) ?_ | refine RT.ldA ?_)) | (apply w_bn; (first | refine RT.v (f_gtrF rfl rfl (by omega)) ?_ | refine RT.v (f_gtrT rfl rfl (by omega)) ?_ | refine RT.bnA ?_)) | (apply w_cl; (first | (refine d_call ?_; refine RT.callS rfl hcc rfl (d2 := .ms 2 0 w.length w.length) rfl (H2 := [.live 3 [eShape s], .dead, .live 1 (w.map eI)]) rfl ?_) | refine RT.callM rfl (hk) rfl rfl ?_ | refine RT.callM rfl (ha) rfl rfl ?_ | refine RT.clA ?_)) | refine RT.pkA ?_ | refine RT.v (f_ixO0 (k := 0) rfl rfl rfl rfl rfl (by omega)) ?_ | refine RT.unA ?_ | refine RT.nwA ?_)) | (apply v_any; (first | refine VT.seq rfl ?_ | refine VT.reg rfl ?_ | refine VT.condT rfl rfl ?_ | refine VT.condF rfl rfl ?_ | refine VT.skip rfl ?_ | refine VT.ret rfl ?_)) | with_reducible (refine kSr ?_) | (with_reducible refine d_kEr ?_; refine kEr rfl ?_)))
          rfl
        · rw [if_neg (by omega)]
          repeat (any_goals (first | (apply w_any; (first | refine RT.nil ?_ | refine RT.gy rfl ?_ | refine RT.mvA ?_ | refine RT.asA ?_ | (apply w_ld; (first | refine RT.v (f_ldWE rfl rfl rfl hw0) ?_ | refine RT.ldA ?_)) | (apply w_bn; (first | refine RT.v (f_gtrF rfl rfl (by omega)) ?_ | refine RT.bnA ?_)) | (apply w_cl; (first | (refine d_call ?_; refine RT.callS rfl hcc rfl (d2 := .ms 2 0 w.length w.length) rfl (H2 := [.live 3 [eShape s], .dead, .live 1 (w.map eI)]) rfl ?_) | (refine d_call ?_; refine RT.callS rfl (c_chunk (H := [.live 3 [eShape s], .dead, .live 1 (w.map eI), .live 1 [[.nil]]]) (b := 2) (k := 1) (n := 1 + 7 * n - 1) (c := w.length - 1)) rfl rfl rfl ?_) | refine RT.callM rfl (hk) rfl rfl ?_ | refine RT.callM rfl (ha) rfl rfl ?_ | refine RT.clA ?_)) | refine RT.pkA ?_ | refine RT.v (f_ixO0 (k := 0) rfl rfl rfl rfl rfl (by omega)) ?_ | refine RT.unA ?_ | refine RT.nwA ?_ | refine RT.nwA ?_ | refine RT.v (f_slB (lo := 1) (hi := 1 + 7 * n) rfl rfl rfl rfl (by omega) (by omega) (by omega) rfl rfl) ?_)) | (apply v_any; (first | refine VT.seq rfl ?_ | refine VT.reg rfl ?_ | refine VT.condF rfl rfl ?_ | refine VT.block rfl ?_ | refine VT.skip rfl ?_))))
          obtain ⟨w', hw'⟩ : ∃ w', w' = (w.take (1 + 7 * n)).drop 1 := ⟨_, rfl⟩
          have hwl : w'.length = 7 * n := by rw [hw', List.length_drop, List.length_take]; omega
          have hck : ∀ i, i < n → (w'.take (i * 7 + 7)).drop (i * 7) = [w.getD (1 + i * 7 + 0) 0, w.getD (1 + i * 7 + 1) 0, w.getD (1 + i * 7 + 2) 0, w.getD (1 + i * 7 + 3) 0, w.getD (1 + i * 7 + 4) 0, w.getD (1 + i * 7 + 5) 0, w.getD (1 + i * 7 + 6) 0] := fun i hi => by
            have hg : ∀ j, j < 7 → ((w'.take (i * 7 + 7)).drop (i * 7))[j]? = some (w.getD (1 + i * 7 + j) 0) := fun j hj => by
              rw [List.getElem?_drop, List.getElem?_take, if_pos (by omega), hw', List.getElem?_drop, List.getElem?_take, if_pos (by omega), show 1 + (i * 7 + j) = 1 + i * 7 + j by omega, List.getD_eq_getElem?_getD, List.getElem?_eq_getElem (by omega)]; rfl
            have hl7 : ((w'.take (i * 7 + 7)).drop (i * 7)).length = 7 := by rw [List.length_drop, List.length_take, hwl]; omega
            generalize (w'.take (i * 7 + 7)).drop (i * 7) = c at hg hl7
            match c, hl7 with
            | [x0, x1, x2, x3, x4, x5, x6], _ =>
              have g0 := hg 0 (by decide); have g1 := hg 1 (by decide); have g2 := hg 2 (by decide); have g3 := hg 3 (by decide); have g4 := hg 4 (by decide); have g5 := hg 5 (by decide); have g6 := hg 6 (by decide)
              simp only [List.getElem?_cons_zero, List.getElem?_cons_succ, Option.some.injEq] at g0 g1 g2 g3 g4 g5 g6
              rw [g0, g1, g2, g3, g4, g5, g6]
          refine VT.range (cseq w' n) [2, 4, 5] (fun i H => H[0]? = some (.live 3 [eShape s]) ∧ ∃ c, H[3]? = some (.live 1 [[c]]) ∧ ((i = 0 ∧ c = .nil) ∨ (0 < i ∧ ∃ q, c = .ms q 0 i i ∧ 4 ≤ q ∧ H[q]? = some (.live 4 ((linesOf w i).map eLine))))) rfl rfl rfl rfl rfl ?_ (i_chunk w' n hwl (by omega)) ?_ ?_ ?_ ?_
          · have hb : sel [2, 4, 5] ([Blk.live 3 [eShape s], .dead, .live 1 (w.map eI), .live 1 [[.nil]]] ++ [.live 1 [[.ms 2 1 (1 + 7 * n - 1) (w.length - 1)]], .live 1 [[wI 7]]]) 2 = some (.live 1 (w.map eI)) := rfl
            have hms : snap (sel [2, 4, 5] ([Blk.live 3 [eShape s], .dead, .live 1 (w.map eI), .live 1 [[.nil]]] ++ [.live 1 [[.ms 2 1 (1 + 7 * n - 1) (w.length - 1)]], .live 1 [[wI 7]]])) 4 (.ms 2 1 (1 + 7 * n - 1) (w.length - 1)) = .sl (w'.map eI) := by
              simp only [snap, hb]
              rw [if_pos (by rw [List.length_map]; omega), show 1 + (1 + 7 * n - 1) = 1 + 7 * n by omega, ← List.map_take, ← List.map_drop, ← hw', eI_map _ _ fun x => rfl]
            exact congrArg (fun x => [D.rp [x], D.rp [wI 7]]) hms
          · intro i args hg
            have hi : i < n := by rw [← cseq_len w' n]; exact (List.getElem?_eq_some_iff.1 hg).1
            rw [cseq_get w' hi] at hg; cases hg; exact ⟨rfl, rfl⟩
          · exact ⟨rfl, .nil, rfl, .inl ⟨rfl, rfl⟩⟩
          · intro i args H hg hJ
            have hi : i < n := by rw [← cseq_len w' n]; exact (List.getElem?_eq_some_iff.1 hg).1
            rw [cseq_get w' hi, hck i hi] at hg; cases hg
            obtain ⟨hb0, c, hb3, hc⟩ := hJ
            have hH3 := hg_lt hb3
            have b0 := hwW (1 + i * 7 + 0)
            have b1 := hwW (1 + i * 7 + 1)
            have b2 := hwW (1 + i * 7 + 2)
            have b5 := hwW (1 + i * 7 + 5)
            have b6 := hwW (1 + i * 7 + 6)
            have hlo := m_lineOf (w.getD (1 + i * 7 + 0) 0) (w.getD (1 + i * 7 + 1) 0) (w.getD (1 + i * 7 + 2) 0) (w.getD (1 + i * 7 + 3) 0) (w.getD (1 + i * 7 + 4) 0) (w.getD (1 + i * 7 + 5) 0) (w.getD (1 + i * 7 + 6) 0) b0 b1 b2 b5 b6
            have hx := lineOf_dt w (1 + i * 7)
            have hx2 : lineOfS [w.getD (1 + i * 7 + 0) 0, w.getD (1 + i * 7 + 1) 0, w.getD (1 + i * 7 + 2) 0, w.getD (1 + i * 7 + 3) 0, w.getD (1 + i * 7 + 4) 0, w.getD (1 + i * 7 + 5) 0, w.getD (1 + i * 7 + 6) 0] = lineOfS ((w.drop (1 + i * 7)).take 7) := hx.symm
            rw [hx2] at hlo
            have hls := linesOf_succ w i
            generalize lineOfS ((w.drop (1 + i * 7)).take 7) = x at hlo hls
            repeat (any_goals (first | (apply w_any; (first | refine RT.nil ?_ | refine RT.asA ?_)) | refine VT.reg rfl ?_))
            refine ⟨rfl, ?_⟩
            rcases hc with ⟨rfl, rfl⟩ | ⟨hi0, q, rfl, hq4, hq⟩
            · repeat (any_goals (first | (apply v_any; (first | refine VT.block rfl ?_ | refine VT.drawS [3] 1 [none, none, none, none, none, none, none, some 0] [(4, [1, 2, 3, 4], none), (4, [1, 2, 3, 4], none), (4, [1, 2, 3, 4], none), (4, [1, 2, 3, 4], none), (0, [1, 2, 3, 4], none), (1, [2, 3, 4], none), (2, [3, 4], none), (3, [4], some 0)] 5 rfl (by first | (simp; done) | (simp; omega)) (by first | (simp; done) | (simp; omega)) mixedOk rfl (by decide +kernel) (by decide +kernel) (by decide +kernel) rfl (H1 := H ++ [.free, .free, .free, .free, .free]) rfl ?_)) | (apply s_any; (first | refine ST.done (dropLn (H.set 3 _) [_, _, _, _] .free) ?_ | refine ST.mvA ?_ | (apply s_ld; (first | refine ST.v (f_ldO rfl (by repeat (first | assumption | exact hg_new | exact hg_at (by first | rfl | simp) rfl | exact hg_self (by first | assumption | omega | (simp only [List.length_set, List.length_append, List.length_cons, List.length_nil, List.length_map, List.length_replicate]; omega)) | refine hg_app _ ?_ | refine hg_ne ?_ (by first | assumption | omega) | refine mskR ?_ (by first | (simp [rho, -List.length_eq_zero_iff]; done) | (simp [rho, -List.length_eq_zero_iff]; omega)))) rfl rfl rfl) ?_ | refine ST.v (f_ldA rfl rfl rfl rfl rfl) ?_)) | (apply s_cl; (first | refine ST.callM (d := .agg (eLine x)) rfl hlo rfl rfl ?_ | refine ST.apN rfl rfl (s' := H.length + 2) (k := .live 4 ([x].map eLine)) (m := 1) (H' := H ++ [.free, .live 4 [eLine x], .live 4 ([x].map eLine), .free, .free]) (by exact f_appT0 (f := eLine) (v := [x]) (mm := 1) (by' := 32) rfl rfl (by repeat (first | assumption | exact hg_new | exact hg_at (by first | rfl | simp) rfl | exact hg_self (by first | assumption | omega | (simp only [List.length_set, List.length_append, List.length_cons, List.length_nil, List.length_map, List.length_replicate]; omega)) | refine hg_app _ ?_ | refine hg_ne ?_ (by first | assumption | omega) | refine mskR ?_ (by first | (simp [rho, -List.length_eq_zero_iff]; done) | (simp [rho, -List.length_eq_zero_iff]; omega)))) rfl rfl rfl (by decide) rfl rfl (fun _ => ⟨rfl, rfl⟩) (by simp) (by simp)) (by exact setLen (i := 2) (T' := [.free, .live 4 [eLine x], .live 4 ([x].map eLine), .free, .free]) rfl rfl) ?_)) | refine ST.wr (q := 0) (b := 3) rfl rfl (f_stV (d := .ms (H.length + 2) 0 1 1) rfl (by repeat (first | assumption | exact hg_new | exact hg_at (by first | rfl | simp) rfl | exact hg_self (by first | assumption | omega | (simp only [List.length_set, List.length_append, List.length_cons, List.length_nil, List.length_map, List.length_replicate]; omega)) | refine hg_app _ ?_ | refine hg_ne ?_ (by first | assumption | omega) | refine mskR ?_ (by first | (simp [rho, -List.length_eq_zero_iff]; done) | (simp [rho, -List.length_eq_zero_iff]; omega)))) rfl rfl rfl rfl rfl) (List.set_append_left _ _ hH3) ?_ | refine ST.new rfl (s' := H.length + 1) rfl (f_bslA1 rfl rfl rfl rfl rfl rfl) (setLen (i := 1) (T' := [.free, .live 4 [eLine x], .free, .free, .free]) rfl rfl) ?_ | refine ST.v (f_arrP (l := [w.getD (1 + 0 * 7 + 0) 0, w.getD (1 + 0 * 7 + 1) 0, w.getD (1 + 0 * 7 + 2) 0, w.getD (1 + 0 * 7 + 3) 0, w.getD (1 + 0 * 7 + 4) 0, w.getD (1 + 0 * 7 + 5) 0, w.getD (1 + 0 * 7 + 6) 0]) rfl rfl (by decide) (Nat.le_refl 7)) ?_)) | with_reducible (refine kBn ?_)))
              exact ⟨hg_app _ (hg_ne hb0 (by decide)), _, hg_app _ (hg_self hH3), .inr ⟨Nat.succ_pos _, H.length + 2, rfl, by omega, by rw [hls]; exact hg_at (t := 2) (by simp) rfl⟩⟩
            · have hql := hg_lt hq
              have hll := linesOf_len w i
              repeat (any_goals (first | (apply v_any; (first | refine VT.block rfl ?_ | refine VT.drawS [q, 3] 2 [none, none, none, none, none, none, some 0, some 1] [(4, [2, 3, 4, 5], none), (4, [2, 3, 4, 5], none), (4, [2, 3, 4, 5], none), (4, [2, 3, 4, 5], none), (0, [2, 3, 4, 5], none), (1, [3, 4, 5], none), (2, [4, 5], some 0), (3, [5], some 1)] 5 rfl (by first | (simp; done) | (simp; omega)) (by first | (simp; done) | (simp; omega)) mixedOk rfl (by decide +kernel) (by decide +kernel) (by decide +kernel) rfl (H1 := H ++ [.free, .free, .free, .free, .free]) rfl ?_)) | (apply s_any; (first | refine ST.done (dropLn ((H.set q .dead).set 3 _) [_, _, _, _] .free) ?_ | refine ST.mvA ?_ | (apply s_ld; (first | refine ST.v (f_ldO rfl (by repeat (first | assumption | exact hg_new | exact hg_at (by first | rfl | simp) rfl | exact hg_self (by first | assumption | omega | (simp only [List.length_set, List.length_append, List.length_cons, List.length_nil, List.length_map, List.length_replicate]; omega)) | refine hg_app _ ?_ | refine hg_ne ?_ (by first | assumption | omega) | refine mskR ?_ (by first | (simp [rho, -List.length_eq_zero_iff]; done) | (simp [rho, -List.length_eq_zero_iff]; omega)))) rfl rfl rfl) ?_ | refine ST.v (f_ldA rfl rfl rfl rfl rfl) ?_)) | (apply s_cl; (first | refine ST.callM (d := .agg (eLine x)) rfl hlo rfl rfl ?_ | refine ST.ap (q := 0) (b := q) rfl rfl (s' := H.length + 2) rfl (k := .live 4 ((linesOf w i ++ [x]).map eLine)) (m := i + 1) (H' := H.set q .dead ++ [.free, .live 4 [eLine x], .live 4 ((linesOf w i ++ [x]).map eLine), .free, .free]) (by exact f_appT (f := eLine) (o := linesOf w i) (v := [x]) (mm := i + 1) (by' := 32) rfl rfl (by repeat (first | assumption | exact hg_new | exact hg_at (by first | rfl | simp) rfl | exact hg_self (by first | assumption | omega | (simp only [List.length_set, List.length_append, List.length_cons, List.length_nil, List.length_map, List.length_replicate]; omega)) | refine hg_app _ ?_ | refine hg_ne ?_ (by first | assumption | omega) | refine mskR ?_ (by first | (simp [rho, -List.length_eq_zero_iff]; done) | (simp [rho, -List.length_eq_zero_iff]; omega)))) (List.take_of_length_le (by rw [List.length_map]; omega)) (by rw [List.length_map]; omega) (by repeat (first | assumption | exact hg_new | exact hg_at (by first | rfl | simp) rfl | exact hg_self (by first | assumption | omega | (simp only [List.length_set, List.length_append, List.length_cons, List.length_nil, List.length_map, List.length_replicate]; omega)) | refine hg_app _ ?_ | refine hg_ne ?_ (by first | assumption | omega) | refine mskR ?_ (by first | (simp [rho, -List.length_eq_zero_iff]; done) | (simp [rho, -List.length_eq_zero_iff]; omega)))) (by omega) rfl (by simp [hll]) rfl (by decide) rfl rfl (fun _ => ⟨rfl, rfl⟩) (by simp; omega) (by simp; omega)) (by exact killLen (T' := [.free, .live 4 [eLine x], .live 4 ((linesOf w i ++ [x]).map eLine), .free, .free]) hql rfl rfl) ?_)) | refine ST.wr (q := 1) (b := 3) rfl rfl (f_stV (d := .ms (H.length + 2) 0 (i + 1) (i + 1)) rfl (by repeat (first | assumption | exact hg_new | exact hg_at (by first | rfl | simp) rfl | exact hg_self (by first | assumption | omega | (simp only [List.length_set, List.length_append, List.length_cons, List.length_nil, List.length_map, List.length_replicate]; omega)) | refine hg_app _ ?_ | refine hg_ne ?_ (by first | assumption | omega) | refine mskR ?_ (by first | (simp [rho, -List.length_eq_zero_iff]; done) | (simp [rho, -List.length_eq_zero_iff]; omega)))) rfl rfl rfl rfl rfl) (List.set_append_left _ _ (by rw [List.length_set]; exact hH3)) ?_ | refine ST.new rfl (s' := H.length + 1) rfl (f_bslA1 rfl rfl rfl rfl rfl rfl) (setLen (i := 1) (T' := [.free, .live 4 [eLine x], .free, .free, .free]) rfl rfl) ?_ | refine ST.v (f_arrP (l := [w.getD (1 + i * 7 + 0) 0, w.getD (1 + i * 7 + 1) 0, w.getD (1 + i * 7 + 2) 0, w.getD (1 + i * 7 + 3) 0, w.getD (1 + i * 7 + 4) 0, w.getD (1 + i * 7 + 5) 0, w.getD (1 + i * 7 + 6) 0]) rfl rfl (by decide) (Nat.le_refl 7)) ?_)) | with_reducible (refine kBn ?_)))
              exact ⟨hg_app _ (hg_ne (hg_ne hb0 (by omega)) (by decide)), _, hg_app _ (hg_self (by rw [List.length_set]; exact hH3)), .inr ⟨Nat.succ_pos _, H.length + 2, rfl, by omega, by rw [hls]; exact hg_at (t := 2) (by simp) rfl⟩⟩
          · intro H hJ
            rw [cseq_len] at hJ
            obtain ⟨hb0, c, hb3, hc⟩ := hJ
            have hll := linesOf_len w n
            have hcS : snap (fun b => H[b]?) 5 c = .sl ((linesOf w n).map eLine) := by
              rcases hc with ⟨rfl, rfl⟩ | ⟨_, q, rfl, _, hq⟩
              · rfl
              · exact snapLn (k := 4) hq hll.symm
            have hcR : snapR (fun b => H[b]?) 4 c = .fl ((linesOf w n).map eLine) := by
              rcases hc with ⟨rfl, rfl⟩ | ⟨_, q, rfl, _, hq⟩
              · rfl
              · exact snapRLn (k := 3) hq hll.symm
            generalize linesOf w n = L at hcS hcR hll ⊢
            have hcl := m_CheckLines L (by omega)
            have hsn1 : ([c] : List D).map (snap (fun b => H[b]?) 5) = [.sl (L.map eLine)] := congrArg (fun x => [x]) hcS
            have hsn2 : ([.agg (eShape s), c] : List D).map (snap (fun b => H[b]?) 5) = [dSh s, .sl (L.map eLine)] := congrArg (fun x => [dSh s, x]) hcS
            have hsz := WriteS_small s L
            unfold WriteS at hsz ⊢
            rw [if_pos e] at hsz
            rw [if_pos e]
            by_cases hz : CheckLinesS L = 0
            · rw [hz] at hcl
              rw [if_pos hz]
              have hok := (checkLines_iff L).1 hz
              have hwr := m_write s h L hok.1 hok.ok
              cases hws : writeS s L with
              | none =>
                rw [hws] at hwr
                change Maps _ _ _ (D.tup [.fl [], wB false]) at hwr
                rw [if_neg (fun h => by cases h)]
                repeat (any_goals (first | (apply w_any; (first | refine RT.nil ?_ | refine RT.gn rfl rfl ?_ | refine RT.mvA ?_ | refine RT.asA ?_ | (apply w_ld; (first | refine RT.v (f_ldO rfl hb3 rfl rfl rfl) ?_ | refine RT.v (f_ldOW rfl hb0 rfl rfl rfl rfl) ?_)) | refine RT.bnA ?_ | (apply w_cl; (first | (refine d_call ?_; refine RT.callM rfl hcl hsn1 rfl ?_) | (refine d_call ?_; refine RT.callM rfl hwr hsn2 rfl ?_))) | refine RT.pkA ?_ | refine RT.exA ?_ | refine RT.unA ?_)) | (apply v_any; (first | refine VT.seq rfl ?_ | refine VT.reg rfl ?_ | refine VT.condT rfl rfl ?_ | refine VT.condF rfl rfl ?_ | refine VT.skip rfl ?_ | refine VT.ret rfl ?_)) | with_reducible (refine kSr ?_) | (with_reducible refine d_kEr ?_; refine kEr rfl ?_)))
                rfl
              | some r =>
                rw [hws] at hwr
                change Maps _ _ _ (D.tup [.fl (r.map eRow), wB true]) at hwr
                rw [if_pos hz, hws] at hsz
                obtain ⟨hz1, hz2⟩ := hsz
                dsimp only at hz1 hz2
                have hsd := m_sameData r d (by omega) hl (fun x hx => by have := hz2 x hx; omega) hd
                by_cases hrd : r = d
                · rw [decide_eq_true hrd] at hsd
                  rw [if_pos (by rw [hrd])]
                  repeat (any_goals (first | (apply w_any; (first | refine RT.nil ?_ | refine RT.gy rfl ?_ | refine RT.mvA ?_ | (apply w_as; (first | refine RT.v (f_as (d := c) rfl) ?_ | refine RT.asA ?_)) | (apply w_ld; (first | refine RT.v (f_ldO rfl hb3 rfl rfl rfl) ?_ | refine RT.v (f_ldOW rfl hb0 rfl rfl rfl rfl) ?_)) | refine RT.bnA ?_ | (apply w_cl; (first | (refine d_call ?_; refine RT.callM rfl hcl hsn1 rfl ?_) | (refine d_call ?_; refine RT.callM rfl hwr hsn2 rfl ?_) | refine RT.callM rfl (hsd) rfl rfl ?_)) | refine RT.pkA ?_ | refine RT.exA ?_ | refine RT.unA ?_)) | (apply v_any; (first | refine VT.seq rfl ?_ | refine VT.reg rfl ?_ | refine VT.condF rfl rfl ?_ | refine VT.skip rfl ?_ | refine VT.ret rfl ?_)) | (with_reducible refine d_kEr ?_; refine kEr rfl ?_)))
                  exact congrArg (fun x => D.tup [x, wI 0]) hcR
                · rw [decide_eq_false hrd] at hsd
                  rw [if_neg (fun h => hrd (congrArg Prod.fst h))]
                  repeat (any_goals (first | (apply w_any; (first | refine RT.nil ?_ | refine RT.gy rfl ?_ | refine RT.mvA ?_ | refine RT.asA ?_ | (apply w_ld; (first | refine RT.v (f_ldO rfl hb3 rfl rfl rfl) ?_ | refine RT.v (f_ldOW rfl hb0 rfl rfl rfl rfl) ?_)) | refine RT.bnA ?_ | (apply w_cl; (first | (refine d_call ?_; refine RT.callM rfl hcl hsn1 rfl ?_) | (refine d_call ?_; refine RT.callM rfl hwr hsn2 rfl ?_) | refine RT.callM rfl (hsd) rfl rfl ?_)) | refine RT.pkA ?_ | refine RT.exA ?_ | refine RT.unA ?_)) | (apply v_any; (first | refine VT.seq rfl ?_ | refine VT.reg rfl ?_ | refine VT.condT rfl rfl ?_ | refine VT.condF rfl rfl ?_ | refine VT.skip rfl ?_ | refine VT.ret rfl ?_)) | with_reducible (refine kSr ?_) | (with_reducible refine d_kEr ?_; refine kEr rfl ?_)))
                  rfl
            · rw [if_neg hz, if_neg (fun h => hz (congrArg Prod.snd h))]
              repeat (any_goals (first | (apply w_any; (first | refine RT.nil ?_ | refine RT.asA ?_ | refine RT.v (f_ldO rfl hb3 rfl rfl rfl) ?_ | refine RT.bnA ?_ | (refine d_call ?_; refine RT.callM rfl hcl hsn1 rfl ?_))) | (apply v_any; (first | refine VT.seq rfl ?_ | refine VT.reg rfl ?_ | refine VT.ret rfl ?_ | refine VT.condY rfl rfl (by first | assumption | omega) ?_)) | with_reducible (refine kSr ?_) | (with_reducible refine d_kEr ?_; refine kEr rfl ?_)))
              rfl
    | false =>
      rw [qd] at ha
      rw [if_neg (by simp)]
      repeat (any_goals (first | (apply w_any; (first | refine RT.nil ?_ | refine RT.mvA ?_ | refine RT.asA ?_ | refine RT.ldA ?_ | refine RT.bnA ?_ | (apply w_cl; (first | refine RT.callM rfl (hk) rfl rfl ?_ | refine RT.callM rfl (ha) rfl rfl ?_)) | refine RT.unA ?_ | refine RT.nwA ?_)) | (apply v_any; (first | refine VT.seq rfl ?_ | refine VT.reg rfl ?_ | refine VT.condT rfl rfl ?_ | refine VT.condF rfl rfl ?_ | refine VT.skip rfl ?_ | refine VT.ret rfl ?_)) | with_reducible (refine kSr ?_) | (with_reducible refine d_kEr ?_; refine kEr rfl ?_)))
      rfl
  · rw [e] at hk ⊢
    rw [if_neg (by decide)]
    repeat (any_goals (first | (apply w_any; (first | refine RT.nil ?_ | refine RT.mvA ?_ | refine RT.asA ?_ | refine RT.ldA ?_ | refine RT.bnA ?_ | refine RT.callM rfl (hk) rfl rfl ?_ | refine RT.nwA ?_)) | (apply v_any; (first | refine VT.seq rfl ?_ | refine VT.reg rfl ?_ | refine VT.condT rfl rfl ?_ | refine VT.ret rfl ?_)) | with_reducible (refine kSr ?_) | (with_reducible refine d_kEr ?_; refine kEr rfl ?_)))
    rfl
end Go.DL
