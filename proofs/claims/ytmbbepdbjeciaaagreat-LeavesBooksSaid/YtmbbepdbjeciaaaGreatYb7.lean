/- The law LeavesBooks. -/
import Derived.Test.YtmbbepdbjeciaaaGreatYb6
import Derived.Test.YtmbbepdbjeciaaaGreatYb1
import Derived.Test.YtmbbepdbjeciaaaGreatYw8
set_option maxRecDepth 100000
set_option maxHeartbeats 16000000
namespace Go.DL
open Go.Proofs Go
theorem f_addWr {P : Program} {H : List Blk} {s n : Nat} {al : AL} {tx ty' : TypeId} {x y : Operand} {a b : Int} (hx : evA n al x = wI a) (hy : evA n al y = wI b) : Val P H s n al (.binOp .add tx x y ty') (wI (IntKind.wrap .i64 (a + b))) := by
  refine ⟨?_⟩; simp only [stepD, ev_T, hx, hy, binD, intBin, if_true, Option.map_some, keepD]
/-- Are all lines of the one among those of the other? -/
theorem m_allIn (a b : List Line) (hl : a.length ≤ 4611686018427387904) (hl' : b.length ≤ 4611686018427387904) : Maps Tryz.prog 54 [.sl (a.map eLine), .sl (b.map eLine)] (wB (b.all (inB a))) := by
  refine Maps.vt pok Tryz.f54 (n := 34) (rs := [.tmp 4]) rfl rfl rfl rfl rfl rfl fun g => ?_
  repeat (any_goals (first | (apply w_any; (first | refine RT.nil ?_ | refine RT.asA ?_)) | (apply v_any; (first | refine VT.seq rfl ?_ | refine VT.reg rfl ?_ | refine VT.block rfl ?_))))
  refine VT.loop (fun j al H g' => ∃ k : Nat, j = b.length - k ∧ k ≤ b.length ∧ (b.take k).all (inB a) = true ∧ al = [(0, .sl (a.map eLine)), (1, .sl (b.map eLine)), (5, wI k)] ∧ H = [] ∧ g' = g) rfl
    ⟨_, _, _, ⟨0, rfl, Nat.zero_le _, rfl, rfl, rfl, rfl⟩, fgA⟩ ?_
  rintro j al H g' ⟨k, rfl, hkb, hall, rfl, rfl, rfl⟩
  by_cases hlt : k < b.length
  · obtain ⟨y, hy⟩ : ∃ y, b[k]? = some y := ⟨_, List.getElem?_eq_getElem hlt⟩
    have hst : (b.take (k + 1)).all (inB a) = inB a y := by
      rw [List.take_add_one, hy, List.all_append, hall]; simp
    repeat (any_goals (first | (apply w_any; (first | refine RT.nil ?_ | refine RT.mvA ?_ | refine RT.asA ?_ | refine RT.bnA ?_ | refine RT.clA ?_)) | (apply v_any; (first | refine VT.seq rfl ?_ | refine VT.reg rfl ?_ | refine VT.block rfl ?_ | refine VT.skip rfl ?_ | refine VT.condY rfl rfl (by first | assumption | omega) ?_))))
    refine VT.loop (fun j al H2 g2 => ∃ (i : Nat) (v : Bool), j = a.length - i ∧ i ≤ a.length ∧ v = inB (a.take i) y ∧ al = [(0, .sl (a.map eLine)), (1, .sl (b.map eLine)), (5, wI k), (6, wB v), (7, wI i)] ∧ H2 = [] ∧ g2 = g') rfl
      ⟨_, _, _, ⟨0, false, rfl, Nat.zero_le _, rfl, rfl, rfl, rfl⟩, Wk.keep (by (repeat first | exact True.intro | refine And.intro ?_ ?_ | exact Or.inr (Or.inl rfl) | exact Or.inl rfl | (refine DLe.i rfl ?_; omega) | (refine DLe.i rfl ?_; simp; done)))⟩ ?_
    rintro j al H2 g2 ⟨i, v, rfl, hi, hv, rfl, hH2, rfl⟩
    by_cases hlt2 : i < a.length
    · obtain ⟨x, hx⟩ : ∃ x, a[i]? = some x := ⟨_, List.getElem?_eq_getElem hlt2⟩
      have hag := agg_line x y
      have hvs : inB (a.take (i + 1)) y = (v || decide (x = y)) := by
        unfold inB at hv ⊢
        rw [List.take_add_one, hx, List.any_append, ← hv]; simp
      cases v with
      | true =>
        repeat (any_goals (first | (apply w_any; (first | refine RT.nil ?_ | refine RT.mvA ?_ | refine RT.asA ?_ | refine RT.bnA ?_ | refine RT.clA ?_)) | (apply v_any; (first | refine VT.seq rfl ?_ | refine VT.reg rfl ?_ | refine VT.block rfl ?_ | refine VT.skip rfl ?_ | refine VT.draw [(0, []), (0, []), (0, []), (0, []), (0, []), (0, []), (0, []), (0, []), (0, []), (0, []), (0, []), (0, []), (0, [])] 1 mixedOk rfl (by decide +kernel) (by decide +kernel) (by decide +kernel) (by first | (simp only [nrm]; rfl) | (simp only [nrm, Nat.reduceAdd, Nat.zero_add]; rfl) | rfl) (by first | (simp only [nrm]; rfl) | (simp only [nrm, Nat.reduceAdd, Nat.zero_add]; rfl) | rfl) ?_ | refine VT.condY rfl rfl (by first | assumption | omega) ?_)) | (apply q_any; (first | refine PT.done ((dropLn H2 [] .free).trans (List.append_nil _)) ?_ | refine PT.gn rfl rfl ?_ | refine PT.mvI ((mask_app (H0 := H2) (T := [_]) rfl)) ?_ | refine PT.asI ((mask_app (H0 := H2) (T := [_]) rfl)) ?_ | refine PT.pkI ((mask_app (H0 := H2) (T := [_]) rfl)) ?_)) | with_reducible (refine kLn ?_)))
        exact ⟨a.length - (i + 1), by omega, _, _, ⟨i + 1, true, rfl, hlt2, by rw [hvs]; rfl, rfl, hH2, rfl⟩, Wk.keep (by (repeat first | exact True.intro | refine And.intro ?_ ?_ | exact Or.inr (Or.inl rfl) | exact Or.inl rfl | (refine DLe.i rfl ?_; omega) | (refine DLe.i rfl ?_; simp; done)))⟩
      | false =>
        repeat (any_goals (first | (apply w_any; (first | refine RT.nil ?_ | refine RT.mvA ?_ | refine RT.asA ?_ | refine RT.bnA ?_ | refine RT.clA ?_)) | (apply v_any; (first | refine VT.seq rfl ?_ | refine VT.reg rfl ?_ | refine VT.block rfl ?_ | refine VT.skip rfl ?_ | refine VT.draw [(0, []), (0, []), (0, []), (0, []), (0, []), (0, []), (0, []), (0, []), (0, []), (0, []), (0, []), (0, []), (0, [])] 1 mixedOk rfl (by decide +kernel) (by decide +kernel) (by decide +kernel) (by first | (simp only [nrm]; rfl) | (simp only [nrm, Nat.reduceAdd, Nat.zero_add]; rfl) | rfl) (by first | (simp only [nrm]; rfl) | (simp only [nrm, Nat.reduceAdd, Nat.zero_add]; rfl) | rfl) ?_ | refine VT.condY rfl rfl (by first | assumption | omega) ?_)) | (apply q_any; (first | refine PT.done ((dropLn H2 [] .free).trans (List.append_nil _)) ?_ | refine PT.gy rfl ?_ | refine PT.mvI ((mask_app (H0 := H2) (T := [_]) rfl)) ?_ | refine PT.asI ((mask_app (H0 := H2) (T := [_]) rfl)) ?_ | refine PT.ldI ((mask_app (H0 := H2) (T := [_]) rfl)) ?_ | refine PT.pkI ((mask_app (H0 := H2) (T := [_]) rfl)) ?_ | (apply q_ix; (first | refine PT.vI ((mask_app (H0 := H2) (T := [_]) rfl)) (f_ixQ rfl rfl rfl hx rfl rfl) ?_ | refine PT.vI ((mask_app (H0 := H2) (T := [_]) rfl)) (f_ixQ rfl rfl rfl hy rfl rfl) ?_)) | refine PT.vI ((mask_app (H0 := H2) (T := [_]) rfl)) (f_eqlAgg rfl rfl hag) ?_)) | with_reducible (refine kLn ?_)))
        exact ⟨a.length - (i + 1), by omega, _, _, ⟨i + 1, decide (x = y), rfl, hlt2, by rw [hvs]; rfl, rfl, hH2, rfl⟩, Wk.keep (by (repeat first | exact True.intro | refine And.intro ?_ ?_ | exact Or.inr (Or.inl rfl) | exact Or.inl rfl | (refine DLe.i rfl ?_; omega) | (refine DLe.i rfl ?_; simp; done)))⟩
    · obtain rfl : i = a.length := by omega
      rw [List.take_length] at hv
      subst hH2
      cases v with
      | true =>
        repeat (any_goals (first | (apply w_any; (first | refine RT.nil ?_ | refine RT.mvA ?_ | refine RT.asA ?_ | refine RT.bnA ?_ | refine RT.clA ?_ | refine RT.unA ?_)) | (apply v_any; (first | refine VT.seq rfl ?_ | refine VT.reg rfl ?_ | refine VT.condF rfl rfl ?_ | refine VT.skip rfl ?_ | refine VT.exit rfl ?_ | refine VT.condN rfl rfl (by first | assumption | omega) ?_)) | with_reducible (refine kLn ?_)))
        exact ⟨b.length - (k + 1), by omega, _, _, ⟨k + 1, rfl, hlt, by rw [hst, ← hv], rfl, rfl, rfl⟩, Wk.keep (by (repeat first | exact True.intro | refine And.intro ?_ ?_ | exact Or.inr (Or.inl rfl) | exact Or.inl rfl | (refine DLe.i rfl ?_; omega) | (refine DLe.i rfl ?_; simp; done)))⟩
      | false =>
        have hb : b.all (inB a) = false := by
          rw [← Bool.not_eq_true, List.all_eq_true]
          intro h
          rw [h y (List.mem_of_getElem? hy)] at hv; cases hv
        rw [hb]
        repeat (any_goals (first | (apply w_any; (first | refine RT.nil ?_ | refine RT.mvA ?_ | refine RT.asA ?_ | refine RT.bnA ?_ | refine RT.clA ?_ | refine RT.unA ?_)) | (apply v_any; (first | refine VT.seq rfl ?_ | refine VT.reg rfl ?_ | refine VT.condT rfl rfl ?_ | refine VT.exit rfl ?_ | refine VT.ret rfl ?_ | refine VT.condN rfl rfl (by first | assumption | omega) ?_)) | (with_reducible first | refine kSr ?_ | refine kBr ?_ | refine kLr ?_) | (with_reducible refine d_kEr ?_; refine kEr rfl ?_)))
        rfl
  · obtain rfl : k = b.length := by omega
    rw [List.take_length] at hall
    rw [hall]
    repeat (any_goals (first | (apply w_any; (first | refine RT.nil ?_ | refine RT.mvA ?_ | refine RT.asA ?_ | refine RT.bnA ?_ | refine RT.clA ?_)) | (apply v_any; (first | refine VT.seq rfl ?_ | refine VT.reg rfl ?_ | refine VT.exit rfl ?_ | refine VT.ret rfl ?_ | refine VT.condN rfl rfl (by first | assumption | omega) ?_)) | (with_reducible refine d_kEr ?_; refine kEr rfl ?_)))
    rfl
theorem KnownS_len (l : List Line) (day : Int) (hl : l.length ≤ 1000) : (KnownS l day).1.length ≤ 1000 := by
  unfold KnownS; split
  · split
    · refine Nat.le_trans (List.length_filter_le _ _) ?_; rw [sortL_len]; exact hl
    · exact Nat.zero_le _
  · exact Nat.zero_le _
theorem MergeS_len (a b : List Line) : (MergeS a b).1.length ≤ 1000 := by
  unfold MergeS; split
  · split
    · split
      · exact Nat.zero_le _
      · rename_i h; show (dd _).length ≤ 1000; omega
    · exact Nat.zero_le _
  · exact Nat.zero_le _
theorem m_LeavesBooks (hh : Maps Tryz.prog 14 [] (wB true)) (s : Shape) (a b : List Line) (day t : Int) (hl : a.length ≤ 4611686018427387904) (hl' : b.length ≤ 4611686018427387904) (hday : -9223372036854775808 ≤ day ∧ day ≤ 9223372036854775807) (ht : 0 ≤ t ∧ t ≤ 255) :
    Maps Tryz.prog 11 [dSh s, .sl (a.map eLine), .sl (b.map eLine), wI day, .v (.int .u8 t)] (wB true) := by
  refine Maps.vt pok Tryz.f11 (n := 163) (rs := [.tmp 10]) rfl rfl rfl rfl rfl rfl fun g => ?_
  have h1 := m_small1 s
  have h2 := m_lines a hl
  have h3 := m_lines b hl'
  cases q1 : SmallS s with
  | false =>
    rw [q1] at h1
    repeat (any_goals (first | (apply w_any; (first | refine RT.nil ?_ | refine RT.gn rfl rfl ?_ | refine RT.mvA ?_ | refine RT.asA ?_ | refine RT.ldA ?_ | (apply w_cl; (first | refine RT.callM rfl (hh) rfl rfl ?_ | refine RT.callM rfl (h1) rfl rfl ?_)) | refine RT.pkA ?_ | refine RT.unA ?_ | refine RT.nwA ?_)) | (apply v_any; (first | refine VT.seq rfl ?_ | refine VT.reg rfl ?_ | refine VT.condT rfl rfl ?_ | refine VT.ret rfl ?_)) | with_reducible (refine kSr ?_) | (with_reducible refine d_kEr ?_; refine kEr rfl ?_)))
    rfl
  | true =>
    rw [q1] at h1
    cases q2 : linesS a with
    | false =>
      rw [q2] at h2
      repeat (any_goals (first | (apply w_any; (first | refine RT.nil ?_ | (apply w_g; (first | refine RT.gy rfl ?_ | refine RT.gn rfl rfl ?_)) | refine RT.mvA ?_ | refine RT.asA ?_ | refine RT.ldA ?_ | (apply w_cl; (first | refine RT.callM rfl (hh) rfl rfl ?_ | refine RT.callM rfl (h1) rfl rfl ?_ | refine RT.callM rfl (h2) rfl rfl ?_)) | refine RT.pkA ?_ | refine RT.unA ?_ | refine RT.nwA ?_)) | (apply v_any; (first | refine VT.seq rfl ?_ | refine VT.reg rfl ?_ | refine VT.condT rfl rfl ?_ | refine VT.ret rfl ?_)) | with_reducible (refine kSr ?_) | (with_reducible refine d_kEr ?_; refine kEr rfl ?_)))
      rfl
    | true =>
      rw [q2] at h2
      cases q3 : linesS b with
      | false =>
        rw [q3] at h3
        repeat (any_goals (first | (apply w_any; (first | refine RT.nil ?_ | refine RT.gy rfl ?_ | refine RT.mvA ?_ | refine RT.asA ?_ | refine RT.ldA ?_ | (apply w_cl; (first | refine RT.callM rfl (hh) rfl rfl ?_ | refine RT.callM rfl (h1) rfl rfl ?_ | refine RT.callM rfl (h2) rfl rfl ?_ | refine RT.callM rfl (h3) rfl rfl ?_)) | refine RT.pkA ?_ | refine RT.unA ?_ | refine RT.nwA ?_)) | (apply v_any; (first | refine VT.seq rfl ?_ | refine VT.reg rfl ?_ | refine VT.condT rfl rfl ?_ | refine VT.ret rfl ?_)) | with_reducible (refine kSr ?_) | (with_reducible refine d_kEr ?_; refine kEr rfl ?_)))
        rfl
      | true =>
        rw [q3] at h3
        have ha70 : a.length ≤ 70 := by
          unfold linesS at q2; simp only [decide_eq_true_eq] at q2; omega
        have hb70 : b.length ≤ 70 := by
          unfold linesS at q3; simp only [decide_eq_true_eq] at q3; omega
        have a1 := m_Write s a hl
        obtain ⟨z1, z2⟩ := WriteS_small s a
        have b1 := m_Read s (WriteS s a).1 (by omega) (fun x hx => by have := z2 x hx; omega)
        have HA : ((WriteS s a).2 = 0 ∧ ReadS s (WriteS s a).1 = (a, 0)) ∨ ¬ (WriteS s a).2 = 0 := by
          by_cases h : (WriteS s a).2 = 0
          · exact .inl ⟨h, read_write h⟩
          · exact .inr h
        have c1 := m_SameLines a a hl hl
        rw [decide_eq_true rfl] at c1
        have k1 := m_Known a day hl
        have k2 := m_Known a (min 728 (IntKind.wrap .i64 (day + t))) hl
        have hkl := KnownS_len a day (by omega)
        have hkl2 := KnownS_len a (min 728 (IntKind.wrap .i64 (day + t))) (by omega)
        have HK : (∃ K1 K2 : List Line, KnownS a day = (K1, 0) ∧ KnownS a (min 728 (IntKind.wrap .i64 (day + t))) = (K2, 0) ∧ K1.length ≤ K2.length ∧ K2.take K1.length = K1 ∧ CheckLinesS a = 0) ∨ ¬ (KnownS a day).2 = 0 := by
          by_cases hK : (KnownS a day).2 = 0
          · have hd : 0 ≤ day ∧ day ≤ 728 ∧ CheckLinesS a = 0 := by
              unfold KnownS at hK
              by_cases hc : CheckLinesS a = 0
              · rw [if_pos hc] at hK
                by_cases hd : 0 ≤ day ∧ day ≤ 728
                · exact ⟨hd.1, hd.2, hc⟩
                · rw [if_neg hd] at hK; simp at hK
              · rw [if_neg hc] at hK; exact absurd hK hc
            have hwr : IntKind.wrap .i64 (day + t) = day + t := wrap64 (by omega) (by omega)
            have hpre := known_later (l := a) (d1 := day) (d2 := min 728 (day + t)) (by omega)
            refine .inl ⟨_, _, ?_, ?_, hpre.1, hpre.2, hd.2.2⟩
            · unfold KnownS; rw [if_pos hd.2.2, if_pos ⟨hd.1, hd.2.1⟩]
            · unfold KnownS; rw [hwr, if_pos hd.2.2, if_pos ⟨by omega, by omega⟩]
          · exact .inr hK
        have e1 := m_CheckLines a hl
        have e2 := m_CheckLines b hl'
        have g1 := m_Merge a b hl hl'
        have g2 := m_Merge b a hl' hl
        have hml := MergeS_len a b
        have HM : ¬ CheckLinesS a = 0 ∨ (CheckLinesS a = 0 ∧ ¬ CheckLinesS b = 0) ∨ (CheckLinesS a = 0 ∧ CheckLinesS b = 0 ∧ ¬ (MergeS a b).2 = 0 ∧ MergeS b a = MergeS a b) ∨
            (CheckLinesS a = 0 ∧ CheckLinesS b = 0 ∧ ∃ M1, MergeS a b = (M1, 0) ∧ MergeS b a = (M1, 0) ∧ Maps Tryz.prog 49 [.sl (M1.map eLine), .sl (b.map eLine)] (.tup [.fl (M1.map eLine), wI 0]) ∧
              Maps Tryz.prog 38 [.sl (M1.map eLine), .sl (M1.map eLine)] (wB true) ∧ Maps Tryz.prog 54 [.sl (M1.map eLine), .sl (a.map eLine)] (wB true) ∧ Maps Tryz.prog 54 [.sl (M1.map eLine), .sl (b.map eLine)] (wB true)) := by
          by_cases hca : CheckLinesS a = 0
          · by_cases hcb : CheckLinesS b = 0
            · have ha := (checkLines_iff a).1 hca
              have hb := (checkLines_iff b).1 hcb
              have hcm := merge_comm ha hb
              by_cases hM : (MergeS a b).2 = 0
              · obtain ⟨h1, h2, h3, h4⟩ := merge_again ha hb hM
                have hM2 : MergeS a b = ((MergeS a b).1, 0) := by rw [← hM]
                have g3 := m_Merge (MergeS a b).1 b (by omega) hl'
                rw [h1] at g3
                have c3 := m_SameLines (MergeS a b).1 (MergeS a b).1 (by omega) (by omega)
                rw [decide_eq_true rfl] at c3
                have all1 : ∀ c : List Line, (∀ x, x ∈ c → x ∈ (MergeS a b).1) → c.all (inB (MergeS a b).1) = true := fun c h => by
                  rw [List.all_eq_true]
                  intro x hx
                  exact List.any_eq_true.2 ⟨x, h x hx, decide_eq_true rfl⟩
                have i1 := m_allIn (MergeS a b).1 a (by omega) hl
                have i2 := m_allIn (MergeS a b).1 b (by omega) hl'
                rw [all1 a h3] at i1
                rw [all1 b h4] at i2
                exact .inr (.inr (.inr ⟨hca, hcb, _, hM2, hcm.trans hM2, g3, c3, i1, i2⟩))
              · exact .inr (.inr (.inl ⟨hca, hcb, hM, hcm⟩))
            · exact .inr (.inl ⟨hca, hcb⟩)
          · exact .inl hca
        generalize WriteS s a = A at a1 b1 HA z1 z2
        obtain ⟨A1, A2⟩ := A
        dsimp only at a1 b1 HA z1 z2
        generalize ReadS s A1 = R at b1 HA
        generalize KnownS a day = X at k1 hkl HK
        generalize KnownS a (min 728 (IntKind.wrap .i64 (day + t))) = Y at k2 hkl2 HK
        obtain ⟨X1, X2⟩ := X
        obtain ⟨Y1, Y2⟩ := Y
        dsimp only at k1 k2 hkl hkl2 HK
        generalize MergeS a b = M at g1 hml HM
        generalize MergeS b a = N at g2 HM
        generalize CheckLinesS a = ca at e1 HK HM
        generalize CheckLinesS b = cb at e2 HM
        obtain ⟨M1, M2⟩ := M
        obtain ⟨N1, N2⟩ := N
        dsimp only at g1 g2 hml HM
        rcases HA with ⟨rfl, rfl⟩ | hA
        all_goals
          rcases HK with ⟨K1, K2, hx1, hx2, hp1, hp2, hca⟩ | hK
          all_goals
            rcases HM with hna | ⟨hca2, hncb⟩ | ⟨hca2, hcb, hM, hN⟩ | ⟨hca2, hcb, Z, hM, hN, g3, c3, i1, i2⟩
        all_goals first | exact absurd hca hna | skip
        all_goals first
          | (simp only [Prod.mk.injEq] at hx1 hx2; obtain ⟨rfl, rfl⟩ := hx1; obtain ⟨rfl, rfl⟩ := hx2; have c2 := m_SameLines (Y1.take X1.length) X1 (by rw [List.length_take]; omega) (by omega); rw [decide_eq_true hp2] at c2)
          | skip
        all_goals first
          | (simp only [Prod.mk.injEq] at hM hN; obtain ⟨rfl, rfl⟩ := hM; obtain ⟨rfl, rfl⟩ := hN)
          | (simp only [Prod.mk.injEq] at hN; obtain ⟨rfl, rfl⟩ := hN)
          | skip
        all_goals
          repeat (any_goals (first | (apply w_any; (first | refine RT.nil ?_ | (apply w_g; (first | refine RT.gy rfl ?_ | refine RT.gn rfl rfl ?_ | refine RT.gu rfl ?_ | refine RT.gcY rfl rfl rfl (by first | assumption | omega) ?_ | refine RT.gcN rfl rfl rfl (by first | assumption | omega) ?_)) | refine RT.mvA ?_ | refine RT.asA ?_ | refine RT.ldA ?_ | refine RT.bnA ?_ | (apply w_cl; (first | (refine d_call ?_; refine RT.v (f_min rfl rfl) ?_) | refine RT.callM rfl (hh) rfl rfl ?_ | refine RT.callM rfl (h1) rfl rfl ?_ | refine RT.callM rfl (h2) rfl rfl ?_ | refine RT.callM rfl (h3) rfl rfl ?_ | refine RT.callM rfl (a1) rfl rfl ?_ | refine RT.callM rfl (b1) rfl rfl ?_ | refine RT.callM rfl (c1) rfl rfl ?_ | refine RT.callM rfl (k1) rfl rfl ?_ | refine RT.callM rfl (k2) rfl rfl ?_ | refine RT.callM rfl (c2) rfl rfl ?_ | refine RT.callM rfl (e1) rfl rfl ?_ | refine RT.callM rfl (e2) rfl rfl ?_ | refine RT.callM rfl (g1) rfl rfl ?_ | refine RT.callM rfl (g2) rfl rfl ?_ | refine RT.callM rfl (g3) rfl rfl ?_ | refine RT.callM rfl (c3) rfl rfl ?_ | refine RT.callM rfl (i1) rfl rfl ?_ | refine RT.callM rfl (i2) rfl rfl ?_ | refine RT.clA ?_)) | refine RT.pkA ?_ | refine RT.exA ?_ | refine RT.unA ?_ | refine RT.nwA ?_ | refine RT.v (f_slHi (k := X1.length) rfl rfl rfl hp1 rfl) ?_ | refine RT.v (f_conv (a := t) rfl rfl rfl (by omega) (by omega)) ?_ | refine RT.v (f_addWr rfl rfl) ?_)) | (apply v_any; (first | refine VT.seq rfl ?_ | refine VT.reg rfl ?_ | refine VT.condT rfl rfl ?_ | refine VT.condF rfl rfl ?_ | refine VT.skip rfl ?_ | refine VT.ret rfl ?_ | refine VT.condY rfl rfl (by first | assumption | omega) ?_ | refine VT.condN rfl rfl (by first | assumption | omega) ?_)) | with_reducible (refine kSr ?_) | (with_reducible refine d_kEr ?_; refine kEr rfl ?_)))
          rfl
end Go.DL
