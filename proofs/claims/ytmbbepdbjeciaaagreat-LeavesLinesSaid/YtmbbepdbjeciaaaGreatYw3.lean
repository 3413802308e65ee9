/- Write of both programs. -/
import Derived.Test.YtmbbepdbjeciaaaGreatYw2
set_option maxRecDepth 100000
set_option maxHeartbeats 16000000
namespace Go.DL
open Go.Proofs Go
def WriteS (s : Shape) (l : List Line) : List (List Int) × Int :=
  if CheckS s = 0 then (if CheckLinesS l = 0 then (match writeS s l with | some r => (r, 0) | none => ([], 2)) else ([], CheckLinesS l)) else ([], 1)
theorem m_Write (s : Shape) (l : List Line) (hl : l.length ≤ 4611686018427387904) : Maps Tryz.prog 34 [dSh s, .sl (l.map eLine)] (.tup [.fl ((WriteS s l).1.map eRow), wI (WriteS s l).2]) := by
  refine Maps.vt pok Tryz.f34 (n := 29) (rs := [.tmp 4, .tmp 5]) rfl rfl rfl rfl rfl rfl fun g => ?_
  have hk := m_Check s
  have hc := m_CheckLines l hl
  unfold WriteS
  rcases CheckS_cases s with ⟨e, h⟩ | ⟨e, h⟩
  · rw [e] at hk ⊢
    rw [if_pos rfl]
    by_cases h2 : CheckLinesS l = 0
    · rw [h2] at hc ⊢
      rw [if_pos rfl]
      have hok := (checkLines_iff l).1 h2
      have hw := m_write s h l hok.1 hok.ok
      cases q : writeS s l with
      | some r =>
        rw [q] at hw
        repeat (any_goals (first | (apply w_any; (first | refine RT.nil ?_ | refine RT.mvA ?_ | refine RT.asA ?_ | refine RT.ldA ?_ | refine RT.bnA ?_ | (apply w_cl; (first | refine RT.callM rfl (hk) rfl rfl ?_ | refine RT.callM rfl (hc) rfl rfl ?_ | refine RT.callM rfl ((show Maps _ _ _ (D.tup [.fl (r.map eRow), wB true]) from hw)) rfl rfl ?_)) | refine RT.exA ?_ | refine RT.unA ?_ | refine RT.nwA ?_)) | (apply v_any; (first | refine VT.seq rfl ?_ | refine VT.reg rfl ?_ | refine VT.condF rfl rfl ?_ | refine VT.skip rfl ?_ | refine VT.ret rfl ?_)) | (with_reducible refine d_kEr ?_; refine kEr rfl ?_)))
        rfl
      | none =>
        rw [q] at hw
        repeat (any_goals (first | (apply w_any; (first | refine RT.nil ?_ | refine RT.mvA ?_ | refine RT.asA ?_ | refine RT.ldA ?_ | refine RT.bnA ?_ | (apply w_cl; (first | refine RT.callM rfl (hk) rfl rfl ?_ | refine RT.callM rfl (hc) rfl rfl ?_ | refine RT.callM rfl ((show Maps _ _ _ (D.tup [.fl [], wB false]) from hw)) rfl rfl ?_)) | refine RT.exA ?_ | refine RT.unA ?_ | refine RT.nwA ?_)) | (apply v_any; (first | refine VT.seq rfl ?_ | refine VT.reg rfl ?_ | refine VT.condT rfl rfl ?_ | refine VT.condF rfl rfl ?_ | refine VT.skip rfl ?_ | refine VT.ret rfl ?_)) | with_reducible (refine kSr ?_) | (with_reducible refine d_kEr ?_; refine kEr rfl ?_)))
        rfl
    · rw [if_neg h2]
      repeat (any_goals (first | (apply w_any; (first | refine RT.nil ?_ | refine RT.mvA ?_ | refine RT.asA ?_ | refine RT.ldA ?_ | refine RT.bnA ?_ | (apply w_cl; (first | refine RT.callM rfl (hk) rfl rfl ?_ | refine RT.callM rfl (hc) rfl rfl ?_)) | refine RT.nwA ?_)) | (apply v_any; (first | refine VT.seq rfl ?_ | refine VT.reg rfl ?_ | refine VT.condF rfl rfl ?_ | refine VT.skip rfl ?_ | refine VT.ret rfl ?_ | refine VT.condY rfl rfl (by first | assumption | omega) ?_)) | with_reducible (refine kSr ?_) | (with_reducible refine d_kEr ?_; refine kEr rfl ?_)))
      rfl
  · rw [e] at hk ⊢
    rw [if_neg (by decide)]
    repeat (any_goals (first | (apply w_any; (first | refine RT.nil ?_ | refine RT.mvA ?_ | refine RT.asA ?_ | refine RT.ldA ?_ | refine RT.bnA ?_ | refine RT.callM rfl (hk) rfl rfl ?_ | refine RT.nwA ?_)) | (apply v_any; (first | refine VT.seq rfl ?_ | refine VT.reg rfl ?_ | refine VT.condT rfl rfl ?_ | refine VT.ret rfl ?_)) | with_reducible (refine kSr ?_) | (with_reducible refine d_kEr ?_; refine kEr rfl ?_)))
    rfl
theorem RQ.other {H : List Blk} {b p : Nat} {qs : List (Nat × List Int)} (h : RQ H b qs) (hb : p ≠ b) (hp : ∀ q, q ∈ qs → p ≠ q.1) (x : Blk) : RQ (H.set p x) b qs :=
  ⟨hg_ne h.rows hb, fun q hq => ⟨hg_ne (h.row q hq).1 (hp q hq), (h.row q hq).2⟩⟩
theorem RQ.app {H : List Blk} {b : Nat} {qs : List (Nat × List Int)} (h : RQ H b qs) (T : List Blk) : RQ (H ++ T) b qs :=
  ⟨hg_app T h.rows, fun q hq => ⟨hg_app T (h.row q hq).1, (h.row q hq).2⟩⟩
/-- A row that is filled from its start. -/
def cpS (row : List Int) (W j : Nat) : List Int := row.take j ++ List.replicate (W - j) 0
theorem cpS_zero (row : List Int) (W : Nat) : cpS row W 0 = List.replicate W 0 := by simp [cpS]
theorem cpS_len {row : List Int} {W j : Nat} (hr : row.length = W) (hj : j ≤ W) : (cpS row W j).length = W := by simp [cpS, hr]; omega
theorem cpS_set {row : List Int} {W j : Nat} (hr : row.length = W) (hj : j < W) : (cpS row W j).set j (row[j]'(by omega)) = cpS row W (j + 1) := by
  have h1 : (row.take j).length = j := by rw [List.length_take]; omega
  obtain ⟨q, hq⟩ : ∃ q, W - j = q + 1 := ⟨W - j - 1, by omega⟩
  rw [cpS, List.set_append_right _ _ (by omega), h1, Nat.sub_self, hq, List.replicate_succ, List.set_cons_zero, cpS, List.take_succ_eq_append_getElem (by omega), show W - (j + 1) = q by omega, List.append_assoc]
  rfl
theorem cpS_all {row : List Int} {W j : Nat} (hr : row.length = W) (hj : j ≤ W) (hz : ∀ i, j ≤ i → (hi : i < row.length) → row[i] = 0) : cpS row W j = row := by
  unfold cpS
  refine List.ext_getElem (by simp [hr]; omega) fun i h1 h2 => ?_
  by_cases h : i < j
  · rw [List.getElem_append_left (by rw [List.length_take]; omega), List.getElem_take]
  · rw [List.getElem_append_right (by rw [List.length_take]; omega), List.getElem_replicate, hz i (by omega) h2]
theorem row_get {D k W i n : Nat} {w : List Int} (hn : n = D * W) (hw : w.length ≤ n) (hk : k < D) (hi : i < W) (h : i < (((padS n w).take ((k + 1) * W)).drop (k * W)).length) :
    (((padS n w).take ((k + 1) * W)).drop (k * W))[i] = w.getD (k * W + i) 0 := by
  have hpl := padS_len hw
  rw [List.getElem_drop, List.getElem_take]
  unfold padS
  rw [List.getD_eq_getElem?_getD]
  by_cases h2 : k * W + i < w.length
  · rw [List.getElem_append_left h2, List.getElem?_eq_getElem h2]; rfl
  · rw [List.getElem_append_right (by omega), List.getElem_replicate, List.getElem?_eq_none (by omega)]; rfl
theorem resA_cell1 {P : Program} {n b x sz m : Nat} {t : TypeId} {a : AL} {H : List Blk} {e : List D} (h1 : lkN n a b = .mp x 0 0) (h2 : H[x]? = some (.live sz [e])) (ht : isAggD P t = some true) (hs : tsz P t = some m) (hn : e.length = m) : resA P [.cell b t] n a H = some (.agg e) := by
  subst hn
  have h3 : loadD P H t (.mp x 0 0) = some (.agg e) := by
    simp [loadD, peek, takeD, ht, hs, h2]
  simp [resA, resAL, resA1, h1, h3]
theorem m_RWrite (s : Shape) (l : List Line) (hl : l.length ≤ 4611686018427387904) : Maps Tryz.prog 35 [dSh s, .sl (l.map eLine)] (.agg [.fl ((WriteS s l).1.map eRow), wI (WriteS s l).2]) := by
  refine Maps.vt pok Tryz.f35 (n := 76) (rs := [.cell 4 60]) rfl rfl rfl rfl rfl rfl fun g => ?_
  have hk := m_RCheck s
  have hc := m_RCheckLines l hl
  unfold WriteS
  rcases CheckS_cases s with ⟨e, h⟩ | ⟨e, h⟩
  · rw [e] at hk ⊢
    rw [if_pos rfl]
    by_cases h2 : CheckLinesS l = 0
    · rw [h2] at hc ⊢
      rw [if_pos rfl]
      have hok := (checkLines_iff l).1 h2
      obtain ⟨sd, sc, sw⟩ := s
      obtain ⟨⟨h1, h2⟩, h3, h4, h5⟩ := h
      obtain ⟨D, rfl⟩ : ∃ D : Nat, sd = D := Int.eq_ofNat_of_zero_le (by dsimp only at h1; omega)
      obtain ⟨W, rfl⟩ : ∃ W : Nat, sw = W := Int.eq_ofNat_of_zero_le (by dsimp only at h4; omega)
      dsimp only at h1 h2 h4 h5
      have hDW : D * W ≤ 640 := Nat.mul_le_mul (show D ≤ 20 by omega) (show W ≤ 32 by omega)
      have hm : (D : Int) * (W : Int) = ((D * W : Nat) : Int) := (Int.natCast_mul D W).symm
      have hl60 := hok.1
      have hw := c_RWords (H := [.live 3 [eShape ⟨D, sc, W⟩], .live 2 [[.nil, wI 0]]]) (x := .sl (l.map eLine)) (l := l) rfl (by omega) hok.ok
      have hw7 := words_len1 (l := l) (by omega)
      unfold writeS
      dsimp only
      rw [Int.toNat_natCast, Int.toNat_natCast]
      generalize wordsS l = w at hw hw7 ⊢
      by_cases hfit : w.length ≤ D * W
      · rw [if_pos hfit]
        have hrg : ∀ {k i : Nat} (hk : k < D) (hi : i < W) (h : i < (((padS (D * W) w).take ((k + 1) * W)).drop (k * W)).length), (((padS (D * W) w).take ((k + 1) * W)).drop (k * W))[i] = w.getD (k * W + i) 0 := fun hk hi h => row_get rfl hfit hk hi h
        have hpl := padS_len hfit
        generalize padS (D * W) w = pw at hpl hrg ⊢
        repeat (any_goals (first | (apply w_any; (first | refine RT.nil ?_ | refine RT.mvA ?_ | refine RT.asA ?_ | refine RT.ldA ?_ | refine RT.faA ?_ | (apply w_bn; (first | refine RT.v (f_mul (a := (D : Int)) (b := (W : Int)) rfl rfl (by omega) (by omega)) ?_ | refine RT.v (f_gtrF rfl rfl (by omega)) ?_ | refine RT.bnA ?_)) | (apply w_cl; (first | (refine d_call ?_; refine RT.callS rfl hw rfl rfl rfl ?_) | refine RT.callM rfl (hk) rfl rfl ?_ | refine RT.callM rfl (hc) rfl rfl ?_ | refine RT.clA ?_)) | refine RT.nwA ?_ | refine RT.nwA ?_)) | (apply v_any; (first | refine VT.seq rfl ?_ | refine VT.reg rfl ?_ | refine VT.condT rfl rfl ?_ | refine VT.condF rfl rfl ?_ | refine VT.block rfl ?_ | refine VT.skip rfl ?_))))
        refine VT.phantom (i := 7) (s := 4) 1 rfl rfl rfl ?_
        refine VT.loop (fun j a H g' => ∃ (k b m : Nat) (qs : List (Nat × List Int)), j = D - k ∧ k ≤ D ∧ H[0]? = some (.live 3 [[wI D, wI sc, wI W]]) ∧ H[1]? = some (.live 2 [[.nil, wI 0]]) ∧ H[3]? = some (.live 1 (w.map eI)) ∧ RQ H b qs ∧ 4 ≤ b ∧ m = qs.length ∧ m = k ∧ qs.map (·.2) = rowsOf k W pw ∧ a = [(2, .mp 0 0 0), (4, .mp 1 0 0), (6, .ms 3 0 w.length w.length), (7, .ms b 0 m m), (8, wI k)] ∧ g' = g) rfl
          ⟨_, _, _, ⟨0, 4, 0, [], rfl, Nat.zero_le _, rfl, rfl, rfl, ⟨rfl, fun _ h => by cases h⟩, by omega, rfl, rfl, rfl, rfl, rfl⟩, Wk.keep (by (repeat first | exact True.intro | refine And.intro ?_ ?_ | exact Or.inr (Or.inl rfl) | exact Or.inl rfl | (refine DLe.i rfl ?_; omega) | (refine DLe.i rfl ?_; simp; done)))⟩ ?_
        rintro j a H g' ⟨k, b, m, qs, rfl, hkD, hb0, hb1, hb3, hq, hb4, hm1, hmk, hqs, rfl, rfl⟩
        have hH3 := hg_lt hb3
        have hHb := hg_lt hq.rows
        by_cases hlt : k < D
        · have hkW : k * W ≤ D * W := Nat.mul_le_mul_right _ (by omega)
          have e1 : (k : Int) * (W : Int) = ((k * W : Nat) : Int) := (Int.natCast_mul k W).symm
          have hrl := row_len hpl hlt
          have hrk : ∀ {i : Nat} (hi : i < W) (h : i < ((pw.take ((k + 1) * W)).drop (k * W)).length), ((pw.take ((k + 1) * W)).drop (k * W))[i] = w.getD (k * W + i) 0 := fun hi h => hrg hlt hi h
          generalize hrow : (pw.take ((k + 1) * W)).drop (k * W) = row at hrl hrk
          have hb2 : (H ++ [.live 1 (row.map eI), .live 1 [[.ms H.length 0 W W]]])[H.length + 1]? = some (.live 1 ([(H.length, row)].map eQ)) := by
            show _ = some (Blk.live 1 [[.ms H.length 0 row.length row.length]])
            rw [hrl]; exact hg_at (t := 1) rfl rfl
          have hp := hq.push (T := [.live 1 (row.map eI), .live 1 [[.ms H.length 0 W W]]]) (p := H.length) (row := row) (hg_at (t := 0) rfl rfl) (by omega)
          rw [List.length_append] at hp
          repeat (any_goals (first | (apply w_any; (first | refine RT.nil ?_ | refine RT.mvA ?_ | refine RT.asA ?_ | refine RT.v (f_ldO rfl hb0 rfl rfl rfl) ?_ | refine RT.faA ?_ | refine RT.bnA ?_ | refine RT.new (s := H.length) rfl (f_make (z := [wI 0]) (sz := 1) (m := W) (by' := 8) rfl rfl rfl rfl rfl (by decide) rfl rfl (by omega) (by omega)) rfl ?_)) | (apply v_any; (first | refine VT.seq rfl ?_ | refine VT.reg rfl ?_ | refine VT.block rfl ?_ | refine VT.skip rfl ?_ | refine VT.condY rfl rfl (by first | assumption | omega) ?_))))
          refine VT.loop (fun jj a H1 g2 => ∃ i : Nat, jj = W - i ∧ i ≤ W ∧ H1 = H ++ [.live 1 ((cpS row W i).map eI)] ∧ a = [(2, .mp 0 0 0), (4, .mp 1 0 0), (6, .ms 3 0 w.length w.length), (7, .ms b 0 m m), (8, wI k), (9, .ms H.length 0 W W), (10, wI i)] ∧ g2 = g') rfl
            ⟨_, _, _, ⟨0, rfl, Nat.zero_le _, by rw [cpS_zero, List.map_replicate]; rfl, rfl, rfl⟩, Wk.keep (by (repeat first | exact True.intro | refine And.intro ?_ ?_ | exact Or.inr (Or.inl rfl) | exact Or.inl rfl | (refine DLe.i rfl ?_; omega) | (refine DLe.i rfl ?_; simp; done)))⟩ ?_
          rintro jj a H1 g2 ⟨i, rfl, hiW, rfl, rfl, rfl⟩
          by_cases hgo : i < W ∧ k * W + i < w.length
          · obtain ⟨hi, hx⟩ := hgo
            have hself : (H ++ [.live 1 ((cpS row W i).map eI)])[H.length]? = some (.live 1 ((cpS row W i).map eI)) := hg_at (t := 0) rfl rfl
            have hset : (cpS row W i).set i (w.getD (k * W + i) 0) = cpS row W (i + 1) := by
              rw [← hrk hi (by omega), cpS_set hrl hi]
            repeat (any_goals (first | (apply w_any; (first | refine RT.nil ?_ | (apply w_g; (first | refine RT.gy rfl ?_ | refine RT.gcY rfl rfl rfl (by first | assumption | omega) ?_)) | refine RT.mvA ?_ | refine RT.asA ?_ | (apply w_ld; (first | refine RT.v (f_ldO rfl (hg_app _ hb0) rfl rfl rfl) ?_ | refine RT.v (f_ldWD (k := k * W + i) rfl (hg_app _ hb3) (by omega) rfl) ?_)) | refine RT.faA ?_ | (apply w_bn; (first | refine RT.v (f_mul (a := (k : Int)) (b := (W : Int)) rfl rfl (by omega) (by omega)) ?_ | refine RT.bnA ?_)) | refine RT.clA ?_ | refine RT.pkA ?_ | (apply w_ix; (first | refine RT.v (f_ixO0 (k := k * W + i) rfl rfl (by omega) (hg_app _ hb3) rfl (by omega)) ?_ | refine RT.v (f_ixO0 (k := i) rfl rfl rfl hself rfl hi) ?_)) | refine RT.wr (f_stW (k := i) (a := w.getD (k * W + i) 0) rfl hself (by rw [cpS_len hrl hiW]; exact hi) rfl rfl) (H' := H ++ [.live 1 ((cpS row W (i + 1)).map eI)]) (by rw [hset]; exact setLen (i := 0) rfl rfl) ?_)) | (apply v_any; (first | refine VT.seq rfl ?_ | refine VT.reg rfl ?_ | refine VT.block rfl ?_ | refine VT.skip rfl ?_ | refine VT.condY rfl rfl (by first | assumption | omega) ?_)) | with_reducible (refine kLn ?_)))
            exact ⟨W - (i + 1), by omega, _, _, ⟨i + 1, rfl, hi, rfl, rfl, rfl⟩, Wk.keep (by (repeat first | exact True.intro | refine And.intro ?_ ?_ | exact Or.inr (Or.inl rfl) | exact Or.inl rfl | (refine DLe.i rfl ?_; omega) | (refine DLe.i rfl ?_; simp; done)))⟩
          · have hall : cpS row W i = row := cpS_all hrl hiW fun q hq hqi => by
              rw [hrk (by omega) hqi, List.getD_eq_getElem?_getD, List.getElem?_eq_none (by omega)]; rfl
            rw [hall]
            rcases Nat.lt_or_ge i W with hi | hi
            · repeat (any_goals (first | (apply w_any; (first | refine RT.nil ?_ | (apply w_g; (first | refine RT.gy rfl ?_ | refine RT.gcY rfl rfl rfl (by first | assumption | omega) ?_)) | refine RT.mvA ?_ | refine RT.asA ?_ | refine RT.v (f_ldO rfl (hg_app _ hb0) rfl rfl rfl) ?_ | refine RT.faA ?_ | (apply w_bn; (first | refine RT.v (f_mul (a := (k : Int)) (b := (W : Int)) rfl rfl (by omega) (by omega)) ?_ | refine RT.bnA ?_)) | (apply w_cl; (first | refine RT.ap (s := H.length + 2) (by simp) (f_appT (f := eQ) (o := qs) (v := [(H.length, row)]) (mm := m + 1) (by' := 24) rfl rfl (hg_app _ hq.rows) (by rw [List.take_of_length_le (by simp; omega)]) (by simp; omega) hb2 hm1 rfl (by simp; omega) rfl (by decide) rfl rfl (fun _ => ⟨rfl, rfl⟩) (by simp; omega) (by simp; omega)) rfl ?_ | refine RT.clA ?_)) | refine RT.pkA ?_ | refine RT.new (s := H.length + 1) (by simp) (f_bslC1 (d := .ms H.length 0 W W) (z := .nil) rfl rfl rfl rfl rfl) (H' := H ++ [.live 1 (row.map eI), .live 1 [[.ms H.length 0 W W]]]) (by simp) ?_)) | (apply v_any; (first | refine VT.seq rfl ?_ | refine VT.reg rfl ?_ | refine VT.exit rfl ?_ | refine VT.condN rfl rfl (by first | assumption | omega) ?_)) | with_reducible (refine kLn ?_)))
              exact ⟨D - (k + 1), by omega, _, _, ⟨k + 1, H.length + 2, m + 1, qs ++ [(H.length, row)], rfl, hlt, hg_app _ (hg_ne (hg_app _ hb0) (by omega)), hg_app _ (hg_ne (hg_app _ hb1) (by omega)), hg_app _ (hg_ne (hg_app _ hb3) (by omega)), hp, by omega, by simp; omega, by omega, by rw [List.map_append, hqs, rowsOf_succ, hrow]; rfl, rfl, rfl⟩, Wk.keep (by (repeat first | exact True.intro | refine And.intro ?_ ?_ | exact Or.inr (Or.inl rfl) | exact Or.inl rfl | (refine DLe.i rfl ?_; omega) | (refine DLe.i rfl ?_; simp; done)))⟩
            · repeat (any_goals (first | (apply w_any; (first | refine RT.nil ?_ | (apply w_g; (first | refine RT.gn rfl rfl ?_ | refine RT.gcN rfl rfl rfl (by first | assumption | omega) ?_)) | refine RT.mvA ?_ | refine RT.asA ?_ | refine RT.v (f_ldO rfl (hg_app _ hb0) rfl rfl rfl) ?_ | refine RT.faA ?_ | refine RT.bnA ?_ | refine RT.ap (s := H.length + 2) (by simp) (f_appT (f := eQ) (o := qs) (v := [(H.length, row)]) (mm := m + 1) (by' := 24) rfl rfl (hg_app _ hq.rows) (by rw [List.take_of_length_le (by simp; omega)]) (by simp; omega) hb2 hm1 rfl (by simp; omega) rfl (by decide) rfl rfl (fun _ => ⟨rfl, rfl⟩) (by simp; omega) (by simp; omega)) rfl ?_ | refine RT.pkA ?_ | refine RT.new (s := H.length + 1) (by simp) (f_bslC1 (d := .ms H.length 0 W W) (z := .nil) rfl rfl rfl rfl rfl) (H' := H ++ [.live 1 (row.map eI), .live 1 [[.ms H.length 0 W W]]]) (by simp) ?_)) | (apply v_any; (first | refine VT.seq rfl ?_ | refine VT.reg rfl ?_ | refine VT.condF rfl rfl ?_ | refine VT.exit rfl ?_)) | with_reducible (refine kLn ?_)))
              exact ⟨D - (k + 1), by omega, _, _, ⟨k + 1, H.length + 2, m + 1, qs ++ [(H.length, row)], rfl, hlt, hg_app _ (hg_ne (hg_app _ hb0) (by omega)), hg_app _ (hg_ne (hg_app _ hb1) (by omega)), hg_app _ (hg_ne (hg_app _ hb3) (by omega)), hp, by omega, by simp; omega, by omega, by rw [List.map_append, hqs, rowsOf_succ, hrow]; rfl, rfl, rfl⟩, Wk.keep (by (repeat first | exact True.intro | refine And.intro ?_ ?_ | exact Or.inr (Or.inl rfl) | exact Or.inl rfl | (refine DLe.i rfl ?_; omega) | (refine DLe.i rfl ?_; simp; done)))⟩
        · obtain rfl : k = D := by omega
          repeat (any_goals (first | (apply w_any; (first | refine RT.nil ?_ | refine RT.mvA ?_ | refine RT.ldH ?_ | refine RT.faA ?_ | refine RT.bnA ?_ | refine RT.wr (f_stA rfl hb1 rfl rfl rfl rfl rfl (by decide) rfl) rfl ?_ | refine RT.v (f_build (d := .agg [.ms b 0 m m, wI 0]) rfl) ?_)) | (apply v_any; (first | refine VT.seq rfl ?_ | refine VT.reg rfl ?_ | refine VT.exit rfl ?_ | refine VT.ret rfl ?_ | refine VT.condN rfl rfl (by first | assumption | omega) ?_))))
          refine kEr (resA_cell1 (sz := 2) (e := [.ms b 0 m m, wI 0]) rfl (List.getElem?_set_self (hg_lt hb1)) rfl rfl rfl) ?_
          have hq2 := hq.other (p := 1) (by omega) (fun q hq3 e => by have := (hq.row q hq3).1; rw [← e, hb1] at this; cases this) (.live 2 [[.ms b 0 m m, wI 0]])
          exact congrArg (fun x => DL.D.agg [x, wI 0]) ((hq2.snapR hm1 1).trans (by rw [hqs]))
      · rw [if_neg hfit]
        repeat (any_goals (first | (apply w_any; (first | refine RT.nil ?_ | refine RT.mvA ?_ | refine RT.asA ?_ | refine RT.ldA ?_ | refine RT.faA ?_ | (apply w_bn; (first | refine RT.v (f_mul (a := (D : Int)) (b := (W : Int)) rfl rfl (by omega) (by omega)) ?_ | refine RT.v (f_gtrT rfl rfl (by omega)) ?_ | refine RT.bnA ?_)) | (apply w_cl; (first | (refine d_call ?_; refine RT.callS rfl hw rfl rfl rfl ?_) | refine RT.callM rfl (hk) rfl rfl ?_ | refine RT.callM rfl (hc) rfl rfl ?_ | refine RT.clA ?_)) | refine RT.stA ?_ | refine RT.nwA ?_ | refine RT.nwA ?_ | refine RT.msA ?_)) | (apply v_any; (first | refine VT.seq rfl ?_ | refine VT.reg rfl ?_ | refine VT.condT rfl rfl ?_ | refine VT.condF rfl rfl ?_ | refine VT.skip rfl ?_ | refine VT.ret rfl ?_)) | with_reducible (refine kSr ?_) | (with_reducible refine d_kEr ?_; refine kEr rfl ?_)))
        rfl
    · rw [if_neg h2]
      repeat (any_goals (first | (apply w_any; (first | refine RT.nil ?_ | refine RT.mvA ?_ | refine RT.asA ?_ | refine RT.ldA ?_ | refine RT.bnA ?_ | (apply w_cl; (first | refine RT.callM rfl (hk) rfl rfl ?_ | refine RT.callM rfl (hc) rfl rfl ?_)) | refine RT.stA ?_ | refine RT.nwA ?_ | refine RT.nwA ?_ | refine RT.msA ?_)) | (apply v_any; (first | refine VT.seq rfl ?_ | refine VT.reg rfl ?_ | refine VT.condT rfl rfl ?_ | refine VT.ret rfl ?_ | refine VT.condY rfl rfl (by first | assumption | omega) ?_)) | with_reducible (refine kSr ?_) | (with_reducible refine d_kEr ?_; refine kEr rfl ?_)))
      rfl
  · rw [e] at hk ⊢
    rw [if_neg (by decide)]
    repeat (any_goals (first | (apply w_any; (first | refine RT.nil ?_ | refine RT.mvA ?_ | refine RT.asA ?_ | refine RT.ldA ?_ | refine RT.bnA ?_ | refine RT.callM rfl (hk) rfl rfl ?_ | refine RT.stA ?_ | refine RT.nwA ?_ | refine RT.nwA ?_ | refine RT.msA ?_)) | (apply v_any; (first | refine VT.seq rfl ?_ | refine VT.reg rfl ?_ | refine VT.condT rfl rfl ?_ | refine VT.condF rfl rfl ?_ | refine VT.skip rfl ?_ | refine VT.ret rfl ?_)) | with_reducible (refine kSr ?_) | (with_reducible refine d_kEr ?_; refine kEr rfl ?_)))
    rfl
end Go.DL
