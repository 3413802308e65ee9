/- A polynomial from points with few faults. -/
import Derived.Test.YtmbbepdbjeciaaaGreatZp1
import Derived.Test.YtmbbepdbjeciaaaGreatZo
import Derived.Test.YtmbbepdbjeciaaaGreatE12
set_option linter.all false
set_option maxRecDepth 100000
set_option maxHeartbeats 16000000
namespace Go.DL
open Go.Proofs Go

def dotP2 (d : Dot) : Int × Int := (d.X, d.Y)
theorem m_decoded {k e : Nat} {ds : List Dot} (hk : k + 2 * e ≤ ds.length) (hl : ds.length ≤ 1000) (hW : ∀ d, d ∈ ds → W d.X ∧ W d.Y) (hA : DM.Apart ((ds.map dotP2).map Prod.fst)) :
    (∀ c, DM.decS k e (ds.map dotP2) = some c → Maps Tryz.prog 132 [.sl (ds.map eDot), wI k, wI e] (.tup [.fl (c.map eI), wB true])) ∧ (DM.decS k e (ds.map dotP2) = none → Maps Tryz.prog 132 [.sl (ds.map eDot), wI k, wI e] (.tup [.any, wB false])) := by
  suffices h : ∀ r, r = (match DM.decS k e (ds.map dotP2) with | some c => D.tup [.fl (c.map eI), wB true] | none => .tup [.any, wB false]) → Maps Tryz.prog 132 [.sl (ds.map eDot), wI k, wI e] r from
    ⟨fun c hc => h _ (by rw [hc]), fun hc => h _ (by rw [hc])⟩
  intro res hres
  refine Maps.vt pok Tryz.f132 (n := 109) (rs := [.tmp 6, .tmp 7]) rfl rfl rfl rfl rfl rfl fun g => ?_
  repeat (any_goals (first | (refine d_RT ?_; (first | refine RT.nil ?_ | refine RT.mvA ?_ | refine RT.asA ?_ | refine RT.clA ?_)) | (refine d_VT ?_; (first | refine VT.seq rfl ?_ | refine VT.reg rfl ?_ | refine VT.block rfl ?_))))
  refine VT.phantom (i := 8) (s := 0) (H' := [.live 1 []]) 1 rfl rfl rfl ?_
  obtain ⟨n, hn⟩ : ∃ n, n = k + 2 * e := ⟨_, rfl⟩
  refine VT.loop (fun j a H g' => ∃ (i b : Nat) (qs : List Nat), j = ds.length - i ∧ i ≤ ds.length ∧ qs.length = i ∧ RW H b n qs (((ds.take i).map dotP2).map (DM.keyRow k e)) ∧ a = [(0, .sl (ds.map eDot)), (1, wI k), (2, wI e), (8, .ms b 0 i i), (18, .sl (ds.map eDot)), (19, wI ds.length), (20, wI i)] ∧ g' = g) rfl
    ⟨_, _, _, ⟨0, 0, [], rfl, Nat.zero_le _, rfl, RW.nil rfl, rfl, rfl⟩, Wk.keep (by (repeat first | exact True.intro | refine And.intro ?_ ?_ | exact Or.inr (Or.inl rfl) | exact Or.inl rfl | (refine DLe.i rfl ?_; omega) | (refine DLe.i rfl ?_; simp; done)))⟩ ?_
  rintro j a H g' ⟨i, b, qs, rfl, hi, hqs, hR, rfl, rfl⟩
  by_cases hlt : i < ds.length
  · obtain ⟨hX, hY⟩ := hW ds[i] (List.getElem_mem hlt)
    have hmake : (H ++ [Blk.live 2 [[wI 0, wI 0]]])[H.length]? = some (.live 2 [[wI 0, wI 0]]) := blk_at (t := 0) rfl rfl
    have hdot : (H ++ [Blk.live 2 [[wI ds[i].X, wI ds[i].Y]]])[H.length]? = some (.live 2 [[wI ds[i].X, wI ds[i].Y]]) := blk_at (t := 0) rfl rfl
    repeat (any_goals (first | (refine d_RT ?_; (first | refine RT.nil ?_ | (refine d_call ?_; refine RT.callS rfl (c_power _ _) rfl (d2 := D.fn (.func 143) [] [.mp (H.length + 1) 0 0]) (by rw [List.length_append]; rfl) (H2 := H ++ [.live 2 [[wI ds[i].X, wI ds[i].Y]], .live 1 [[wI ds[i].X]]]) (by rw [List.append_assoc]; rfl) ?_) | refine RT.wr (f_stA rfl hmake rfl rfl rfl rfl rfl (by decide) rfl) (setLen (i := 0) (T' := [.live 2 [[wI ds[i].X, wI ds[i].Y]]]) rfl rfl) ?_ | refine RT.v (f_ldO rfl hdot rfl rfl rfl) ?_ | refine RT.new (s := H.length + 2) (by simp) (f_makeC (z := [wI 0]) (sz := 1) (k := 0) (m := n + 1) (by' := 8) rfl rfl rfl rfl rfl (by decide) rfl rfl (by omega) (by omega) (by omega) (by omega)) (H' := H ++ [.live 2 [[wI ds[i].X, wI ds[i].Y]], .live 1 [[wI ds[i].X]], .live 1 (List.replicate (n + 1) [wI 0])]) (by rw [List.append_assoc]; rfl) ?_ | refine RT.mvA ?_ | refine RT.asA ?_ | refine RT.ldA ?_ | refine RT.faA ?_ | refine RT.bnA ?_ | refine RT.ixA ?_ | refine RT.nwA ?_)) | (refine d_VT ?_; (first | refine VT.seq rfl ?_ | refine VT.reg rfl ?_ | refine VT.condY rfl rfl (by first | assumption | omega) ?_ | refine VT.block rfl ?_ | refine VT.skip rfl ?_))))
    have h0 := IW.start hR (X := ds[i].X) (Y := ds[i].Y) (es := List.replicate (n + 1) [wI 0])
    clear hmake hdot hR
    generalize H ++ [Blk.live 2 [[wI ds[i].X, wI ds[i].Y]], .live 1 [[wI ds[i].X]], .live 1 (List.replicate (n + 1) [wI 0])] = H1 at h0 ⊢
    generalize H.length + 2 = q0 at h0 ⊢
    generalize H.length + 1 = pw at h0 ⊢
    generalize H.length = dt at h0 ⊢
    obtain ⟨M, hM⟩ : ∃ M, M = ((ds.take i).map dotP2).map (DM.keyRow k e) := ⟨_, rfl⟩
    rw [← hM] at h0
    refine VT.loop (fun jj a H g2 => ∃ (j q cap : Nat), jj = k + e - j ∧ j ≤ k + e ∧ IW H b n qs M dt pw ds[i].X ds[i].Y q ((List.range j).map (DM.pw ds[i].X)) ∧ a = [(0, .sl (ds.map eDot)), (1, wI k), (2, wI e), (8, .ms b 0 i i), (18, .sl (ds.map eDot)), (19, wI ds.length), (20, wI i), (10, .mp dt 0 0), (11, .fn (.func 143) [] [.mp pw 0 0]), (12, .ms q 0 j cap), (35, wI (k + e : Nat)), (36, wI j)] ∧ g2 = g') rfl
      ⟨_, _, _, ⟨0, q0, n + 1, rfl, Nat.zero_le _, h0, rfl, rfl⟩, Wk.keep (by (repeat first | exact True.intro | refine And.intro ?_ ?_ | exact Or.inr (Or.inl rfl) | exact Or.inl rfl | (refine DLe.i rfl ?_; omega) | (refine DLe.i rfl ?_; simp; done)))⟩ ?_
    clear h0
    rintro jj a H2 g2 ⟨j, q, cap, rfl, hj, hI, rfl, rfl⟩
    by_cases hlj : j < k + e
    · obtain ⟨es, hes, hes2, hes3⟩ := hI.es
      rw [List.length_map, List.length_range] at hes2 hes3
      have hql := blk_lt hes
      have hrow : (List.range (j + 1)).map (DM.pw ds[i].X) = (List.range j).map (DM.pw ds[i].X) ++ [DM.pw ds[i].X j] := by rw [List.range_succ, List.map_append]; rfl
      repeat (any_goals (first | (refine d_RT ?_; (first | refine RT.nil ?_ | (refine d_call ?_; refine RT.callM rfl (m_pw hX j (by omega)) (snapP hI.pow) rfl ?_) | refine RT.ap (s := H2.length + 1) (by simp) (f_appT (f := eI) (o := (List.range j).map (DM.pw ds[i].X)) (v := [DM.pw ds[i].X j]) (mm := j + 1) (by' := 8) rfl rfl (blk_app _ hes) hes2 hes3 (blk_at (t := 0) rfl rfl) (by simp) rfl (by simp) rfl (by decide) rfl rfl (fun _ => ⟨rfl, rfl⟩) (by simp; omega) (by simp; omega)) (ap2 hql _ _) ?_ | refine RT.mvA ?_ | refine RT.asA ?_ | refine RT.bnA ?_ | refine RT.nwA ?_)) | (refine d_VT ?_; (first | refine VT.seq rfl ?_ | refine VT.reg rfl ?_ | refine VT.condY rfl rfl (by first | assumption | omega) ?_ | refine VT.block rfl ?_ | refine VT.skip rfl ?_)) | with_reducible (refine kLn ?_)))
      exact ⟨k + e - (j + 1), by omega, _, _, ⟨j + 1, H2.length + 1, j + 1, rfl, hlj, by rw [hrow]; exact hI.push (v := DM.pw ds[i].X j) (T := [_, _]) (t := 1) rfl, rfl, rfl⟩, Wk.keep (by (repeat first | exact True.intro | refine And.intro ?_ ?_ | exact Or.inr (Or.inl rfl) | exact Or.inl rfl | (refine DLe.i rfl ?_; omega) | (refine DLe.i rfl ?_; simp; done)))⟩
    · obtain rfl : j = k + e := by omega
      obtain ⟨R0, hR0⟩ : ∃ R0, R0 = (List.range (k + e)).map (DM.pw ds[i].X) := ⟨_, rfl⟩
      have hR0l : R0.length = k + e := by rw [hR0]; simp
      rw [← hR0] at hI
      repeat (any_goals (first | (refine d_RT ?_; (first | refine RT.nil ?_ | refine RT.mvA ?_ | refine RT.bnA ?_)) | (refine d_VT ?_; (first | refine VT.seq rfl ?_ | refine VT.reg rfl ?_ | refine VT.condN rfl rfl (by first | assumption | omega) ?_ | refine VT.block rfl ?_ | refine VT.exit rfl ?_))))
      refine VT.loop (fun jj a H g3 => ∃ (j q cap : Nat), jj = e - j ∧ j ≤ e ∧ IW H b n qs M dt pw ds[i].X ds[i].Y q (R0 ++ (List.range j).map fun j => -ds[i].Y * DM.pw ds[i].X j % 65521) ∧ a = [(0, .sl (ds.map eDot)), (1, wI k), (2, wI e), (8, .ms b 0 i i), (18, .sl (ds.map eDot)), (19, wI ds.length), (20, wI i), (10, .mp dt 0 0), (11, .fn (.func 143) [] [.mp pw 0 0]), (12, .ms q 0 (k + e + j) cap), (46, wI e), (47, wI j)] ∧ g3 = g2) rfl
        ⟨_, _, _, ⟨0, q, cap, rfl, Nat.zero_le _, by simpa using hI, rfl, rfl⟩, Wk.keep (by (repeat first | exact True.intro | refine And.intro ?_ ?_ | exact Or.inr (Or.inl rfl) | exact Or.inl rfl | (refine DLe.i rfl ?_; omega) | (refine DLe.i rfl ?_; simp; done)))⟩ ?_
      clear hI
      rintro jj a H3 g3 ⟨j, q, cap, rfl, hj, hI, rfl, rfl⟩
      have hrl : (R0 ++ (List.range j).map fun j => -ds[i].Y * DM.pw ds[i].X j % 65521).length = k + e + j := by simp [hR0l]
      obtain ⟨es, hes, hes2, hes3⟩ := hI.es
      rw [hrl] at hes2 hes3
      have hql := blk_lt hes
      by_cases hlj : j < e
      · have hmul : 0 ≤ ds[i].Y * DM.pw ds[i].X j ∧ ds[i].Y * DM.pw ds[i].X j ≤ 4292870400 := mulB hY (DM.pw_W _ _)
        have hmul2 : -ds[i].Y * DM.pw ds[i].X j = -(ds[i].Y * DM.pw ds[i].X j) := Int.neg_mul _ _
        obtain ⟨hY1, hY2⟩ := hY
        have hrow : (R0 ++ (List.range (j + 1)).map fun j => -ds[i].Y * DM.pw ds[i].X j % 65521) = (R0 ++ (List.range j).map fun j => -ds[i].Y * DM.pw ds[i].X j % 65521) ++ [-ds[i].Y * DM.pw ds[i].X j % 65521] := by rw [List.range_succ, List.map_append, List.append_assoc]; rfl
        repeat (any_goals (first | (refine d_RT ?_; (first | refine RT.nil ?_ | refine RT.mvA ?_ | refine RT.asA ?_ | refine RT.bnA ?_)) | (refine d_VT ?_; (first | refine VT.seq rfl ?_ | refine VT.reg rfl ?_ | refine VT.draw [(2, [0, 1]), (2, [0, 1]), (2, [0, 1]), (2, [0, 1]), (2, [0, 1]), (2, [0, 1]), (2, [0, 1]), (2, [0, 1]), (2, [0, 1]), (0, [0, 1]), (1, [1]), (2, [])] 3 mixedOk rfl (by decide +kernel) (by decide +kernel) (by decide +kernel) (by first | (simp only [nrm]; rfl) | (simp only [nrm, Nat.reduceAdd, Nat.zero_add]; rfl) | rfl) (by first | (simp only [nrm]; rfl) | (simp only [nrm, Nat.reduceAdd, Nat.zero_add]; rfl) | rfl) ?_ | refine VT.condY rfl rfl (by first | assumption | omega) ?_ | refine VT.block rfl ?_ | refine VT.skip rfl ?_)) | (refine d_PT ?_; (first | refine PT.vI (by first | exact mask_app (H0 := H3) (T := [_, _, _]) rfl | exact mask_app' (H1 := H3.set q .dead) (T := [_, _, _]) (by simp) rfl) (f_ldO rfl (blk_app _ hI.dot) rfl rfl rfl) ?_ | (refine p_call ?_; refine PT.callI (by first | exact mask_app (H0 := H3) (T := [_, _, _]) rfl | exact mask_app' (H1 := H3.set q .dead) (T := [_, _, _]) (by simp) rfl) rfl (m_pw hX j (by omega)) (snapP (blk_app _ hI.pow)) rfl ?_) | refine PT.newI (by first | exact mask_app (H0 := H3) (T := [_, _, _]) rfl | exact mask_app' (H1 := H3.set q .dead) (T := [_, _, _]) (by simp) rfl) (s' := H3.length + 0) rfl (f_bslW1 rfl rfl rfl) (setLen (i := 0) (T' := [.live 1 ([_].map eI), .free, .free]) rfl rfl) ?_ | refine PT.apI (by first | exact mask_app (H0 := H3) (T := [_, _, _]) rfl | exact mask_app' (H1 := H3.set q .dead) (T := [_, _, _]) (by simp) rfl) (s' := H3.length + 1) rfl (f_appT (f := eI) (o := R0 ++ (List.range j).map fun j => -ds[i].Y * DM.pw ds[i].X j % 65521) (v := [-ds[i].Y * DM.pw ds[i].X j % 65521]) (mm := k + e + (j + 1)) (by' := 8) rfl rfl (blk_app _ hes) hes2 hes3 (blk_at (t := 0) rfl rfl) hrl.symm rfl (by rw [hrl]; rfl) rfl (by decide) rfl rfl (fun _ => ⟨rfl, rfl⟩) (by rw [hrl]; simp; omega) (by rw [hrl]; simp; omega)) (killLen hql rfl rfl) ?_ | refine PT.done (dropLn (H3.set q .dead) [_, _] .free) ?_ | refine PT.mvI ((by first | exact mask_app (H0 := H3) (T := [_, _, _]) rfl | exact mask_app' (H1 := H3.set q .dead) (T := [_, _, _]) (by simp) rfl)) ?_ | refine PT.asI ((by first | exact mask_app (H0 := H3) (T := [_, _, _]) rfl | exact mask_app' (H1 := H3.set q .dead) (T := [_, _, _]) (by simp) rfl)) ?_ | refine PT.faI ((by first | exact mask_app (H0 := H3) (T := [_, _, _]) rfl | exact mask_app' (H1 := H3.set q .dead) (T := [_, _, _]) (by simp) rfl)) ?_ | refine PT.bnI ((by first | exact mask_app (H0 := H3) (T := [_, _, _]) rfl | exact mask_app' (H1 := H3.set q .dead) (T := [_, _, _]) (by simp) rfl)) ?_ | refine PT.callI ((by first | exact mask_app (H0 := H3) (T := [_, _, _]) rfl | exact mask_app' (H1 := H3.set q .dead) (T := [_, _, _]) (by simp) rfl)) rfl (m_mod (-ds[i].Y * DM.pw ds[i].X j)) (by first | (simp only [nrm]; rfl) | (simp only [nrm, Nat.reduceAdd, Nat.zero_add]; rfl) | rfl) rfl ?_ | refine PT.unI ((by first | exact mask_app (H0 := H3) (T := [_, _, _]) rfl | exact mask_app' (H1 := H3.set q .dead) (T := [_, _, _]) (by simp) rfl)) ?_)) | with_reducible (refine kLn ?_)))
        exact ⟨e - (j + 1), by omega, _, _, ⟨j + 1, H3.length + 1, k + e + (j + 1), rfl, hlj, by rw [hrow]; exact hI.push (v := -ds[i].Y * DM.pw ds[i].X j % 65521) (T := [_, _]) (t := 1) rfl, rfl, rfl⟩, Wk.keep (by (repeat first | exact True.intro | refine And.intro ?_ ?_ | exact Or.inr (Or.inl rfl) | exact Or.inl rfl | (refine DLe.i rfl ?_; omega) | (refine DLe.i rfl ?_; simp; done)))⟩
      · obtain rfl : j = e := by omega
        have hmul : 0 ≤ ds[i].Y * DM.pw ds[i].X j ∧ ds[i].Y * DM.pw ds[i].X j ≤ 4292870400 := mulB hY (DM.pw_W _ _)
        have hn1 : k + j + j + 1 = n + 1 := by omega
        have hrows := hI.rw.rows
        have hbl := hI.rw.lt.1
        obtain ⟨R1, hR1⟩ : ∃ R1, R1 = R0 ++ (List.range j).map fun j => -ds[i].Y * DM.pw ds[i].X j % 65521 := ⟨_, rfl⟩
        rw [← hR1] at hI hrl hes2
        repeat (any_goals (first | (refine d_RT ?_; (first | refine RT.nil ?_ | refine RT.mvA ?_ | refine RT.bnA ?_)) | (refine d_VT ?_; (first | refine VT.seq rfl ?_ | refine VT.reg rfl ?_ | refine VT.draw [(4, [0, 1, 2, 3]), (4, [0, 1, 2, 3]), (4, [0, 1, 2, 3]), (4, [0, 1, 2, 3]), (4, [0, 1, 2, 3]), (4, [0, 1, 2, 3]), (4, [0, 1, 2, 3]), (4, [0, 1, 2, 3]), (4, [0, 1, 2, 3]), (0, [0, 1, 2, 3]), (1, [1, 2, 3]), (2, [2, 3]), (3, [3]), (4, [])] 5 mixedOk rfl (by decide +kernel) (by decide +kernel) (by decide +kernel) (by first | (simp only [nrm]; rfl) | (simp only [nrm, Nat.reduceAdd, Nat.zero_add]; rfl) | rfl) (by first | (simp only [nrm]; rfl) | (simp only [nrm, Nat.reduceAdd, Nat.zero_add]; rfl) | rfl) ?_ | refine VT.condN rfl rfl (by first | assumption | omega) ?_ | refine VT.exit rfl ?_)) | (refine d_PT ?_; (first | refine PT.vI (by first | exact mask_app (H0 := H3) (T := [_, _, _, _, _]) rfl | exact mask_app' (H1 := H3.set q .dead) (T := [_, _, _, _, _]) (by simp) rfl | exact mask_app' (H1 := (H3.set q .dead).set b .dead) (T := [_, _, _, _, _]) (by simp) rfl) (f_ldO rfl (blk_app _ hI.dot) rfl rfl rfl) ?_ | (refine p_call ?_; refine PT.callI (by first | exact mask_app (H0 := H3) (T := [_, _, _, _, _]) rfl | exact mask_app' (H1 := H3.set q .dead) (T := [_, _, _, _, _]) (by simp) rfl | exact mask_app' (H1 := (H3.set q .dead).set b .dead) (T := [_, _, _, _, _]) (by simp) rfl) rfl (m_pw hX j (by omega)) (snapP (blk_app _ hI.pow)) rfl ?_) | refine PT.newI (by first | exact mask_app (H0 := H3) (T := [_, _, _, _, _]) rfl | exact mask_app' (H1 := H3.set q .dead) (T := [_, _, _, _, _]) (by simp) rfl | exact mask_app' (H1 := (H3.set q .dead).set b .dead) (T := [_, _, _, _, _]) (by simp) rfl) (s' := H3.length + 0) rfl (f_bslW1 rfl rfl rfl) (setLen (i := 0) (T' := [.live 1 ([_].map eI), .free, .free, .free, .free]) rfl rfl) ?_ | refine PT.apI (by first | exact mask_app (H0 := H3) (T := [_, _, _, _, _]) rfl | exact mask_app' (H1 := H3.set q .dead) (T := [_, _, _, _, _]) (by simp) rfl | exact mask_app' (H1 := (H3.set q .dead).set b .dead) (T := [_, _, _, _, _]) (by simp) rfl) (s' := H3.length + 1) rfl (f_appT (f := eI) (o := R1) (v := [ds[i].Y * DM.pw ds[i].X j % 65521]) (mm := n + 1) (by' := 8) rfl rfl (blk_app _ hes) hes2 hes3 (blk_at (t := 0) rfl rfl) hrl.symm rfl (by rw [hrl]; exact hn1) rfl (by decide) rfl rfl (fun _ => ⟨rfl, rfl⟩) (by rw [hrl]; simp; omega) (by rw [hrl]; simp; omega)) (killLen hql rfl rfl) ?_ | refine PT.newI (by first | exact mask_app (H0 := H3) (T := [_, _, _, _, _]) rfl | exact mask_app' (H1 := H3.set q .dead) (T := [_, _, _, _, _]) (by simp) rfl | exact mask_app' (H1 := (H3.set q .dead).set b .dead) (T := [_, _, _, _, _]) (by simp) rfl) (s' := H3.length + 2) rfl (f_bsl (ps := [(0, .tmp 72)]) (sz := 1) (es := [[.ms (H3.length + 1) 0 (n + 1) (n + 1)]]) rfl) (setLen (i := 2) (T' := [_, _, .live 1 [[.ms (H3.length + 1) 0 (n + 1) (n + 1)]], .free, .free]) (by simp) rfl) ?_ | refine PT.apI (by first | exact mask_app (H0 := H3) (T := [_, _, _, _, _]) rfl | exact mask_app' (H1 := H3.set q .dead) (T := [_, _, _, _, _]) (by simp) rfl | exact mask_app' (H1 := (H3.set q .dead).set b .dead) (T := [_, _, _, _, _]) (by simp) rfl) (s' := H3.length + 3) rfl (f_appT (f := fun p => [.ms p 0 (n + 1) (n + 1)]) (o := qs) (v := [H3.length + 1]) (mm := i + 1) (by' := 24) rfl rfl (blk_app _ (blk_ne hrows hI.qb)) (by rw [List.take_of_length_le (by simp; omega)]) (by simp; omega) (blk_at (t := 2) (by simp) rfl) hqs.symm rfl (by rw [hqs]; rfl) rfl (by decide) rfl rfl (fun _ => ⟨rfl, rfl⟩) (by rw [hqs]; simp; omega) (by rw [hqs]; simp; omega)) (killLen (by simpa using hbl) (by simp) rfl) ?_ | refine PT.done (dropLn ((H3.set q .dead).set b .dead) [_, _, _, _] .free) ?_ | refine PT.mvI ((by first | exact mask_app (H0 := H3) (T := [_, _, _, _, _]) rfl | exact mask_app' (H1 := H3.set q .dead) (T := [_, _, _, _, _]) (by simp) rfl | exact mask_app' (H1 := (H3.set q .dead).set b .dead) (T := [_, _, _, _, _]) (by simp) rfl)) ?_ | refine PT.asI ((by first | exact mask_app (H0 := H3) (T := [_, _, _, _, _]) rfl | exact mask_app' (H1 := H3.set q .dead) (T := [_, _, _, _, _]) (by simp) rfl | exact mask_app' (H1 := (H3.set q .dead).set b .dead) (T := [_, _, _, _, _]) (by simp) rfl)) ?_ | refine PT.faI ((by first | exact mask_app (H0 := H3) (T := [_, _, _, _, _]) rfl | exact mask_app' (H1 := H3.set q .dead) (T := [_, _, _, _, _]) (by simp) rfl | exact mask_app' (H1 := (H3.set q .dead).set b .dead) (T := [_, _, _, _, _]) (by simp) rfl)) ?_ | refine PT.bnI ((by first | exact mask_app (H0 := H3) (T := [_, _, _, _, _]) rfl | exact mask_app' (H1 := H3.set q .dead) (T := [_, _, _, _, _]) (by simp) rfl | exact mask_app' (H1 := (H3.set q .dead).set b .dead) (T := [_, _, _, _, _]) (by simp) rfl)) ?_ | refine PT.callI ((by first | exact mask_app (H0 := H3) (T := [_, _, _, _, _]) rfl | exact mask_app' (H1 := H3.set q .dead) (T := [_, _, _, _, _]) (by simp) rfl | exact mask_app' (H1 := (H3.set q .dead).set b .dead) (T := [_, _, _, _, _]) (by simp) rfl)) rfl (m_mod (ds[i].Y * DM.pw ds[i].X j)) (by first | (simp only [nrm]; rfl) | (simp only [nrm, Nat.reduceAdd, Nat.zero_add]; rfl) | rfl) rfl ?_)) | with_reducible (refine kLn ?_)))
        have hM2 : ((ds.take (i + 1)).map dotP2).map (DM.keyRow k j) = M ++ [R1 ++ [ds[i].Y * DM.pw ds[i].X j % 65521]] := by
          rw [List.take_add_one, List.getElem?_eq_getElem hlt, List.map_append, List.map_append, ← hM, hR1, hR0, List.append_assoc]; rfl
        refine ⟨ds.length - (i + 1), by omega, _, _, ⟨i + 1, H3.length + 3, qs ++ [H3.length + 1], rfl, hlt, by simp [hqs], ?_, rfl, rfl⟩, Wk.keep (by (repeat first | exact True.intro | refine And.intro ?_ ?_ | exact Or.inr (Or.inl rfl) | exact Or.inl rfl | (refine DLe.i rfl ?_; omega) | (refine DLe.i rfl ?_; simp; done)))⟩
        rw [hM2]
        exact hI.done
  · obtain rfl : i = ds.length := by omega
    rw [List.take_length] at hR
    have hrl : ∀ r, r ∈ (ds.map dotP2).map (DM.keyRow k e) → r.length = n + 1 ∧ allW r := fun r hr => by
      obtain ⟨p, _, rfl⟩ := List.mem_map.1 hr
      exact ⟨by rw [DM.keyRow_len, hn], DM.keyRow_W k e p⟩
    have hsol := c_solve (n := n) (L := ds.length) hqs (by omega) hl (by simp) hrl hR.rows (fun i hi => hR.row i (by omega)) (fun i hi => hR.ne i (by omega)) (fun i j hi hj => hR.nd i j (by omega) (by omega))
    have hcast : ((n : Nat) : Int) = k + 2 * e := by omega
    rw [hcast] at hsol
    repeat (any_goals (first | (refine d_RT ?_; (first | refine RT.nil ?_ | (refine d_call ?_; refine RT.callG rfl (hsol.mono ?_)) | refine RT.mvA ?_ | refine RT.bnA ?_)) | (refine d_VT ?_; (first | refine VT.seq rfl ?_ | refine VT.reg rfl ?_ | refine VT.condN rfl rfl (by first | assumption | omega) ?_ | refine VT.exit rfl ?_))))
    rintro d H4 (⟨q, x, rfl, hq, hx, hxW⟩ | ⟨y, rfl, hno⟩)
    · have hxl : x.length = n := hx.1
      change RT _ _ _ _ ((82, D.tup [.ms q 0 n n, wB true]) :: _) _ _ _
      repeat (any_goals (first | (refine d_RT ?_; (first | refine RT.nil ?_ | refine RT.mvA ?_ | refine RT.asA ?_ | refine RT.exA ?_ | refine RT.unA ?_)) | (refine d_VT ?_; (first | refine VT.drawQ [none, none, none, none, none, none, none, none, none, none, none, none, none, none, none, some 0, none, none, none, none, none, none] [(4, [0, 1, 2, 3, 0], none), (4, [0, 1, 2, 3, 0], none), (4, [0, 1, 2, 3, 0], none), (4, [0, 1, 2, 3, 0], none), (4, [0, 1, 2, 3, 0], none), (4, [0, 1, 2, 3, 0], none), (4, [0, 1, 2, 3, 0], none), (4, [0, 1, 2, 3, 0], none), (4, [0, 1, 2, 3], none), (4, [0, 1, 2, 3], none), (4, [0, 1, 2, 3], none), (4, [0, 1, 2, 3], none), (4, [0, 1, 2, 3], none), (0, [0, 1, 2, 3], none), (1, [0, 1, 2, 3], none), (2, [2, 3], some 0), (3, [3], none), (4, [], none), (4, [], none), (4, [], none), (4, [], none), (4, [], none)] 5 mixedOk rfl (by decide +kernel) (by decide +kernel) (by decide +kernel) rfl (H1 := H4 ++ [.free, .free, .free, .free, .free]) rfl ?_ | refine VT.seq rfl ?_ | refine VT.reg rfl ?_ | refine VT.condF rfl rfl ?_ | refine VT.skip rfl ?_))))
      have hq5 : ∀ T, (H4 ++ T)[q]? = some (.live 1 (x.map eI)) := fun T => blk_app T hq
      have hdl : (x.drop (k + e)).length = e := by rw [List.length_drop, hxl]; omega
      have al : (x.take (k + e)).length = k + e := by rw [List.length_take, hxl]; omega
      have bl : (x.drop (k + e) ++ [1]).length = e + 1 := by rw [List.length_append, hdl]; rfl
      have aW : allW (x.take (k + e)) := fun z hz => hxW z (List.mem_of_mem_take hz)
      have bW : allW (x.drop (k + e) ++ [1]) := fun z hz => by
        rcases List.mem_append.1 hz with h | h
        · exact hxW z (List.mem_of_mem_drop h)
        · rw [List.mem_singleton.1 h]; exact ⟨by decide, by decide⟩
      have mon : (x.drop (k + e) ++ [1]).getD e 0 = 1 := by
        rw [List.getD_eq_getElem?_getD, List.getElem?_append_right (by omega), hdl, Nat.sub_self]; rfl
      have hov := m_over (k := k) (e := e) (by omega) al aW bl bW mon
      have hdv := DM.dv_ok al aW bl mon k (Nat.le_refl _)
      generalize DM.dvS k e (x.take (k + e)) (x.drop (k + e) ++ [1]) k = OR at hov hdv
      obtain ⟨O, R⟩ := OR
      simp only at hov hdv
      refine QT.vI (by first | exact mask_app (H0 := H4) (T := [_, _, _, _, _]) rfl) (f_mv (d := .ms q 0 n n) rfl) ?_
      refine QT.vI (by first | exact mask_app (H0 := H4) (T := [_, _, _, _, _]) rfl) (f_mv (d := wI k) rfl) ?_
      refine QT.vI (by first | exact mask_app (H0 := H4) (T := [_, _, _, _, _]) rfl) (f_mv (d := wI e) rfl) ?_
      refine QT.vI (by first | exact mask_app (H0 := H4) (T := [_, _, _, _, _]) rfl) (f_add rfl rfl (by omega) (by omega)) ?_
      refine QT.vI (by first | exact mask_app (H0 := H4) (T := [_, _, _, _, _]) rfl) (f_mv (d := wI k) rfl) ?_
      refine QT.vI (by first | exact mask_app (H0 := H4) (T := [_, _, _, _, _]) rfl) (f_mv (d := wI e) rfl) ?_
      refine QT.vI (by first | exact mask_app (H0 := H4) (T := [_, _, _, _, _]) rfl) (f_add rfl rfl (by omega) (by omega)) ?_
      refine QT.vI (by first | exact mask_app (H0 := H4) (T := [_, _, _, _, _]) rfl) (f_sl3O (k := k + e) rfl rfl rfl (by omega) (by omega) (by omega) rfl (hq5 _)) ?_
      refine QT.vI (by first | exact mask_app (H0 := H4) (T := [_, _, _, _, _]) rfl) (f_mv (d := .ms q 0 n n) rfl) ?_
      refine QT.vI (by first | exact mask_app (H0 := H4) (T := [_, _, _, _, _]) rfl) (f_mv (d := wI k) rfl) ?_
      refine QT.vI (by first | exact mask_app (H0 := H4) (T := [_, _, _, _, _]) rfl) (f_mv (d := wI e) rfl) ?_
      refine QT.vI (by first | exact mask_app (H0 := H4) (T := [_, _, _, _, _]) rfl) (f_add rfl rfl (by omega) (by omega)) ?_
      refine QT.vI (by first | exact mask_app (H0 := H4) (T := [_, _, _, _, _]) rfl) (f_slLo0 (k := k + e) rfl rfl (by omega) (by omega) (by omega) rfl (hq5 _)) ?_
      refine QT.callAt (by first | exact mask_app (H0 := H4) (T := [_, _, _, _, _]) rfl) rfl (s' := H4.length + 0) rfl (CallAt.of (off := 0) (len := (x.drop (k + e)).length) (cap := (x.drop (k + e)).length) (sz := 1) (es := (x.drop (k + e)).map eI) (fun H hs => c_clone (o := x.drop (k + e)) (.inr (.inr (.inr ⟨_, _, _, _, rfl⟩))) ?_ (by omega)) (eI_low _ _)) (setLen (i := 0) (T' := [.live 1 ((x.drop (k + e)).map eI), .free, .free, .free, .free]) rfl rfl) ?_
      · show elemsD H (.ms q (k + e) (n - (k + e)) (n - (k + e))) = _
        simp only [elemsD, hs q _ _ (hq5 _)]
        rw [if_pos (by simp; omega), List.take_of_length_le (by simp; omega), List.map_drop]
      refine QT.new rfl (s' := H4.length + 1) rfl (f_bslW1 rfl rfl rfl) (setLen (i := 1) (T' := [.live 1 ((x.drop (k + e)).map eI), .live 1 ([1].map eI), .free, .free, .free]) rfl rfl) ?_
      refine QT.apI (by first | exact mask_app (H0 := H4) (T := [_, _, _, _, _]) rfl) (q := 0) rfl (s' := H4.length + 2) rfl (f_appT (f := eI) (o := x.drop (k + e)) (v := [1]) (mm := e + 1) (by' := 8) rfl rfl (blk_at (t := 0) rfl rfl) (List.take_of_length_le (by simp)) (by simp) (blk_at (t := 1) rfl rfl) rfl rfl (by rw [hdl]; rfl) rfl (by decide) rfl rfl (fun _ => ⟨rfl, rfl⟩) (by rw [hdl]; simp; omega) (by rw [hdl]; simp; omega)) (killSet (i := 0) (j := 2) (T'' := [.dead, .live 1 ([1].map eI), .live 1 ((x.drop (k + e) ++ [1]).map eI), .free, .free]) rfl rfl rfl) ?_
      refine QT.callMI (by first | exact mask_app (H0 := H4) (T := [_, _, _, _, _]) rfl) rfl hov (snap2 (snapWt (k := 4) (m := k + e) (hq5 _) (by omega)) (snapW (k := 4) (blk_at (t := 2) rfl rfl) bl.symm)) rfl ?_
      generalize hB : (R.all fun n => decide (n = 0)) = B at hov ⊢
      change QT _ _ _ _ _ _ ((104, D.tup [.fl (O.map eI), wB B]) :: _) _ _
      refine QT.vI (by first | exact mask_app (H0 := H4) (T := [_, _, _, _, _]) rfl) (f_mv (d := .tup [.fl (O.map eI), wB B]) rfl) ?_
      refine QT.vI (by first | exact mask_app (H0 := H4) (T := [_, _, _, _, _]) rfl) (f_ext (d := .fl (O.map eI)) rfl rfl) ?_
      refine QT.vI (by first | exact mask_app (H0 := H4) (T := [_, _, _, _, _]) rfl) (f_ext (d := wB B) rfl rfl) ?_
      refine QT.vI (by first | exact mask_app (H0 := H4) (T := [_, _, _, _, _]) rfl) (f_as (d := .fl (O.map eI)) rfl) ?_
      refine QT.vI (by first | exact mask_app (H0 := H4) (T := [_, _, _, _, _]) rfl) (f_as (d := wB B) rfl) ?_
      refine QT.done (dropLn H4 [_, _, _, _] .free) ?_
      have hdec := DM.dec_yes (x := x) hA (by simpa using hk) (by omega) (by rw [hn] at hx; exact hx) hdv.ol hdv.oW hdv.rl hdv.rW (fun j hj => hdv.r0 j (by omega)) hdv.ev
      cases B with
      | true =>
        rw [hdec.1 fun z hz => of_decide_eq_true (List.all_eq_true.1 hB z hz)] at hres
        repeat (any_goals (first | (refine d_RT ?_; (first | refine RT.nil ?_ | refine RT.mvA ?_ | refine RT.asA ?_)) | (refine d_VT ?_; (first | refine VT.seq rfl ?_ | refine VT.reg rfl ?_ | refine VT.ret rfl ?_)) | (with_reducible refine d_kEr ?_; refine kEr rfl ?_)))
        exact hres.symm
      | false =>
        rw [hdec.2 fun h => by rw [List.all_eq_true.2 fun z hz => decide_eq_true (h z hz)] at hB; cases hB] at hres
        repeat (any_goals (first | (refine d_RT ?_; (first | refine RT.nil ?_ | refine RT.mvA ?_ | refine RT.asA ?_)) | (refine d_VT ?_; (first | refine VT.retA (a' := [(6, .any), (7, wB false)]) rfl (by (repeat first | exact True.intro | refine And.intro ?_ ?_ | exact Or.inr (Or.inl rfl) | exact Or.inl rfl | (refine DLe.i rfl ?_; omega) | (refine DLe.i rfl ?_; simp; done))) ?_ | refine VT.seq rfl ?_ | refine VT.reg rfl ?_)) | (with_reducible refine d_kEr ?_; refine kEr rfl ?_)))
        exact hres.symm
    · have hnone : DM.decS k e (ds.map dotP2) = none := DM.dec_no (fun p hp => by obtain ⟨d, hd, rfl⟩ := List.mem_map.1 hp; exact (hW d hd).1.1) (by rw [hn] at hno; exact hno)
      rw [hnone] at hres
      change RT _ _ _ _ ((82, D.tup [y, wB false]) :: _) _ _ _
      repeat (any_goals (first | (refine d_RT ?_; (first | refine RT.nil ?_ | refine RT.v (f_as (d := y) rfl) ?_ | refine RT.v (f_ext (d := y) rfl rfl) ?_ | refine RT.mvA ?_ | refine RT.asA ?_ | refine RT.exA ?_ | refine RT.unA ?_)) | (refine d_VT ?_; (first | refine VT.retA (a' := [(6, .any), (7, wB false)]) rfl (by (repeat first | exact True.intro | refine And.intro ?_ ?_ | exact Or.inr (Or.inl rfl) | exact Or.inl rfl | (refine DLe.i rfl ?_; omega) | (refine DLe.i rfl ?_; simp; done))) ?_ | refine VT.seq rfl ?_ | refine VT.reg rfl ?_ | refine VT.condT rfl rfl ?_)) | with_reducible (refine kSr ?_) | (with_reducible refine d_kEr ?_; refine kEr rfl ?_)))
      exact hres.symm
end Go.DL
